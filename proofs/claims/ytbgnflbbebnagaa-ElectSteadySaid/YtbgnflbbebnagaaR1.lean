/- Arguments that are rows of candidates, opened; and the row of a statement that returns true. -/
import Derived.Test.YtbgnflbbebnagaaCode
import Derived.Test.YtbgnflbbebnagaaE1
import Derived.ProofKit
import Derived.OpenShut
import Derived.ChangeOld
import Derived.SizedLaws
import Derived.Deep.Slices
set_option linter.unusedVariables false
set_option linter.unusedSimpArgs false
namespace Go.Proofs.Ytbgnflbbebnagaa.Abs
open Go Go.ChangeShapes Go.WideShapes Go.ChangeAt Go.RowKit

/-- What a call says of a world below its own: nothing there changed. -/
theorem Step.toBelow {w w' : World} {m' : AId → Option Blk} (h : Step (fun _ => none) w m' w') : Below w.heap.size w w' :=
  ⟨h.os, h.tape, h.output, h.size, fun k hk => h.keep k hk fun id t e => by cases e⟩

theorem SimH.empty (w : World) : SimH (· < 0) (fun _ => none) (fun _ => True) (fun i => ([] : List (AId × AObj)).lookup i) w :=
  ⟨fun id o h => by simp at h, fun id B h => by simp at h, fun id id' b t t' h => by simp at h, fun id b t h => by simp at h, fun id b t h => by simp at h, fun b h => trivial⟩

/-- From what a function leaves to what the model's run does. -/
theorem FnOk.run {P : Program} {f : FuncId} {ps : List PVal} {b : Bool} (h : FnOk P f ps [] 0 (.bool b) [] 0) {w : World} {vs : List Value} (hr : Reps w (okn (fun _ => True) (fun _ => none)) (· < 0) (fun _ => none) false ps vs) :
    Calls P f vs.toArray w fun e w' => e = .returned (.bool b) ∧ Below w.heap.size w w' := by
  refine Calls.mono (h.2.2 (fun _ => none) (fun _ => True) w vs (SimH.empty w) hr) ?_
  rintro e w' ⟨v, m', rfl, _, hv, hst, _⟩
  rw [rep_bool hv]
  exact ⟨rfl, hst.toBelow⟩

section
variable {H : Type} {enc : TypeId × Value → H} {P : Program} {w : World} {base : Nat} {spare : Nat → Bool} {held : Bool}

theorem trod_int_cell {t : TypeId} {k : IntKind} {fuel : Nat} {cs : List Value} {x : DataW H × List MemPlace} (ht : P.underlying t = some (.int k)) (h : DataW.trod enc P w base spare held fuel t cs = some x) : ∃ n, cs = [.int k n] := by
  cases fuel with
  | zero => simp [DataW.trod] at h
  | succ n =>
    unfold DataW.trod at h
    rw [ht] at h
    split at h <;> try (cases h; done)
    all_goals first
      | (rename_i e _; cases e; done)
      | (rename_i k1 k2 n2 e
         injection e with e
         injection e with e
         subst e
         split at h
         · rename_i hk
           obtain ⟨rfl, _⟩ := hk
           exact ⟨_, rfl⟩
         · cases h)
      | skip
    all_goals simp_all

theorem cand_cells {e : TypeId} {f0 f1 f2 f3 : Field} (he : P.underlying e = some (.struct #[f0, f1, f2, f3])) (ce : P.cellsOf e = 4) (o0 : f0.offset = 0) (o1 : f1.offset = 1) (o2 : f2.offset = 2) (o3 : f3.offset = 3)
    (c0 : P.cellsOf f0.type = 1) (c1 : P.cellsOf f1.type = 1) (c2 : P.cellsOf f2.type = 1) (c3 : P.cellsOf f3.type = 1) (t0 : P.underlying f0.type = some (.int .u32)) (t1 : P.underlying f1.type = some (.int .i64)) (t2 : P.underlying f2.type = some (.int .u32)) (t3 : P.underlying f3.type = some (.int .u32))
    {fuel : Nat} {cs : List Value} {x : DataW H × List MemPlace} (h : DataW.trod enc P w base spare held fuel e cs = some x) : ∃ c : Cand, cs = [.int .u32 c.i, .int .i64 c.p, .int .u32 c.d, .int .u32 c.b] := by
  obtain ⟨xs, n, _, _, hlen, hxl, hf⟩ := DataW.trod_struct he h
  rw [ce] at hlen
  match cs, hlen, xs, hxl with
  | [v0, v1, v2, v3], _, [y0, y1, y2, y3], _ =>
    have g0 := hf 0 f0 rfl
    have g1 := hf 1 f1 rfl
    have g2 := hf 2 f2 rfl
    have g3 := hf 3 f3 rfl
    simp [o0, o1, o2, o3, c0, c1, c2, c3] at g0 g1 g2 g3
    obtain ⟨a, ha⟩ := trod_int_cell t0 g0
    obtain ⟨b, hb⟩ := trod_int_cell t1 g1
    obtain ⟨c, hc⟩ := trod_int_cell t2 g2
    obtain ⟨d, hd⟩ := trod_int_cell t3 g3
    simp at ha hb hc hd
    exact ⟨⟨a, b, c, d⟩, by rw [ha, hb, hc, hd]⟩

/-- A row of candidates, as the abstract machine sees it. -/
theorem cands_rep {t e : TypeId} {f0 f1 f2 f3 : Field} (ht : P.underlying t = some (.slice e)) (he : P.underlying e = some (.struct #[f0, f1, f2, f3])) (ce : P.cellsOf e = 4) (o0 : f0.offset = 0) (o1 : f1.offset = 1) (o2 : f2.offset = 2) (o3 : f3.offset = 3)
    (c0 : P.cellsOf f0.type = 1) (c1 : P.cellsOf f1.type = 1) (c2 : P.cellsOf f2.type = 1) (c3 : P.cellsOf f3.type = 1) (t0 : P.underlying f0.type = some (.int .u32)) (t1 : P.underlying f1.type = some (.int .i64)) (t2 : P.underlying f2.type = some (.int .u32)) (t3 : P.underlying f3.type = some (.int .u32))
    {A : Option Addr} {len cap : Nat} {d : DataW H} {p : List MemPlace} (h : DataW.Trod enc P w base spare held t (.slice A len cap) d p) :
    ∃ l : List Cand, l.length = len ∧ Rep w (okn (fun _ => True) (fun _ => none)) (· < 0) (fun _ => none) false (.ro 4 (l.map candC)) (.slice A len cap) ∧ (len = 0 ∨ ∃ el sp, d = .slice el sp ∧ el.length = len) := by
  obtain ⟨fuel, hf⟩ := h
  rcases Deep.open_slice ht hf with ⟨hcs, _⟩ | ⟨a, len', cap', m, n, D, Pl, hcs, hb, hl, hm, hmm, hdx, hx⟩
  · simp [Value.cells] at hcs
    obtain ⟨rfl, rfl, rfl⟩ := hcs
    exact ⟨[], rfl, .ro (ad := ⟨0, 0, none⟩) (fun _ _ => undef) rfl (Nat.le_refl _) (Nat.zero_le _) (fun e he => by simp at he) (fun h => by omega) (fun i j e p he => by simp at he) (fun i j e p he => by simp at he), .inl rfl⟩
  · simp [Value.cells] at hcs
    obtain ⟨rfl, rfl, rfl⟩ := hcs
    have hlm : len ≤ m := by rw [hmm]; split <;> omega
    have hc : ∀ i, i < len → ∃ c : Cand, ∀ j, j < 4 → w.cell? (a.add (i * 4 + j)) = [Value.int .u32 c.i, .int .i64 c.p, .int .u32 c.d, .int .u32 c.b][j]? := by
      intro i hi
      obtain ⟨cs', h1, h2⟩ := hx i (by omega)
      rw [ce] at h1
      obtain ⟨_, _, h3⟩ := World.cells?_some h1
      obtain ⟨c, rfl⟩ := cand_cells he ce o0 o1 o2 o3 c0 c1 c2 c3 t0 t1 t2 t3 h2
      exact ⟨c, fun j hj => by rw [← add_add']; exact h3 j hj⟩
    haveI : Inhabited Cand := ⟨⟨0, 0, 0, 0⟩⟩
    obtain ⟨C, hC⟩ := Deep.choose_lt (α := Cand) hc
    have hget : ∀ (i j : Nat) (e : List PVal) (p : PVal), (((List.range len).map C).map candC)[i]? = some e → e[j]? = some p → i < len ∧ j < 4 ∧ ∃ v, [Value.int .u32 (C i).i, .int .i64 (C i).p, .int .u32 (C i).d, .int .u32 (C i).b][j]? = some v ∧ v.oneCell' = true ∧ ∀ ok D m, Rep w ok D m true p v := by
      intro i j e p he hp
      have hi : i < len := by have := (List.getElem?_eq_some_iff.1 he).1; simpa using this
      rw [List.getElem?_map, List.getElem?_map, List.getElem?_range hi] at he
      simp only [Option.map_some, Option.some.injEq] at he
      subst he
      refine ⟨hi, (List.getElem?_eq_some_iff.1 hp).1, ?_⟩
      match j, hp with
      | 0, hp => simp [candC] at hp; subst hp; exact ⟨_, rfl, rfl, fun _ _ _ => .int⟩
      | 1, hp => simp [candC] at hp; subst hp; exact ⟨_, rfl, rfl, fun _ _ _ => .int⟩
      | 2, hp => simp [candC] at hp; subst hp; exact ⟨_, rfl, rfl, fun _ _ _ => .int⟩
      | 3, hp => simp [candC] at hp; subst hp; exact ⟨_, rfl, rfl, fun _ _ _ => .int⟩
      | j + 4, hp => simp [candC] at hp
    refine ⟨(List.range len).map C, by simp, .ro (ad := a) (fun i j => ([Value.int .u32 (C i).i, .int .i64 (C i).p, .int .u32 (C i).d, .int .u32 (C i).b][j]?).getD undef) (by simp) hl hm (fun e he => ?_) (fun _ => rfl) (fun i j e p he hp => ?_) (fun i j e p he hp => ?_), .inr ⟨_, _, congrArg Prod.fst hdx, by simp⟩⟩
    · obtain ⟨c, _, rfl⟩ := List.mem_map.1 he; rfl
    · obtain ⟨hi, hj, v, h1, h2, h3⟩ := hget i j e p he hp
      rw [hC i hi j hj, h1]
      exact ⟨⟨trivial, fun id t e => by cases e⟩, rfl, h2⟩
    · obtain ⟨hi, hj, v, h1, h2, h3⟩ := hget i j e p he hp
      rw [h1]
      exact h3 _ _ _
end
end Go.Proofs.Ytbgnflbbebnagaa.Abs

namespace Go.Proofs.Ytbgnflbbebnagaa
open Go Go.ChangeShapes Go.WideShapes Go.ChangeAt Go.RowKit
end Go.Proofs.Ytbgnflbbebnagaa
