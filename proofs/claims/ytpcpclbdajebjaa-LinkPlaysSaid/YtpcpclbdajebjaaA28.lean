/- An argument that is an array of whole numbers, opened. Generic over any program. -/
import Derived.Test.YtpcpclbdajebjaaA23
set_option linter.unusedVariables false
set_option linter.unusedSimpArgs false
namespace Go.Proofs.Ytpcpclbdajebjaa.Abs
open Go Go.ChangeShapes Go.WideShapes Go.ChangeAt Go.RowKit

theorem okWide_arr {P : Program} {w : World} {base : Nat} {t e : TypeId} {n : Nat} {v : Value} (ht : P.underlying t = some (.array n e)) (h : Value.okWide P w .any base t v) : ∃ cs, v = .agg cs := by
  simp only [Value.okWide, ht] at h
  first
    | (obtain ⟨cs, h1, _⟩ := h; exact ⟨cs, h1⟩)
    | (cases v <;> first | exact ⟨_, rfl⟩ | cases h)

theorem ints_of {k : IntKind} : ∀ {cs : List Value}, (∀ v ∈ cs, ∃ i, v = .int k i ∧ InK k i) → ∃ is : List Int, cs = is.map (Value.int k) ∧ ∀ i ∈ is, InK k i
  | [], _ => ⟨[], rfl, fun i hi => by cases hi⟩
  | v :: cs, h => by
    obtain ⟨i, rfl, hi⟩ := h v List.mem_cons_self
    obtain ⟨is, rfl, hk⟩ := ints_of fun v hv => h v (List.mem_cons_of_mem _ hv)
    refine ⟨i :: is, rfl, fun j hj => ?_⟩
    rcases List.mem_cons.1 hj with rfl | hj
    · exact hi
    · exact hk j hj

theorem reps_ints {w : World} {ok : Nat → Prop} {D : AId → Prop} {m : AId → Option Blk} {c : Bool} {k : IntKind} : ∀ is : List Int, Reps w ok D m c (is.map (PVal.int k)) (is.map (Value.int k))
  | [] => Reps.nil ..
  | i :: is => Reps.cons .int (reps_ints is)

section
variable {H : Type} {enc : TypeId × Value → H} {P : Program} {w : World} {base : Nat} {spare : Nat → Bool} {held : Bool}
theorem open_arr {n : Nat} {t e : TypeId} {k : IntKind} {cs : Array Value} {d : DataW H} {p : List MemPlace} (ht : P.underlying t = some (.array n e)) (he : P.underlying e = some (.int k)) (hc : P.cellsOf t = n) (hce : P.cellsOf e = 1)
    (h : DataW.Trod enc P w base spare held t (.agg cs) d p) : ∃ is : List Int, is.length = n ∧ (∀ i ∈ is, InK k i) ∧ cs = (is.map (Value.int k)).toArray ∧ Rep w OKB (· < 0) (fun _ => none) false (.agg (is.map (PVal.int k))) (.agg cs) := by
  obtain ⟨fuel, hf⟩ := h
  obtain ⟨xs, m, _, _, hl, hxl, hg⟩ := DataW.trod_array ht hf
  have hl' : cs.toList.length = n := by rw [hc] at hl; exact hl
  obtain ⟨is, h1, h2⟩ := ints_of (cs := cs.toList) (k := k) fun v hv => by
    obtain ⟨i, hi, rfl⟩ := List.getElem_of_mem hv
    have h3 := hg i (by omega)
    rw [hce] at h3
    have hx : i < xs.length := by omega
    have e1 : (cs.toList.drop (i * 1)).take 1 = [cs.toList[i]] := by
      rw [Nat.mul_one, List.drop_eq_getElem_cons hi]
      rfl
    have e2 : (Value.agg cs).cells.toList = cs.toList := rfl
    rw [e2, e1, List.getElem?_eq_getElem hx] at h3
    obtain ⟨j, hj, hk⟩ := trod_int he h3
    exact ⟨j, (List.cons.inj hj).1, hk⟩
  have h4 : cs = (is.map (Value.int k)).toArray := by rw [← h1]
  refine ⟨is, by rw [← hl', h1]; simp, h2, h4, ?_⟩
  rw [h4]
  have hr : Reps w OKB (· < 0) (fun _ => none) true (is.map (PVal.int k)) (is.map (Value.int k)) := reps_ints is
  have : Rep w OKB (· < 0) (fun _ => none) true (.agg (is.map (PVal.int k))) (.agg (is.map (Value.int k)).toArray) := .agg hr.1 (fun v hv => by obtain ⟨i, _, rfl⟩ := List.mem_map.1 hv; rfl) hr.2
  exact this.opened
end
theorem list2 {α : Type} {l : List α} (h : l.length = 2) : ∃ a b, l = [a, b] := by
  match l, h with
  | [a, b], _ => exact ⟨a, b, rfl⟩
theorem list3 {α : Type} {l : List α} (h : l.length = 3) : ∃ a b c, l = [a, b, c] := by
  match l, h with
  | [a, b, c], _ => exact ⟨a, b, c, rfl⟩
theorem list4 {α : Type} {l : List α} (h : l.length = 4) : ∃ a b c d, l = [a, b, c, d] := by
  match l, h with
  | [a, b, c, d], _ => exact ⟨a, b, c, d, rfl⟩
end Go.Proofs.Ytpcpclbdajebjaa.Abs
