/- A call with whatever objects it takes; what slices.overlaps says of two own rows. Generic over any program. -/
import Derived.Lib.Overlaps
import Derived.Test.YtakallenldpkiaaDoorA24
set_option linter.unusedVariables false
set_option linter.unusedSimpArgs false
set_option linter.unusedSectionVars false
namespace Go.Proofs.YtakallenldpkiaaDoor.Abs
open Go
variable [DqC]

section
variable {P : Program} {n : Nat} {K : St → Prop} {l : List AO} {env : List (Nat × PVal)} {heap heap' : List (AId × AObj)} {next next' d : Nat} {xs : List AX} {ps qs : List PVal} {dr : List (List Nat)} {racc : List Eff} {g : Option (Nat × Bool)}

/-- A call: sl: the objects that it takes over; bi: those that it looks at. -/
theorem GO.callx {f : FuncId} {r r' : PVal} {h0 h1 : List (AId × AObj)} {k1 : Nat} (sl bi : List Nat) (hd : Nat.blt d n = true) (hg : guarded env g = some true) (hx : evalXs env xs = some ps) (hv : viewP.go sl (pickH heap bi) ps = some qs)
    (h0' : subH heap sl (pickH heap bi) sl 0 = some h0) (hs : slOk sl bi next = true) (hF : FnOk P f qs h0 sl.length r h1 k1) (hfl : bi = [] ∨ FlatR r h1) (hr : renP (tau sl next) r = r') (hh : happL (callWh sl next h1 k1) heap = heap') (hn : next + (k1 - sl.length) = next')
    (k : GO P n K l ⟨(d, r') :: env, heap', next'⟩) : GO P n K (⟨some d, g, .call f, xs⟩ :: l) ⟨env, heap, next⟩ := by
  subst hr hh hn
  have hd' : dOk n (some d) = true := by simpa [dOk, Nat.blt_eq] using hd
  have he : EffOk P n ⟨env, heap, next⟩ ⟨some d, g, .call f, xs⟩ (callEff ⟨env, heap, next⟩ ⟨some d, g, .call f, xs⟩ sl bi r h1 k1) :=
    call_ok rfl hd' hg hx hF hv h0' hs hfl
  have hgo : GO P n K (⟨some d, g, .call f, xs⟩ :: l) ⟨env, heap, next⟩ = RG P n [] K (⟨some d, g, .call f, xs⟩ :: l) [] ⟨env, heap, next⟩ := by
    rw [GO]
    have : opEff n ⟨env, heap, next⟩ ⟨some d, g, .call f, xs⟩ = none := by
      unfold opEff
      simp only [hd', if_true, hg, hx]
      rfl
    rw [this]
  rw [hgo]
  refine RG.call he ?_
  simpa only [St.app, callEff, Option.map_some, envApp, List.length_range'] using k

theorem GX.callx {f : FuncId} {r r' : PVal} {h0 h1 : List (AId × AObj)} {k1 : Nat} (sl bi : List Nat) (hd : Nat.blt d n = true) (hg : guarded env g = some true) (hx : evalXs env xs = some ps) (hv : viewP.go sl (pickH heap bi) ps = some qs)
    (h0' : subH heap sl (pickH heap bi) sl 0 = some h0) (hs : slOk sl bi next = true) (hF : FnOk P f qs h0 sl.length r h1 k1) (hfl : bi = [] ∨ FlatR r h1) (hr : renP (tau sl next) r = r') (hh : happL (callWh sl next h1 k1) heap = heap') (hn : next + (k1 - sl.length) = next')
    (k : GX P n K l ⟨(d, r') :: env, heap', next'⟩) : GX P n K (⟨some d, g, .call f, xs⟩ :: l) ⟨env, heap, next⟩ := ⟨GO.callx sl bi hd hg hx hv h0' hs hF hfl hr hh hn k.run⟩


/-- The function is the library's slices.overlaps, at elements of so many cells. -/
def OvlFn (P : Program) (f : FuncId) (sz : Nat) : Prop := ∃ (fn : Func) (t tr e : TypeId), P.funcs[f]? = some fn ∧ (fn.name == "runtime.NumGoroutine") = false ∧ fn.body.isNone = true ∧ Extern.findNext fn = none ∧
  Extern.find fn = some (Extern.SlicesOverlaps.overlaps #[t, t] #[tr]) ∧ P.underlying t = some (.slice e) ∧ (P.info? e).map (·.size) = some sz

theorem blk_of {D : AId → Prop} {m : AId → Option Blk} {ok : Nat → Prop} {w : World} {ob : AObj} {sz ty : Nat} {es : List (List PVal)} {B : Blk} (ho : ob = .row sz ty es ∨ ob = .full sz ty es) (hn : 0 < es.length) (h : RepObj w ok D m ob B) :
    ∃ b tot vs, B = .at b tot ∧ w.heap[b]? = some (.cells vs ty (0, 0)) ∧ 0 < vs.size := by
  cases B with
  | nil => rcases ho with rfl | rfl <;> (obtain ⟨rfl, _⟩ := h; simp at hn)
  | «at» b tot =>
    rcases ho with rfl | rfl
    · obtain ⟨vs, h1, h2, h3, h4, h5, _⟩ := h
      exact ⟨b, tot, vs, rfl, h1, by rw [h2]; exact Nat.mul_pos (by omega) h5⟩
    · obtain ⟨vs, h1, h2, h3, h4, h5, _⟩ := h
      exact ⟨b, tot, vs, rfl, h1, by rw [h2]; exact Nat.mul_pos (by omega) h5⟩

theorem own_slice {b tot sz lo n : Nat} {v : Value} (h : OwnVal (.at b tot) sz lo n v) : ∃ a cap, v = .slice (some a) n cap ∧ a.block = b := by
  obtain ⟨a, cap, e, h1, _⟩ := h
  exact ⟨a, cap, e, h1⟩

theorem ovl_ok {st : St} {ao : AO} {f : FuncId} {id1 id2 sz lo1 lo2 n1 n2 ty1 ty2 : Nat} {ob1 ob2 : AObj} {es1 es2 : List (List PVal)} (hop : ao.op = .call f) (hf : OvlFn P f sz) (hd : dOk n ao.d = true) (hg : guarded st.env ao.g = some true)
    (hx : evalXs st.env ao.xs = some [.own id1 sz lo1 n1, .own id2 sz lo2 n2]) (h1 : st.h id1 = some ob1) (h2 : st.h id2 = some ob2) (hob1 : ob1 = .row sz ty1 es1 ∨ ob1 = .full sz ty1 es1) (hob2 : ob2 = .row sz ty2 es2 ∨ ob2 = .full sz ty2 es2) (hl1 : 0 < es1.length) (hl2 : 0 < es2.length) (hne : id1 ≠ id2) :
    EffOk P n st ao { rt := tmpsG ao.g ++ tmpsX ao.xs, wt := ao.d.map fun d => (d, .bool false), rh := [id1, id2], wh := [], nw := [] } := by
  refine ⟨⟨0, rfl⟩, fun ops i o ho ht => ?_⟩
  obtain ⟨xs, g1, g2, g3, g4⟩ := transOper_some ht
  refine ⟨(fun x hx => by cases hx), ?_⟩
  intro rr ds D m ok env heap a w Q K hS hrt hrh _ hnw hK
  simp only at hrt hrh hnw hK
  have hdd : ∀ t, o.dst = some t → t < n := by
    intro t e
    rw [g4, e] at hd
    simpa [dOk] using hd
  have hw := wanted_of (P := P) hS g2 hg fun t ht => hrt t (List.mem_append_left _ ht)
  have hreps := evalXs_rep (P := P) hS g3 hx fun t ht => hrt t (List.mem_append_right _ ht)
  unfold wpOpIn
  simp only [ho, hw, if_true]
  unfold Oper.wpIn
  refine ⟨fun _ _ => trivial, ?_⟩
  rw [Oper.semAt_eq _ _ _ (transOper_nd ht (by rw [hop]; exact fun h => by cases h))]
  rw [hop] at g1
  replace g1 := g1.resolve_right (fun h => by cases h)
  have key : Out P o a.eval D m ok heap w { v := .bool false, rh := [id1, id2] } := by
    replace g1 := trans_of0 g1 (by intro q h; cases h)
    generalize hoo : o.op = oo at g1
    unfold trans0 at g1
    split at g1
    all_goals try (first
      | (injection g1 with g1; injection g1 with e1 e2; cases e1; done)
      | cases g1)
    all_goals try (first
      | (obtain ⟨_, _, e1⟩ := Option.map_eq_some_iff.1 g1; injection e1 with e1 e2; cases e1; done)
      | (repeat' split at g1) <;> first
        | cases g1
        | (injection g1 with g1; injection g1 with e1 e2; cases e1; done)
        | (obtain ⟨_, _, e1⟩ := Option.bind_eq_some_iff.1 g1; split at e1 <;> first | (cases e1; done) | (injection e1 with e1; injection e1 with e1 e2; cases e1; done))
        | (obtain ⟨_, _, e1⟩ := Option.map_eq_some_iff.1 g1; injection e1 with e1 e2; cases e1; done))
    rename_i args ats
    obtain ⟨v1, vs1, ev, r1, hr2⟩ := hreps.uncons
    obtain ⟨v2, vs2, ev2, r2, hr3⟩ := hr2.uncons
    have ev3 := hr3.unnil
    subst ev3 ev2
    obtain ⟨B1, hB1, hobj1⟩ := hS.hp.obj id1 ob1 (by rw [hrh id1 (by simp)]; exact h1)
    obtain ⟨B2, hB2, hobj2⟩ := hS.hp.obj id2 ob2 (by rw [hrh id2 (by simp)]; exact h2)
    obtain ⟨b1, t1, vs1, rfl, c1, d1⟩ := blk_of hob1 hl1 hobj1
    obtain ⟨b2, t2, vs2, rfl, c2, d2⟩ := blk_of hob2 hl2 hobj2
    cases r1 with
    | own _ _ p1 =>
      cases r2 with
      | own _ _ p2 =>
        obtain ⟨a1, cap1, e1, f1⟩ := own_slice (p1 _ hB1)
        obtain ⟨a2, cap2, e2, f2⟩ := own_slice (p2 _ hB2)
        obtain ⟨fn, t, tr, e, q1, q2, q3, q4, q5, q6, q7⟩ := hf
        have hbne : a1.block ≠ a2.block := by
          rw [f1, f2]
          rintro rfl
          exact hne (hS.hp.inj _ _ _ _ _ hB1 hB2)
        obtain ⟨ti, hti, htz⟩ := Option.map_eq_some_iff.1 q7
        have hrun : (callFunc f #[v1, v2]).run P w = .ok (.value (.bool false)) w := by
          rw [run_callFunc_extern q1 q2 q3 q4 q5, e1, e2,
            Lib.run_overlaps_apart w t tr e q6 sz (fun w => by rw [← htz]; exact run_sizeOf hti) a1 a2 n1 cap1 n2 cap2 hbne ty1 ty2 vs1.size vs2.size (by simp [World.shape?, f1, c1]) (by simp [World.shape?, f2, c2]) (by omega)
              (by simp [World.frozen?, f1, c1]) (by simp [World.frozen?, f1, c1])]
          rfl
        refine Out.pure hS.hp _ (v := .bool false) ?_ .bool
        have hargs : args.map a.eval = #[v1, v2] := by
          apply Array.ext'
          simpa using ev
        unfold execOp
        simp only [hoo]
        simp only [resolve, Act.eval, Deferred.ofValue, Sem.run_bind, Sem.run_pure, Result.andThen_ok, invoke]
        rw [← hrun]
        congr 2
        rw [← hargs]
        apply Array.ext'
        simp
  obtain ⟨v, w', D', m', hrun, k1, k2, k3, k4, k5⟩ := key
  have hD : ∀ id, D id → D' id := fun id h => (k4 id).2 (.inl h)
  have := hK D' m' (a.put o.dst v) w' (by rw [g4]; exact hS.put k1 k2 hD k5 o.dst _ v hdd k3) k2 k5 k4
  rcases hrun with hrun | ⟨rfl, hrun⟩
  · rw [hrun]; exact this
  · rw [hrun]; exact this

theorem GO.ovl {f : FuncId} {id1 id2 sz lo1 lo2 n1 n2 ty1 ty2 : Nat} {ob1 ob2 : AObj} {es1 es2 : List (List PVal)} (hd : Nat.blt d n = true) (hg : guarded env g = some true) (hf : OvlFn P f sz)
    (hx : evalXs env xs = some [.own id1 sz lo1 n1, .own id2 sz lo2 n2]) (h1 : heap.lookup id1 = some ob1) (h2 : heap.lookup id2 = some ob2) (hob1 : ob1 = .row sz ty1 es1 ∨ ob1 = .full sz ty1 es1) (hob2 : ob2 = .row sz ty2 es2 ∨ ob2 = .full sz ty2 es2) (hl1 : 0 < es1.length) (hl2 : 0 < es2.length) (hne : id1 ≠ id2)
    (k : GO P n K l ⟨(d, .bool false) :: env, heap, next⟩) : GO P n K (⟨some d, g, .call f, xs⟩ :: l) ⟨env, heap, next⟩ := by
  have hd' : dOk n (some d) = true := by simpa [dOk, Nat.blt_eq] using hd
  have he := ovl_ok (P := P) (n := n) (st := ⟨env, heap, next⟩) (ao := ⟨some d, g, .call f, xs⟩) rfl hf hd' hg hx h1 h2 hob1 hob2 hl1 hl2 hne
  have hgo : GO P n K (⟨some d, g, .call f, xs⟩ :: l) ⟨env, heap, next⟩ = RG P n [] K (⟨some d, g, .call f, xs⟩ :: l) [] ⟨env, heap, next⟩ := by
    rw [GO]
    have : opEff n ⟨env, heap, next⟩ ⟨some d, g, .call f, xs⟩ = none := by
      unfold opEff
      simp only [hd', if_true, hg, hx]
      rfl
    rw [this]
  rw [hgo]
  refine RG.call he ?_
  simpa only [St.app, Option.map_some, envApp, happL, List.length_nil, Nat.add_zero] using k

end
end Go.Proofs.YtakallenldpkiaaDoor.Abs
