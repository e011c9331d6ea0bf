/- The abstract machine as a program: what it answers is proved by running it. Generic over any program. -/
import Derived.Test.YtakallenldpkiaaDoorA27
set_option linter.unusedVariables false
set_option linter.unusedSimpArgs false
set_option linter.unusedSectionVars false
namespace Go.Proofs.YtakallenldpkiaaDoor.Abs
open Go
variable [DqC]

/-- The objects that a value leads to. -/
def idsP : PVal → List Nat
  | .agg cs => go cs
  | .tup cs => go cs
  | .fn _ a b => go a ++ go b
  | .iface _ v => idsP v
  | .ptr id _ => [id]
  | .eptr id .. => [id]
  | .own id .. => [id]
  | .mapr id => [id]
  | _ => []
where
  go : List PVal → List Nat
    | [] => []
    | p :: r => idsP p ++ go r

def memN (id : Nat) : List Nat → Bool
  | [] => false
  | x :: r => bif Nat.beq x id then true else memN id r

/-- All that these lead to. -/
def reach (heap : List (AId × AObj)) : Nat → List Nat → List Nat → List Nat
  | 0, _, acc => acc
  | _ + 1, [], acc => acc
  | k + 1, id :: r, acc => bif memN id acc then reach heap k r acc else match lk heap id with
    | some (.box cs) => reach heap k (idsP.go cs ++ r) (acc ++ [id])
    | _ => reach heap k r (acc ++ [id])

/-- What a called function leaves. -/
abbrev CallF := FuncId → List PVal → List (AId × AObj) → Nat → Option (PVal × List (AId × AObj) × Nat)

def callStep (call : CallF) (n : Nat) (st : St) (ao : AO) (f : FuncId) (ps : List PVal) : Option Eff :=
  let sl := reach st.heap 1000 (idsP.go ps) []
  match viewP.go sl [] ps, subH st.heap sl [] sl 0 with
  | some qs, some h0 => match call f qs h0 sl.length with
    | some (r, h1, k1) => if slOk sl [] st.next = true then some (callEff st ao sl [] r h1 k1) else none
    | none => none
  | _, _ => none

def opEffC (call : CallF) (n : Nat) (st : St) (ao : AO) : Option Eff :=
  match opEff n st ao with
  | some e => some e
  | none => if dOk n ao.d = true then match guarded st.env ao.g with
    | some true => match ao.op, evalXs st.env ao.xs with
      | .call f, some ps => callStep call n st ao f ps
      | .callv, some (.fn f first caps :: ps) => callStep call n st ao f (first ++ ps ++ caps)
      | _, _ => none
    | _ => none else none

def execOps (call : CallF) (n : Nat) : List AO → St → Option (List Eff × St)
  | [], st => some ([], st)
  | ao :: l, st => match opEffC call n st ao with
    | some e => match execOps call n l (st.app e) with
      | some (es, st') => some (e :: es, st')
      | none => none
    | none => none

def setE (d : Nat) (v : PVal) : List (Nat × PVal) → List (Nat × PVal)
  | [] => [(d, v)]
  | (k, x) :: r => bif Nat.beq d k then (d, v) :: r else (k, x) :: setE d v r

/-- The first k are laid over the others. -/
def normE (k : Nat) (env : List (Nat × PVal)) : List (Nat × PVal) := (env.take k).foldr (fun x acc => setE x.1 x.2 acc) (env.drop k)

/-- Of each operation the mask of those that come ahead of it. -/
def masks : List (List Nat) → List Nat → List Nat
  | [], acc => acc
  | ds :: r, acc => masks r (acc ++ [ds.foldl (fun s d => s ||| (1 <<< d) ||| acc.getD d 0) 0])

def drawC (draw : List (List Nat)) (es : List Eff) : Bool := match draw with
  | [] => true
  | _ => decide (es.length = draw.length) && (okB (masks draw []) 0 draw && drawOkB draw (masks draw []) es)

def loopN (g : St → Option (Exit × St)) : Nat → St → Option (Exit × St)
  | 0, _ => none
  | k + 1, st => match g st with
    | some (.normal, st') => loopN g k st'
    | some (e, st') => some (e, st')
    | none => none

def exec (call : CallF) (n : Nat) : AC → St → Option (Exit × St)
  | .skip, st => some (.normal, st)
  | .ret, st => some (.ret, st)
  | .exit i, st => some (.exit i, st)
  | .reg draw l, st => match execOps call n l st with
    | some (es, st') => if drawC draw es = true then some (.normal, ⟨normE (st'.env.length - st.env.length) st'.env, st'.heap, st'.next⟩) else none
    | none => none
  | .seq a b, st => match exec call n a st with
    | some (.normal, st') => exec call n b st'
    | some (e, st') => some (e, st')
    | none => none
  | .cond z a b, st => match evalX st.env z with
    | some (.bool true) => exec call n a st
    | some (.bool false) => exec call n b st
    | _ => none
  | .block i a, st => match exec call n a st with
    | some (.exit j, st') => bif Nat.beq j i then some (.normal, st') else some (.exit j, st')
    | some (e, st') => some (e, st')
    | none => none
  | .loop a, st => loopN (exec call n a) 100000 st
  | .bad, _ => none

def retStep (k0 : Nat) (ts : List RV) (st : St) : Option (PVal × List (AId × AObj) × Nat) :=
  match evalRs st.env st.heap ts with
  | some qs =>
    let sl := reach st.heap 1000 (((List.range k0).flatMap fun i => match lk st.heap i with | some (.box cs) => idsP.go cs | _ => []) ++ idsP.go qs) (List.range k0)
    match subR st.heap sl [] sl 0, viewP.go sl [] qs with
    | some h1, some qs' => if slOk sl [] st.next = true ∧ sl.take k0 = List.range k0 ∧ k0 ≤ sl.length then some (retV qs', h1, sl.length) else none
    | _, _ => none
  | none => none

def callN (F : List (Nat × (Nat × List RV × AC))) : Nat → CallF
  | 0, _, _, _, _ => none
  | d + 1, f, ps, h0, k0 => match lk F f with
    | some (n, ts, ac) => if Nat.ble ps.length n = true then match exec (callN F d) n ac ⟨paramE 0 ps, h0, k0⟩ with
      | some (.normal, st) => retStep k0 ts st
      | some (.ret, st) => retStep k0 ts st
      | _ => none
      else none
    | none => none

/-! ### It is sound -/
section
variable {P : Program} {n k0 : Nat} {Q : Exit → St → Prop} {st : St}

theorem W.post {ac : AC} (h : W P n k0 ac (fun e s => ∃ s', Conv k0 s s' ∧ Q e s') st) : W P n k0 ac Q st := by
  intro c hcc rr ds m ok a w hk hS
  refine wpIn_mono (h c hcc rr ds m ok a w hk hS) ?_
  rintro e a2 w2 ⟨st2, m2, hp2⟩
  obtain ⟨s', hc, hq⟩ := hp2.q
  obtain ⟨m', h1, h2, h3, h4⟩ := hc n ds m2 ok a2 w2 hp2.le hp2.sim
  exact ⟨s', m', hq, h1, hp2.step.trans h2, hp2.mon.trans h3 fun _ h => h, h4⟩

theorem lookup_setE (d : Nat) (v : PVal) : ∀ (env : List (Nat × PVal)) (t : Nat), (setE d v env).lookup t = if t = d then some v else env.lookup t
  | [], t => by
    by_cases h : t = d
    · simp [setE, List.lookup, h]
    · have : (t == d) = false := by simpa using h
      simp [setE, List.lookup, h, this]
  | (k, x) :: r, t => by
    unfold setE
    by_cases hk : d = k
    · subst hk
      rw [Nat.beq_refl d, cond_true]
      by_cases h : t = d
      · simp [List.lookup, h]
      · have : (t == d) = false := by simpa using h
        simp [List.lookup, h, this]
    · have hb : Nat.beq d k = false := by
        cases hb : Nat.beq d k with
        | false => rfl
        | true => exact absurd (Nat.eq_of_beq_eq_true hb) hk
      rw [hb, cond_false]
      by_cases h : t = k
      · subst h
        simp [List.lookup, Ne.symm hk]
      · have : (t == k) = false := by simpa using h
        simp only [List.lookup, this]
        exact lookup_setE d v r t

theorem lookup_normE : ∀ (k : Nat) (env : List (Nat × PVal)) (t : Nat), (normE k env).lookup t = env.lookup t
  | 0, env, t => by simp [normE]
  | k + 1, [], t => by simp [normE]
  | k + 1, (d, v) :: r, t => by
    have ih := lookup_normE k r t
    unfold normE at ih ⊢
    simp only [List.take_succ_cons, List.drop_succ_cons, List.foldr_cons]
    rw [lookup_setE, ih]
    by_cases h : t = d
    · simp [List.lookup, h]
    · have : (t == d) = false := by simpa using h
      simp [List.lookup, h, this]

def CallOk (P : Program) (call : CallF) : Prop := ∀ f ps h0 k0 r h1 k1, call f ps h0 k0 = some (r, h1, k1) → FnOk P f ps h0 k0 r h1 k1

theorem callStep_ok {call : CallF} (hC : CallOk P call) {ao : AO} {f : FuncId} {ps : List PVal} {e : Eff} (h : callStep call n st ao f ps = some e) :
    ∃ (qs : List PVal) (h0 h1 : List (AId × AObj)) (sl : List Nat) (r : PVal) (k1 : Nat), FnOk P f qs h0 sl.length r h1 k1 ∧ viewP.go sl (pickH st.heap []) ps = some qs ∧ subH st.heap sl (pickH st.heap []) sl 0 = some h0 ∧ slOk sl [] st.next = true ∧ e = callEff st ao sl [] r h1 k1 := by
  unfold callStep at h
  simp only at h
  split at h
  · rename_i qs h0 hv hh
    split at h
    · rename_i r h1 k1 hc
      split at h
      · rename_i hs
        injection h with h
        exact ⟨qs, h0, h1, _, r, k1, hC _ _ _ _ _ _ _ hc, hv, hh, hs, h.symm⟩
      · cases h
    · cases h
  · cases h

theorem opEffC_ok {call : CallF} (hC : CallOk P call) {ao : AO} {e : Eff} (h : opEffC call n st ao = some e) : EffOk P n st ao e := by
  unfold opEffC at h
  split at h
  · rename_i e' he
    injection h with h
    subst h
    exact opEff_ok he
  · split at h
    · rename_i hd
      split at h
      · rename_i hg
        split at h
        · rename_i f ps hop hx
          obtain ⟨qs, h0, h1, sl, r, k1, hF, hv, hh, hs, rfl⟩ := callStep_ok hC h
          exact call_ok hop hd hg hx hF hv hh hs (.inl rfl)
        · rename_i f first caps ps hop hx
          obtain ⟨qs, h0, h1, sl, r, k1, hF, hv, hh, hs, rfl⟩ := callStep_ok hC h
          exact callv_ok hop hd hg hx hF hv hh hs (.inl rfl)
        · cases h
      · cases h
    · cases h

theorem execOps_ok {call : CallF} (hC : CallOk P call) : ∀ {l : List AO} {st st' : St} {es : List Eff}, execOps call n l st = some (es, st') → Run P n l st es st'
  | [], st, st', es, h => by
    simp only [execOps, Option.some.injEq, Prod.mk.injEq] at h
    obtain ⟨rfl, rfl⟩ := h
    exact .nil
  | ao :: l, st, st', es, h => by
    simp only [execOps] at h
    split at h
    · rename_i e he
      split at h
      · rename_i es' st'' h2
        injection h with h
        injection h with e1 e2
        subst e1 e2
        exact .cons (opEffC_ok hC he) (execOps_ok hC h2)
      · cases h
    · cases h

theorem drawC_ok {draw : List (List Nat)} {es : List Eff} (h : drawC draw es = true) : draw = [] ∨ drawOk draw es = true := by
  unfold drawC at h
  split at h
  · exact .inl rfl
  · simp only [Bool.and_eq_true, decide_eq_true_eq] at h
    exact .inr (drawOk_of h.1 h.2.1 h.2.2)

theorem exec_ok {call : CallF} (mixed : P.follows .mixedOrders = true) (hC : CallOk P call) : ∀ (ac : AC) {st st' : St} {e : Exit} {Q : Exit → St → Prop}, exec call n ac st = some (e, st') → Q e st' → W P n k0 ac Q st
  | .skip, st, st', e, Q, h, hq => by
    simp only [exec, Option.some.injEq, Prod.mk.injEq] at h
    obtain ⟨rfl, rfl⟩ := h
    exact W.skip hq
  | .ret, st, st', e, Q, h, hq => by
    simp only [exec, Option.some.injEq, Prod.mk.injEq] at h
    obtain ⟨rfl, rfl⟩ := h
    exact W.ret hq
  | .exit i, st, st', e, Q, h, hq => by
    simp only [exec, Option.some.injEq, Prod.mk.injEq] at h
    obtain ⟨rfl, rfl⟩ := h
    exact W.exit hq
  | .reg draw l, st, st', e, Q, h, hq => by
    simp only [exec] at h
    split at h
    · rename_i es st2 h2
      split at h
      · rename_i hd
        injection h with h
        injection h with e1 e2
        subst e1 e2
        refine W.post (W.run mixed (execOps_ok hC h2) (drawC_ok hd) ⟨_, ?_, hq⟩)
        exact Conv.env fun t p ht => by rw [← lookup_normE]; exact ht
      · cases h
    · cases h
  | .seq a b, st, st', e, Q, h, hq => by
    simp only [exec] at h
    split at h
    · rename_i st2 h2
      exact W.seq (exec_ok mixed hC a h2 (exec_ok mixed hC b h hq))
    · rename_i e2 st2 hn h2
      injection h with h
      injection h with e1 e3
      subst e1 e3
      refine W.seq (exec_ok mixed hC a h2 ?_)
      cases e2 with
      | normal => exact (hn rfl).elim
      | exit i => exact hq
      | goto i => exact hq
      | ret => exact hq
      | panic i => exact hq
      | outgrown => exact hq
    · cases h
  | .cond z a b, st, st', e, Q, h, hq => by
    simp only [exec] at h
    split at h
    · rename_i hz
      exact W.cond hz (fun _ => exec_ok mixed hC a h hq) (fun h => by cases h)
    · rename_i hz
      exact W.cond hz (fun h => by cases h) (fun _ => exec_ok mixed hC b h hq)
    · cases h
  | .block i a, st, st', e, Q, h, hq => by
    simp only [exec] at h
    split at h
    · rename_i j st2 h2
      refine W.block (exec_ok mixed hC a h2 ?_)
      by_cases hj : j = i
      · subst hj
        rw [Nat.beq_refl j, cond_true] at h
        injection h with h
        injection h with e1 e2
        subst e1 e2
        simp only [AIn, if_true]
        exact hq
      · have hb : Nat.beq j i = false := by
          cases hb : Nat.beq j i with
          | false => rfl
          | true => exact absurd (Nat.eq_of_beq_eq_true hb) hj
        rw [hb, cond_false] at h
        injection h with h
        injection h with e1 e2
        subst e1 e2
        simp only [AIn, hj, if_false]
        exact hq
    · rename_i e2 st2 hn h2
      injection h with h
      injection h with e1 e3
      subst e1 e3
      refine W.block (exec_ok mixed hC a h2 ?_)
      cases e2 with
      | exit j => exact (hn _ rfl).elim
      | normal => exact hq
      | goto i => exact hq
      | ret => exact hq
      | panic i => exact hq
      | outgrown => exact hq
    · cases h
  | .bad, st, st', e, Q, h, hq => by
    simp only [exec] at h
    cases h
  | .loop a, st, st', e, Q, h, hq => by
    simp only [exec] at h
    refine W.loop (fun k s => loopN (exec call n a) k s = some (e, st')) 100000 h fun k s hI => ?_
    cases k with
    | zero => simp only [loopN] at hI; cases hI
    | succ k =>
      simp only [loopN] at hI
      split at hI
      · rename_i s2 h2
        exact exec_ok mixed hC a h2 ⟨k, Nat.lt_succ_self k, hI⟩
      · rename_i e2 s2 hn h2
        injection hI with hI
        injection hI with e1 e3
        subst e1 e3
        refine exec_ok mixed hC a h2 ?_
        cases e2 with
        | normal => exact (hn rfl).elim
        | exit i => exact hq
        | goto i => exact hq
        | ret => exact hq
        | panic i => exact hq
        | outgrown => exact hq
      · cases hI

theorem retStep_ok {ts : List RV} {e : Exit} (he : e = .normal ∨ e = .ret) {r : PVal} {h1 : List (AId × AObj)} {k1 : Nat} (h : retStep k0 ts st = some (r, h1, k1)) : RetQ k0 ts r h1 k1 e st ∧ k0 ≤ k1 := by
  unfold retStep at h
  split at h
  · rename_i qs hq
    simp only at h
    split at h
    · rename_i h1' qs' hh hv
      split at h
      · rename_i hs
        injection h with h
        injection h with e1 e2
        injection e2 with e2 e3
        subst e1 e2 e3
        refine ⟨RetQ.doneR he hq (fun i hi => ?_) hs.2.2 hs.1 hh hv .refl rfl, hs.2.2⟩
        have ht : ∀ (l : List Nat), l.take k0 = List.range k0 → l[i]? = some i := fun l hl => by
          have h1 : (l.take k0)[i]? = l[i]? := by rw [List.getElem?_take]; simp [hi]
          rw [← h1, hl]
          simp [hi]
        exact ht _ hs.2.1
      · cases h
    · cases h
  · cases h

theorem callN_ok {F : List (Nat × (Nat × List RV × AC))} (mixed : P.follows .mixedOrders = true) (hF : ∀ f x, lk F f = some x → fnInfo P f = some x) : ∀ d, CallOk P (callN F d)
  | 0, f, ps, h0, k0, r, h1, k1, h => by simp only [callN] at h; cases h
  | d + 1, f, ps, h0, k0, r, h1, k1, h => by
    simp only [callN] at h
    split at h
    · rename_i n ts ac hf
      split at h
      · rename_i hn
        split at h
        · rename_i st hx
          obtain ⟨h2, h3⟩ := retStep_ok (.inl rfl) h
          exact FnOk.of (hF f _ hf) (Nat.le_of_ble_eq_true hn) h3 (exec_ok mixed (callN_ok mixed hF d) ac hx h2)
        · rename_i st hx
          obtain ⟨h2, h3⟩ := retStep_ok (.inr rfl) h
          exact FnOk.of (hF f _ hf) (Nat.le_of_ble_eq_true hn) h3 (exec_ok mixed (callN_ok mixed hF d) ac hx h2)
        · cases h
      · cases h
    · cases h
end

/-- A table of functions is the program's. -/
def TabOk (P : Program) (F : List (Nat × (Nat × List RV × AC))) : Prop := ∀ f x, lk F f = some x → fnInfo P f = some x
theorem TabOk.nil {P : Program} : TabOk P [] := fun f x h => by cases h
theorem TabOk.cons {P : Program} {K : Nat} {x : Nat × List RV × AC} {F : List (Nat × (Nat × List RV × AC))} (h : fnInfo P K = some x) (k : TabOk P F) : TabOk P ((K, x) :: F) := fun f y hy => by
  unfold lk at hy
  cases hb : Nat.beq f K with
  | true =>
    rw [hb, cond_true] at hy
    injection hy with hy
    rw [Nat.eq_of_beq_eq_true hb, h, hy]
  | false =>
    rw [hb, cond_false] at hy
    exact k f y hy

/-- A run is a proof. -/
theorem FnOk.run_of {P : Program} {F : List (Nat × (Nat × List RV × AC))} (mixed : P.follows .mixedOrders = true) (hF : TabOk P F) {f : FuncId} {ps : List PVal} {h0 : List (AId × AObj)} {k0 : Nat} {r : PVal} {h1 : List (AId × AObj)} {k1 : Nat} (d : Nat) (h : callN F d f ps h0 k0 = some (r, h1, k1)) : FnOk P f ps h0 k0 r h1 k1 :=
  callN_ok mixed hF d f ps h0 k0 r h1 k1 h

end Go.Proofs.YtakallenldpkiaaDoor.Abs
