/- append. Generic over any program. -/
import Derived.Test.YtbmdpedhobkeeaaA8F
set_option linter.unusedVariables false
set_option linter.unusedSimpArgs false
namespace Go.Proofs.Ytbmdpedhobkeeaa.Abs
open Go
section
variable {P : Program} {o : Oper} {ρ : Operand → Value} {D : AId → Prop} {m : AId → Option Blk} {ok : Nat → Prop} {heap : AId → Option AObj} {w : World} {nx : AId} {r : R}

theorem exec_append {args : Array Operand} {ats : Array TypeId} {s x : Operand} {t : TypeId} (h : o.op = .call { callee := .builtin .append, args, argTypes := ats }) (ha : args.toList = [s, x]) (hat : ats.toList = [t, t]) {v : Value} {w' : World}
    (hv : (Builtin.append_ #[t, t] o.type #[ρ s, ρ x]).run P w = .ok v w') : (execOp ρ o).run P w = .ok (.value v) w' := by
  have ha' : args = #[s, x] := by rw [← Array.toArray_toList (xs := args), ha]
  have hat' : ats = #[t, t] := by rw [← Array.toArray_toList (xs := ats), hat]
  unfold execOp
  simp only [h, ha', hat']
  simp [resolve, invoke, builtin, hv]

/-- A row whose first elements are forgotten. -/
theorem rebase_own {b sz lo n : Nat} {t : Room} {v : Value} (h : OwnVal (.at b t) sz lo n v) : OwnVal (.at b ⟨t.tot, t.base + lo⟩) sz 0 n v := by
  obtain ⟨a, cap, e, h1, h2, h3, h4, h5, h6⟩ := h
  exact ⟨a, cap, e, h1, h2, by simpa using h3, h4, by simpa using h5, h6⟩

theorem rebase_row {sz ty lo b : Nat} {t : Room} {es : List (List PVal)} (h : RepObj w ok D m (.row sz ty es) (.at b t)) (hlo : lo ≤ es.length) : RepObj w ok D m (.row sz ty (es.drop lo)) (.at b ⟨t.tot, t.base + lo⟩) := by
  obtain ⟨vs, h1, h2, h3, h4, h5, h6, h7⟩ := h
  refine ⟨vs, h1, h2, by simp; omega, h4, h5, fun e he => h6 e (List.mem_of_mem_drop he), fun i j e p he hp => ?_⟩
  rw [List.getElem?_drop] at he
  obtain ⟨v, k1, k2, k3⟩ := h7 (lo + i) j e p he hp
  exact ⟨v, by simpa [Nat.add_assoc] using k1, k2, k3⟩

/-- Elements laid behind a row's own. -/
theorem row_over {w' : World} {D' : AId → Prop} {m' : AId → Option Blk} {sz ty b : Nat} {tot : Room} {es es2 : List (List PVal)} {ls : List (List Value)} {vs vs' : Array Value} (hob : RepObj w ok D m (.row sz ty es) (.at b tot))
    (hb : w.heap[b]? = some (.cells vs ty (0, 0))) (hb' : w'.heap[b]? = some (.cells vs' ty (0, 0))) (hs : vs'.size = vs.size)
    (hat : ∀ j, vs'.toList[j]? = if (tot.base + es.length) * sz ≤ j ∧ j < (tot.base + es.length) * sz + ls.flatten.length then ls.flatten[j - (tot.base + es.length) * sz]? else vs.toList[j]?)
    (hll : ls.length = es2.length) (hls : ∀ l ∈ ls, l.length = sz) (h1 : ∀ l ∈ ls, ∀ u ∈ l, u.oneCell' = true) (hes2 : ∀ e ∈ es2, e.length = sz)
    (hr : ∀ (k : Nat) (e : List PVal) (l : List Value), es2[k]? = some e → ls[k]? = some l → Reps w (okn ok m) D m true e l) (hfit : tot.base + es.length + es2.length ≤ tot.tot)
    (hst : ∀ p v, Rep w (okn ok m) D m true p v → Rep w' (okn ok m') D' m' true p v) : RepObj w' ok D' m' (.row sz ty (es ++ es2)) (.at b tot) := by
  obtain ⟨vs0, g1, g2, g3, g4, g5, g6, g7⟩ := hob
  rw [hb] at g1
  injection g1 with g1
  injection g1 with g1
  subst g1
  have hfl := flat_len hls
  rw [hll] at hfl
  refine ⟨vs', hb', by rw [hs, g2], by simp; omega, g4, g5, fun e he => ?_, fun i j e p he hp => ?_⟩
  · rcases List.mem_append.1 he with he | he
    · exact g6 e he
    · exact hes2 e he
  · have hatj := hat ((tot.base + i) * sz + j)
    rw [hfl] at hatj
    by_cases hin : i < es.length
    · rw [List.getElem?_append_left hin] at he
      have hj : j < sz := by rw [← g6 e (List.mem_of_getElem? he)]; exact (List.getElem?_eq_some_iff.1 hp).1
      have := Nat.mul_le_mul_right sz (show tot.base + i + 1 ≤ tot.base + es.length by omega)
      rw [Nat.succ_mul] at this
      rw [if_neg (by omega)] at hatj
      obtain ⟨u, k1, k2, k3⟩ := g7 i j e p he hp
      exact ⟨u, by rw [← Array.getElem?_toList, hatj, Array.getElem?_toList]; exact k1, k2, hst _ _ k3⟩
    · rw [List.getElem?_append_right (by omega)] at he
      have hj : j < sz := by rw [← hes2 e (List.mem_of_getElem? he)]; exact (List.getElem?_eq_some_iff.1 hp).1
      have hi2 : i - es.length < es2.length := (List.getElem?_eq_some_iff.1 he).1
      have e1 : (tot.base + i) * sz = (tot.base + es.length) * sz + (i - es.length) * sz := by rw [← Nat.add_mul]; congr 1; omega
      have e2 : (i - es.length + 1) * sz ≤ es2.length * sz := Nat.mul_le_mul_right _ (by omega)
      rw [Nat.succ_mul] at e2
      rw [if_pos (by omega)] at hatj
      have hil : i - es.length < ls.length := by omega
      have hg := flat_get hls (List.getElem?_eq_getElem hil) hj
      rw [show (tot.base + i) * sz + j - (tot.base + es.length) * sz = (i - es.length) * sz + j by omega, hg] at hatj
      have hlen := hls _ (List.getElem_mem hil)
      have hjl : j < ls[i - es.length].length := by rw [hlen]; exact hj
      rw [List.getElem?_eq_getElem hjl] at hatj
      exact ⟨ls[i - es.length][j], by rw [← Array.getElem?_toList]; exact hatj, h1 _ (List.getElem_mem hil) _ (List.getElem_mem hjl), hst _ _ ((hr _ e _ he (List.getElem?_eq_getElem hil)).2 j p _ hp (List.getElem?_eq_getElem hjl))⟩

/-- A slice of no room, wherever it lies, is appended to as a nil slice. -/
theorem append_base0 {t ty e : TypeId} {i : TypeInfo} (ht : P.underlying t = some (.slice e)) (hi : P.info? e = some i) (A A2 : Option Addr) (n2 cap2 : Nat) (w : World) (hn : 0 < n2) (hby : n2 * i.bytes ≤ 140737488355328) :
    (Builtin.append_ #[t, t] ty #[.slice A 0 0, .slice A2 n2 cap2]).run P w = (Builtin.append_ #[t, t] ty #[.slice none 0 0, .slice A2 n2 cap2]).run P w := by
  cases A with
  | none => rfl
  | some a =>
    have h1 : ¬ (n2 ≤ 0) := by omega
    have h2 : Builtin.nextslicecap n2 0 = n2 := by simp [Builtin.nextslicecap]; omega
    have h3 : ¬ (2 ^ 48 < n2 * i.bytes) := by omega
    simp only [Builtin.append_, List.getElem?_toArray, List.getElem?_cons_zero, List.getElem?_cons_succ, Sem.run_bind, run_underlying ht, Result.andThen_ok, run_sizeOf hi, Sem.run_pure, Builtin.lenOf, Nat.zero_add, h1, if_false, Builtin.firstCells]
    simp [loadCells, loadCellsFrom, typeInfo, hi, h2, h3, Nat.ne_of_gt hn]

/-- append to a slice that ends where its row ends. -/
theorem append_row_sound {args : Array Operand} {ats : Array TypeId} {s x : Operand} {t e : TypeId} {i : TypeInfo} {z : Value} {id lo n : Nat} {es es2 : List (List PVal)} {rh2 : List AId}
    (h : o.op = .call { callee := .builtin .append, args, argTypes := ats }) (ha : args.toList = [s, x]) (hat : ats.toList = [t, t])
    (ht : P.underlying t = some (.slice e)) (hi : P.info? e = some i) (hz : i.zero = some z) (hpos : 0 < i.size) (hzs : z.cells.size = i.size) (hH : SimH D m ok heap w) (hnx : ¬ D nx) (hs : Rep w (okn ok m) D m false (.own id i.size lo n) (ρ s))
    (ho : heap id = some (.row i.size e es)) {A2 : Option Addr} {n2 cap2 : Nat} (hx : ρ x = .slice A2 n2 cap2) (hn2 : n2 = es2.length) (hel : ElemsAre w ok D m i.size es2 A2)
    (c5 : lo + n = es.length) (c7 : (n + es2.length) * i.bytes ≤ 140737488355328) (c8 : n + es2.length ≤ maxLen) :
    Out P o ρ D m ok heap w { v := .own nx i.size 0 (n + es2.length), rh := id :: rh2, wh := [(nx, some (.row i.size e (es.drop lo ++ es2))), (id, none)], nw := [nx] } := by
  have hop := exec_builtin2 h ha hat
  obtain ⟨B, hB, hob⟩ := hH.obj id _ ho
  have hs' := hs
  have hsmall : ((n + es2.length : Nat) : Int) ≤ 9223372036854775807 := by simp only [maxLen] at c8; omega
  cases hs with
  | own hd h1v hp =>
    have hv := hp B hB
    rcases Nat.eq_zero_or_pos es2.length with hz2 | c9
    · have he2 : es2 = [] := List.eq_nil_of_length_eq_zero hz2
      subst he2
      simp only [List.length_nil, Nat.add_zero, List.append_nil] at hn2 ⊢
      subst hn2
      obtain ⟨A, cap, hA, hnc⟩ : ∃ A cap, ρ s = .slice A n cap ∧ n ≤ cap := by
        cases B with
        | nil => obtain ⟨⟨A, e⟩, _, e3⟩ := hv; exact ⟨A, 0, by rw [e, e3], by omega⟩
        | «at» b t => obtain ⟨a, cap, e, _, _, _, e3, _⟩ := hv; exact ⟨some a, cap, e, e3⟩
      have hrun : (execOp ρ o).run P w = .ok (.value (ρ s)) w := by
        unfold execOp
        simp only [hop]
        rw [hA]
        cases A <;> cases A2 <;> simp [resolve, invoke, builtin, Builtin.append_, run_underlying ht, hA, hx, Builtin.lenOf, Builtin.firstCells, run_sizeOf hi, hnc, loadCells, loadCellsFrom, storeCells]
      cases B with
      | nil =>
        obtain ⟨he0, hsz0⟩ := hob
        subst he0
        rw [List.drop_nil]
        obtain ⟨e1, e2, e3⟩ := hv
        obtain ⟨g1, g2, g3⟩ := hH.reloc (w' := w) (some id) nx .nil (.row i.size e []) rfl rfl rfl (Nat.le_refl _) (fun b hb hn => rfl) (.inr hnx) (fun b t' e => by cases e) (fun hst => ⟨rfl, hsz0⟩)
        refine ⟨_, w, (fun i => D i ∨ i = nx), _, .inl hrun, ?_, g2, .own (.inr rfl) h1v fun B' hB' => ?_, fun i => by simp, g3⟩
        · rw [happ_two]; exact g1
        · simp only [if_true, Option.some.injEq] at hB'
          subst hB'
          exact ⟨e1, rfl, e3⟩
      | «at» b tot =>
        exact Out.moved hH hnx hB _ _ hrun rfl rfl rfl rfl (fun _ _ => rfl) (tot' := ⟨tot.tot, tot.base + lo⟩) (fun m' D' hst => by
          obtain ⟨vs, h1, h2, h3, h4, h5, h6, h7⟩ := rebase_row (lo := lo) hob (by omega)
          exact ⟨vs, h1, h2, h3, h4, h5, h6, fun i j e p he hp => by
            obtain ⟨v, k1, k2, k3⟩ := h7 i j e p he hp
            exact ⟨v, k1, k2, hst p v k3⟩⟩) (rebase_own hv) h1v
    · obtain ⟨ad, hA, ls, y1, y2, y3, y4, y5⟩ := hel.2 c9
      have hfl := flat_len y2
      rw [y1] at hfl
      have hx' : ρ x = .slice (some ad) es2.length cap2 := by rw [hx, hA, hn2]
      cases B with
      | nil =>
        obtain ⟨⟨A, e1⟩, e2, e3⟩ := hv
        obtain ⟨he0, hsz0⟩ := hob
        subst he0
        subst e2
        subst e3
        rw [List.drop_nil, List.nil_append]
        simp only [Nat.zero_add] at c7 c8 hsmall ⊢
        have hge := grownCap_ge w es2.length 0 e
        have hcm := grownCap_le_maxLen w es2.length 0 e c8
        have hr0 := run_append_nil (P := P) w t o.type e i z ht hi hz ad es2.length cap2 ls.flatten hfl y5 (by omega) (by omega) (by simpa using Nat.le_trans c7 (by omega))
        have hrun : (Builtin.append_ #[t, t] o.type #[ρ s, ρ x]).run P w = .ok (.slice (some ⟨w.heap.size, 0, none⟩) es2.length (grownCap w es2.length 0 e)) (w.drew.alloc (.cells (ls.flatten.toArray ++ Builtin.zeroCells z.cells (grownCap w es2.length 0 e - es2.length)) e)) := by
          rw [e1, hx', append_base0 (e := e) (i := i) ht hi A (some ad) es2.length cap2 w c9 c7]
          simpa using hr0
        refine Out.newG hH hnx (ls := ls) _ (exec_append h ha hat hrun) rfl hge hcm ?_ ?_ hpos hel.1 y2 y1 y3 y4
        · simp only [Array.size_append, List.size_toArray, size_zeroCells, hzs, hfl, ← Nat.add_mul]
          congr 1
          omega
        · simp only [Array.toList_append]
          exact List.prefix_append _ _
      | «at» b tot =>
        have hv' := hv
        obtain ⟨a, cap, e1, _, _, _, hncap, hcp, hmx⟩ := hv'
        have hob' := hob
        obtain ⟨vs, g1, g2, g3, g4, g5, g6, g7⟩ := hob'
        have hob2 := rebase_row (lo := lo) hob (by omega)
        have hdl : (es.drop lo).length = n := by simp; omega
        by_cases hroom : n + es2.length ≤ cap
        · obtain ⟨cap', f1, f2, f3, f4⟩ := own_addr hv (.inr (by omega))
          obtain rfl : cap' = cap := by omega
          have hle : (tot.base + lo + n) * i.size + es2.length * i.size ≤ vs.size := by
            rw [g2, ← Nat.add_mul]
            exact Nat.mul_le_mul_right _ (by omega)
          obtain ⟨w', vs', r1, r2, r3, r4, r5, r6, r7, r8, r9⟩ := setCells_spec (P := P) ls.flatten w b ((tot.base + lo + n) * i.size) vs e 0 g1 (by rw [hfl]; omega) (fun u hu => by obtain ⟨l, hl, hu⟩ := List.mem_flatten.1 hu; exact y3 l hl u hu)
          have hf : (loadCells ad (es2.length * i.size)).run P w = .ok ls.flatten.toArray w := by
            have := run_loadCells_list (P := P) w ad ls.flatten y5
            rwa [hfl] at this
          have hadd : (⟨b, (tot.base + lo) * i.size, none⟩ : Addr).add (n * i.size) = ⟨b, (tot.base + lo + n) * i.size, none⟩ := by unfold Addr.add; simp [Nat.add_mul]
          have hrun : (execOp ρ o).run P w = .ok (.value (.slice (some ⟨b, (tot.base + lo) * i.size, none⟩) (n + es2.length) cap')) w' := by
            unfold execOp
            simp only [hop]
            simp [resolve, invoke, builtin, Builtin.append_, run_underlying ht, f1, hx', Builtin.lenOf, Builtin.firstCells, run_sizeOf hi, hf, hroom, r1, hadd]
          exact Out.moved hH hnx hB _ _ hrun r5 r6 r7 r8 r9 (tot' := ⟨tot.tot, tot.base + lo⟩) (fun m' D' hst => row_over hob2 g1 r2 r3 (by rw [hdl]; simpa using r4) y1 y2 y3 hel.1 y4 (by rw [hdl]; simp only; omega) hst)
            ⟨⟨b, (tot.base + lo) * i.size, none⟩, cap', rfl, rfl, rfl, .inl (by simp), hroom, by simp only; omega, hmx⟩ rfl
        · have htk : (es.drop lo).take n = es.drop lo := List.take_of_length_le (by omega)
          obtain ⟨A', n', cap', q1, q2, q3⟩ := elems_are (es := (es.drop lo).take n) (sz := i.size) (rh := [id]) hH hs' (by
            simp only [elems, ho]
            rw [if_pos ⟨trivial, by omega⟩])
          rw [htk] at q2 q3
          have hlsx : ∃ ls0 : List (List Value), ls0.length = n ∧ (∀ l ∈ ls0, l.length = i.size) ∧ (∀ l ∈ ls0, ∀ u ∈ l, u.oneCell' = true) ∧
              (∀ (k : Nat) (e : List PVal) (l : List Value), (es.drop lo)[k]? = some e → ls0[k]? = some l → Reps w (okn ok m) D m true e l) ∧ (∀ (j : Nat) (u : Value), ls0.flatten[j]? = some u → w.cell? (a.add j) = some u) := by
            rcases Nat.eq_zero_or_pos n with hn0 | hnp
            · exact ⟨[], by simp [hn0], fun l hl => by simp at hl, fun l hl => by simp at hl, fun k e l he hl => by simp at hl, fun j u hu => by simp at hu⟩
            · obtain ⟨ad', hA', ls0, u1, u2, u3, u4, u5⟩ := q3.2 (by omega)
              rw [q1, hA'] at e1
              injection e1 with e1 _ _
              injection e1 with e1
              subst e1
              exact ⟨ls0, by omega, u2, u3, u4, u5⟩
          obtain ⟨ls0, u1, u2, u3, u4, u5⟩ := hlsx
          have hfl0 := flat_len u2
          rw [u1] at hfl0
          have hge := grownCap_ge w (n + es2.length) cap e
          have hcm := grownCap_le_maxLen w (n + es2.length) cap e c8
          have hrun : (Builtin.append_ #[t, t] o.type #[ρ s, ρ x]).run P w = .ok (.slice (some ⟨w.heap.size, 0, none⟩) (n + es2.length) (grownCap w (n + es2.length) cap e)) (w.drew.alloc (.cells (ls0.flatten.toArray ++ ls.flatten.toArray ++ Builtin.zeroCells z.cells (grownCap w (n + es2.length) cap e - (n + es2.length))) e)) := by
            rw [e1, hx']
            exact run_append_grow (P := P) w t o.type e i z ht hi hz a n cap ls0.flatten hfl0 u5 ad es2.length cap2 ls.flatten hfl y5 (by omega) hsmall (growslice_fits (by omega) c7)
          refine Out.newG hH hnx (ls := ls0 ++ ls) _ (exec_append h ha hat hrun) (by simp; omega) hge hcm ?_ ?_ hpos (fun e he => by rcases List.mem_append.1 he with he | he; exact g6 e (List.mem_of_mem_drop he); exact hel.1 e he) (fun l hl => by rcases List.mem_append.1 hl with hl | hl; exact u2 l hl; exact y2 l hl)
            (by simp [u1, y1]; omega) (fun l hl => by rcases List.mem_append.1 hl with hl | hl; exact u3 l hl; exact y3 l hl) (fun k e l he hl => ?_)
          · simp only [Array.size_append, List.size_toArray, size_zeroCells, hzs, hfl0, hfl, ← Nat.add_mul]
            congr 1
            omega
          · simp only [Array.toList_append, List.flatten_append]
            exact List.prefix_append _ _
          · by_cases hk : k < n
            · rw [List.getElem?_append_left (by omega)] at he
              rw [List.getElem?_append_left (by omega)] at hl
              exact u4 k e l he hl
            · rw [List.getElem?_append_right (by omega)] at he
              rw [List.getElem?_append_right (by omega), u1] at hl
              rw [hdl] at he
              exact y4 _ e l he hl

theorem core_append {args : Array Operand} {ats : Array TypeId} {s x : Operand} {t e : TypeId} {i : TypeInfo} {z : Value} {p q : PVal} (h : o.op = .call { callee := .builtin .append, args, argTypes := ats }) (ha : args.toList = [s, x]) (hat : ats.toList = [t, t])
    (ht : P.underlying t = some (.slice e)) (hi : P.info? e = some i) (hz : i.zero = some z) (hpos : 0 < i.size) (hzs : z.cells.size = i.size) (hH : SimH D m ok heap w) (hnx : ¬ D nx) (hs : Rep w (okn ok m) D m false p (ρ s)) (hx : Rep w (okn ok m) D m false q (ρ x))
    (hc : core (.append i.size e i.bytes) [p, q] heap nx = some r) : Out P o ρ D m ok heap w r := by
  simp only [core] at hc
  cases hel : elems heap q with
  | none =>
    simp only [hel] at hc
    cases p <;> simp only at hc <;> try (cases hc; done)
    rename_i id sz1 lo n
    cases ho : heap id with
    | none => simp [ho] at hc
    | some ob =>
      cases ob <;> simp only [ho] at hc <;> try (cases hc; done)
      rename_i sz1' ty1 es
      cases hel2 : elemsU heap (lenP q) q with
      | none => simp [hel2] at hc
      | some y =>
        obtain ⟨sz2, es2, rh2⟩ := y
        simp only [hel2] at hc
        obtain ⟨A2, n2, cap2, x1, x2, x3, x4⟩ := elemsU_are hH hx hel2
        exact coreAppF_sound h ha hat ht hi hz hpos hzs hH hnx hs ho x1 (by omega) x4 hc
  | some y =>
    obtain ⟨sz2, es2, rh2⟩ := y
    simp only [hel] at hc
    obtain ⟨A2, n2, cap2, x1, x2, x4⟩ := elems_are hH hx hel
    cases p <;> simp only at hc
    case nils =>
      split at hc
      · rename_i hcond
        obtain ⟨c1, c2, c3⟩ := hcond
        subst c1
        injection hc with hc
        subst hc
        have hv0 := rep_nils hs
        rcases Nat.eq_zero_or_pos es2.length with hz2 | c9
        · have he2 : es2 = [] := List.eq_nil_of_length_eq_zero hz2
          subst he2
          simp only [List.length_nil] at x2 ⊢
          subst x2
          have hrun : (Builtin.append_ #[t, t] o.type #[ρ s, ρ x]).run P w = .ok (.slice none 0 0) w := by
            rw [hv0, x1]
            cases A2 <;> simp [Builtin.append_, run_underlying ht, run_sizeOf hi, Builtin.lenOf, Builtin.firstCells, loadCells, loadCellsFrom, storeCells]
          obtain ⟨g1, g2, g3⟩ := hH.reloc (w' := w) none nx .nil (.row i.size e []) rfl rfl rfl (Nat.le_refl _) (fun b hb hn => rfl) (.inr hnx) (fun b t' e => by cases e) (fun hst => ⟨rfl, hpos⟩)
          refine ⟨_, w, (fun i => D i ∨ i = nx), _, .inl (exec_append h ha hat hrun), ?_, g2, .own (.inr rfl) rfl fun B' hB' => ?_, fun i => by simp, g3⟩
          · rw [happ_one]; simpa using g1
          · simp only [if_true, Option.some.injEq] at hB'
            subst hB'
            exact ⟨⟨none, rfl⟩, rfl, rfl⟩
        · obtain ⟨ad, hA, ls, y1, y2, y3, y4, y5⟩ := x4.2 c9
          have hfl := flat_len y2
          rw [y1] at hfl
          have hx' : ρ x = .slice (some ad) es2.length cap2 := by rw [x1, hA, x2]
          have hge := grownCap_ge w es2.length 0 e
          have hcm := grownCap_le_maxLen w es2.length 0 e c3
          have hsm : (es2.length : Int) ≤ 9223372036854775807 := by simp only [maxLen] at c3; omega
          have hr0 := run_append_nil (P := P) w t o.type e i z ht hi hz ad es2.length cap2 ls.flatten hfl y5 (by omega) (by omega) (by simpa using Nat.le_trans c2 (by omega))
          have hrun : (Builtin.append_ #[t, t] o.type #[ρ s, ρ x]).run P w = .ok (.slice (some ⟨w.heap.size, 0, none⟩) es2.length (grownCap w es2.length 0 e)) (w.drew.alloc (.cells (ls.flatten.toArray ++ Builtin.zeroCells z.cells (grownCap w es2.length 0 e - es2.length)) e)) := by
            rw [hv0, hx']
            simpa using hr0
          refine Out.newD hH hnx (ls := ls) _ (exec_append h ha hat hrun) rfl hge hcm ?_ ?_ hpos x4.1 y2 y1 y3 y4
          · simp only [Array.size_append, List.size_toArray, size_zeroCells, hzs, hfl, ← Nat.add_mul]
            congr 1
            omega
          · simp only [Array.toList_append]
            exact List.prefix_append _ _
      · cases hc
    case own id sz1 lo n =>
      cases ho : heap id with
      | none => simp [ho] at hc
      | some ob =>
        cases ob <;> simp only [ho] at hc
        case row sz1' ty1 es =>
          split at hc
          · rename_i hcond
            obtain ⟨c1, c2, c3, c4, c5, c7, c8, c9⟩ := hcond
            injection hc with hc
            subst hc
            subst c1 c4
            rw [c2] at hs
            rw [c3] at ho
            exact append_row_sound h ha hat ht hi hz hpos hzs hH hnx hs ho x1 x2 x4 c5 c7 c8
          · cases hc
        case full sz1' ty1 es =>
          exact coreAppF_sound h ha hat ht hi hz hpos hzs hH hnx hs ho x1 x2 x4 hc
        all_goals cases hc
    all_goals cases hc

end
end Go.Proofs.Ytbmdpedhobkeeaa.Abs
