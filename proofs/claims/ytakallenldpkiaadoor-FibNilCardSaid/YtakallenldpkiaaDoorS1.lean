/- slices.Clone, slices.Insert, slices.Delete at elements of any type: what their code does. Generic over any program. -/
import Derived.Test.YtakallenldpkiaaDoorA26
set_option linter.unusedVariables false
set_option linter.unusedSimpArgs false
set_option maxRecDepth 20000
set_option linter.unusedSectionVars false
namespace Go.Proofs.YtakallenldpkiaaDoor.Abs
open Go
variable [DqC]

def insAC (sz : Nat) (ty : TypeId) (by_ : Nat) (zs : List PVal) (fo fr : FuncId) : AC :=
  .seq (.reg []
    [⟨some 6, none, .mov, [.c .nils]⟩])
  (.seq (.reg []
    [⟨some 10, none, .mov, [.t 0]⟩,
     ⟨some 11, none, .mov, [.t 1]⟩,
     ⟨some 12, none, .slice sz true false, [.t 10, .t 11]⟩])
  (.seq (.reg []
    [⟨some 13, none, .mov, [.t 2]⟩,
     ⟨some 14, none, .lenL, [.t 13]⟩,
     ⟨some 7, none, .mov, [.t 14]⟩])
  (.seq (.seq (.reg []
    [⟨some 15, none, .mov, [.t 7]⟩,
     ⟨some 16, none, .bin .eql .scal, [.t 15, .c (.int .i64 0)]⟩])
  (.cond (.t 16)
  (.seq (.reg []
    [⟨some 17, none, .mov, [.t 0]⟩,
     ⟨some 6, none, .mov, [.t 17]⟩])
  .ret)
  .skip))
  (.seq (.reg []
    [⟨some 18, none, .mov, [.t 0]⟩,
     ⟨some 19, none, .lenL, [.t 18]⟩,
     ⟨some 8, none, .mov, [.t 19]⟩])
  (.seq (.seq (.reg []
    [⟨some 20, none, .mov, [.t 1]⟩,
     ⟨some 21, none, .mov, [.t 8]⟩,
     ⟨some 22, none, .bin .eql .scal, [.t 20, .t 21]⟩])
  (.cond (.t 22)
  (.seq (.reg []
    [⟨some 23, none, .mov, [.t 0]⟩,
     ⟨some 24, none, .mov, [.t 2]⟩,
     ⟨some 25, none, .append sz ty by_, [.t 23, .t 24]⟩,
     ⟨some 6, none, .mov, [.t 25]⟩])
  .ret)
  .skip))
  (.seq (.seq (.reg []
    [⟨some 26, none, .mov, [.t 8]⟩,
     ⟨some 27, none, .mov, [.t 7]⟩,
     ⟨some 28, none, .bin .add .scal, [.t 26, .t 27]⟩,
     ⟨some 29, none, .mov, [.t 0]⟩,
     ⟨some 30, none, .capL, [.t 29]⟩,
     ⟨some 31, none, .bin .gtr .scal, [.t 28, .t 30]⟩])
  (.cond (.t 31)
  (.seq (.reg []
    [⟨some 32, none, .mov, [.t 0]⟩,
     ⟨some 33, none, .mov, [.t 1]⟩,
     ⟨some 34, none, .slice sz false true, [.t 32, .t 33]⟩,
     ⟨some 35, none, .mov, [.t 8]⟩,
     ⟨some 36, none, .mov, [.t 7]⟩,
     ⟨some 37, none, .bin .add .scal, [.t 35, .t 36]⟩,
     ⟨some 38, none, .mov, [.t 1]⟩,
     ⟨some 39, none, .bin .sub .scal, [.t 37, .t 38]⟩,
     ⟨some 40, none, .appendZ sz ty by_ zs, [.t 34, .t 39]⟩,
     ⟨some 9, none, .mov, [.t 40]⟩])
  (.seq (.reg []
    [⟨some 41, none, .mov, [.t 9]⟩,
     ⟨some 42, none, .mov, [.t 1]⟩,
     ⟨some 43, none, .slice sz true false, [.t 41, .t 42]⟩,
     ⟨some 44, none, .mov, [.t 2]⟩,
     ⟨some 45, none, .copy sz, [.t 43, .t 44]⟩])
  (.seq (.reg [[], [], [], [1, 2], [0, 3], [], [], [5, 6], [4, 7]]
    [⟨some 46, none, .mov, [.t 9]⟩,
     ⟨some 47, none, .mov, [.t 1]⟩,
     ⟨some 48, none, .mov, [.t 7]⟩,
     ⟨some 49, none, .bin .add .scal, [.t 47, .t 48]⟩,
     ⟨some 50, none, .slice sz true false, [.t 46, .t 49]⟩,
     ⟨some 51, none, .mov, [.t 0]⟩,
     ⟨some 52, none, .mov, [.t 1]⟩,
     ⟨some 53, none, .slice sz true false, [.t 51, .t 52]⟩,
     ⟨some 54, none, .copy sz, [.t 50, .t 53]⟩])
  (.seq (.reg []
    [⟨some 55, none, .mov, [.t 9]⟩,
     ⟨some 6, none, .mov, [.t 55]⟩])
  .ret))))
  .skip))
  (.seq (.reg []
    [⟨some 56, none, .mov, [.t 0]⟩,
     ⟨some 57, none, .mov, [.t 8]⟩,
     ⟨some 58, none, .mov, [.t 7]⟩,
     ⟨some 59, none, .bin .add .scal, [.t 57, .t 58]⟩,
     ⟨some 60, none, .slice sz false true, [.t 56, .t 59]⟩,
     ⟨some 0, none, .mov, [.t 60]⟩])
  (.seq (.seq (.reg []
    [⟨some 61, none, .mov, [.t 2]⟩,
     ⟨some 62, none, .mov, [.t 0]⟩,
     ⟨some 63, none, .mov, [.t 1]⟩,
     ⟨some 64, none, .mov, [.t 7]⟩,
     ⟨some 65, none, .bin .add .scal, [.t 63, .t 64]⟩,
     ⟨some 66, none, .slice sz true false, [.t 62, .t 65]⟩,
     ⟨some 67, none, .call fo, [.t 61, .t 66]⟩,
     ⟨some 68, none, .unNot, [.t 67]⟩])
  (.cond (.t 68)
  (.seq (.reg [[], [], [], [1, 2], [0, 3], [], [], [5, 6], [4, 7]]
    [⟨some 69, none, .mov, [.t 0]⟩,
     ⟨some 70, none, .mov, [.t 1]⟩,
     ⟨some 71, none, .mov, [.t 7]⟩,
     ⟨some 72, none, .bin .add .scal, [.t 70, .t 71]⟩,
     ⟨some 73, none, .slice sz true false, [.t 69, .t 72]⟩,
     ⟨some 74, none, .mov, [.t 0]⟩,
     ⟨some 75, none, .mov, [.t 1]⟩,
     ⟨some 76, none, .slice sz true false, [.t 74, .t 75]⟩,
     ⟨some 77, none, .copy sz, [.t 73, .t 76]⟩])
  (.seq (.reg []
    [⟨some 78, none, .mov, [.t 0]⟩,
     ⟨some 79, none, .mov, [.t 1]⟩,
     ⟨some 80, none, .slice sz true false, [.t 78, .t 79]⟩,
     ⟨some 81, none, .mov, [.t 2]⟩,
     ⟨some 82, none, .copy sz, [.t 80, .t 81]⟩])
  (.seq (.reg []
    [⟨some 83, none, .mov, [.t 0]⟩,
     ⟨some 6, none, .mov, [.t 83]⟩])
  .ret)))
  .skip))
  (.seq (.reg []
    [⟨some 84, none, .mov, [.t 0]⟩,
     ⟨some 85, none, .mov, [.t 8]⟩,
     ⟨some 86, none, .slice sz true false, [.t 84, .t 85]⟩,
     ⟨some 87, none, .mov, [.t 2]⟩,
     ⟨some 88, none, .copy sz, [.t 86, .t 87]⟩])
  (.seq (.reg []
    [⟨some 89, none, .mov, [.t 0]⟩,
     ⟨some 90, none, .mov, [.t 1]⟩,
     ⟨some 91, none, .slice sz true false, [.t 89, .t 90]⟩,
     ⟨some 92, none, .mov, [.t 7]⟩,
     ⟨some 93, none, .call fr, [.t 91, .t 92]⟩])
  (.seq (.reg []
    [⟨some 94, none, .mov, [.t 0]⟩,
     ⟨some 6, none, .mov, [.t 94]⟩])
  .ret)))))))))))

def delAC (sz : Nat) (ty : TypeId) (by_ : Nat) (zs : List PVal) : AC :=
  .seq (.reg []
    [⟨some 6, none, .mov, [.c .nils]⟩])
  (.seq (.reg []
    [⟨some 8, none, .mov, [.t 0]⟩,
     ⟨some 9, none, .mov, [.t 1]⟩,
     ⟨some 10, none, .mov, [.t 2]⟩,
     ⟨some 11, none, .mov, [.t 0]⟩,
     ⟨some 12, none, .lenL, [.t 11]⟩,
     ⟨some 13, none, .slice3 sz, [.t 8, .t 9, .t 10, .t 12]⟩])
  (.seq (.seq (.reg []
    [⟨some 14, none, .mov, [.t 1]⟩,
     ⟨some 15, none, .mov, [.t 2]⟩,
     ⟨some 16, none, .bin .eql .scal, [.t 14, .t 15]⟩])
  (.cond (.t 16)
  (.seq (.reg []
    [⟨some 17, none, .mov, [.t 0]⟩,
     ⟨some 6, none, .mov, [.t 17]⟩])
  .ret)
  .skip))
  (.seq (.reg []
    [⟨some 18, none, .mov, [.t 0]⟩,
     ⟨some 19, none, .lenL, [.t 18]⟩,
     ⟨some 7, none, .mov, [.t 19]⟩])
  (.seq (.reg [[], [], [0, 1], [], [], [3, 4], [2, 5], [6, 6, 0, 1, 2, 3, 4, 5, 6]]
    [⟨some 20, none, .mov, [.t 0]⟩,
     ⟨some 21, none, .mov, [.t 1]⟩,
     ⟨some 22, none, .slice sz false true, [.t 20, .t 21]⟩,
     ⟨some 23, none, .mov, [.t 0]⟩,
     ⟨some 24, none, .mov, [.t 2]⟩,
     ⟨some 25, none, .slice sz true false, [.t 23, .t 24]⟩,
     ⟨some 26, none, .append sz ty by_, [.t 22, .t 25]⟩,
     ⟨some 0, none, .mov, [.t 26]⟩])
  (.seq (.reg []
    [⟨some 27, none, .mov, [.t 0]⟩,
     ⟨some 28, none, .mov, [.t 0]⟩,
     ⟨some 29, none, .lenL, [.t 28]⟩,
     ⟨some 30, none, .mov, [.t 7]⟩,
     ⟨some 31, none, .slice sz true true, [.t 27, .t 29, .t 30]⟩,
     ⟨none, none, .clear sz zs, [.t 31]⟩])
  (.seq (.reg []
    [⟨some 32, none, .mov, [.t 0]⟩,
     ⟨some 6, none, .mov, [.t 32]⟩])
  .ret))))))

def cloneAC (sz : Nat) (ty : TypeId) (by_ : Nat) : AC :=
  .seq (.reg []
    [⟨some 2, none, .mov, [.c .nils]⟩])
  (.seq (.seq (.reg []
    [⟨some 3, none, .mov, [.t 0]⟩,
     ⟨some 4, none, .bin .eql .sl, [.t 3, .c .nils]⟩])
  (.cond (.t 4)
  (.seq (.reg []
    [⟨some 2, none, .mov, [.c .nils]⟩])
  .ret)
  .skip))
  (.seq (.reg []
    [⟨some 5, none, .bslice sz ty, []⟩,
     ⟨some 6, none, .mov, [.t 0]⟩,
     ⟨some 7, none, .append sz ty by_, [.t 5, .t 6]⟩,
     ⟨some 2, none, .mov, [.t 7]⟩])
  .ret))
theorem elems_row {h : Heap} {id sz ty m : Nat} {es : List (List PVal)} (ho : h id = some (.row sz ty es)) (hm : m = es.length) : elems h (.own id sz 0 m) = some (sz, es, [id]) := by
  subst hm
  simp [elems, ho]

theorem elemsU_row {h : Heap} {id sz ty m k : Nat} {es : List (List PVal)} (ho : h id = some (.row sz ty es)) (hm : m = es.length) (hk : es.length ≤ k) : elemsU h k (.own id sz 0 m) = some (sz, es, [id]) := by
  subst hm
  simp [elemsU, ho, List.take_of_length_le hk]

theorem knownL_append {a b : List (List PVal)} : knownL (a ++ b) = (knownL a && knownL b) := by simp [knownL]
theorem knownL_ins {es vs : List (List PVal)} {i : Nat} (h1 : knownL es = true) (h2 : knownL vs = true) : knownL (es.take i ++ vs ++ es.drop i) = true := by
  rw [knownL_append, knownL_append, h2]
  simp only [knownL, List.all_eq_true, Bool.and_eq_true] at h1 ⊢
  exact ⟨⟨fun e he => h1 e (List.mem_of_mem_take he), trivial⟩, fun e he => h1 e (List.mem_of_mem_drop he)⟩

theorem knownL_take {es : List (List PVal)} {i : Nat} (h : knownL es = true) : knownL (es.take i) = true := by
  simp only [knownL, List.all_eq_true] at h ⊢
  exact fun e he => h e (List.mem_of_mem_take he)
theorem overE_take {A X : List (List PVal)} {lo : Nat} (h : lo ≤ A.length) : (overE A lo X).take (lo + X.length) = A.take lo ++ X := by
  unfold overE
  exact List.take_left' (by simp; omega)

theorem elemsU_full {h : Heap} {id sz ty lo m k : Nat} {es es2 : List (List PVal)} (ho : h id = some (.full sz ty es)) (hl : lo + m ≤ es.length) (hk : knownL (es.take (lo + min k m)) = true) (he : ((es.drop lo).take m).take k = es2) : elemsU h k (.own id sz lo m) = some (sz, es2, [id]) := by
  subst he
  simp only [elemsU, ho]
  rw [if_pos ⟨trivial, hl, hk⟩]

/-- The end of a function that took two objects, or one, and leaves one row. -/
theorem ret_row {P : Program} {n k0 t id sz ty q next : Nat} {r : List AC} {env : List (Nat × PVal)} {heap : List (AId × AObj)} {es : List (List PVal)} (ht : env.lookup t = some (.own id sz 0 q)) (ho : heap.lookup id = some (.row sz ty es)) (hk : k0 ≤ next) :
    WK P n k0 (.ret :: r) (RetQ k0 [.t t] (.own k0 sz 0 q) [(k0, .row sz ty es)] (k0 + 1)) ⟨env, heap, next⟩ := by
  refine WK.conv (Conv.move ho ht) ?_ (by simp)
  refine WK.ret ?_
  have hposA : ∀ (l : List Nat) (j k : Nat), (∀ x ∈ l, x ≠ j) → posAt (l ++ [j]) j k = some (k + l.length) := by
    intro l
    induction l with
    | nil => intro j k _; simp [posAt]
    | cons a l ih =>
      intro j k h
      have : a ≠ j := h a (by simp)
      simp only [List.cons_append, posAt]
      rw [ih j (k + 1) (fun x hx => h x (List.mem_cons_of_mem _ hx))]
      simp [this, List.length_cons]
      omega
  have hpos : posAt (List.range k0 ++ [next]) next 0 = some k0 := by
    rw [hposA _ _ _ (fun x hx => by have := List.mem_range.1 hx; omega)]
    simp
  have hsub : ∀ (l : List Nat) (k : Nat) (sl : List Nat), (∀ x ∈ l, x ≠ next) → subR [(next, AObj.row sz ty es)] sl [] (l ++ [next]) k = some [(k + l.length, .row sz ty es)] := by
    intro l
    induction l with
    | nil => intro k sl _; simp [subR, List.lookup, viewO]
    | cons a l ih =>
      intro k sl h
      have : (a == next) = false := by simpa using h a (by simp)
      simp only [List.cons_append, subR, List.lookup, this]
      rw [ih (k + 1) sl (fun x hx => h x (List.mem_cons_of_mem _ hx))]
      simp
      omega
  refine RetQ.doneR (.inr rfl) (qs := [.own next sz 0 q]) (qs' := [.own k0 sz 0 q]) (sl := List.range k0 ++ [next]) (bi := []) ?_ (fun i hi => ?_) (by simp) ?_ ?_ ?_ .refl (by simp)
  · simp [evalRs, evalRV, List.lookup]
  · rw [List.getElem?_append_left (by simpa using hi), List.getElem?_range hi]
  · simp only [slOk, Bool.and_eq_true, decide_eq_true_eq, List.all_eq_true]
    refine ⟨?_, fun id hid => ?_⟩
    · rw [List.nodup_append]
      refine ⟨List.nodup_range, by simp, fun a ha b hb => ?_⟩
      have := List.mem_range.1 ha
      simp at hb
      omega
    · simp only [List.mem_append, List.mem_range, List.mem_singleton] at hid
      simp
      omega
  · have := hsub (List.range k0) 0 (List.range k0 ++ [next]) (fun x hx => by have := List.mem_range.1 hx; omega)
    simpa [pickH] using this
  · simp [viewP.go, viewP, hpos]

theorem core_bslice0 {h : Heap} {nx sz ty : Nat} (hsz : 0 < sz) : core (.bslice sz ty) [] h nx = some { v := .own nx sz 0 0, wh := [(nx, some (.row sz ty []))], nw := [nx] } := by
  simp [core, elemsOf, hsz]
theorem core_eqlnil {h : Heap} {nx : Nat} {sz : Nat} (es : List (List PVal)) : core (.bin .eql .sl) [.ro sz es, .nils] h nx = some { v := if 0 < es.length then .bool false else .anyb } := by
  rfl

section
variable {P : Program} {f : FuncId} {sz ty by_ : Nat} {zs : List PVal} {fo fr : FuncId}

theorem insert_ok (mixed : P.follows .mixedOrders = true) (hi : fnInfo P f = some (95, [.t 6], insAC sz ty by_ zs fo fr)) (hov : OvlFn P fo sz) (es vs : List (List PVal)) (i : Nat) (hin : i ≤ es.length) (hm : 0 < vs.length)
    (hb : (es.length + vs.length) * by_ ≤ 140737488355328) (hmx : es.length + vs.length < 2 ^ 62) (hes : knownL es = true) (hvs : knownL vs = true) :
    FnOk P f [.own 0 sz 0 es.length, .int .i64 i, .own 1 sz 0 vs.length] [(0, .row sz ty es), (1, .row sz ty vs)] 2 (.own 2 sz 0 (es.length + vs.length)) [(2, .row sz ty (es.take i ++ vs ++ es.drop i))] 3 := by
  refine FnOk.wk hi rfl rfl ?_
  unfold insAC
  simp only [paramE, Nat.reduceAdd]
  refine WK.seq (WK.full (id := 0) rfl (fun k => rfl) fun k => ?_)
  generalize hF : es ++ List.replicate k (List.replicate sz PVal.undef) = F
  have hFl : F.length = es.length + k := by rw [← hF]; simp
  have hFt : F.take es.length = es := by rw [← hF]; exact List.take_left
  refine WK.regx mixed ?_
  repeat (first | refine GX.m rfl ?_ | refine GX.pure rfl rfl rfl rfl rfl ?_)
  refine GX.done ?_
  refine WK.seq (WK.regx mixed ?_)
  repeat (first | refine GX.m rfl ?_ | refine GX.pure rfl rfl rfl rfl rfl ?_)
  refine GX.pure rfl rfl rfl (core_sliceFlo rfl (Int.natCast_nonneg _) (by omega) (by omega) rfl rfl) rfl ?_
  refine GX.done ?_
  refine WK.seq (WK.regx mixed ?_)
  repeat (first | refine GX.m rfl ?_ | refine GX.pure rfl rfl rfl rfl rfl ?_)
  refine GX.done ?_
  refine WK.seq (WK.seq (WK.regx mixed ?_))
  repeat (first | refine GX.m rfl ?_ | refine GX.pure rfl rfl rfl rfl rfl ?_)
  refine GX.done ?_
  have hd : decide ((vs.length : Int) = 0) = false := decide_eq_false fun h => by omega
  simp only [hd]
  refine WK.condF rfl ?_
  refine WK.skip ?_
  refine WK.seq (WK.regx mixed ?_)
  repeat (first | refine GX.m rfl ?_ | refine GX.pure rfl rfl rfl rfl rfl ?_)
  refine GX.done ?_
  refine WK.seq (WK.seq (WK.regx mixed ?_))
  repeat (first | refine GX.m rfl ?_ | refine GX.pure rfl rfl rfl rfl rfl ?_)
  refine GX.done ?_
  by_cases hin' : i = es.length
  · subst hin'
    have hd : decide ((es.length : Int) = (es.length : Int)) = true := decide_eq_true rfl
    simp only [hd]
    refine WK.condT rfl ?_
    refine WK.seq (WK.regx mixed ?_)
    refine GX.pure rfl rfl rfl rfl rfl (GX.pure rfl rfl rfl rfl rfl ?_)
    by_cases hroom : es.length + vs.length ≤ F.length
    · refine GX.step rfl rfl rfl (core_appFin rfl (.inl (elems_row rfl rfl)) (by omega) hroom rfl rfl) rfl rfl rfl ?_
      repeat (first | refine GX.m rfl ?_ | refine GX.pure rfl rfl rfl rfl rfl ?_)
      refine GX.done ?_
      refine WK.conv (Conv.unfull (id := 2) (es' := es.take es.length ++ vs ++ es.drop es.length) (es.length + vs.length) rfl ?_ (knownL_ins hes hvs) rfl) (ret_row (id := 2) rfl rfl (by decide)) (by simp)
      simp only [overE, hFt, List.take_length, List.drop_length, List.append_nil]
      exact List.take_left' (by simp)
    · refine GX.step rfl rfl rfl (core_appFgrow (es' := es.take es.length ++ vs ++ es.drop es.length) rfl (elems_row rfl rfl) (by omega) hm (by omega) hb (by simp only [maxLen]; omega) (by rw [hFt]; exact hes) (by rw [hFt]; simp) rfl) rfl rfl rfl ?_
      repeat (first | refine GX.m rfl ?_ | refine GX.pure rfl rfl rfl rfl rfl ?_)
      refine GX.done ?_
      exact ret_row (id := 2) rfl rfl (by decide)
  have hd : decide ((i : Int) = (es.length : Int)) = false := decide_eq_false fun h => hin' (Int.ofNat.inj h)
  simp only [hd]
  refine WK.condF rfl ?_
  refine WK.skip ?_
  refine WK.seq (WK.seq (WK.regx mixed ?_))
  repeat (first | refine GX.m rfl ?_ | refine GX.pure rfl rfl rfl rfl rfl ?_)
  refine GX.done ?_
  have hw : IntKind.i64.wrap ((es.length : Int) + (vs.length : Int)) = ((es.length + vs.length : Nat) : Int) := by rw [wrap64_of] <;> omega
  simp only [hw]
  by_cases hroom : F.length < es.length + vs.length
  · have hd : decide (((F.length - 0 : Nat) : Int) < ((es.length + vs.length : Nat) : Int)) = true := decide_eq_true (by omega)
    simp only [hd]
    refine WK.condT rfl ?_
    refine WK.seq (WK.regx mixed ?_)
    repeat (first | refine GX.m rfl ?_ | refine GX.pure rfl rfl rfl rfl rfl ?_)
    refine GX.pure rfl rfl rfl (core_sliceFhi rfl (Int.natCast_nonneg _) (by omega) (by omega) rfl) rfl ?_
    repeat (first | refine GX.m rfl ?_ | refine GX.pure rfl rfl rfl rfl rfl ?_)
    have hw2 : IntKind.i64.wrap (((es.length + vs.length : Nat) : Int) - (i : Int)) = ((es.length + vs.length - i : Nat) : Int) := by rw [wrap64_of] <;> omega
    simp only [hw, hw2, Int.toNat_natCast]
    have hFi : F.take i = es.take i := by rw [← hF, List.take_append_of_le_length hin]
    refine GX.step rfl rfl rfl (core_appZF (es' := es.take i ++ List.replicate (es.length + vs.length - i) zs) (u := es.length + vs.length) rfl (by omega) (by omega) (by simp; omega) (by simp; rw [show i + (es.length + vs.length - i) = es.length + vs.length by omega]; exact hb) (by simp [maxLen]; omega) (by rw [hFi]; exact knownL_take hes) (by simp [hFi]) (by simp; omega)) rfl rfl rfl ?_
    repeat (first | refine GX.m rfl ?_ | refine GX.pure rfl rfl rfl rfl rfl ?_)
    refine GX.done ?_
    refine WK.full (id := 2) rfl (fun k => rfl) fun k2 => ?_
    generalize hG : es.take i ++ List.replicate (es.length + vs.length - i) zs ++ List.replicate k2 (List.replicate sz PVal.undef) = G
    have hGl : G.length = es.length + vs.length + k2 := by rw [← hG]; simp; omega
    have hGi : G.take i = es.take i := by rw [← hG, List.append_assoc]; exact List.take_left' (by simp; omega)
    refine WK.seq (WK.regx mixed ?_)
    repeat (first | refine GX.m rfl ?_ | refine GX.pure rfl rfl rfl rfl rfl ?_)
    refine GX.pure rfl rfl rfl (core_sliceFlo (u := i) (v := es.length + vs.length - i) rfl (Int.natCast_nonneg _) (by omega) (by omega) (by simp) (by simp)) rfl ?_
    repeat (first | refine GX.m rfl ?_ | refine GX.pure rfl rfl rfl rfl rfl ?_)
    refine GX.step rfl rfl rfl (core_copyF rfl (elemsU_row rfl rfl (by omega)) (by omega) (by omega) rfl) rfl rfl rfl ?_
    refine GX.done ?_
    have hw3 : IntKind.i64.wrap ((i : Int) + (vs.length : Int)) = ((i + vs.length : Nat) : Int) := by rw [wrap64_of] <;> omega
    refine WK.seq (WK.drawn mixed ?_)
    repeat (first | refine RD.m rfl ?_ | refine RD.pure rfl rfl rfl rfl rfl ?_)
    simp only [hw3]
    refine RD.pure rfl rfl rfl (core_sliceFlo (u := i + vs.length) (v := es.length - i) rfl (Int.natCast_nonneg _) (by omega) (by rw [overE_length (by omega)]; omega) (by omega) (by omega)) rfl ?_
    repeat (first | refine RD.m rfl ?_ | refine RD.pure rfl rfl rfl rfl rfl ?_)
    refine RD.pure rfl rfl rfl (core_sliceFlo (u := i) (v := es.length - i) rfl (Int.natCast_nonneg _) (by omega) (by omega) (by simp) (by simp)) rfl ?_
    refine RD.step rfl rfl rfl (core_copyF rfl (elemsU_full (es2 := es.drop i) rfl (by omega) ?_ ?_) (by rw [overE_length (by omega)]; omega) (by omega) rfl) rfl rfl rfl ?_
    · rw [show i + min (es.length - i) (es.length - i) = es.length by omega, hFt]; exact hes
    · rw [← hF, List.drop_append_of_le_length hin, List.take_take, List.take_left' (by simp)]
    refine RD.done rfl ?_
    refine WK.seq (WK.regx mixed ?_)
    repeat (first | refine GX.m rfl ?_ | refine GX.pure rfl rfl rfl rfl rfl ?_)
    refine GX.done ?_
    refine WK.conv (Conv.unfull (id := 2) (es' := es.take i ++ vs ++ es.drop i) (es.length + vs.length) rfl ?_ (knownL_ins hes hvs) rfl) (ret_row (id := 2) rfl rfl (by decide)) (by simp)
    rw [show es.length + vs.length = (i + vs.length) + (es.drop i).length by simp; omega, overE_take (by rw [overE_length (by omega)]; omega), overE_take (by omega), hGi]
  have hd : decide (((F.length - 0 : Nat) : Int) < ((es.length + vs.length : Nat) : Int)) = false := decide_eq_false (by omega)
  simp only [hd]
  refine WK.condF rfl ?_
  refine WK.skip ?_
  have hw3 : IntKind.i64.wrap ((i : Int) + (vs.length : Int)) = ((i + vs.length : Nat) : Int) := by rw [wrap64_of] <;> omega
  refine WK.seq (WK.regx mixed ?_)
  repeat (first | refine GX.m rfl ?_ | refine GX.pure rfl rfl rfl rfl rfl ?_)
  simp only [hw]
  refine GX.pure rfl rfl rfl (core_sliceFhi (u := es.length + vs.length) rfl (Int.natCast_nonneg _) (by omega) (by omega) (by omega)) rfl ?_
  repeat (first | refine GX.m rfl ?_ | refine GX.pure rfl rfl rfl rfl rfl ?_)
  refine GX.done ?_
  refine WK.seq (WK.seq (WK.regx mixed ?_))
  repeat (first | refine GX.m rfl ?_ | refine GX.pure rfl rfl rfl rfl rfl ?_)
  simp only [hw3]
  refine GX.pure rfl rfl rfl (core_sliceFlo (u := i + vs.length) (v := es.length - i) rfl (Int.natCast_nonneg _) (by omega) (by omega) (by omega) (by omega)) rfl ?_
  refine ⟨GO.ovl rfl rfl hov rfl rfl rfl (.inl rfl) (.inr rfl) hm (by omega) (by decide) (GX.run ?_)⟩
  repeat (first | refine GX.m rfl ?_ | refine GX.pure rfl rfl rfl rfl rfl ?_)
  refine GX.done ?_
  refine WK.condT rfl ?_
  refine WK.seq (WK.drawn mixed ?_)
  repeat (first | refine RD.m rfl ?_ | refine RD.pure rfl rfl rfl rfl rfl ?_)
  simp only [hw3]
  refine RD.pure rfl rfl rfl (core_sliceFlo (u := i + vs.length) (v := es.length - i) rfl (Int.natCast_nonneg _) (by omega) (by omega) (by omega) (by omega)) rfl ?_
  repeat (first | refine RD.m rfl ?_ | refine RD.pure rfl rfl rfl rfl rfl ?_)
  refine RD.pure rfl rfl rfl (core_sliceFlo (u := i) (v := es.length + vs.length - i) rfl (Int.natCast_nonneg _) (by omega) (by omega) (by omega) (by omega)) rfl ?_
  refine RD.step rfl rfl rfl (core_copyF rfl (elemsU_full (es2 := es.drop i) rfl (by omega) ?_ ?_) (by omega) (by omega) rfl) rfl rfl rfl ?_
  · rw [show i + min (es.length - i) (es.length + vs.length - i) = es.length by omega, hFt]; exact hes
  · rw [← hF, List.drop_append_of_le_length hin, List.take_take, show min (es.length - i) (es.length + vs.length - i) = (es.drop i).length by simp; omega]
    exact List.take_left
  refine RD.done rfl ?_
  have hDl : (es.drop i).length = es.length - i := by simp
  have hl1 : (overE F (i + vs.length) (es.drop i)).length = F.length := overE_length (by omega)
  refine WK.seq (WK.regx mixed ?_)
  repeat (first | refine GX.m rfl ?_ | refine GX.pure rfl rfl rfl rfl rfl ?_)
  refine GX.pure rfl rfl rfl (core_sliceFlo (u := i) (v := es.length + vs.length - i) rfl (Int.natCast_nonneg _) (by omega) (by omega) (by omega) (by omega)) rfl ?_
  repeat (first | refine GX.m rfl ?_ | refine GX.pure rfl rfl rfl rfl rfl ?_)
  refine GX.step rfl rfl rfl (core_copyF rfl (elemsU_row rfl rfl (by omega)) (by omega) (by omega) rfl) rfl rfl rfl ?_
  refine GX.done ?_
  refine WK.seq (WK.regx mixed ?_)
  repeat (first | refine GX.m rfl ?_ | refine GX.pure rfl rfl rfl rfl rfl ?_)
  refine GX.done ?_
  have hFi : F.take i = es.take i := by rw [← hF, List.take_append_of_le_length hin]
  refine WK.conv (Conv.unfull (id := 0) (es' := es.take i ++ vs ++ es.drop i) (es.length + vs.length) rfl ?_ (knownL_ins hes hvs) rfl) (ret_row (id := 0) rfl rfl (by decide)) (by simp)
  have e1 : (overE F (i + vs.length) (es.drop i)).take i = es.take i := by
    unfold overE
    rw [List.append_assoc, List.take_append_of_le_length (by simp; omega), List.take_take, show min i (i + vs.length) = i by omega, hFi]
  have e2 : (overE F (i + vs.length) (es.drop i)).drop (i + vs.length) = es.drop i ++ F.drop (i + vs.length + (es.drop i).length) := by
    unfold overE
    rw [List.append_assoc, List.drop_left' (by simp; omega)]
  unfold overE at *
  rw [e1, e2, ← List.append_assoc]
  exact List.take_left' (by simp; omega)

/-- The end of a function whose row's block is told. -/
theorem ret_full {P : Program} {n k0 t id sz ty q next : Nat} {r : List AC} {env : List (Nat × PVal)} {heap : List (AId × AObj)} {F es : List (List PVal)} (ht : env.lookup t = some (.own id sz 0 q)) (ho : heap.lookup id = some (.full sz ty F)) (he : F.take q = es) (hk : knownL es = true) (hk0 : k0 ≤ next) :
    WK P n k0 (.ret :: r) (RetQ k0 [.t t] (.own k0 sz 0 q) [(k0, .row sz ty es)] (k0 + 1)) ⟨env, heap, next⟩ :=
  WK.conv (Conv.unfull q ho he hk rfl) (ret_row ht (by rw [lookup_setH, if_pos rfl]) hk0) (by simp)

theorem delete_ok (mixed : P.follows .mixedOrders = true) (hi : fnInfo P f = some (33, [.t 6], delAC sz ty by_ zs)) (es : List (List PVal)) (i j : Nat) (hij : i ≤ j) (hjn : j ≤ es.length) (hmx : es.length < 2 ^ 62) (hes : knownL es = true) :
    FnOk P f [.own 0 sz 0 es.length, .int .i64 i, .int .i64 j] [(0, .row sz ty es)] 1 (.own 1 sz 0 (es.length - (j - i))) [(1, .row sz ty (es.take i ++ es.drop j))] 2 := by
  refine FnOk.wk hi rfl rfl ?_
  unfold delAC
  simp only [paramE, Nat.reduceAdd]
  refine WK.seq (WK.full (id := 0) rfl (fun k => rfl) fun k => ?_)
  generalize hF : es ++ List.replicate k (List.replicate sz PVal.undef) = F
  have hFl : F.length = es.length + k := by rw [← hF]; simp
  have hFt : F.take es.length = es := by rw [← hF]; exact List.take_left
  have hFi : F.take i = es.take i := by rw [← hF, List.take_append_of_le_length (by omega)]
  have hkn : knownL (es.take i ++ es.drop j) = true := by
    rw [knownL_append]
    simp only [knownL, List.all_eq_true, Bool.and_eq_true] at hes ⊢
    exact ⟨fun e he => hes e (List.mem_of_mem_take he), fun e he => hes e (List.mem_of_mem_drop he)⟩
  refine WK.regx mixed ?_
  repeat (first | refine GX.m rfl ?_ | refine GX.pure rfl rfl rfl rfl rfl ?_)
  refine GX.done ?_
  refine WK.seq (WK.regx mixed ?_)
  repeat (first | refine GX.m rfl ?_ | refine GX.pure rfl rfl rfl rfl rfl ?_)
  refine GX.pure rfl rfl rfl (core_slice3F rfl (Int.natCast_nonneg _) (by omega) (by omega) (by omega)) rfl ?_
  refine GX.done ?_
  refine WK.seq (WK.seq (WK.regx mixed ?_))
  repeat (first | refine GX.m rfl ?_ | refine GX.pure rfl rfl rfl rfl rfl ?_)
  refine GX.done ?_
  by_cases hij' : i = j
  · subst hij'
    have hd : decide ((i : Int) = (i : Int)) = true := decide_eq_true rfl
    simp only [hd]
    refine WK.condT rfl ?_
    refine WK.seq (WK.regx mixed ?_)
    repeat (first | refine GX.m rfl ?_ | refine GX.pure rfl rfl rfl rfl rfl ?_)
    refine GX.done ?_
    rw [Nat.sub_self, Nat.sub_zero]
    refine ret_full (id := 0) rfl rfl ?_ hkn (by decide)
    rw [hFt, List.take_append_drop]
  have hd : decide ((i : Int) = (j : Int)) = false := decide_eq_false fun h => hij' (Int.ofNat.inj h)
  simp only [hd]
  refine WK.condF rfl ?_
  refine WK.skip ?_
  refine WK.seq (WK.regx mixed ?_)
  repeat (first | refine GX.m rfl ?_ | refine GX.pure rfl rfl rfl rfl rfl ?_)
  refine GX.done ?_
  refine WK.seq (WK.drawn mixed ?_)
  repeat (first | refine RD.m rfl ?_ | refine RD.pure rfl rfl rfl rfl rfl ?_)
  refine RD.pure rfl rfl rfl (core_sliceFhi (u := i) rfl (Int.natCast_nonneg _) (by omega) (by omega) (by omega)) rfl ?_
  repeat (first | refine RD.m rfl ?_ | refine RD.pure rfl rfl rfl rfl rfl ?_)
  refine RD.pure rfl rfl rfl (core_sliceFlo (u := j) (v := es.length - j) rfl (Int.natCast_nonneg _) (by omega) (by omega) (by omega) (by omega)) rfl ?_
  have hDl : (es.drop j).length = es.length - j := by simp
  refine RD.step rfl rfl rfl (core_appFin (u := es.length - (j - i)) rfl (.inr ⟨rfl, elemsU_full (es2 := es.drop j) rfl (by omega) ?_ ?_⟩) (by omega) (by omega) rfl (by omega)) rfl rfl rfl ?_
  · simp only [lenP]
    rw [show j + min (es.length - j) (es.length - j) = es.length by omega, hFt]; exact hes
  · simp only [lenP]
    rw [← hF, List.drop_append_of_le_length hjn, List.take_take, List.take_left' (by simp)]
  repeat (first | refine RD.m rfl ?_ | refine RD.pure rfl rfl rfl rfl rfl ?_)
  refine RD.done rfl ?_
  have hl1 : (overE F i (es.drop j)).length = F.length := overE_length (by omega)
  refine WK.seq (WK.regx mixed ?_)
  repeat (first | refine GX.m rfl ?_ | refine GX.pure rfl rfl rfl rfl rfl ?_)
  refine GX.pure rfl rfl rfl (core_sliceFboth (u := es.length - (j - i)) (v := j - i) rfl (Int.natCast_nonneg _) (by omega) (by omega) (by omega) (by omega) (by omega)) rfl ?_
  refine GX.step0 rfl rfl (core_clearF rfl (by omega) (by omega) rfl) rfl rfl ?_
  refine GX.done ?_
  refine WK.seq (WK.regx mixed ?_)
  repeat (first | refine GX.m rfl ?_ | refine GX.pure rfl rfl rfl rfl rfl ?_)
  refine GX.done ?_
  refine ret_full (id := 1) rfl rfl ?_ hkn (by decide)
  have e1 := overE_take (A := F) (X := es.drop j) (lo := i) (by omega)
  rw [hDl, hFi, show i + (es.length - j) = es.length - (j - i) by omega] at e1
  rw [← e1]
  unfold overE
  rw [List.append_assoc, List.take_append_of_le_length (by simp; omega), List.take_take, Nat.min_self]

theorem clone_gen (mixed : P.follows .mixedOrders = true) (hi : fnInfo P f = some (8, [.t 2], cloneAC sz ty by_)) (es : List (List PVal)) (hsz : 0 < sz) (hb : es.length * by_ ≤ 140737488355328) (hmx : es.length ≤ 9223372036854775807) (r : PVal) (h1 : List (AId × AObj)) (k1 : Nat)
    (E1 : es = [] → ∀ rest, WK P 8 0 (.ret :: rest) (RetQ 0 [.t 2] r h1 k1) ⟨[(2, .nils), (4, if 0 < es.length then .bool false else .anyb), (3, .ro sz es), (2, .nils), (0, .ro sz es)], [], 0⟩)
    (E2 : WK P 8 0 [.ret] (RetQ 0 [.t 2] r h1 k1) ⟨[(2, .own 1 sz 0 es.length), (7, .own 1 sz 0 es.length), (6, .ro sz es), (5, .own 0 sz 0 0), (4, if 0 < es.length then .bool false else .anyb), (3, .ro sz es), (2, .nils), (0, .ro sz es)], [(1, .row sz ty es)], 2⟩) :
    FnOk P f [.ro sz es] [] 0 r h1 k1 := by
  have key : ∀ (Q : Exit → St → Prop), WK P 8 0 [.ret] Q ⟨[(2, .own 1 sz 0 es.length), (7, .own 1 sz 0 es.length), (6, .ro sz es), (5, .own 0 sz 0 0), (4, if 0 < es.length then .bool false else .anyb), (3, .ro sz es), (2, .nils), (0, .ro sz es)], [(1, .row sz ty es)], 2⟩ → 
      WK P 8 0 [.seq (.reg [] [⟨some 5, none, .bslice sz ty, []⟩, ⟨some 6, none, .mov, [.t 0]⟩, ⟨some 7, none, .append sz ty by_, [.t 5, .t 6]⟩, ⟨some 2, none, .mov, [.t 7]⟩]) .ret] Q
        ⟨[(4, if 0 < es.length then .bool false else .anyb), (3, .ro sz es), (2, .nils), (0, .ro sz es)], [], 0⟩ := by
    intro Q hQ
    refine WK.seq (WK.regx mixed ?_)
    refine GX.step rfl rfl rfl (core_bslice0 hsz) rfl rfl rfl ?_
    refine GX.pure rfl rfl rfl rfl rfl ?_
    refine ⟨GO.app (es := []) (rh2 := []) (heap' := [(1, .row sz ty es)]) rfl rfl rfl rfl rfl rfl (by simpa using hb) (by simpa [maxLen] using hmx) rfl rfl rfl (GX.run ?_)⟩
    refine GX.pure rfl rfl rfl rfl rfl ?_
    refine GX.done ?_
    simpa using hQ
  refine FnOk.wk hi rfl rfl ?_
  unfold cloneAC
  simp only [paramE, Nat.reduceAdd]
  refine WK.seq (WK.regx mixed ?_)
  refine GX.pure rfl rfl rfl rfl rfl ?_
  refine GX.done ?_
  refine WK.seq (WK.seq (WK.regx mixed ?_))
  refine GX.pure rfl rfl rfl rfl rfl (GX.pure (v' := if 0 < es.length then .bool false else .anyb) rfl rfl rfl (core_eqlnil es) rfl ?_)
  refine GX.done ?_
  rcases Nat.eq_zero_or_pos es.length with h0 | h0
  · obtain rfl : es = [] := List.length_eq_zero_iff.1 h0
    refine WK.condU rfl ?_ ?_
    · refine WK.seq (WK.regx mixed ?_)
      refine GX.pure rfl rfl rfl rfl rfl ?_
      refine GX.done ?_
      exact E1 rfl _
    · exact WK.skip (key _ E2)
  · refine WK.condF (by simp only [if_pos h0]; rfl) ?_
    exact WK.skip (key _ E2)


theorem clone_ok (mixed : P.follows .mixedOrders = true) (hi : fnInfo P f = some (8, [.t 2], cloneAC sz ty by_)) (es : List (List PVal)) (hsz : 0 < sz) (hb : es.length * by_ ≤ 140737488355328) (hmx : es.length ≤ 9223372036854775807) :
    FnOk P f [.ro sz es] [] 0 (.own 0 sz 0 es.length) [(0, .row sz ty es)] 1 := by
  refine clone_gen mixed hi es hsz hb hmx _ _ _ (fun h rest => ?_) (ret_row (id := 1) rfl rfl (by decide))
  subst h
  refine WK.adopt (t := 2) (sz := sz) (ty := ty) rfl hsz (by simp) rfl ?_
  exact ret_row (id := 0) rfl rfl (by decide)

/-- Its row, only looked at from there on. -/
theorem clone_okF {α : Type} {c : α → List PVal} (mixed : P.follows .mixedOrders = true) (hi : fnInfo P f = some (8, [.t 2], cloneAC sz ty by_)) (L : List α) (hsz : 0 < sz) (hb : L.length * by_ ≤ 140737488355328) (hmx : L.length ≤ 9223372036854775807) :
    FnOk P f [.ro sz (L.map c)] [] 0 (.ro sz (L.map c)) [] 0 := by
  refine clone_gen mixed hi (L.map c) hsz (by simpa using hb) (by simpa using hmx) _ _ _ (fun h rest => ?_) ?_
  · rw [h]
    exact WK.ret (RetQ.frw [] (.inr rfl) rfl rfl rfl .nil)
  · exact WK.ret (RetQ.fr [1] (.inr rfl) rfl rfl (viewGo_cons (view_row rfl rfl rfl) viewGo_nil) rfl)

/-! ### The same, of typed elements -/
theorem clone_okT {α : Type} {c : α → List PVal} (mixed : P.follows .mixedOrders = true) (hi : fnInfo P f = some (8, [.t 2], cloneAC sz ty by_)) (L : List α) (hsz : 0 < sz) (hb : L.length * by_ ≤ 140737488355328) (hmx : L.length ≤ 9223372036854775807) :
    FnOk P f [.ro sz (L.map c)] [] 0 (.own 0 sz 0 L.length) [(0, .row sz ty (L.map c))] 1 := by
  have := clone_ok mixed hi (L.map c) hsz (by simpa using hb) (by simpa using hmx)
  rwa [List.length_map] at this

theorem insert_okT {α : Type} {c : α → List PVal} (hc : ∀ x, (c x).all (fun p => !p.isU) = true) (mixed : P.follows .mixedOrders = true) (hi : fnInfo P f = some (95, [.t 6], insAC sz ty by_ zs fo fr)) (hov : OvlFn P fo sz) (L V : List α) (i : Int) {m m2 : Nat} (e1 : m = L.length) (e2 : m2 = V.length) (h0 : 0 ≤ i) (h1 : i ≤ L.length) (hm : 0 < V.length)
    (hb : (L.length + V.length) * by_ ≤ 140737488355328) (hmx : L.length + V.length < 2 ^ 62) :
    FnOk P f [.own 0 sz 0 m, .int .i64 i, .own 1 sz 0 m2] [(0, .row sz ty (L.map c)), (1, .row sz ty (V.map c))] 2 (.own 2 sz 0 (ins_ L i V).length) [(2, .row sz ty ((ins_ L i V).map c))] 3 := by
  subst e1 e2
  obtain ⟨j, rfl⟩ := Int.eq_ofNat_of_zero_le h0
  have := insert_ok mixed hi hov (L.map c) (V.map c) j (by simp; omega) (by simpa using hm) (by simpa using hb) (by simpa using hmx) (knownL_map hc L) (knownL_map hc V)
  simp only [List.length_map] at this
  rw [show (ins_ L (j : Int) V).length = L.length + V.length by simp [ins_]; omega, show (ins_ L (j : Int) V).map c = (L.map c).take j ++ V.map c ++ (L.map c).drop j by simp [ins_, List.map_take, List.map_drop]]
  exact this

theorem delete_okT {α : Type} {c : α → List PVal} (hc : ∀ x, (c x).all (fun p => !p.isU) = true) (mixed : P.follows .mixedOrders = true) (hi : fnInfo P f = some (33, [.t 6], delAC sz ty by_ zs)) (L : List α) (i j : Int) {m : Nat} (e1 : m = L.length) (h0 : 0 ≤ i) (hij : i ≤ j) (hj : j ≤ L.length) (hmx : L.length < 2 ^ 62) :
    FnOk P f [.own 0 sz 0 m, .int .i64 i, .int .i64 j] [(0, .row sz ty (L.map c))] 1 (.own 1 sz 0 (del_ L i j).length) [(1, .row sz ty ((del_ L i j).map c))] 2 := by
  subst e1
  obtain ⟨a, rfl⟩ := Int.eq_ofNat_of_zero_le h0
  obtain ⟨b, rfl⟩ := Int.eq_ofNat_of_zero_le (Int.le_trans h0 hij)
  have := delete_ok mixed hi (L.map c) a b (by omega) (by simp; omega) (by simpa using hmx) (knownL_map hc L)
  simp only [List.length_map] at this
  rw [show (del_ L (a : Int) (b : Int)).length = L.length - (b - a) by simp [del_]; omega, show (del_ L (a : Int) (b : Int)).map c = (L.map c).take a ++ (L.map c).drop b by simp [del_, List.map_take, List.map_drop]]
  exact this

end
end Go.Proofs.YtakallenldpkiaaDoor.Abs
