/- Functions of Go's library on strings, by the kit's contracts. Generic over any program. -/
import Derived.Test.YtjcpkgnlnmajjaaGreatDoorA18
import Derived.Test.YtjcpkgnlnmajjaaGreatDoorP8
import Derived.Room.Shelf.Join48
import Derived.Shelf.Strings.SplitShaped
import Derived.Shelf.Strings.Shaped
import Derived.Shelf.Strconv.Itoa3
import Derived.Shelf.Strconv.Atoi
import Derived.Shelf.Strings.FuncGrows
set_option linter.unusedVariables false
set_option linter.unusedSimpArgs false
namespace Go.Proofs.YtjcpkgnlnmajjaaGreatDoor.Abs
open Go Go.RowKit Go.Shelf

theorem Step.ofBelow {m : AId → Option Blk} {w w' : World} (h : Below w.heap.size w w') : Step m w m w' := ⟨h.os, h.tape, h.output, h.size, fun b hb _ => h.block b hb, fun id b t e => .inl ⟨id, t, e⟩⟩

theorem SimH.below {D : AId → Prop} {m : AId → Option Blk} {ok : Nat → Prop} {heap : AId → Option AObj} {w w' : World} (hH : SimH D m ok heap w) (hb : Below w.heap.size w w') : SimH D m ok heap w' := by
  refine ⟨fun id o ho => ?_, hH.dom, hH.inj, fun id b t h => Nat.lt_of_lt_of_le (hH.lt id b t h) hb.size, hH.okm, fun b h => hH.fresh b (Nat.le_trans hb.size h), fun x hx => ?_⟩
  · obtain ⟨B, hB, hob⟩ := hH.obj id o ho
    exact ⟨B, hB, hob.step (Step.ofBelow hb) (fun b t e => by subst e; exact hb.block b (hH.lt id b t hB)) (fun _ h => h) fun _ _ => .inl rfl⟩
  · obtain ⟨h1, o, h2, h3⟩ := hH.glob x hx
    exact ⟨h1, o, (hb.block x.1 (Array.getElem?_eq_some_iff.1 h2).1).trans h2, h3⟩

theorem Reps.below {D : AId → Prop} {m : AId → Option Blk} {ok : Nat → Prop} {w w' : World} {c : Bool} {ps : List PVal} {vs : List Value} (h : Reps w (okn ok m) D m c ps vs) (hb : Below w.heap.size w w') : Reps w' (okn ok m) D m c ps vs :=
  ⟨h.1, fun i p v hp hv => (h.2 i p v hp hv).step (Step.ofBelow hb) (fun _ h => h) fun _ _ => .inl rfl⟩

/-- A function that leaves all that was there as it was. -/
theorem FnOk.of_below {P : Program} {f : FuncId} {ps : List PVal} {r : PVal} (hE : Enters P f)
    (h : ∀ (m : AId → Option Blk) (ok : Nat → Prop) (w : World) (vs : List Value), SimH (· < 0) m ok (fun i => ([] : List (AId × AObj)).lookup i) w → Reps w (okn ok m) (· < 0) m false ps vs →
      Calls P f vs.toArray w fun e w' => ∃ v, e = .returned v ∧ Below w.heap.size w w' ∧ Rep w' (okn ok m) (· < 0) m false r v) : FnOk P f ps [] 0 r [] 0 := by
  refine ⟨hE, Nat.le_refl _, fun m ok w vs hH hr => (h m ok w vs hH hr).mono ?_⟩
  rintro e w' ⟨v, rfl, hb, hv⟩
  exact ⟨v, m, rfl, hH.below hb, hv, Step.ofBelow hb, Mon.refl _ m⟩

theorem FnOk.enters {P : Program} {f : FuncId} {ps : List PVal} {h0 h1 : List (AId × AObj)} {k0 k1 : Nat} {r : PVal} (h : FnOk P f ps h0 k0 r h1 k1) : Enters P f := h.1

theorem glob_int {D : AId → Prop} {m : AId → Option Blk} {ok : Nat → Prop} {heap : AId → Option AObj} {w : World} {b : Nat} (hg : (b, intIs) ∈ Gs) (hH : SimH D m ok heap w) : ∃ x, w.cell? ⟨b, 0, none⟩ = some (.int .i64 x) := by
  obtain ⟨_, o, h1, x, cs, t, g, rfl, h2⟩ := hH.glob _ hg
  exact ⟨x, by simp only [World.cell?]; rw [h1]; exact h2⟩

theorem intIs_of {w : World} {b : Nat} (h : ∃ x, w.cell? ⟨b, 0, none⟩ = some (.int .i64 x)) : ∃ o, w.heap[b]? = some o ∧ intIs o := by
  obtain ⟨x, h⟩ := h
  simp only [World.cell?] at h
  split at h
  · rename_i cs t g h1
    exact ⟨_, h1, x, cs, t, g, rfl, by simpa using h⟩
  · cases h

theorem tabIs_of {P : Program} {w : World} {b : Nat} {k : IntKind} {zs : List Int} {name : String} (hn : P.globalNamed name = some b) (h : Lib.TabIs P w name k zs) : ∃ o, w.heap[b]? = some o ∧ tabIs k zs o := by
  unfold Lib.TabIs World.var? at h
  rw [hn] at h
  simp only [Option.bind_some] at h
  split at h
  · rename_i cs t g h1
    injection h with h
    exact ⟨_, h1, t, g, by rw [h]⟩
  · cases h

theorem glob_tab {P : Program} {D : AId → Prop} {m : AId → Option Blk} {ok : Nat → Prop} {heap : AId → Option AObj} {w : World} {b : Nat} {k : IntKind} {zs : List Int} {name : String} (hn : P.globalNamed name = some b) (hg : (b, tabIs k zs) ∈ Gs) (hH : SimH D m ok heap w) : Lib.TabIs P w name k zs := by
  obtain ⟨_, o, h1, t, g, rfl⟩ := hH.glob _ hg
  unfold Lib.TabIs World.var?
  rw [hn]
  simp only [Option.bind_some]
  rw [h1]

theorem reps_str2 {w : World} {ok : Nat → Prop} {D : AId → Prop} {m : AId → Option Blk} {s t : ByteArray} {vs : List Value} (hr : Reps w ok D m false [.str s, .str t] vs) : vs = [.string s, .string t] := by
  obtain ⟨hl, h⟩ := hr
  match vs, hl with
  | [a, b], _ =>
    have h0 := h 0 _ _ rfl rfl
    have h1 := h 1 _ _ rfl rfl
    cases h0; cases h1; rfl

theorem reps_str {w : World} {ok : Nat → Prop} {D : AId → Prop} {m : AId → Option Blk} {s : ByteArray} {vs : List Value} (hr : Reps w ok D m false [.str s] vs) : vs = [.string s] := by
  obtain ⟨hl, h⟩ := hr
  match vs, hl with
  | [a], _ =>
    have h0 := h 0 _ _ rfl rfl
    cases h0; rfl

theorem reps_int {w : World} {ok : Nat → Prop} {D : AId → Prop} {m : AId → Option Blk} {k : IntKind} {n : Int} {vs : List Value} (hr : Reps w ok D m false [.int k n] vs) : vs = [.int k n] := by
  obtain ⟨hl, h⟩ := hr
  match vs, hl with
  | [a], _ =>
    have h0 := h 0 _ _ rfl rfl
    cases h0; rfl

theorem drewN_below (w : World) : ∀ n, Below w.heap.size w (w.drewN n) := below_drewNg w

theorem cut_ok {P : Program} {ρ : Ren} (L : Lays.n145 P ρ) (hE : Enters P (ρ.f 145)) (hg : (ρ.g 1, intIs) ∈ Gs) (s sep : ByteArray) (hs : s.size < 4294967281) :
    FnOk P (ρ.f 145) [.str s, .str sep] [] 0 (.tup [.str (cutS s sep).1, .str (cutS s sep).2.1, .bool (cutS s sep).2.2]) [] 0 := by
  refine FnOk.of_below hE fun m ok w vs hH hr => ?_
  obtain rfl := reps_str2 hr
  obtain ⟨x, hx⟩ := glob_int hg hH
  refine (Any.strings_Cut L s sep x w hs hx).mono ?_
  rintro e w' ⟨rfl, n, rfl⟩
  refine ⟨_, rfl, drewN_below w n, ?_⟩
  refine .tup (vs := [_, _, _]) rfl fun i p v hp hv => ?_
  match i with
  | 0 => simp at hp hv; subst hp hv; exact .str
  | 1 => simp at hp hv; subst hp hv; exact .str
  | 2 => simp at hp hv; subst hp hv; exact .bool
  | i + 3 => simp at hp

theorem split_ok {P : Program} {ρ : Ren} (L : LaysM.n146 P ρ) (hE : Enters P (ρ.f 146)) (hg : (ρ.g 1, intIs) ∈ Gs) (s sep : ByteArray) (hs : s.size < 4294967281) (h1 : 1 ≤ sep.size) :
    FnOk P (ρ.f 146) [.str s, .str sep] [] 0 (.ro 1 ((splitS s sep).map fun x => [.str x])) [] 0 := by
  refine FnOk.of_below hE fun m ok w vs hH hr => ?_
  obtain rfl := reps_str2 hr
  obtain ⟨x, hx⟩ := glob_int hg hH
  refine (Any.strings_Split { L with } L.i9 s sep x w hs hx h1).mono ?_
  rintro e w' ⟨rfl, rfl⟩
  refine ⟨_, rfl, (Below.refl _ w).alloc (Nat.le_refl _) _, ?_⟩
  have hlen : (splitS s sep).length = Lib.countB s sep + 1 := Lib.splitB_all sep h1 0 _ s rfl
  have hle := Lib.countB_le sep h1 s.size s (Nat.le_refl _)
  refine .ro (ad := ⟨w.heap.size, 0, none⟩) (fun i j => .string ((splitS s sep).getD i default)) (by simp [hlen]) (Nat.le_refl _) (by unfold maxLen; omega) (fun e he => by obtain ⟨y, _, rfl⟩ := List.mem_map.1 he; rfl) (fun _ => rfl) (fun i j e p he hp => ?_) (fun i j e p he hp => ?_)
  · rw [List.getElem?_map] at he
    obtain ⟨y, hy, rfl⟩ := Option.map_eq_some_iff.1 he
    match j with
    | 0 =>
      refine ⟨⟨hH.fresh _ (Nat.le_refl _), fun id t e => absurd (hH.lt id _ t e) (Nat.lt_irrefl _)⟩, ?_, rfl⟩
      have hi := (List.getElem?_eq_some_iff.1 hy).1
      have e : (⟨w.heap.size, 0, none⟩ : Addr).add (i * 1 + 0) = ⟨w.heap.size, i, none⟩ := by
        simp only [Addr.add, Nat.mul_one, Nat.add_zero]
        split <;> simp_all
      rw [e, World.cell?_alloc_at _ _ _ _ rfl]
      simp [List.getElem?_map, show Lib.splitB sep 0 (Lib.countB s sep) s = splitS s sep from rfl, hy, List.getD]
    | j + 1 => simp at hp
  · rw [List.getElem?_map] at he
    obtain ⟨y, hy, rfl⟩ := Option.map_eq_some_iff.1 he
    match j with
    | 0 =>
      simp only [List.getElem?_cons_zero, Option.some.injEq] at hp
      subst hp
      simp only [List.getD, hy, Option.getD_some]
      exact .str
    | j + 1 => simp at hp

theorem join_ok {P : Program} {ρ : Ren} (L : Lays.n156 P ρ) (X : Builder.Extra P ρ) (hE : Enters P (ρ.f 156)) (xs : List ByteArray) (sep : ByteArray) (hN : xs.length ≤ 140737488355328) (hlen : (joinS xs sep).size ≤ 281474976710656) :
    FnOk P (ρ.f 156) [.ro 1 (xs.map fun x => [.str x]), .str sep] [] 0 (.str (joinS xs sep)) [] 0 := by
  refine FnOk.of_below hE fun m ok w vs hH hr => ?_
  obtain ⟨hl, h⟩ := hr
  match vs, hl with
  | [a, b], _ =>
    have h0 := h 0 _ _ rfl rfl
    have h1 := h 1 _ _ rfl rfl
    cases h1
    cases h0 with
    | @ro _ _ _ A n cap ad vs hn hc hm hs hA hcell hrep =>
      simp only [List.length_map] at hn
      subst hn
      have hlen' : (Lib.join (xs.map (·.data.toList)) sep.data.toList).length ≤ 281474976710656 := by simpa [joinS, bytesOf, ByteArray.size] using hlen
      by_cases h0 : xs = []
      · subst h0
        refine (Any.strings_Join_none L X A cap sep w).mono ?_
        rintro e w' ⟨rfl, rfl⟩
        exact ⟨_, rfl, Below.refl _ _, .str⟩
      · have hpos : 0 < xs.length := List.length_pos_iff.2 h0
        obtain rfl := hA hpos
        have hcells : ∀ (j : Nat) x, xs[j]? = some x → w.cell? (ad.add j) = some (.string x) := by
          intro j x hx
          obtain ⟨_, c2, c3⟩ := hcell j 0 [.str x] (.str x) (by rw [List.getElem?_map, hx]; rfl) rfl
          have c4 := hrep j 0 [.str x] (.str x) (by rw [List.getElem?_map, hx]; rfl) rfl
          generalize vs j 0 = V at c2 c4
          cases c4
          simpa using c2
        obtain ⟨x0, hx0⟩ : ∃ x, xs[0]? = some x := ⟨_, List.getElem?_eq_getElem hpos⟩
        have hc0 := hcells 0 x0 hx0
        have hlt := cell_lt hc0
        obtain ⟨bk, o, sp⟩ := ad
        have hsp : sp = none := by
          cases sp with
          | none => rfl
          | some q => simp only [Addr.add, if_true] at hc0; unfold World.cell? at hc0; split at hc0 <;> simp at hc0
        subst hsp
        have hcells' : ∀ (j : Nat) x, xs[j]? = some x → w.cell? ⟨bk, o + j, none⟩ = some (.string x) := by
          intro j x hx
          have := hcells j x hx
          have e : (⟨bk, o, none⟩ : Addr).add j = ⟨bk, o + j, none⟩ := by
            simp only [Addr.add]
            split <;> simp_all
          rwa [e] at this
        refine (Any.strings_Join_48 L X bk o cap xs sep w hcells' hlt hN hc hlen').mono ?_
        rintro e w' ⟨rfl, hb⟩
        exact ⟨_, rfl, hb, .str⟩

theorem grow_below (w : World) (k : Nat) (os : Array Obj) : Below w.heap.size w (Sort.grow (w.drewN k) os) :=
  (drewN_below w k).trans ⟨rfl, rfl, rfl, by simp [Sort.grow], fun b hb => by simp only [Sort.grow]; rw [Array.getElem?_append_left (by simpa using hb)]⟩

theorem itoa_ok {P : Program} {ρ : Ren} (L : LaysM.n171 P ρ) (hE : Enters P (ρ.f 171)) {b : Nat} (hn : P.globalNamed "internal/strconv.uint64pow10" = some b) (hg : (b, tabIs .u64 Lib.pow10Tab) ∈ Gs) (n : Int) (h0 : -9223372036854775808 ≤ n) (h1 : n ≤ 9223372036854775807) :
    FnOk P (ρ.f 171) [.int .i64 n] [] 0 (.str (itoaS n)) [] 0 := by
  refine FnOk.of_below hE fun m ok w vs hH hr => ?_
  obtain rfl := reps_int hr
  refine (Any.strconv_Itoa L n h0 h1 w (glob_tab hn hg hH)).mono ?_
  rintro e w' ⟨rfl, k, os, rfl⟩
  rw [itoaS_eq h0 h1]
  exact ⟨_, rfl, grow_below w k os, .str⟩

theorem bytesWorld_below (w : World) (e : TypeId) (s : ByteArray) : Below w.heap.size w (Lib.bytesWorld w e s) :=
  ⟨(by simp [Lib.bytesWorld, World.freeze] <;> rfl), (by simp [Lib.bytesWorld, World.freeze] <;> rfl), (by simp [Lib.bytesWorld, World.freeze] <;> rfl), by rw [Lib.bytesWorld_size]; omega, fun b hb => Lib.bytesWorld_at_old w e s b hb⟩

theorem cutO_ok {P : Program} {ρ : Ren} (L : Lays.n145 P ρ) (hE : Enters P (ρ.f 145)) (hg : (ρ.g 1, intIs) ∈ Gs) (s sep : ByteArray) (R : ByteArray × ByteArray × Bool) (hR : cutO s sep = some R) :
    FnOk P (ρ.f 145) [.str s, .str sep] [] 0 (.tup [.str R.1, .str R.2.1, .bool R.2.2]) [] 0 := by
  unfold cutO at hR
  split at hR
  · injection hR with hR; subst hR; exact cut_ok L hE hg s sep (by assumption)
  · cases hR

theorem splitO_ok {P : Program} {ρ : Ren} (L : LaysM.n146 P ρ) (hE : Enters P (ρ.f 146)) (hg : (ρ.g 1, intIs) ∈ Gs) (s sep : ByteArray) (R : List ByteArray) (hR : splitO s sep = some R) :
    FnOk P (ρ.f 146) [.str s, .str sep] [] 0 (.ro 1 (R.map fun x => [.str x])) [] 0 := by
  unfold splitO at hR
  split at hR
  · rename_i h; injection hR with hR; subst hR; exact split_ok L hE hg s sep h.1 h.2
  · cases hR

theorem joinO_ok {P : Program} {ρ : Ren} (L : Lays.n156 P ρ) (X : Builder.Extra P ρ) (hE : Enters P (ρ.f 156)) (xs : List ByteArray) (sep R : ByteArray) (hR : joinO xs sep = some R) :
    FnOk P (ρ.f 156) [.ro 1 (xs.map fun x => [.str x]), .str sep] [] 0 (.str R) [] 0 := by
  unfold joinO at hR
  split at hR
  · rename_i h; injection hR with hR; subst hR; exact join_ok L X hE xs sep h.1 h.2
  · cases hR

theorem itoaO_ok {P : Program} {ρ : Ren} (L : LaysM.n171 P ρ) (hE : Enters P (ρ.f 171)) {b : Nat} (hn : P.globalNamed "internal/strconv.uint64pow10" = some b) (hg : (b, tabIs .u64 Lib.pow10Tab) ∈ Gs) (n : Int) (R : ByteArray) (hR : itoaO n = some R) :
    FnOk P (ρ.f 171) [.int .i64 n] [] 0 (.str R) [] 0 := by
  unfold itoaO at hR
  split at hR
  · rename_i h; injection hR with hR; subst hR; exact itoa_ok L hE hn hg n h.1 h.2
  · cases hR

theorem atoi_ok {P : Program} {ρ : Ren} (L : Lays.n172 P ρ) (hE : Enters P (ρ.f 172)) (s : ByteArray) (n : Int) (h : atoiS s = some n) :
    FnOk P (ρ.f 172) [.str s] [] 0 (.tup [.int .i64 n, .nili]) [] 0 := by
  unfold atoiS at h
  split at h
  · rename_i hl
    refine FnOk.of_below hE fun m ok w vs hH hr => ?_
    obtain rfl := reps_str hr
    refine (Any.strconv_Atoi L s n hl h w).mono ?_
    rintro e w' ⟨rfl, t, rfl⟩
    refine ⟨_, rfl, bytesWorld_below _ _ _, ?_⟩
    refine .tup (vs := [_, _]) rfl fun i p v hp hv => ?_
    match i with
    | 0 => simp at hp hv; subst hp hv; exact .int
    | 1 => simp at hp hv; subst hp hv; exact .nili
    | i + 2 => simp at hp
  · cases h

theorem atoiO_ok {P : Program} {ρ : Ren} (L : Lays.n172 P ρ) (hE : Enters P (ρ.f 172)) (s : ByteArray) (R : Int × Unit) (hR : atoiO s = some R) :
    FnOk P (ρ.f 172) [.str s] [] 0 (.tup [.int .i64 R.1, .nili]) [] 0 := by
  unfold atoiO at hR
  split at hR
  · rename_i n h; injection hR with hR; subst hR; exact atoi_ok L hE s n h
  · cases hR

theorem containsFunc_ok {P : Program} {ρ : Ren} (L : LaysGw.n17 P ρ) (hE : Enters P (ρ.f 17)) (s : ByteArray) (g : FuncId) (caps : List PVal) (h : Int → Bool) (hcl : PVal.closed.go caps = true)
    (hg : ∀ (y : Int) (R : Bool), h y = R → FnOk P g ([.int .i32 y] ++ caps) [] 0 (.bool R) [] 0) :
    FnOk P (ρ.f 17) [.str s, .fn g [] caps] [] 0 (.bool (containsFuncS s h)) [] 0 := by
  refine FnOk.of_below hE fun m ok w vs hH hr => ?_
  obtain ⟨hl, hr⟩ := hr
  match vs, hl with
  | [a, b], _ =>
    have h0 := hr 0 _ _ rfl rfl
    have h1 := hr 1 _ _ rfl rfl
    cases h0
    cases h1 with
    | @fn _ _ _ _ fv cv hl1 hl2 h3 h4 =>
      obtain rfl : fv = [] := by simpa using hl1.symm
      refine (Any.strings_ContainsFunc_grows L g cv.toArray (hg 0 _ rfl).1 (fun x => h (x : Int)) s w ?_).mono ?_
      · intro W x hx hb
        have hc : Reps W (okn ok m) (· < 0) m false ([.int .i32 (x : Int)] ++ caps) ([.int .i32 (x : Int)] ++ cv) := by
          refine Reps.cons .int ⟨hl2, fun i p v hp hv => ?_⟩
          exact (h4 i p v hp hv).step (Step.ofBelow hb) (fun _ h => h) fun _ _ => .inl rfl
        have := (hg (x : Int) _ rfl).2.2 m ok W _ (hH.below hb) hc
        have e : ([Value.int .i32 (x : Int)] ++ cv).toArray = #[encR x] ++ cv.toArray := by simp [encR]
        rw [e] at this
        refine this.mono ?_
        rintro e w' ⟨v, m', rfl, hH', hv, hst, hM⟩
        refine ⟨by rw [rep_bool hv], hst.os, hst.tape, hst.output, hst.size, fun k hk => hst.keep k hk fun id t e => ?_⟩
        have := hH.dom id _ e
        simp at this
      · rintro e w' ⟨rfl, hb⟩
        exact ⟨_, rfl, hb, .bool⟩

end Go.Proofs.YtjcpkgnlnmajjaaGreatDoor.Abs
