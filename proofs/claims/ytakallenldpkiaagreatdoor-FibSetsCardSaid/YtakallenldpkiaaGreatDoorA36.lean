/- Maps whose keys are strings or structs, as lists of pairs. Generic over any program. -/
import Derived.Test.YtakallenldpkiaaGreatDoorA26
set_option linter.unusedVariables false
set_option linter.unusedSimpArgs false
namespace Go.Proofs.YtakallenldpkiaaGreatDoor.Abs
open Go
def encQ {κ β:Type} (kc:κ → PVal) (e:β → PVal) (x:κ × β):PVal × PVal:=(kc x.1,e x.2)
section
variable {β:Type} {h:AId → Option AObj} {nx id:Nat} {e:β → PVal} {z y:PVal} {z0 y0:β}
def encE (e:β → PVal) (x:Nat × ByteArray × β):Nat × ByteArray × PVal:=(x.1,x.2.1,e x.2.2)
theorem len_mapE (l:List (Nat × ByteArray × β)):PVal.int .i64 ((l.map (encE e)).length:Int) = .int .i64 (l.length:Int):=by rw [List.length_map]
theorem findE_enc {k:ByteArray} : ∀ (l:List (Nat × ByteArray × β)) (j:Nat),match findE k j (l.map (encE e)) with
  | some (_,s,x)=>∃ y,findEQ k l = some (s,y) ∧ x = e y
  | none=>findEQ k l = none
 | [],j=>rfl
 | (s,k',x) :: r,j=>by
  have ih:=findE_enc (k:=k) r (j + 1)
  simp only [List.map_cons,encE,findE,findEQ] at ih ⊢
  cases hb:(k == k') with
  | true=>exact ⟨x,rfl,rfl⟩
  | false=>simp only [cond_false]; exact ih
theorem delE_enc {k:ByteArray} : ∀ (l:List (Nat × ByteArray × β)),delE k (l.map (encE e)) = (delEQ k l).map (encE e)
 | []=>rfl
 | (s,k',x) :: r=>by
  have ih:=delE_enc (k:=k) r
  simp only [List.map_cons,encE,delE,delEQ] at ih ⊢
  cases hb:(k == k') with
  | true=>rfl
  | false=>simp only [cond_false,List.map_cons,encE]; rw [← ih]
theorem putE_enc {s:Int} : ∀ (l:List (Nat × ByteArray × β)),hasEQ s l = true → putE s (e y0) (l.map (encE e)) = some ((putEQ s y0 l).map (encE e))
 | [],h=>by cases h
 | (s',k,x) :: r,h=>by
  have ih:=putE_enc (s:=s) r
  simp only [List.map_cons,encE,putE,putEQ,hasEQ] at ih h ⊢
  cases hb:decide ((s':Int) = s) with
  | true=>rfl
  | false =>
   rw [hb] at h
   simp only [cond_false] at h ⊢
   rw [ih h]
   rfl
variable {M:QMap β}
theorem core_lookQ2 {q:ByteArray} (ho:h id = some (.mq M.1 (M.2.map (encE e)))) (hz:z = e z0):core (.mq (.look z true)) [.mapr id,.str q] h nx = some { v:=.tup [e ((qlook M q).getD z0),.bool (qlook M q).isSome],rh:=[id] }:=by
 subst hz
 have hf:=findE_enc (e:=e) (k:=q) M.2 0
 simp only [core,coreQ,ho,qlook]
 cases hc:findE q 0 (M.2.map (encE e)) with
 | none=>rw [hc] at hf; simp only at hf; rw [hf]; rfl
 | some x =>
  obtain ⟨i,s,x⟩:=x
  rw [hc] at hf
  obtain ⟨y,h1,rfl⟩:=hf
  rw [h1]
  rfl
theorem core_entQ {q:ByteArray} (ho:h id = some (.mq M.1 (M.2.map (encE e)))) (hz:z = e z0):core (.mq (.ent z)) [.mapr id,.str q] h nx =
  some { v:=.tup [e ((qlook M q).getD z0),.int .i64 (qstamp M q)],rh:=[id],wh:=[(id,some (.mq (qent M q z0).1 ((qent M q z0).2.map (encE e))))] }:=by
 subst hz
 have hf:=findE_enc (e:=e) (k:=q) M.2 0
 simp only [core,coreQ,ho,qlook,qstamp,qent]
 cases hc:findE q 0 (M.2.map (encE e)) with
 | none=>rw [hc] at hf; simp only at hf; rw [hf]; simp [encE]
 | some x =>
  obtain ⟨i,s,x⟩:=x
  rw [hc] at hf
  obtain ⟨y,h1,rfl⟩:=hf
  rw [h1]
  rfl
theorem core_putQ {s:Int} (ho:h id = some (.mq M.1 (M.2.map (encE e)))) (hs:qhas M s = true) (hy:y = e y0) (hc:(e y0).closed = true):core (.mq .put) [.mapr id,.int .i64 s,y] h nx =
  some { v:=.hole,rh:=[id],wh:=[(id,some (.mq (qput M s y0).1 ((qput M s y0).2.map (encE e))))] }:=by
 subst hy
 simp only [core,coreQ,ho,hc,if_true,putE_enc M.2 hs,qput]
theorem core_delQ {q:ByteArray} (ho:h id = some (.mq M.1 (M.2.map (encE e)))):core (.mq .del) [.mapr id,.str q] h nx =
  some { v:=.hole,rh:=[id],wh:=[(id,some (.mq (qdel M q).1 ((qdel M q).2.map (encE e))))] }:=by
 simp only [core,coreQ,ho,delE_enc,qdel]
variable {κ:Type} {ks:List LK} {kc:κ → List PVal} {eq:κ → κ → Bool}
theorem findF_str (he : ∀ a b,flatEq ks (kc a) (kc b) = some (eq a b)) {q:κ} : ∀ {M:List (κ × β)},findF ks (kc q) (M.map (encQ (fun k=>.agg (kc k)) e)) = some ((findQ eq M q).map e)
 | []=>rfl
 | (k,b) :: r=>by
  have ih:=findF_str he (q:=q) (M:=r)
  cases hb:eq q k <;> simp [findF,encQ,he,findQ,hb] at ih ⊢
  exact ih
theorem setF_str (he : ∀ a b,flatEq ks (kc a) (kc b) = some (eq a b)) {q:κ} : ∀ {M:List (κ × β)},setF ks (kc q) (e y0) (M.map (encQ (fun k=>.agg (kc k)) e)) = some ((setQ eq M q y0).map (encQ (fun k=>.agg (kc k)) e))
 | []=>rfl
 | (k,b) :: r=>by
  have ih:=setF_str he (q:=q) (M:=r)
  cases hb:eq q k
  ·simp only [List.map_cons,setF,encQ,he,hb,setQ,cond_false]
   rw [ih]
  ·simp [setF,encQ,he,setQ,hb]
theorem core_lookF {q:κ} {M:List (κ × β)} (he : ∀ a b,flatEq ks (kc a) (kc b) = some (eq a b)) (ho:h id = some (.mp (M.map (encQ (fun k=>.agg (kc k)) e)))) (hz:z = e z0):core (.lookupF z false ks) [.mapr id,.agg (kc q)] h nx = some { v:=e ((findQ eq M q).getD z0),rh:=[id] }:=by
 subst hz
 simp only [core,coreLF,ho,he,Option.isSome_some,if_true,findF_str he]
 cases findQ eq M q <;> rfl
theorem core_msetF {q:κ} {M:List (κ × β)} (he : ∀ a b,flatEq ks (kc a) (kc b) = some (eq a b)) (ho:h id = some (.mp (M.map (encQ (fun k=>.agg (kc k)) e)))) (hy:y = e y0) (hc:(e y0).closed = true):core (.mapsetF ks) [.mapr id,.agg (kc q),y] h nx = some { v:=.hole,rh:=[id],wh:=[(id,some (.mp ((setQ eq M q y0).map (encQ (fun k=>.agg (kc k)) e))))] }:=by
 subst hy
 simp only [core,coreSF,ho,he,Option.isSome_some,hc,and_self,if_true,setF_str he]
end
end Go.Proofs.YtakallenldpkiaaGreatDoor.Abs
