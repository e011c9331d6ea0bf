/- strings.Trim at a set of ASCII bytes, by the kit's contract. Generic over any program. -/
import Derived.Test.YtjcpkgnlnmajjaaGreatDoorS8
import Derived.Test.YtjcpkgnlnmajjaaGreatDoorP9
import Derived.Shelf.Strings.SlTrimAscii
set_option linter.unusedVariables false
namespace Go.Proofs.YtjcpkgnlnmajjaaGreatDoor.Abs
open Go Go.RowKit Go.Shelf

theorem trimO_ok {P : Program} {ρ : Ren} (L : Lays.n160 P ρ) (h116 : (P.info? (ρ.t 116)).map (fun i => (i.zero, i.size)) = some (some (.agg (Array.replicate 256 (.bool false))), 256)) (hE : Enters P (ρ.f 160)) (s cs R : ByteArray) (hR : trimO s cs = some R) :
    FnOk P (ρ.f 160) [.str s, .str cs] [] 0 (.str R) [] 0 := by
  unfold trimO at hR
  split at hR
  · rename_i h
    injection hR with hR
    subst hR
    refine FnOk.of_below hE fun m ok w vs hH hr => ?_
    obtain rfl := reps_str2 hr
    refine (Any.strings_Trim_laid L h116 s cs w h.1 h.2.1 (fun j b hb => by
      have := List.all_eq_true.1 h.2.2 b (List.mem_of_getElem? hb)
      simpa using this)).mono ?_
    rintro e w' ⟨rfl, hb⟩
    exact ⟨_, rfl, hb, .str⟩
  · cases hR

end Go.Proofs.YtjcpkgnlnmajjaaGreatDoor.Abs
