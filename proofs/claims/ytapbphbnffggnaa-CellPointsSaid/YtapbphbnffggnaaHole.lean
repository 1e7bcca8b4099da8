/-
  One of many things taken out of their heap, and put back. Conditions: no program is named here.
-/
import Derived.Test.YtapbphbnffggnaaSep
namespace Go.Proofs.Ytapbphbnffggnaa
set_option linter.unusedVariables false
set_option linter.unusedSimpArgs false
open Go.RowKit

section
variable {w0 w : World} {K L : List Res} {r : Res} {k : Nat}
theorem Sep.outOf (S : Sep w0 w (starR K :: L)) (hk : K[k]? = some r) : Sep w0 w (r :: starR (K.eraseIdx k) :: L) := by
  have h := S.openHead.perm (List.Perm.append_right L (perm_pull hk))
  exact (Sep.shutHead (K := K.eraseIdx k) (h.perm (show ((r :: K.eraseIdx k) ++ L).Perm (K.eraseIdx k ++ (r :: L)) from by
    rw [List.cons_append]
    exact (List.perm_middle).symm))).swap
theorem Sep.backIn (S : Sep w0 w (r :: starR (K.eraseIdx k) :: L)) (hk : k < K.length) : Sep w0 w (starR (K.set k r) :: L) := by
  have h := S.swap.openHead
  refine Sep.shutHead (K := K.set k r) (h.perm ?_)
  have h2 : (r :: K.eraseIdx k).Perm (K.set k r) := perm_set (List.getElem?_eq_getElem hk)
  refine List.Perm.trans ?_ (List.Perm.append_right L h2)
  rw [List.cons_append]
  exact List.perm_middle
theorem Sep.more (S : Sep w0 w (r :: starR K :: L)) : Sep w0 w (starR (K ++ [r]) :: L) := by
  have h := S.swap.openHead
  refine Sep.shutHead (K := K ++ [r]) (h.perm ?_)
  rw [List.append_assoc]
  exact List.Perm.refl _
theorem Sep.none_ (S : Sep w0 w L) : Sep w0 w (starR [] :: L) := Sep.shutHead (K := []) S
end
end Go.Proofs.Ytapbphbnffggnaa
