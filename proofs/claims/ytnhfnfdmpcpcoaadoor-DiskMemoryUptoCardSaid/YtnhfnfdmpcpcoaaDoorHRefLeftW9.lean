/-
  The document's disk: Left.
-/
import Derived.Test.YtnhfnfdmpcpcoaaDoorHRefLeftA
import Derived.Test.YtnhfnfdmpcpcoaaDoorHRefLeftB
import Derived.Test.YtnhfnfdmpcpcoaaDoorHRefLeftC
import Derived.Test.YtnhfnfdmpcpcoaaDoorHRefLeftD
import Derived.Test.YtnhfnfdmpcpcoaaDoorN9g
namespace Go.Proofs.YtnhfnfdmpcpcoaaDoor
open Go.RowKit Go.Maps
set_option linter.unusedVariables false

theorem refLeft_any (r : RC) (A : Pl) (fn : Int) (K : List Int) (kp : Option Addr) (kl kc : Nat) (hkl : K.length = kl) (w : World) (h : RefAt w r A) (hK : InV w kp (K.map (Value.int .i64))) (hI : Inv A) (hS : InvS A) (hp : A.pend.length ≤ 1000000) (hs : A.safe.length ≤ 4000000000000) (hl : (leftNP A fn).length ≤ 4000000000000) (hd : ∀ f ∈ A.files, f.1.length ≤ 140737488351232) (hkk : kl ≤ 1000000000) :
    Calls Tryd.prog 28 #[.agg (stC r A), .agg #[.int .i64 fn, .slice kp kl kc]] w fun e w' => ∃ v, e = .returned v ∧ OwnFs w' w.heap.size v (leftP A fn K) ∧ Below w.heap.size w w' := by
  by_cases h1 : (A.pend.length : Int) < fn
  · by_cases h2 : 0 < A.pend.length
    · exact refLeft_a r A fn K kp kl kc hkl w h hK hI hS hp hs hl hd hkk ⟨h1, h2⟩
    · exact refLeft_b r A fn K kp kl kc hkl w h hK hI hS hp hs hl hd hkk ⟨h1, h2⟩
  · by_cases h2 : 0 < fn
    · exact refLeft_c r A fn K kp kl kc hkl w h hK hI hS hp hs hl hd hkk ⟨h1, h2⟩
    · exact refLeft_d r A fn K kp kl kc hkl w h hK hI hS hp hs hl hd hkk ⟨h1, h2⟩
end Go.Proofs.YtnhfnfdmpcpcoaaDoor
