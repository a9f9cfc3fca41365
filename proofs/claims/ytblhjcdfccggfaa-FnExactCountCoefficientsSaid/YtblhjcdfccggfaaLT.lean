/- In a region that draws its order: what holds behind every operation may be strengthened underway. No condition. -/
import Derived.Test.YtblhjcdfccggfaaWLast
import Derived.OrdersHeld
import Derived.Deep.RegionHeld3
import Derived.RowKit
namespace Go.Proofs.YtblhjcdfccggfaaM
open Go.RowKit Go.Proofs.YtblhjcdfccggfaaW.PrintLast
theorem last_true {P : Program} {md : Region.Mode} {ops : Array Oper} {Q : Exit → Act → World → Prop} {S : World → Prop} {ds : List Nat} : ∀ (fuel : Nat) (listed : Array Bool) (a : Act) (w : World), wpAnyLast P md ops Q S ds fuel listed a w → wpAnyLast P md ops Q (fun _ => True) ds fuel listed a w
  | 0, _, _, _, h => h
  | fuel + 1, _, _, _, h => ⟨h.1, fun i hi => wpOp_mono (fun a' w' h' => ⟨fun _ _ => trivial, last_true fuel _ a' w' h'.2⟩) (h.2 i hi)⟩
end Go.Proofs.YtblhjcdfccggfaaM
