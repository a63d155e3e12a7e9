/- Regions whose loads are held: the held facts may grow on the way. -/
import Derived.Test.YtnlpghjlhnhkeaaBase
import Derived.Deep.RegionHeld3
namespace Go.Proofs.Ytnlpghjlhnhkeaa
open Go.RowKit
theorem wpAnyH_more {P : Program} {md : Region.Mode} {ops : Array Oper} {Q : Exit → Act → World → Prop} {S S' : World → Prop} (hSS : ∀ w, S' w → S w) : ∀ (fuel : Nat) (listed : Array Bool) (a : Act) (w : World), wpAnyH P md ops Q S' fuel listed a w → wpAnyH P md ops Q S fuel listed a w
  | 0, _, _, _, h => h
  | fuel + 1, _, _, _, h => ⟨h.1, fun i hi => wpOp_mono (fun a' w' h' => ⟨hSS _ h'.1, wpAnyH_more hSS fuel _ a' w' h'.2⟩) (h.2 i hi)⟩
theorem shut_more {P : Program} {md : Region.Mode} {ops : Array Oper} {Q : Exit → Act → World → Prop} {S S' : World → Prop} {K : Act → World → Prop} {fuel : Nat} {listed : Array Bool} (hSS : ∀ w, S' w → S w)
    (hK : Shut (∀ a w, S w → (S w → wpAnyH P md ops Q S fuel listed a w) → K a w)) :
    (Shut (∀ a w, S w → (S w → wpAnyH P md ops Q S fuel listed a w) → K a w)) = Shut (∀ a w, S' w → (S' w → wpAnyH P md ops Q S' fuel listed a w) → K a w) :=
  propext ⟨fun _ => fun a w hS' hW => hK.out a w (hSS w hS') (fun _ => wpAnyH_more hSS fuel listed a w (hW hS')), fun _ => hK⟩
end Go.Proofs.Ytnlpghjlhnhkeaa
