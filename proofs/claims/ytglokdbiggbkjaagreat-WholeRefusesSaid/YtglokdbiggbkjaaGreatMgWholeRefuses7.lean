/- Joined texts. -/
import Derived.Test.YtglokdbiggbkjaaGreatRows
import Derived.WalkKit
import Derived.Deep.RegionHeld3
import Derived.Tactics
import Derived.Test.YtglokdbiggbkjaaGreatMgWholeRefuses0
set_option linter.unusedVariables false
set_option linter.unusedSimpArgs false
set_option linter.defProp false
set_option maxRecDepth 100000
set_option maxHeartbeats 16000000
open Go.Proofs.Tryz
namespace Go.Proofs.YtglokdbiggbkjaaGreat
open Go.IntKind(i64)
open Go.Value(int bool slice agg tuple pointer)
open Go.Ending(returned)
open Go.Obj(cells)
section
open Go Go.RowKit
def tk{P:Program}{ops:Array Oper}{Q:Exit->Act->World->Prop}{md:Region.Mode}{S:World->Prop}(i:Nat){oi:Oper}{v:Value}{Mo:Nat}{RQ:Array Bool}{a:Act}{w:World}{B:Prop}(h:B)(hi:ops[i]? =some oi:=by rfl)(hs:Region.noSelect ops=true:=by kernel_rfl)(hf:Region.free md ops RQ i=true:=by kernel_rfl)(V:(Region.ready md ops RQ).contains i=true:=by kernel_rfl)(hQ:∀c a w,Q (.panic c) (a.put oi.dst v) w->Q (.panic c) a w:=by exact λ_ _ _ h=>h)(hy:YieldsIf P ops S oi v a:=by first|exact Or.inr ⟨by rfl,rfl⟩|exact Or.inl ⟨by rfl,by intro W XS;(try dsimp only at XS);go_simp;try with_reducible rfl⟩)(hS:S w:=by assumption)(e:wpAnyH P md ops Q S Mo (RQ.setIfInBounds i true) (a.put oi.dst v) w=B:=by first|(simp only[Act.put,List.setIfInBounds_toArray,List.set_cons_zero,List.set_cons_succ,List.getElem_toArray,List.getElem_cons_zero,List.getElem_cons_succ];done)|(simp only[Act.put,List.setIfInBounds_toArray,List.set_cons_zero,List.set_cons_succ,List.getElem_toArray,List.getElem_cons_zero,List.getElem_cons_succ];rfl)|rfl):wpAnyH P md ops Q S (Mo+1) RQ a w:=wpAnyH_take hi hs hf V hQ hy hS (e ▸ h)
end
section
open Go
def nmB:Nat->ByteArray
 |1=>⟨#[116,97,115]⟩
 |2=>⟨#[116,105,99,107,101,116]⟩
 |3=>⟨#[112,97,114,116,101,100]⟩
 |4=>⟨#[109,99,115]⟩
 |5=>⟨#[99,108,104]⟩
 |6=>⟨#[99,111,104,111,114,116]⟩
 |7=>⟨#[104,109,99,115]⟩
 |8=>⟨#[104,99,108,104]⟩
 |9=>⟨#[99,110,97]⟩
 |10=>⟨#[109,97,108,116,104,117,115]⟩
 |11=>⟨#[110,101,117,116,114,97,108]⟩
 |12=>⟨#[114,101,97,100,101,114,115]⟩
 |13=>⟨#[119,114,105,116,101,114,115]⟩
 |_=>⟨#[]⟩
def jH(n:Int):ByteArray:=nmB n.toNat
def wS{i:Nat}(h:14<=i):nmB i=⟨#[]⟩:=by unfold nmB;split<;>first|omega|rfl
end
end Go.Proofs.YtglokdbiggbkjaaGreat
