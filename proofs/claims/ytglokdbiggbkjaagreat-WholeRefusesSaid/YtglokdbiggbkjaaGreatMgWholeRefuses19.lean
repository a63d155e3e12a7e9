/- Joined texts. -/
import Derived.Laws.CopyOwn
import Derived.Laws.EntriesVeiled
import Derived.Deep.RegionLaw
import Derived.Deep.AppendLies
import Derived.Test.YtglokdbiggbkjaaGreatMgWholeRefuses0
import Derived.Test.YtglokdbiggbkjaaGreatMgWholeRefuses2
import Derived.Test.YtglokdbiggbkjaaGreatMgWholeRefuses6
import Derived.Test.YtglokdbiggbkjaaGreatMgWholeRefuses9
import Derived.Test.YtglokdbiggbkjaaGreatMgWholeRefuses12
import Derived.Test.YtglokdbiggbkjaaGreatMgWholeRefuses16
set_option linter.unusedVariables false
set_option linter.unusedSimpArgs false
set_option linter.defProp false
set_option maxRecDepth 100000
set_option maxHeartbeats 16000000
open Go.Proofs.Tryz
namespace Go.Proofs.YtglokdbiggbkjaaGreat
open Go.IntKind(i64)
open Go.Value(int bool slice agg tuple pointer)
open Go.Ending(returned)
open Go.Obj(cells)
variable{w w':World}{bud:Int}{nd:List Int}
section
open Go.RowKit
section
variable{c:Cx}{cap:Nat}{h:Cn}
def um(k:an w c cap bud nd h)(i:Nat)(hin:i<nd.length)(a b z:Int)(hp:h.S[i]? =some (⟨19,a,b,z⟩:Sp))(Y:h.ar.ops+1<=1000000000000)(hl:-5<=h.wk.last/\h.wk.last<=100000)(Jt:decide (0<b)=true):E 318 #[↑c.l,pointer (some ⟨c.q,i*4,none⟩)] w (eJ w c cap bud nd h i (⟨19,a,b,z⟩:Sp) (ah nd.length (ndf nd) bud h i (⟨19,a,b,z⟩:Sp))):=by
  refine ajD ?_;intro hn e0;obtain⟨ab,V⟩:=LE (ae h.ar (cN h.wk.last) 0);have HX:Kq (ah nd.length (ndf nd) bud h i (⟨19,a,b,z⟩:Sp)=(ab,h.wk,(⟨20,a,b,z⟩:Sp))):=qh (by rw[EA rfl,V];simp at Jt;simp[Jt]);have HF:=qh (λW (k:an W c cap bud nd h)=>my k h.wk.last (by exact hl));have O:=(λW (k:an W c cap bud nd h)=>am k.ar (cN h.wk.last) 0 Y);rw[<-V]at O;have HO:=qh O;have HC:=qh (λW (h:Cn) (k:an W c cap bud nd h) (hp:h.S[i]? =some (⟨19,a,b,z⟩:Sp))=>And.intro k.l0 k.l4);refine ai5 ?_;intro HP HL K1;have HW:=qh (λW (k:an W c cap bud nd h)=>uK k.wk);clear O k hp V;go_enter func318,ntmps318;go_wp2_with fail
  go_region_held3 (λW=>W.cell? c.l=some ↑c.a/\Z W c.l 4 ↑c.k)
    (first|with_reducible exact HC.o _ _ K1.o HP.o|with_reducible exact HC.o _ _ H.o HP.o)
    (first
      | (go_at_call 146;go_loud (refine LT (HF.o _ K1.o) ?_))
      | (go_at_call 326;go_loud (refine LT (HW.o _ K1.o) ?_))
      | (go_at_call 177;go_loud (refine Op (HO.o _ K1.o) λw3 I=>?_);have H:=qh (K1.o.op I.o.2 I.o.1);have T2:=qh (((aa.refl [c.a,c.g,c.q,c.k] w).drew).trans (I.o.2.mono (T:=[c.a,c.g,c.q,c.k]) ahF))))
  all_goals have e3:=H.o.sp.cell HP.o 2 _ rfl;have e4:=H.o.sp.cell HP.o 1 _ rfl;have z3:=H.o.sp.free (i*4+2);go_wp2;go_ret;rw[HX.o];exact⟨rfl,H.o.samS HP.o,T2.o⟩
def ul(k:an w c cap bud nd h)(i:Nat)(hin:i<nd.length)(a b z:Int)(hp:h.S[i]? =some (⟨19,a,b,z⟩:Sp))(Y:h.ar.ops+1<=1000000000000)(hl:-5<=h.wk.last/\h.wk.last<=100000)(Jt:decide (0<b)=false):E 318 #[↑c.l,pointer (some ⟨c.q,i*4,none⟩)] w (eJ w c cap bud nd h i (⟨19,a,b,z⟩:Sp) (ah nd.length (ndf nd) bud h i (⟨19,a,b,z⟩:Sp))):=by
  refine ajD ?_;intro hn e0;obtain⟨ab,V⟩:=LE (ae h.ar (cN h.wk.last) 0);have HX:Kq (ah nd.length (ndf nd) bud h i (⟨19,a,b,z⟩:Sp)=(ab,h.wk,(⟨22,a,a,z⟩:Sp))):=qh (by rw[EA rfl,V];simp at Jt;simp[Jt]);have HF:=qh (λW (k:an W c cap bud nd h)=>my k h.wk.last (by exact hl));have O:=(λW (k:an W c cap bud nd h)=>am k.ar (cN h.wk.last) 0 Y);rw[<-V]at O;have HO:=qh O;have HC:=qh (λW (h:Cn) (k:an W c cap bud nd h) (hp:h.S[i]? =some (⟨19,a,b,z⟩:Sp))=>And.intro k.l0 k.l4);refine ai5 ?_;intro HP HL K1;have HW:=qh (λW (k:an W c cap bud nd h)=>uK k.wk);clear O k hp V;go_enter func318,ntmps318;go_wp2_with fail
  go_region_held3 (λW=>W.cell? c.l=some ↑c.a/\Z W c.l 4 ↑c.k)
    (first|with_reducible exact HC.o _ _ K1.o HP.o|with_reducible exact HC.o _ _ H.o HP.o)
    (first
      | (go_at_call 146;go_loud (refine LT (HF.o _ K1.o) ?_))
      | (go_at_call 326;go_loud (refine LT (HW.o _ K1.o) ?_))
      | (go_at_call 177;go_loud (refine Op (HO.o _ K1.o) λw3 I=>?_);have H:=qh (K1.o.op I.o.2 I.o.1);have T2:=qh (((aa.refl [c.a,c.g,c.q,c.k] w).drew).trans (I.o.2.mono (T:=[c.a,c.g,c.q,c.k]) ahF))))
  all_goals have e3:=H.o.sp.cell HP.o 2 _ rfl;have e4:=H.o.sp.cell HP.o 1 _ rfl;have z3:=H.o.sp.free (i*4+2);go_wp2;go_ret;rw[HX.o];exact⟨rfl,H.o.putS (p':=(⟨19,a,a,z⟩:Sp)) HP.o (j:=2) (v:= J a) ahG rfl,T2.o.trans (dq ⟨c.q,i*4+2,none⟩ _ rfl)⟩
def xI(k:an w c cap bud nd h)(i:Nat)(hin:i<nd.length)(a b z:Int)(hp:h.S[i]? =some (⟨20,a,b,z⟩:Sp))(Y:h.ar.ops+1<=1000000000000)(I:-5<=b/\b<=100000):E 318 #[↑c.l,pointer (some ⟨c.q,i*4,none⟩)] w (eJ w c cap bud nd h i (⟨20,a,b,z⟩:Sp) (ah nd.length (ndf nd) bud h i (⟨20,a,b,z⟩:Sp))):=by
  obtain⟨v,O⟩:=LE (ldW h.ar.W (cL b));have HX:Kq (ah nd.length (ndf nd) bud h i (⟨20,a,b,z⟩:Sp)=(af h.ar (cL b),h.wk,(⟨21,a,b,v⟩:Sp))):=qh (by rw[Ix rfl,O]<;>rfl);refine ajX ?_;intro HF HO;rw[<-O]at HO;replace HO:=qh HO;clear O;have HJ:=qh (λW H (k:an W c cap bud nd ⟨H,h.wk,h.S⟩)=>k.putS (p':=(⟨20,a,b,v⟩:Sp)) hp (j:=3) (v:= J v) ahG rfl);have HPN:=fun(q:i<h.S.length)=>show(h.S.set i (⟨20,a,b,v⟩:Sp))[i]? =some (⟨20,a,b,v⟩:Sp)by simp[q]
  exact cwZ
def xN(k:an w c cap bud nd h)(i:Nat)(hin:i<nd.length)(a b z:Int)(hp:h.S[i]? =some (⟨25,a,b,z⟩:Sp))(Y:h.ar.ops+1<=1000000000000)(I:-5<=b/\b<=100000):E 318 #[↑c.l,pointer (some ⟨c.q,i*4,none⟩)] w (eJ w c cap bud nd h i (⟨25,a,b,z⟩:Sp) (ah nd.length (ndf nd) bud h i (⟨25,a,b,z⟩:Sp))):=by
  obtain⟨v,O⟩:=LE (ldW h.ar.W (cL b));have HX:Kq (ah nd.length (ndf nd) bud h i (⟨25,a,b,z⟩:Sp)=(af h.ar (cL b),h.wk,(⟨26,a,b,v⟩:Sp))):=qh (by rw[IC rfl,O]<;>rfl);refine ajX ?_;intro HF HO;rw[<-O]at HO;replace HO:=qh HO;clear O;have HJ:=qh (λW H (k:an W c cap bud nd ⟨H,h.wk,h.S⟩)=>k.putS (p':=(⟨25,a,b,v⟩:Sp)) hp (j:=3) (v:= J v) ahG rfl);have HPN:=fun(q:i<h.S.length)=>show(h.S.set i (⟨25,a,b,v⟩:Sp))[i]? =some (⟨25,a,b,v⟩:Sp)by simp[q]
  exact cwZ
def xJ(k:an w c cap bud nd h)(i:Nat)(hin:i<nd.length)(a b z:Int)(hp:h.S[i]? =some (⟨21,a,b,z⟩:Sp))(Y:h.ar.ops+1<=1000000000000)(H:-5<=z/\z<=100000):E 318 #[↑c.l,pointer (some ⟨c.q,i*4,none⟩)] w (eJ w c cap bud nd h i (⟨21,a,b,z⟩:Sp) (ah nd.length (ndf nd) bud h i (⟨21,a,b,z⟩:Sp))):=by have HX:Kq (ah nd.length (ndf nd) bud h i (⟨21,a,b,z⟩:Sp)=(ae h.ar (cN z) a,h.wk,(⟨22,a,b,z⟩:Sp))):=qh (by rw[Iy rfl]<;>rfl);have HF:=qh (λW (k:an W c cap bud nd h)=>my k z (by exact H));have HO:=qh (λW (k:an W c cap bud nd h)=>am k.ar (cN z) a Y);exact cyN
def xO(k:an w c cap bud nd h)(i:Nat)(hin:i<nd.length)(a b z:Int)(hp:h.S[i]? =some (⟨26,a,b,z⟩:Sp))(Y:h.ar.ops+1<=1000000000000)(H:-5<=z/\z<=100000):E 318 #[↑c.l,pointer (some ⟨c.q,i*4,none⟩)] w (eJ w c cap bud nd h i (⟨26,a,b,z⟩:Sp) (ah nd.length (ndf nd) bud h i (⟨26,a,b,z⟩:Sp))):=by have HX:Kq (ah nd.length (ndf nd) bud h i (⟨26,a,b,z⟩:Sp)=(ae h.ar (cN z) a,h.wk,(⟨27,a,b,z⟩:Sp))):=qh (by rw[ID rfl]<;>rfl);have HF:=qh (λW (k:an W c cap bud nd h)=>my k z (by exact H));have HO:=qh (λW (k:an W c cap bud nd h)=>am k.ar (cN z) a Y);exact cyN
def xK(k:an w c cap bud nd h)(i:Nat)(hin:i<nd.length)(a b z:Int)(hp:h.S[i]? =some (⟨22,a,b,z⟩:Sp))(Y:h.ar.ops+1<=1000000000000)(I:-5<=b/\b<=100000):E 318 #[↑c.l,pointer (some ⟨c.q,i*4,none⟩)] w (eJ w c cap bud nd h i (⟨22,a,b,z⟩:Sp) (ah nd.length (ndf nd) bud h i (⟨22,a,b,z⟩:Sp))):=by
  refine ajD ?_;intro hn e0;obtain⟨ab,hv⟩:=LE (ae h.ar (cL b) h.wk.last);have HX:Kq (ah nd.length (ndf nd) bud h i (⟨22,a,b,z⟩:Sp)=(ab,h.wk,(⟨23,h.wk.found,b,z⟩:Sp))):=qh (by rw[Iz rfl,hv]<;>rfl);have HF:=qh (λW (k:an W c cap bud nd h)=>wI k b (by exact I));have V:=(λW (k:an W c cap bud nd h)=>am k.ar (cL b) h.wk.last Y);rw[<-hv]at V;have HO:=qh V;have HC:=qh (λW (h:Cn) (k:an W c cap bud nd h) (hp:h.S[i]? =some (⟨22,a,b,z⟩:Sp))=>And.intro k.l0 (And.intro k.l4 (k.sp.cell hp 2 _ rfl)));refine ai5 ?_;intro HP HL K1;have HW:=qh (λW (k:an W c cap bud nd h)=>uK k.wk);clear V k hp hv;go_enter func318,ntmps318;go_wp2_with fail
  go_region_held3 (λW=>W.cell? c.l=some ↑c.a/\Z W c.l 4 ↑c.k/\Z W c.q (i*4+2) (J b))
    (first|with_reducible exact HC.o _ _ K1.o HP.o|with_reducible exact HC.o _ _ H.o HP.o)
    (first
      | (go_at_call 321;go_loud (refine LT (HF.o _ K1.o) ?_))
      | (go_at_call 326;go_loud (refine LT (HW.o _ K1.o) ?_))
      | (go_at_call 177;go_loud (refine Op (HO.o _ K1.o) λw3 O=>?_);have H:=qh (K1.o.op O.o.2 O.o.1);have T2:=qh (((aa.refl [c.a,c.g,c.q,c.k] w).drew).trans (O.o.2.mono (T:=[c.a,c.g,c.q,c.k]) ahF))))
  all_goals have l4:=H.o.l4;have e4:=H.o.sp.cell HP.o 1 _ rfl;have z4:=H.o.sp.free (i*4+1);have e3:Z w3 c.q (i*4) (J 22):=(by simpa using H.o.sp.cell HP.o 0 _ rfl);go_wp2_with fail;refine LT (qG H.o.wk) ?_;go_wp2;go_ret;rw[HX.o];exact⟨rfl,H.o.putS (p':=(⟨22,h.wk.found,b,z⟩:Sp)) HP.o (j:=1) (v:= J h.wk.found) ahG rfl,T2.o.trans (dq ⟨c.q,i*4+1,none⟩ _ rfl)⟩
def xL(k:an w c cap bud nd h)(i:Nat)(hin:i<nd.length)(a b z:Int)(hp:h.S[i]? =some (⟨23,a,b,z⟩:Sp))(Y:h.ar.ops+1<=1000000000000):E 318 #[↑c.l,pointer (some ⟨c.q,i*4,none⟩)] w (eJ w c cap bud nd h i (⟨23,a,b,z⟩:Sp) (ah nd.length (ndf nd) bud h i (⟨23,a,b,z⟩:Sp))):=by obtain⟨v,O⟩:=LE ((if inR h.ar.W 2 then IntKind.i64.wrap (ldW h.ar.W 2+1)else 0));have HX:Kq (ah nd.length (ndf nd) bud h i (⟨23,a,b,z⟩:Sp)=(addA h.ar 2 1,h.wk,(⟨24,a,b,z⟩:Sp))):=qh (by rw[IA rfl]<;>rfl);have HF:=qh (λW (k:an W c cap bud nd h)=>qC k);have HO:=λW (k:an W c cap bud nd h)=>ii k.ar 2 1 Y;rw[<-O]at HO;replace HO:=qh HO;clear O;exact cyN
def xM(k:an w c cap bud nd h)(i:Nat)(hin:i<nd.length)(a b z:Int)(hp:h.S[i]? =some (⟨24,a,b,z⟩:Sp))(Y:h.ar.ops+1<=1000000000000)(H:-5<=a/\a<=100000):E 318 #[↑c.l,pointer (some ⟨c.q,i*4,none⟩)] w (eJ w c cap bud nd h i (⟨24,a,b,z⟩:Sp) (ah nd.length (ndf nd) bud h i (⟨24,a,b,z⟩:Sp))):=by have HX:Kq (ah nd.length (ndf nd) bud h i (⟨24,a,b,z⟩:Sp)=(ae h.ar (cS a) b,h.wk,(⟨0,a,b,z⟩:Sp))):=qh (by rw[IB rfl]<;>rfl);have HF:=qh (λW (k:an W c cap bud nd h)=>oM k a (by exact H));have HO:=qh (λW (k:an W c cap bud nd h)=>am k.ar (cS a) b Y);exact cyN
def xP(k:an w c cap bud nd h)(i:Nat)(hin:i<nd.length)(a b z:Int)(hp:h.S[i]? =some (⟨27,a,b,z⟩:Sp))(Y:h.ar.ops+1<=1000000000000):E 318 #[↑c.l,pointer (some ⟨c.q,i*4,none⟩)] w (eJ w c cap bud nd h i (⟨27,a,b,z⟩:Sp) (ah nd.length (ndf nd) bud h i (⟨27,a,b,z⟩:Sp))):=by have HX:Kq (ah nd.length (ndf nd) bud h i (⟨27,a,b,z⟩:Sp)=(ae h.ar 2 0,h.wk,(⟨28,a,b,z⟩:Sp))):=qh (by rw[IE rfl]<;>rfl);have HF:=qh (λW (k:an W c cap bud nd h)=>qC k);have HO:=qh (λW (k:an W c cap bud nd h)=>am k.ar 2 0 Y);exact cyN
def xR(k:an w c cap bud nd h)(i:Nat)(hin:i<nd.length)(a b z:Int)(hp:h.S[i]? =some (⟨29,a,b,z⟩:Sp))(Y:h.ar.ops+1<=1000000000000):E 318 #[↑c.l,pointer (some ⟨c.q,i*4,none⟩)] w (eJ w c cap bud nd h i (⟨29,a,b,z⟩:Sp) (ah nd.length (ndf nd) bud h i (⟨29,a,b,z⟩:Sp))):=by have HX:Kq (ah nd.length (ndf nd) bud h i (⟨29,a,b,z⟩:Sp)=(ae h.ar 2 0,h.wk,(⟨30,a,b,z⟩:Sp))):=qh (by rw[IG rfl]<;>rfl);have HF:=qh (λW (k:an W c cap bud nd h)=>qC k);have HO:=qh (λW (k:an W c cap bud nd h)=>am k.ar 2 0 Y);exact cyN
def xQ(k:an w c cap bud nd h)(i:Nat)(hin:i<nd.length)(a b z:Int)(hp:h.S[i]? =some (⟨28,a,b,z⟩:Sp))(Y:h.ar.ops+1<=1000000000000)(I:-5<=b/\b<=100000):E 318 #[↑c.l,pointer (some ⟨c.q,i*4,none⟩)] w (eJ w c cap bud nd h i (⟨28,a,b,z⟩:Sp) (ah nd.length (ndf nd) bud h i (⟨28,a,b,z⟩:Sp))):=by have HX:Kq (ah nd.length (ndf nd) bud h i (⟨28,a,b,z⟩:Sp)=(ae h.ar (cS b) (-1),h.wk,(⟨0,a,b,z⟩:Sp))):=qh (by rw[IF rfl]<;>rfl);have HF:=qh (λW (k:an W c cap bud nd h)=>oM k b (by exact I));have HO:=qh (λW (k:an W c cap bud nd h)=>am k.ar (cS b) (-1) Y);exact cyN
def xS(k:an w c cap bud nd h)(i:Nat)(hin:i<nd.length)(a b z:Int)(hp:h.S[i]? =some (⟨30,a,b,z⟩:Sp))(Y:h.ar.ops+1<=1000000000000)(H:-5<=a/\a<=100000):E 318 #[↑c.l,pointer (some ⟨c.q,i*4,none⟩)] w (eJ w c cap bud nd h i (⟨30,a,b,z⟩:Sp) (ah nd.length (ndf nd) bud h i (⟨30,a,b,z⟩:Sp))):=by have HX:Kq (ah nd.length (ndf nd) bud h i (⟨30,a,b,z⟩:Sp)=(ae h.ar (cS a) (-1),h.wk,(⟨0,a,b,z⟩:Sp))):=qh (by rw[IH rfl]<;>rfl);have HF:=qh (λW (k:an W c cap bud nd h)=>oM k a (by exact H));have HO:=qh (λW (k:an W c cap bud nd h)=>am k.ar (cS a) (-1) Y);exact cyN
end
end
section
open Go.RowKit
section
variable{c:Cx}{cap:Nat}{h:Cn}
structure pE(n:Nat)(h:Cn):Prop where
 ops:h.ar.ops+1<=1000000000000
 sp:∀(j:Nat) (p:Sp),h.S[j]? =some p->(-1<=p.a/\p.a<=2000)/\(-1<=p.b/\p.b<=2000)/\(p.pc=21\/p.pc=26->-1<=p.c/\p.c<=2000)
 wk:(0<=h.wk.passed/\h.wk.passed<=n)/\(-1<=h.wk.last/\h.wk.last<=2000)
 way:∀(j:Nat) (p:Sp),h.S[j]? =some p->p.pc=18->h.wk.way=true
 pcs:∀(j:Nat) (p:Sp),h.S[j]? =some p->(0<=p.pc/\p.pc<=6)\/(10<=p.pc/\p.pc<=30)
def G5(k:an w c cap bud nd h)(C:pE nd.length h)(i:Nat)(H:i<nd.length)(p:Sp)(O:h.S[i]? =some p)(h0:p.pc≠0)(h10:p.pc<10):E 315 #[↑c.l,pointer (some ⟨c.q,i*4,none⟩),J ((i:Int)+1)] w (eJ w c cap bud nd h i p (ah nd.length (ndf nd) bud h i p)):=by
  have I:=C.sp i p O;have V:=C.pcs i p O;have Y:=C.ops;obtain⟨pc,a,b,z⟩:=p;simp only at h0 h10 I V;have:pc=1\/pc=2\/pc=3\/pc=4\/pc=5\/pc=6:=by omega
  rcases this with rfl|rfl|rfl|rfl|rfl|rfl
  . exact Gk k i H a b z O Y
  . exact Gl k i H a b z O Y
  . exact Gm k i H a b z O Y
  . exact Gn k i H a b z O Y ahE
  . exact Gp k i H a b z O Y
  . exact Gq k i H a b z O Y
def DK(k:an w c cap bud nd h)(C:pE nd.length h)(i:Nat)(H:i<nd.length)(p:Sp)(O:h.S[i]? =some p)(V:10<p.pc)(h10:p.pc<=16):E 316 #[↑c.l,pointer (some ⟨c.q,i*4,none⟩),J ((i:Int)+1)] w (eJ w c cap bud nd h i p (ah nd.length (ndf nd) bud h i p)):=by
  have I:=C.sp i p O;have Y:=C.ops;obtain⟨pc,a,b,z⟩:=p;simp only at V h10 I;have:pc=11\/pc=12\/pc=13\/pc=14\/pc=15\/pc=16:=by omega
  rcases this with rfl|rfl|rfl|rfl|rfl|rfl
  . exact zH k i H a b z O Y
  . exact zI k i H a b z O Y
  . exact zJ k i H a b z O Y
  . exact zK k i H a b z O Y ahE
  . exact zL k i H a b z O Y
  . exact zM k i H a b z O Y
def BE(k:an w c cap bud nd h)(C:pE nd.length h)(i:Nat)(O:i<nd.length)(p:Sp)(H:h.S[i]? =some p)(h0:16<p.pc)(h10:p.pc<=18):E 317 #[↑c.l,pointer (some ⟨c.q,i*4,none⟩),J ((i:Int)+1)] w (eJ w c cap bud nd h i p (ah nd.length (ndf nd) bud h i p)):=by
  have I:=C.sp i p H;have V:=C.way i p H;have Mj:=C.wk;have Y:=C.ops;have hn:=k.n32;obtain⟨pc,a,b,z⟩:=p;simp only at h0 h10 I V;have:pc=17\/pc=18:=by omega
  rcases this with rfl|rfl
  . exact xT k i O a b z H Y
  . exact xU k i a b z H Y (V rfl) ahE ahE
def BA(k:an w c cap bud nd h)(C:pE nd.length h)(i:Nat)(H:i<nd.length)(p:Sp)(O:h.S[i]? =some p)(V:18<p.pc):E 318 #[↑c.l,pointer (some ⟨c.q,i*4,none⟩)] w (eJ w c cap bud nd h i p (ah nd.length (ndf nd) bud h i p)):=by
  have I:=C.sp i p O;have H':=C.pcs i p O;have Mj:=C.wk;have Y:=C.ops;obtain⟨pc,a,b,z⟩:=p;simp only at V I H';have:pc=19\/pc=20\/pc=21\/pc=22\/pc=23\/pc=24\/pc=25\/pc=26\/pc=27\/pc=28\/pc=29\/pc=30:=by omega
  rcases this with rfl|rfl|rfl|rfl|rfl|rfl|rfl|rfl|rfl|rfl|rfl|rfl
  . by_cases V:0<b;. exact um k i H a b z O Y ahE (decide_eq_true V)
    . exact ul k i H a b z O Y ahE (decide_eq_false V)
  . exact xI k i H a b z O Y ahE
  . exact xJ k i H a b z O Y ahE
  . exact xK k i H a b z O Y ahE
  . exact xL k i H a b z O Y
  . exact xM k i H a b z O Y ahE
  . exact xN k i H a b z O Y ahE
  . exact xO k i H a b z O Y ahE
  . exact xP k i H a b z O Y
  . exact xQ k i H a b z O Y ahE
  . exact xR k i H a b z O Y
  . exact xS k i H a b z O Y ahE
def FX(k:an w c cap bud nd h)(i:Int)(C:pE nd.length h):E 312 #[↑c.l,J i] w (COp w c cap bud nd (fD nd.length (ndf nd) bud h i)):=by
  have KE:=aM;have H:=qh k;obtain⟨_,HN⟩:=k.n32;have Jy:=k.sl;obtain⟨p,hp⟩:=LE (getS h.S i);have HP:=qh hp;by_cases hc:okI h.S i/\p.pc≠0/\p.pc≠10
  . obtain⟨O,hc0,SS⟩:=hc;have I:=dG O;rw[<-hp]at I;obtain⟨V,h9⟩:=id O;obtain⟨n,rfl⟩:=Int.eq_ofNat_of_zero_le V;simp only[Int.toNat_natCast]at I;rw[Jy]at h9;have Y:n<nd.length:=(by omega);have Oy:(n:Int)<nd.length:=(by omega);have YJ:=C.pcs n p I;obtain⟨y,hy⟩:=LE (ah nd.length (ndf nd) bud h n p)
    have HS:Kq (fD nd.length (ndf nd) bud h n=(⟨y.1,y.2.1,h.S.set n y.2.2⟩,decide (y.2.2.pc=0\/y.2.2.pc=10))):=qh (by
      unfold fD;rw[<-HP.o,if_pos ⟨O,hc0,SS⟩];simp only[Int.toNat_natCast]
      rw[hy])
    have x7:IntKind.i64.wrap ((n:Int)+1)=(n:Int)+1:=IntWalk.i64_in _ ahE;have u0:(p.pc==0)=false:=(by simpa using hc0);have u10:(p.pc==10)=false:=(by simpa using SS);have Mt:p.pc<10\/(10<p.pc/\p.pc<=16)\/(16<p.pc/\p.pc<=18)\/18<p.pc:=(by omega);have l5:∀W,an W c cap bud nd h->Z W c.l 5 (slice (some ⟨c.q,0,none⟩) nd.length nd.length):=λW k=>k.l5;have WI:=qh l5;clear l5;rcases Mt with e|e|e|e
    all_goals
      first| have KR:=λW (k:an W c cap bud nd h)=>G5 k C n Y p I hc0 e| have KR:=λW (k:an W c cap bud nd h)=>DK k C n Y p I e.1 e.2| have KR:=λW (k:an W c cap bud nd h)=>BE k C n Y p I e.1 e.2| have KR:=λW (k:an W c cap bud nd h)=>BA k C n Y p I e
      rw[<-hy]at KR;have HM:=qh KR;first|(have u1:decide (p.pc<10)=true:=decide_eq_true ahE)|(have u1:decide (p.pc<10)=false:=decide_eq_false ahE)
      first|(have u2:decide (p.pc<=16)=true:=decide_eq_true ahE)|(have u2:decide (p.pc<=16)=false:=decide_eq_false ahE)
      first|(have u3:decide (p.pc<=18)=true:=decide_eq_true ahE)|(have u3:decide (p.pc<=18)=false:=decide_eq_false ahE)
      have HG:=qh I;clear KR k hp C hc0 SS I V h9 O Jy e hy YJ;go_enter func312,ntmps312;go_wp2_with fail;refine Pi (tL H.o n) λw1 b1=>?_;refine ajA ?_;intro H1;have c5:=WI.o _ H1.o.1;clear b1;go_wp2_with fail;refine(HM.o _ H1.o.1).mono ?_;rintro en w2 ⟨rfl,K2,t2⟩;have KM:(h.S.set n {y.2.2 with pc:=p.pc})[n]? =some {y.2.2 with pc:=p.pc}:=(by have:=(List.getElem?_eq_some_iff.1 HG.o).1;simp[this]);have d0:=ST (K2.sp.cell KM 0 _ rfl);have f0:=K2.sp.free (n*4);have hq:=K2.sp.lt;have K3:=K2.putS KM (j:=0) (v:= J y.2.2.pc) (p':=y.2.2) ahG rfl;simp only[Nat.add_zero,List.set_set]at K3;have H2:=qh (And.intro K3 (((aa.of_below H1.o.2).trans t2).trans (dq ⟨c.q,n*4,none⟩ (J y.2.2.pc) rfl)));clear K2 t2 KM K3 c5;cases z0:(y.2.2.pc==0)
      . cases z1:(y.2.2.pc==10);. have HD:Kq (decide (y.2.2.pc=0\/y.2.2.pc=10)=false):=qh aih;go_wp2;go_ret;rw[HS.o];exact⟨aA HD.o.symm,H2.o.1,H2.o.2⟩
        . have HD:Kq (decide (y.2.2.pc=0\/y.2.2.pc=10)=true):=qh aii;go_wp2;go_ret;rw[HS.o];exact⟨aA HD.o.symm,H2.o.1,H2.o.2⟩
      . have HD:Kq (decide (y.2.2.pc=0\/y.2.2.pc=10)=true):=qh aij;go_wp2;go_ret;rw[HS.o];exact⟨aA HD.o.symm,H2.o.1,H2.o.2⟩
  . have HS:Kq (fD nd.length (ndf nd) bud h i=(h,false)):=qh (by unfold fD;rw[<-hp,if_neg hc])
    have hz:p.pc=0\/p.pc=10:=by
      by_cases O:okI h.S i;. apply Classical.byContradiction;intro Y;exact hc ⟨O,λe=>Y (.inl e),λe=>Y (.inr e)⟩
      . left;rw[hp,dz O];rfl
    have HZ:=qh hz;clear k hp hc Jy hz C;by_cases V:p.pc=0;. have u0:(p.pc==0)=true:=(by simpa using V);clear V;go_enter func312,ntmps312;go_wp2_with fail;refine Pi (tL H.o i) λw1 b1=>?_;refine ajA ?_;intro H1;clear b1;go_wp2;go_ret;rw[HS.o];exact⟨rfl,H1.o.1,aa.of_below H1.o.2⟩
    . have u0:(p.pc==0)=false:=(by simpa using V);have u10:(p.pc==10)=true:=(by have:=HZ.o;simp;omega);clear V;go_enter func312,ntmps312;go_wp2_with fail;refine Pi (tL H.o i) λw1 b1=>?_;refine ajA ?_;intro H1;clear b1;go_wp2;go_ret;rw[HS.o];exact⟨rfl,H1.o.1,aa.of_below H1.o.2⟩
end
end
section
open Go.RowKit
theorem Tryz.infoInC:(prog.info? 3).map (λi=>(i.zero,i.size,i.bytes))=some (some (J 0),1,8):=by kernel_rfl
def Gc(w:World)(a:Nat)(nd:List Int)(e:Ending)(w':World):Prop:=
 ∃k n1 b0 b1 b2,e= returned (pointer (some ⟨k,0,none⟩))/\cK w' k n1 (.func (.func 172) #[] #[pointer (some ⟨b0,0,none⟩),pointer (some ⟨b1,0,none⟩),pointer (some ⟨b2,0,none⟩)]) nd ⟨0,false,0,0,0⟩/\
  Blk w' b0 29 #[↑a]/\Blk w' b1 3 #[J 3]/\Blk w' b2 3 #[J 3]/\(w.heap.size<=b0/\w.heap.size<=b1/\w.heap.size<=b2/\w.heap.size<=n1/\b0<k/\b1<k/\b2<k/\n1<k)/\Below w.heap.size w w'
def Hh(w:World)(a nb cap:Nat)(nd:List Int)(MI:1<=nd.length/\nd.length<=32)(OD:∀m,m<nd.length->Z w nb m (J (ndf nd m))):E 145 #[↑a,J 3,J 3,slice (some ⟨nb,0,none⟩) nd.length cap] w (Gc w a nd):=by
  have ab:∀(fn:Fn) (first cap:Array Value) (w:World),(Instr.makeFunc fn first cap).run prog w= .ok (.func fn first cap) w:=λ_ _ _ _=>rfl;obtain⟨i0,Y3,Y4,Y5,Y6⟩:=info_parts Tryz.infoInC;obtain⟨_,hn⟩:=MI;have HR:=qh OD;have Vy:nb<w.heap.size:=aT (OD 0 ahE);obtain⟨h,Y⟩:=LE (((w.alloc (cells #[↑a] 29)).alloc (cells #[J 3] 3)).alloc (cells #[J 3] 3));have J0:h.heap.size=w.heap.size+3:=by rw[Y];simp
  have I:=qh (show Below w.heap.size w h/\Blk h w.heap.size 29 #[↑a]/\Blk h (w.heap.size+1) 3 #[J 3]/\Blk h (w.heap.size+1+1) 3 #[J 3]from by
    rw[Y]
    refine⟨(((Below.refl _ _).alloc (Nat.le_refl _) _).alloc ahF _).alloc ahJ _,((Blk.new _ _ _).alloc _).alloc _,(Blk.new' _ _ _ ahF).alloc _,Blk.new' _ _ _ ahF⟩)
  have HW:=qh Y;have W6:=qh J0;clear J0;clear OD;go_enter func145,ntmps145;go_upto_region 1 with fail;rw[<-HW.o];clear Y;go_wp2_with (refine wpList_make_full _ rfl (.tmp 11) (.tmp 11) 22 rfl h.heap.size 3 i0 (J 0) 1 Tryz.underlying22 Y3 Y4 Y5 .i64 .i64 nd.length nd.length nd.length rfl rfl rfl rfl ?b2 ?b3 (Nat.le_refl _) ?_);case b2=>rw[Y6];omega
  case b3=>unfold maxLen;omega
  intro w2 r' hg;have P1:Blk w2 h.heap.size 3 (List.replicate nd.length (Value.int .i64 0)).toArray:=by have:=fU r';have e:(madeCells #[Value.int .i64 0] nd.length).toList=List.replicate nd.length (J 0):=mw _ _;rw[e]at this;simpa using this
  have t2:aa [] h w2:=aa.of_below ((Below.refl h.heap.size h).grown hg (Nat.le_refl _) (λj hj=>by cases hj));have Jx:=t2.size;have Te:=P1.lt;have V:=qh (And.intro P1 t2);clear r' hg P1 t2;have UG:∀m,m<nd.length->∀W,aa [] w2 W->Z W nb m (J (ndf nd m)):=λm hm W t=>by have T:=((aa.of_below (S:=[]) I.o.1).trans V.o.2).trans t;rw[T.cellC Vy ahF];exact HR.o m hm
  have M0:=qh UG;have Kj:Kq (∀o:Obj,Blk (w2.alloc o) h.heap.size 3 (List.replicate nd.length (Value.int .i64 0)).toArray):=qh λo=>V.o.1.alloc o
  have X1:Kq (∀(o:Obj) (j:Nat) (v:Value),(nd.map (Value.int .i64))[j]? =some v->(w2.alloc o).cell? ((⟨nb,0,none⟩:Addr).add j)=some v):=qh λo j v O=>by
    rw[List.getElem?_map]at O;cases hx:nd[j]? with
    | none=>rw[hx]at O;cases O
    | some y=>rw[hx]at O;injection O with O;have hj:=(List.getElem?_eq_some_iff.1 hx).1;have:=M0.o j hj (w2.alloc o) ((aa.refl _ _).alloc _);rw[<-O];have e:ndf nd j=y:=(by unfold ndf;rw[List.getD_eq_getElem?_getD,hx];rfl);rw[e]at this;rw[show(⟨nb,0,none⟩:Addr).add j=⟨nb,j,none⟩by cases j<;>simp[Addr.add]];exact this
  obtain⟨wc,H⟩:=LE ((w2.alloc (cells #[.nilFunc,slice (some ⟨h.heap.size,0,none⟩) nd.length nd.length,J 0,bool false,J 0,J 0,J 0] 324)).setRow h.heap.size (nd.map (Value.int .i64)).toArray);have Q5:Blk wc w2.heap.size 324 #[.nilFunc,slice (some ⟨h.heap.size,0,none⟩) nd.length nd.length,J 0,bool false,J 0,J 0,J 0]:=by rw[H];exact(setRow_other _ _ _ _ ahE).trans (Blk.new _ _ _)
  have U3:Blk wc h.heap.size 3 (nd.map (Value.int .i64)).toArray:=by rw[H];exact setRow_heap _ _ _ _ _ _ (Kj.o _)
  have k0:wc.cell? w2.heap.size=some .nilFunc:=Q5.cell 0;have z0:=Q5.free 0
  have QK:=qh (show Below h.heap.size h wc from by
    rw[H]
    exact below_setRow ((V.o.2.below ahF (Nat.le_refl _)).alloc Jx _) (Nat.le_refl _) _)
  have MD:=qh (And.intro Q5 U3);clear UG Vy Q5 U3 Te Jx;rw[H]at k0 z0;have Xg:=qh H;clear H;go_wp2_with (refine wpList_copy_own rfl (.tmp 18) (.tmp 19) 22 22 rfl 3 Tryz.underlying22 ahH h.heap.size 0 nd.length nd.length ⟨nb,0,none⟩ nd.length cap rfl rfl _ 3 (Kj.o _) (nd.map (Value.int .i64)) ahF (X1.o _) ahF ah6 ?_);go_wp2;go_ret;rw[<-Xg.o];have e3:=W6.o;have e4:=V.o.1.lt;refine⟨w2.heap.size,h.heap.size,w.heap.size,w.heap.size+1,w.heap.size+1+1,rfl,⟨?_,?_,?_,hn⟩,?_,?_,?_,?_,?_⟩;. exact MD.o.1.set_ 0 _
  . exact MD.o.2.far (by show h.heap.size≠w2.heap.size;omega) _
  . omega
  . exact(I.o.2.1.below QK.o ahE).far (by show w.heap.size≠w2.heap.size;omega) _
  . exact(I.o.2.2.1.below QK.o ahE).far (by show w.heap.size+1≠w2.heap.size;omega) _
  . exact(I.o.2.2.2.below QK.o ahE).far (by show w.heap.size+1+1≠w2.heap.size;omega) _
  . omega
  . exact(I.o.1.trans (QK.o.mono ahE)).setCell (by show w.heap.size<=w2.heap.size;omega) _
end
section
open Go.RowKit
variable{l b k a:Nat}{B0:Nat->Prop}{P T:List Int}{vN:Value}
def TBn(l:Nat)(B0:Nat->Prop)(w:World)(b:Nat)(P T:List Int)(k:Nat)(vN:Value):Prop:=
 (k=0/\ic B0 w b P T/\(∀i,B0 i->i<l)/\vN.ownBlock=none)\/∃B' m,eM B' w b P T/\(∀i,B' i->i≠l/\i<m)/\(∀g,vN.ownBlock=some g->m<=g)/\m<=w.heap.size
def TBf(l:Nat)(w:World)(b:Nat)(P T:List Int)(vN:Value):Prop:=∃B' m,eM B' w b P T/\(∀i,B' i->i≠l/\i<m)/\(∀g,vN.ownBlock=some g->m<=g)/\m<=w.heap.size
def FH(hc:a8 P T=0)(hl:l<w.heap.size)(h:TBn l B0 w b P T k vN)(Y:k<T.length)(x:Int)(hx:(ao P T T.length)[k]? =some x):E 100 #[↑b,J k] w λe w'=>e= returned (J x)/\TBf l w' b P T vN/\aa [b] w w':=by
  rcases h with⟨_,H,h1,I⟩|⟨B',m,H,h1,I,h3⟩
  . refine(DN B0 w b P T hc k Y H x hx).mono ?_;rintro e w' ⟨O,ht,tn⟩;refine⟨O,⟨_,w'.heap.size,ht.lt,λi hi=>⟨?_,hi.2⟩,λg hg=>?_,Nat.le_refl _⟩,tn⟩
    . rcases hi.1 with V|V
      . have:=h1 i V;omega
      . omega
    . rw[I]at hg;cases hg
  . refine(kq w b P T k Y H.f x hx).mono ?_;rintro e w' ⟨O,rfl⟩;exact⟨O,⟨B',m,H,h1,I,h3⟩,aa.refl _ _⟩
def lkN(a l q:Nat)(bud:Int)(n:Nat)(vN:Value):Array Value:=#[↑a,J 1,J bud,vN,.pointer none,slice (some ⟨q,0,none⟩) n n]
structure NwI(w5 wr:World)(l b a q:Nat)(bud:Int)(P T:List Int)(B0:Nat->Prop)(k:Nat)(vN:Value):Prop where
 blk:Blk wr l 263 (lkN a l q bud T.length vN)
 own:wr.ownsRow w5.heap.size 3 1 vN k (((ao P T T.length).take k).flatMap encI)
 tab:TBn l B0 wr b P T k vN
 tn:aa [l,b] w5 wr
 lb:l≠b
def TBn.turns0(h:TBn l B0 w b P T k vN)(t:aa [] w w'):TBn l B0 w' b P T k vN:=by
 rcases h with⟨H,h1,I,O⟩|⟨V,m,H,h1,I,O⟩
 .exact .inl ⟨H,h1.turns t ahF,I,O⟩
 .exact .inr ⟨V,m,H.turns t ahF,h1,I,Nat.le_trans O t.size⟩
def aa.grownBy{row:Option Nat}(h:w.grownBy w' row):aa row.toList w w':=
 ⟨h.os,h.tape,h.output,h.size,λi hi hn=>h.block i hi aiw⟩
def NwI.step{w5 wr w2 w3:World}{q:Nat}{A:Option Addr}{cap H I:Nat}{x:Int}{o:Obj}(h:NwI w5 wr l b a q bud P T B0 k (.slice A k cap))(hx:(ao P T T.length)[k]? =some x)(MQ:l<w5.heap.size)(ML:b<w5.heap.size)(ht:TBf l w2 b P T (.slice A k cap))(t2:aa [b] wr.drew w2)(h3:w3.ownsRow w5.heap.size 3 1 (slice (some ⟨H,0,none⟩) (k+1) I) (k+1) (((ao P T T.length).take k).flatMap encI++encI x))(hg:(w2.alloc o).grownBy w3 (Value.slice A k cap).ownBlock)(Kj:(Value.slice A k cap).ownBlock=some H\/H=(w2.alloc o).heap.size):NwI w5 (w3.setCell ⟨l,3,none⟩ (slice (some ⟨H,0,none⟩) (k+1) I)) l b a q bud P T B0 (k+1) (slice (some ⟨H,0,none⟩) (k+1) I):=by
  have Md:=h.lb;have r':∀g,(Value.slice A k cap).ownBlock=some g->w5.heap.size<=g:=λg hg=>(h.own.lt g hg).1;have tg:aa (Value.slice A k cap).ownBlock.toList (w2.alloc o) w3:=aa.grownBy hg;have JV:l∉(Value.slice A k cap).ownBlock.toList:=λhm=>by have:=r' l aif;omega
  have OS:Blk w2 l 263 _:=t2.blk h.blk.drew (by simpa using Md);have PJ:Blk w3 l 263 _:=tg.blk (OS.alloc o) JV;have h5:w5.heap.size<=wr.heap.size:=h.tn.size;have Jx:wr.heap.size<=w2.heap.size:=t2.size;have Vf:w5.heap.size<=H:=(h3.lt H rfl).1;have Y:aa [l] w3 (w3.setCell ⟨l,3,none⟩ (slice (some ⟨H,0,none⟩) (k+1) I)):=(aa.refl _ _).setCell (.inl ahF) _;refine⟨PJ.set_ 3 _,?_,.inr ?_,?_,Md⟩
  . have e:((ao P T T.length).take (k+1)).flatMap encI=((ao P T T.length).take k).flatMap encI++encI x:=(by rw[cj hx,List.flatMap_append];simp);rw[e]
    exact aa.own h3 Y (λg hg=>by
      injection hg with hg;subst hg
      simp;omega)
  . obtain⟨B',m,k1,V,k3,k4⟩:=ht;have J0:w2.heap.size<=w3.heap.size:=Nat.le_trans ahF tg.size;refine⟨B',m,((k1.turns (S:=[]) ((aa.refl _ _).alloc o) ahF).turns tg (λi hi O=>?_)).turns Y (λi hi O=>?_),V,λg hg=>?_,?_⟩;. have:=k3 i ah8;have:=(V i O).2;omega
    . exact(V i O).1 ah8
    . injection hg with hg;subst hg;rcases Kj with e|e
      . exact k3 _ e
      . rw[e];simp only[World.alloc,Array.size_push];omega
    . rw[show(w3.setCell ⟨l,3,none⟩ (slice (some ⟨H,0,none⟩) (k+1) I)).heap.size=w3.heap.size by simp];omega
  . have c1:aa ([l,b]++(Value.slice A k cap).ownBlock.toList) w5 (w3.setCell ⟨l,3,none⟩ (slice (some ⟨H,0,none⟩) (k+1) I)):=
      ((((h.tn.mono ahF).trans ((aa.refl _ _).drew)).trans (t2.mono ahF)).trans (((aa.refl _ _).alloc o).trans (tg.mono λi hi=>List.mem_append_right _ hi))).trans (Y.mono ahF)
    refine c1.fresh λi hi=>?_;rcases List.mem_append.1 hi with hi|hi
    . exact .inl hi
    . exact .inr (r' i ah8)
def Hk(w:World)(l:Nat)(c1:Z w l 1 (J 1)):E 146 #[↑l,J 1] w λe w'=>e= returned (J 3)/\w=w':=by go_enter func146,ntmps146;exact aaa
def cn0(s:Ar)(n:Nat):Cn:=⟨{s with W:=List.replicate (2+3*n) 0},⟨0,false,0,0,0⟩,List.replicate n Sp.zero⟩
def EH(w:World)(a g:Nat)(s:Ar)(bud:Int)(P T:List Int)(e:Ending)(w':World):Prop:=
 ∃(c:Cx) (cap:Nat),c.a=a/\c.g=g/\e= returned (tuple #[↑c.l,J 0])/\an w' c cap bud (ao P T T.length) (cn0 s T.length)/\w.heap.size<=c.l/\w.heap.size<=c.q/\w.heap.size<=c.k/\aa [a] w w'/\∀x∈[c.n1,c.nb,c.b0,c.b1,c.b2],w.heap.size<=x
def FD{g:Nat}{s:Ar}(h:aB w a g s)(hs:s.W=[])(KU:a≠g)(vP vT:Value)(P T:List Int)(hP:RdL w vP 1 encI P)(hT:RdL w vT 1 encI T)(hc:a8 P T=0)(bud:Int)(Mb:0<=bud)(hd1:bud<=1000)(V:s.room=4096):E 106 #[↑a,agg #[vP,vT],J bud] w (EH w a g s bud P T):=by
  obtain⟨i0,hi,JF,JH,ab⟩:=info_parts Tryz.infoSp;obtain⟨j0,hj,OI,OJ,NL⟩:=info_parts Tryz.infoInC;have J5:=bi (aQ hc).1;refine ajB ?_;intro KL KZ LA Lr;have H:=qh (And.intro h (And.intro KL (And.intro KZ KU)));have HN:=qh (gX (w.alloc (cells #[vP,vT] 24)) vP vT P T (hP.alloc _) (hT.alloc _) hc);have HS:=qh (And.intro hs V);have JX:=qh hc;have HR:=qh (λW=>oI bud W Mb hd1);refine ake ?_;intro JV B0;have x1:IntKind.i64.wrap (3*(T.length:Int))=3*(T.length:Int):=IntWalk.i64_in _ ahE;have x2:IntKind.i64.wrap (2+3*(T.length:Int))=2+3*(T.length:Int):=IntWalk.i64_in _ ahE;clear h hs hP hT Mb hd1 V J5 KL KZ KU hc;go_enter func106,ntmps106;go_wp2_with fail;refine HN.o.mono ?_;rintro en w1 ⟨b,rfl,I,t1,b1⟩;rw[JV]at I t1 b1;have K1:=qh (And.intro (t1.q JX.o) (B0.o.trans (b1.mono ahE)));have HB:=qh I;clear t1 b1 I HN;go_wp2_with fail;refine LT (HR.o _) ?_;go_wp2_with fail;refine LT (dY _ _ _ _ (K1.o.1.tab JX.o)) ?_;go_wp2_with fail;have A1:=H.o.1.turns (aa.of_below (S:=[]) K1.o.2) ahF ahF
  have HT:Kq (dX s (2+3*(T.length:Int))=({s with W:=List.replicate (2+3*T.length) 0},(1:Int),(0:Int))):=qh (by
    unfold dX
    rw[HS.o.1,HS.o.2,if_neg ahE,if_neg ahJ,show(2+3*(T.length:Int)).toNat=2+3*T.length by omega];rfl)
  refine(gn A1 (2+3*(T.length:Int))).mono ?_;rintro en w3 ⟨rfl,k3,t3⟩;rw[HT.o]at k3 ⊢;have Ni:=K1.o.2.size;have Kp:=t3.size;have Qi:∀i∈[a],¬(w.heap.size+1<=i/\i<w1.heap.size):=λi hi=>by have:=H.o.2.1;simp at hi;omega
  have K3:=qh (And.intro (K1.o.1.turns t3 Qi) (And.intro ((aa.of_below (S:=[a]) K1.o.2).trans t3) (And.intro k3 (And.intro Ni Kp))));clear k3 t3 A1 Qi Kp Ni x1 x2;go_wp2_with (refine wpList_make_full _ rfl (.tmp 43) (.tmp 43) 237 rfl w3.heap.size 113 i0 (agg #[J 0,J 0,J 0,J 0]) 4 Tryz.underlying237 hi JF JH .i64 .i64 T.length T.length T.length rfl rfl rfl rfl ?b2 ?b3 (Nat.le_refl _) ?_);case b2=>rw[ab];omega
  case b3=>unfold maxLen;omega
  intro w4 r' hg;have I:dy w4 w3.heap.size (List.replicate T.length Sp.zero):=by exact aaz
  have t4:aa [] w3 w4:=aa.of_below ((Below.refl w3.heap.size w3).grown hg (Nat.le_refl _) (λj hj=>by cases hj));have LL:=I.lt;have H4:=qh (And.intro I (And.intro t4 LL));clear r' hg I t4 LL;go_upto_region 11 with fail;obtain⟨q,hq⟩:=LE w3.heap.size;rw[<-hq]at H4 ⊢;have HQ:=qh hq;clear hq;obtain⟨l,hl⟩:=LE w4.heap.size;obtain⟨w5,J8⟩:=LE (w4.alloc (.cells (lkN a l q bud T.length (.slice none 0 0)) 263));have MX:=J8;unfold lkN at MX;rw[<-MX,<-hl];have t5:aa [] w4 w5:=by rw[J8];exact(aa.refl _ _).alloc _
  have MU:w5.heap.size=l+1:=by rw[J8,hl];simp
  have ML:Blk w5 l 263 (lkN a l q bud T.length (.slice none 0 0)):=by rw[J8,hl];exact Blk.new _ _ _
  have HI:=qh (show NwI w5 w5 l b a q bud P T (λi=>w.heap.size+1<=i/\i<w1.heap.size) 0 (.slice none 0 0)from by
    have e1:=K3.o.2.2.2;have e2:=H4.o.2.2;have e3:=H4.o.2.1.size;refine⟨ML,?_,.inl ⟨rfl,(K3.o.1.turns H4.o.2.1 ahF).turns t5 ahF,λi hi=>by omega,rfl⟩,aa.refl _ _,?_⟩;. rw[List.take_zero,List.flatMap_nil];exact World.ownsRow_nil _ _ _ _
    . have:b<w1.heap.size:=K1.o.1.low.2
      omega)
  have H5:=qh (And.intro t5 (And.intro MU hl));clear J8 MX t5 MU ML hl;go_wp2;go_loopw [13,48] (λ_ i wr=>∃(k:Nat) (vN:Value),i= J k/\k<=T.length/\NwI w5 wr l b a q bud P T (λi=>w.heap.size+1<=i/\i<w1.heap.size) k vN) (λ_ i _=>T.length-(intOf i).toNat);case atStart=>exact⟨0,_,rfl,by omega,HI.o⟩
  case round=>
    clear HI;obtain⟨k,vN,rfl,hk,Y⟩:=hrel;obtain⟨O,rfl⟩:∃O:World,O=wr:=⟨_,rfl⟩;have MQ:l<w5.heap.size:=(by have:=H5.o.2.1;omega);have ML:b<w5.heap.size:=(by have e0:b<w1.heap.size:=K1.o.1.low.2;have e1:=K3.o.2.2.2.2;have e2:=H4.o.2.1.size;have e3:=H5.o.1.size;omega);by_cases I':k<T.length
    . obtain⟨A,cap,rfl⟩:=bO Y.own;obtain⟨x,hx⟩:∃x,(ao P T T.length)[k]? =some x:=ak (by rw[dm (Nat.le_refl _)];exact I');have c3:Z O l 3 (.slice A k cap):=Y.blk.cell 3;have KD:l<O.heap.size:=Y.blk.lt;have XG:w5.heap.size<=O.heap.size:=Y.tn.size;have Sd:=qh (FH JX.o (w:=O.drew) KD (Y.tab.turns0 ((aa.refl _ _).drew)) I' x hx);have HX:=qh hx;have HW:=qh Y;have WJ:=qh Y.lb;clear Y hx;go_wp2_with fail
      go_region_law (first
        | (refine step_append_lies _ rfl _ _ 22 rfl w5.heap.size 3 j0 (J 0) 1 8 Tryz.underlying22 hj OI OJ NL rfl ahG _ _ _ rfl (o2.alloc _) ⟨w2.heap.size,0,none⟩ 1 1 (encI x) rfl rfl (λj u hj=>cell_one_new w2 (J x) 3 j u hj) (ke _) ahG (by unfold maxLen;omega) ahE ahJ _ rfl ?_;intro g3 Ks w7 h3 Kj MP Tf;have PJ:=(OS.alloc (cells #[J x] 3)).grown Kj (λe=>Qf e.symm);have ZI:Z w7 l 3 (.slice A k cap):=PJ.cell 3;have ad:=PJ.free 3)
        | (go_simp;go_at_call 100;refine Sd.o.mono ?_;rintro en w2 ⟨rfl,VR,QC⟩;have OS:Blk w2 l 263 (lkN a l q bud T.length (.slice A k cap)):=QC.blk HW.o.blk.drew (by simpa using WJ.o);have o2:w2.ownsRow w5.heap.size 3 1 (.slice A k cap) k (((ao P T T.length).take k).flatMap encI):=aa.own (show O.drew.ownsRow _ _ _ _ _ _ from HW.o.own) QC (λg hg=>by have:=(HW.o.own.lt g hg).1;simp;omega);have Qf:(Value.slice A k cap).ownBlock≠some l:=(λe=>by have:=(HW.o.own.lt l e).1;omega);have ZH:Z w2 l 3 (.slice A k cap):=OS.cell 3;have Lg:l<w2.heap.size:=OS.lt;have Jx:=QC.size;simp at Jx))
      all_goals
        have HR:=qh (NwI.step HW.o HX.o MQ ML VR QC h3 Kj MP);clear VR QC h3 Kj MP PJ OS o2;go_wp2;go_roundw;case rel=>exact⟨k+1,_,by go_num,by omega,HR.o⟩
        case measure=>simp[intOf];omega
    . obtain rfl:k=T.length:=by omega
      have J4:(ao P T T.length).length=T.length:=dm (Nat.le_refl _);obtain⟨nb,cap,rfl,Yw,Yx⟩:=gG Y.own ahE;have NH:=Y.own;rw[show(ao P T T.length).take T.length=ao P T T.length from List.take_of_length_le (by rw[J4];exact Nat.le_refl _)]at NH;have OD:∀m,m<(ao P T T.length).length->Z O nb m (J (ndf (ao P T T.length) m)):=λm hm=>by obtain⟨x,hx⟩:=ak hm;have e:ndf (ao P T T.length) m=x:=(by unfold ndf;rw[List.getD_eq_getElem?_getD,hx];rfl);rw[e];obtain⟨_,_,h1,_,_,h2⟩:=dJ (l:=ao P T T.length) (by rw[J4];exact NH) ahE;obtain⟨b',off,h3,_,h4⟩:=h2 ahE;injection h1 with h1;rw[h3]at h1;injection h1 with h1;injection h1 with h5 h6;have:=h4 m x hx 0 _ rfl;rw[<-h5,<-h6]at this;simpa using this
      have c1:Z O l 1 (J 1):=Y.blk.cell 1;have c3:Z O l 3 (slice (some ⟨nb,0,none⟩) T.length cap):=Y.blk.cell 3;have KD:l<O.heap.size:=Y.blk.lt;have Oh:=qh (Hk O.drew l c1);have Sc:=Hh O.drew a nb cap (ao P T T.length) (by rw[J4];omega) OD;rw[J4]at Sc;have WP:=qh Sc;have HW:=qh (And.intro Y OD);clear Y OD Sc NH;go_wp2_with fail
      go_region_held3 (λW=>Z W l 3 (slice (some ⟨nb,0,none⟩) T.length cap))
        (first|exact c3|exact Xs|exact Xt)
        (first
          | (go_at_call 146;go_loud (refine LT Oh.o ?_))
          | (go_at_call 145;go_loud (refine WP.o.mono ?_);rintro en w8 ⟨kk,n1,b0,b1,b2,rfl,Wq,p0,p1,p2,VE,b8⟩;have OT:Blk w8 l 263 (lkN a l q bud T.length (slice (some ⟨nb,0,none⟩) T.length cap)):=HW.o.1.blk.drew.below b8 KD;have Xs:Z w8 l 3 (slice (some ⟨nb,0,none⟩) T.length cap):=OT.cell 3;have ZJ:Z w8 l 4 (.pointer none):=OT.cell 4;have al:=OT.free 4;have Xt:(w8.setCell ⟨l,4,none⟩ ↑kk).cell? ⟨l,3,none⟩=some (slice (some ⟨nb,0,none⟩) T.length cap):=(OT.set_ 4 ↑kk).cell 3;have H8:=qh (And.intro Wq (And.intro p0 (And.intro p1 (And.intro p2 (And.intro VE (And.intro b8 OT))))));clear Wq p0 p1 p2 VE b8 OT))
      all_goals
        go_wp2;go_ret2;have f1:=K1.o.2.size;have f2:=K3.o.2.2.2;have f3:=H4.o.2.2;have f4:=H4.o.2.1.size;have f5:=H5.o.2;have f6:=HQ.o;have f7:b<w1.heap.size:=K1.o.1.low.2;have f8:w.heap.size+1<=b:=K1.o.1.low.1;have f9:=H.o.2;have XC:=H8.o.2.2.2.2.1;have ZO:w5.heap.size<=O.heap.size:=HW.o.1.tn.size;have f12:O.drew.heap.size=O.heap.size:=rfl;have XD:nb<O.heap.size:=aT (HW.o.2 0 (by rw[J4];omega));rw[f12]at XC;have t8:aa [] O w8:=((aa.refl _ _).drew).trans (aa.of_below H8.o.2.2.2.2.2.1);have t9:aa [l] w8 (w8.setCell ⟨l,4,none⟩ ↑kk):=(aa.refl _ _).setCell (.inl ahF) _;have RU:aa [l,b] w5 (w8.setCell ⟨l,4,none⟩ ↑kk):=(HW.o.1.tn.trans (t8.mono ahF)).trans (t9.mono ahF);have Wo:aa [l,b] w3 (w8.setCell ⟨l,4,none⟩ ↑kk):=((H4.o.2.1.mono ahF).trans (H5.o.1.mono ahF)).trans RU;refine⟨⟨l,a,g,q,kk,n1,nb,b0,b1,b2⟩,cap,rfl,rfl,rfl,⟨?_,?_,?_,?_,?_,?_,?_,?_,?_,?_,?_,?_⟩,?_,?_,?_,?_,λx hx=>by simp at hx;omega⟩;. exact K3.o.2.2.1.turns Wo ahJ ahJ
        . unfold GV;rw[J4];exact H8.o.2.2.2.2.2.2.set_ 4 _
        . exact(H4.o.1.turns (T:=[]) H5.o.1 ahF).turns RU (by show q∉[l,b];simp;omega)
        . exact H8.o.1.turns t9 (by show kk∉[l];simp;omega) (by show n1∉[l];simp;omega)
        . intro m hm;have e8:w8.cell? ⟨nb,m,none⟩=O.cell? ⟨nb,m,none⟩:=t8.cellC XD ahF;have e9:=t9.cellC (p:=⟨nb,m,none⟩) (by have:=t8.size;show nb<w8.heap.size;omega) (by show nb∉[l];simp;omega);exact e9.trans (e8.trans (HW.o.2 m hm))
        . exact t9.blk H8.o.2.1 (by show b0∉[l];simp;omega)
        . exact t9.blk H8.o.2.2.1 (by show b1∉[l];simp;omega)
        . exact t9.blk H8.o.2.2.2.1 (by show b2∉[l];simp;omega)
        . rw[J4];simp[cn0]
        . rw[J4];omega
        . show[a,g,q,kk].Nodup;simp;omega
        . show ∀x∈[l,n1,nb,b0,b1,b2],x∉[a,g,q,kk];intro x hx;simp at hx ⊢;omega
        . show w.heap.size<=l;omega
        . show w.heap.size<=q;omega
        . show w.heap.size<=kk;omega
        . have:aa [a,l,b] w (w8.setCell ⟨l,4,none⟩ ↑kk):=(K3.o.2.1.mono ahF).trans (Wo.mono ahF);exact this.fresh λi hi=>by simp at hi ⊢;omega
end
section
open Go Go.RowKit
variable{h:Cn}{n:Nat}
def cnV(l:Nat):Value:= .iface 181 (agg #[.iface 182 ↑l])
structure CnB where
 c:Cx
 cap:Nat
 bt:Nat
 hi:Nat
def cnF(b:CnB):List Nat:=[b.c.a,b.c.g,b.c.q,b.c.k]
def wN(bud:Int)(nd:List Int)(n:Nat):LkM n where
 σ:=Cn
 β:=CnB
 ok:=λst N=>CtS n st/\st.ar.ops<=N
 ar:=λst=>st.ar
 sp:=λst i=>sv st.S i
 cn:=λst i=>if (sv st.S i).pc=10 then 1 else 0
 rd:=false
 step:=λst i=>(fD n (ndf nd) bud st i).1
 ask:=λst i r=>if r then st else(bN st i 0 1).1
 leave:=λst i=>(bN st i 10 11).1
 bt:=λb=>b.bt
 hi:=λb=>b.hi
 fp:=cnF
 is:=λb w a g lb st=>an w b.c b.cap bud nd st/\(b.c.a=a/\b.c.g=g)/\jt w lb n 9 (cnV b.c.l) (cnF b) b.bt b.hi/\∀x∈[b.c.l,b.c.n1,b.c.nb,b.c.b0,b.c.b1,b.c.b2],b.bt<=x/\x<b.hi
def an.far{c:Cx}{cap:Nat}{S:List Nat}(k:an w c cap bud nd h)(t:aa S w w')(h1:∀x∈[c.a,c.g,c.q,c.k],x∉S)(H:∀x∈[c.l,c.n1,c.nb,c.b0,c.b1,c.b2],x∉S):an w' c cap bud nd h:=by simp only[List.mem_cons,List.not_mem_nil,or_false,forall_eq_or_imp,forall_eq]at h1 H;obtain⟨I,O,V,Y⟩:=h1;obtain⟨y1,y2,y3,y4,y5,y6⟩:=H;refine⟨k.ar.turns t I O,t.blk k.lk y1,k.sp.turns t V,k.wk.turns t Y y2,λm hm=>?_,t.blk k.p0 y4,t.blk k.p1 y5,t.blk k.p2 y6,k.sl,k.n32,k.nd4,k.st⟩;rw[t.cellC (aT (k.row m hm)) y3];exact k.row m hm
def CtS.ccond(k:CtS n h)(hn:n<=32)(Y:h.ar.ops+1<=1000000000000):pE n h:=by
 have O:∀(j:Nat) (p:Sp),h.S[j]? =some p->j<n/\sv h.S j=p:=λj p H=>⟨by rw[<-k.len];exact(List.getElem?_eq_some_iff.1 H).1,by unfold sv;rw[List.getD_eq_getElem?_getD,H];rfl⟩;have wb:=k.i.wb;unfold WkB at wb;refine⟨Y,λj p H=>?_,⟨⟨wb.2.2.1,wb.2.2.2⟩,by omega,by omega⟩,λj p H e=>?_,λj p H=>?_⟩;.obtain⟨I,rfl⟩:=O j p H;have h1:=k.i.sp j I;have V:=k.i.c1 j I;exact⟨by omega,by omega,λe=>by omega⟩
 .obtain⟨I,rfl⟩:=O j p H;exact k.i.w3 j I e
 .obtain⟨I,rfl⟩:=O j p H;exact k.i.pcs j I
def zw(st:Cn)(i:Nat)(hi:i<st.S.length)(u v:Int):(bN st i u v).1=(if (sv st.S i).pc=u then⟨st.ar,st.wk,st.S.set i {sv st.S i with pc:=v}⟩else st)/\(bN st i u v).2=decide ((sv st.S i).pc=u):=by unfold bN;rw[gF hi,Int.toNat_natCast];exact aba
def r6{node:Nat->Int}(st:Cn)(i:Nat)(hi:i<st.S.length):(fD n node bud st i).2=dg (sv st.S i) (sv (fD n node bud st i).1.S i):=by
 unfold fD;rw[gF hi,Int.toNat_natCast];unfold dg;split
 .rename_i h;simp only[fZ hi,if_true];by_cases c:(ah n node bud st i (sv st.S i)).2.2.pc=0\/(ah n node bud st i (sv st.S i)).2.2.pc=10;.exact aaA
  .exact aaB
 .exact abb
theorem nC(n:Nat)(node:Nat->Int)(bud:Int)(st:Cn)(i:Nat):(fD n node bud st i).1.ar.ops<=st.ar.ops+1:=by
 have h1:=λx v=>g8 st.ar x v;have H:=λx=>iP st.ar x;have I:=λx o v=>nz st.ar x o v;have O:=λx v=>ju st.ar x v;have V:=λx v=>eY st.ar x v;unfold fD;split
 .show(ah n node bud st (i:Int).toNat (getS st.S i)).1.ops<=_;unfold ah;split;.unfold inC;grind (splits:=40)
  .split;.unfold jA;grind (splits:=40)
   .split;.unfold me;grind (splits:=40)
    .unfold dU;grind (splits:=40)
 .simp
def uM(hn:1<=nd.length/\nd.length<=32):(wN bud nd nd.length).Good where
 n32:=hn
 okS:=fun(st:Cn) N i h hN hi=>⟨h.1.step (ndf nd) bud hi,Nat.le_trans (nC _ _ _ st i) (by have:=h.2;omega)⟩
 okA:=fun(st:Cn) N i r h hN hi=>by
  cases r
  .refine⟨h.1.beg hi (.inl ⟨rfl,rfl⟩),?_⟩
   show(bN st i 0 1).1.ar.ops<=_
   have:(bN st i 0 1).1.ar=st.ar:=by unfold bN;split<;>rfl
   rw[this];have:=h.2;omega
  .exact⟨h.1,by have:=h.2;show st.ar.ops<=_;omega⟩
 okL:=fun(st:Cn) N i h hN hi=>by
  refine⟨h.1.beg hi (.inr ⟨rfl,rfl⟩),?_⟩
  show(bN st i 10 11).1.ar.ops<=_
  have:(bN st i 10 11).1.ar=st.ar:=by unfold bN;split<;>rfl
  rw[this];have:=h.2;omega
 okm:=fun(st:Cn) N h=>⟨h.1,by have:=h.2;omega⟩
 one:=fun(st:Cn) N i j h hi hj h1 h2 _=>h.1.one hi hj h1 h2
 pcs:=fun(st:Cn) N i h hi=>by have:=h.1.i.pcs i hi;show 0<=(sv st.S i).pc;omega
 cnt:=fun(st:Cn) N i h hi=>by
  exact aaC
 opsS:=fun(st:Cn) N i _ _ _=>nC _ _ _ st i
 arA:=fun(st:Cn) i r=>by
  cases r
  .show(bN st i 0 1).1.ar=st.ar
   unfold bN;split<;>rfl
  .rfl
 arL:=fun(st:Cn) i=>by
  show(bN st i 10 11).1.ar=st.ar
  unfold bN;split<;>rfl
 ais:=fun(b:CnB) w a g lb (st:Cn) h=>by obtain⟨k,⟨rfl,rfl⟩,_⟩:=h;exact k.ar
 lk:=fun(b:CnB) w a g lb (st:Cn) h=>h.2.2.1.c1
 kd:=fun(b:CnB) w a g lb (st:Cn) h=>⟨9,h.2.2.1.blk.cell 0,rfl⟩
 fpa:=fun(b:CnB) w a g lb (st:Cn) h=>⟨λx H=>(h.2.2.1.fl x H).2,h.2.2.1.hw⟩
 far:=fun(b:CnB) w a g lb (st:Cn) w' S h t hS=>by
  obtain⟨k,hc,hd,hl⟩:=h
  have Y:∀x∈S,b.hi<=x\/x<b.bt:=hS
  exact⟨k.far t (λx H m=>by have:=hd.fl x H;have:=Y x m;omega) (λx H m=>by have:=hl x H;have:=Y x m;omega),hc,hd.far t Y,hl⟩
 cS:=fun(b:CnB) w a g lb (st:Cn) N i h hk hN hi=>by
  obtain⟨k,hc,hd,hl⟩:=h
  refine(nQ .cn hd.c1 hd.c2 hi (R:=λr w'=>r=dg (sv st.S i) (sv (fD nd.length (ndf nd) bud st i).1.S i)/\an w' b.c b.cap bud nd (fD nd.length (ndf nd) bud st i).1/\aa (cnF b) w w') λW bw=>?_).mono ?_
  .refine(FX (k.below bw) (i:Int) (hk.1.ccond hn.2 (by have:=hk.2;unfold lkB at hN;omega))).mono ?_
   rintro e w' ⟨rfl,I,t2⟩
   exact⟨_,rfl,r6 st i (by rw[k.sl];exact hi),I,(aa.of_below bw).trans t2⟩
  .exact abk
 cA:=fun(b:CnB) w a g lb (st:Cn) N i r h hk hN hi=>by
  obtain⟨k,hc,hd,hl⟩:=h
  have O:i<st.S.length:=by rw[k.sl];exact hi
  refine(x9 .cn hd.c1 hd.c2 hi r (R:=λq w'=>q=decide ((sv st.S i).pc=0/\(r=true->(false:Bool)=true))/\an w' b.c b.cap bud nd (if r then st else(bN st i 0 1).1)/\aa (cnF b) w w') (λV W bw=>?_) (λV W bw=>?_)).mono ?_
  .subst V
   refine(Gf (k.below bw) (i:Int)).mono ?_
   rintro e w' ⟨rfl,I,t2⟩
   exact⟨_,rfl,by rw[(zw st i O 0 1).2];simp,I,(aa.of_below bw).trans t2⟩
  .exact aaE
  .exact abk
 cL:=fun(b:CnB) w a g lb (st:Cn) N i h hk hN hi=>by
  obtain⟨k,hc,hd,hl⟩:=h
  have O:i<st.S.length:=by rw[k.sl];exact hi
  refine(kA .cn hd.c1 hd.c2 hi (R:=λq w'=>q=decide ((sv st.S i).pc=10)/\an w' b.c b.cap bud nd (bN st i 10 11).1/\aa (cnF b) w w') λW bw=>?_).mono ?_
  .refine(Dq (k.below bw) (i:Int)).mono ?_
   rintro e w' ⟨rfl,I,t2⟩
   exact⟨_,rfl,(zw st i O 10 11).2,I,(aa.of_below bw).trans t2⟩
  .exact abk
 cP:=fun(b:CnB) w a g lb (st:Cn) i h hi=>nO .cn h.2.2.1.c1 h.2.2.1.c2 hi _ λW bw=>by
  exact abl
 cC:=fun(b:CnB) w a g lb (st:Cn) i h hi=>nM .cn h.2.2.1.c1 h.2.2.1.c2 hi _ λW bw=>by
  exact abl
end
end Go.Proofs.YtglokdbiggbkjaaGreat
