/- Joined texts. -/
import Derived.ScopeJumps
import Derived.WalkMore
import Derived.Test.YtglokdbiggbkjaaGreatMgWorldAgain0
import Derived.Test.YtglokdbiggbkjaaGreatMgWorldAgain10
set_option linter.unusedVariables false
set_option linter.unusedSimpArgs false
set_option linter.defProp false
set_option maxRecDepth 100000
set_option maxHeartbeats 16000000
open Go.Proofs.Tryz
namespace Go.Proofs.YtglokdbiggbkjaaGreat
open Go.IntKind(i64)
open Go.Value(int bool slice agg tuple pointer)
open Go.Ending(returned)
open Go.Obj(cells)
variable{w w':World}{cap i:Nat}{bud:Int}{nd:List Int}{a:Act}{Q:Exit->Act->World->Prop}
section
open Go.RowKit
variable{p:Sp}{Q:Prop}
section
variable{c:Cx}{h:Cn}
def eI(w:World)(c:Cx)(cap:Nat)(bud:Int)(nd:List Int)(h:Cn)(i:Nat)(p:Sp)(x:Ar×Wk×Sp)(e:Ending)(w':World):Prop:=
 e= returned (J x.2.2.pc)/\aq w' c cap bud nd ⟨x.1,x.2.1,h.S.set i {x.2.2 with pc:=p.pc}⟩/\aa [c.a,c.g,c.q,c.k] w w'
def zj{S:List Sp}(hp:S[i]? =some p):S.set i p=S:=by exact aal
def aq.samS{H:Ar}{I:Wk}(k:aq w c cap bud nd ⟨H,I,h.S⟩)(O:h.S[i]? =some p):aq w c cap bud nd ⟨H,I,h.S.set i p⟩:=by rw[zj O];exact k
def aq.cs(k:aq w c cap bud nd h)(H:h.S[i]? =some p):w.cell? c.l=some ↑c.a/\Z w c.l 1 (J 1)/\Z w c.l 4 ↑c.k/\Z w c.q (i*4+1) (J p.a)/\Z w c.q (i*4+2) (J p.b)/\Z w c.q (i*4+3) (J p.c):=⟨k.l0,k.l1,k.l4,k.sp.cell H 1 _ rfl,k.sp.cell H 2 _ rfl,k.sp.cell H 3 _ rfl⟩
def cyN(h_:Q:=by
    obtain⟨_,hn⟩:=k.n32
    have e0:=aaa (k.sp.cell hp 0 _ rfl)
    have HP:=qh hp
    have HL:=qh (show i<h.S.length by rw[k.sl];exact hin)
    have K1:=qh (k.below ((Below.refl _ w).drew))
    clear k hp
    first
      | go_enter func315,ntmps315
      | go_enter func316,ntmps316
      | go_enter func318,ntmps318
    go_wp2_with fail
    go_region_held3 (λW=>W.cell? c.l=some ↑c.a/\Z W c.l 1 (J 1)/\Z W c.l 4 ↑c.k/\Z W c.q (i*4+1) (J a)/\Z W c.q (i*4+2) (J b)/\Z W c.q (i*4+3) (J z))
      (first|(have q:=K1.o.cs HP.o;exact⟨q.1,q.2.1,q.2.2.1,q.2.2.2.1,q.2.2.2.2.1,q.2.2.2.2.2⟩)|(have q:=K2.o.cs HP.o;exact⟨q.1,q.2.1,q.2.2.1,q.2.2.2.1,q.2.2.2.2.1,q.2.2.2.2.2⟩))
      (first
        | (go_at_call 146;go_loud (refine LT (HF.o _ K1.o) ?_))
        | (go_at_call 319;go_loud (refine LT (HF.o _ K1.o) ?_))
        | (go_at_call 321;go_loud (refine LT (HF.o _ K1.o) ?_))
        | (go_at_call 322;go_loud (refine LT (HF.o _ K1.o) ?_))
        | (go_at_call 177;go_loud (refine Pi (HO.o _ K1.o) λw3 a3=>?_);have K2:=qh (K1.o.op a3.o.2 a3.o.1);have T2:=qh (((aa.refl [c.a,c.g,c.q,c.k] w).drew).trans (a3.o.2.mono (T:=[c.a,c.g,c.q,c.k]) ahq)))
        | (go_at_call 298;go_loud (refine Pi (HO.o _ K1.o) λw3 a3=>?_);have K2:=qh (K1.o.op a3.o.2 a3.o.1);have T2:=qh (((aa.refl [c.a,c.g,c.q,c.k] w).drew).trans (a3.o.2.mono (T:=[c.a,c.g,c.q,c.k]) ahq))))
    all_goals
      have e3:=by simpa using K2.o.sp.cell HP.o 0 _ rfl
      go_wp2
      go_ret
      rw[HX.o]
      exact⟨rfl,K2.o.samS HP.o,T2.o⟩):Q:=h_
def cwB(h_:Q:=by
    obtain⟨_,hn⟩:=k.n32
    have e0:=aaa (k.sp.cell hp 0 _ rfl)
    have HP:=qh hp
    have HL:=qh (show i<h.S.length by rw[k.sl];exact hin)
    have Qm:=qh (HPN HL.o)
    have K1:=qh (k.below ((Below.refl _ w).drew))
    clear k hp
    first
      | go_enter func315,ntmps315
      | go_enter func316,ntmps316
      | go_enter func318,ntmps318
    go_wp2_with fail
    go_region_held3 (λW=>W.cell? c.l=some ↑c.a/\Z W c.l 1 (J 1)/\Z W c.l 4 ↑c.k/\Z W c.q (i*4+1) (J a)/\Z W c.q (i*4+3) (J z))
      (first|(have q:=K1.o.cs HP.o;exact⟨q.1,q.2.1,q.2.2.1,q.2.2.2.1,q.2.2.2.2.2⟩)|(have q:=K2.o.cs HP.o;exact⟨q.1,q.2.1,q.2.2.1,q.2.2.2.1,q.2.2.2.2.2⟩)|(have q:=K3.o.cs Qm.o;exact⟨q.1,q.2.1,q.2.2.1,q.2.2.2.1,q.2.2.2.2.2⟩))
      (first
        | (go_at_call 146;go_loud (refine LT (HF.o _ K1.o) ?_))
        | (go_at_call 319;go_loud (refine LT (HF.o _ K1.o) ?_))
        | (go_at_call 321;go_loud (refine LT (HF.o _ K1.o) ?_))
        | (go_at_call 322;go_loud (refine LT (HF.o _ K1.o) ?_))
        | (go_at_call 173;go_loud (refine Pi (HO.o _ K1.o) λw3 a3=>?_);have K2:=qh (K1.o.op a3.o.2 a3.o.1);have T2:=qh (((aa.refl [c.a,c.g,c.q,c.k] w).drew).trans (a3.o.2.mono (T:=[c.a,c.g,c.q,c.k]) ahq));have K3:=qh (HJ.o _ _ K2.o);have e1:=K2.o.sp.cell HP.o 2 _ rfl;have z1:=K2.o.sp.free (i*4+2))
        | (go_at_call 271;go_loud (refine Pi (HO.o _ K1.o) λw3 a3=>?_);have K2:=qh (K1.o.op a3.o.2 a3.o.1);have T2:=qh (((aa.refl [c.a,c.g,c.q,c.k] w).drew).trans (a3.o.2.mono (T:=[c.a,c.g,c.q,c.k]) ahq));have K3:=qh (HJ.o _ _ K2.o);have e1:=K2.o.sp.cell HP.o 2 _ rfl;have z1:=K2.o.sp.free (i*4+2)))
    all_goals
      have e3:=by simpa using K3.o.sp.cell Qm.o 0 _ rfl
      go_wp2
      go_ret
      rw[HX.o]
      exact⟨rfl,K3.o,T2.o.trans (dt ⟨c.q,i*4+2,none⟩ _ rfl)⟩):Q:=h_
def cwZ(h_:Q:=by
    obtain⟨_,hn⟩:=k.n32
    have e0:=aaa (k.sp.cell hp 0 _ rfl)
    have HP:=qh hp
    have HL:=qh (show i<h.S.length by rw[k.sl];exact hin)
    have Qm:=qh (HPN HL.o)
    have K1:=qh (k.below ((Below.refl _ w).drew))
    clear k hp
    first
      | go_enter func315,ntmps315
      | go_enter func316,ntmps316
      | go_enter func318,ntmps318
    go_wp2_with fail
    go_region_held3 (λW=>W.cell? c.l=some ↑c.a/\Z W c.l 1 (J 1)/\Z W c.l 4 ↑c.k/\Z W c.q (i*4+1) (J a)/\Z W c.q (i*4+2) (J b))
      (first|(have q:=K1.o.cs HP.o;exact⟨q.1,q.2.1,q.2.2.1,q.2.2.2.1,q.2.2.2.2.1⟩)|(have q:=K2.o.cs HP.o;exact⟨q.1,q.2.1,q.2.2.1,q.2.2.2.1,q.2.2.2.2.1⟩)|(have q:=K3.o.cs Qm.o;exact⟨q.1,q.2.1,q.2.2.1,q.2.2.2.1,q.2.2.2.2.1⟩))
      (first
        | (go_at_call 146;go_loud (refine LT (HF.o _ K1.o) ?_))
        | (go_at_call 319;go_loud (refine LT (HF.o _ K1.o) ?_))
        | (go_at_call 321;go_loud (refine LT (HF.o _ K1.o) ?_))
        | (go_at_call 322;go_loud (refine LT (HF.o _ K1.o) ?_))
        | (go_at_call 173;go_loud (refine Pi (HO.o _ K1.o) λw3 a3=>?_);have K2:=qh (K1.o.op a3.o.2 a3.o.1);have T2:=qh (((aa.refl [c.a,c.g,c.q,c.k] w).drew).trans (a3.o.2.mono (T:=[c.a,c.g,c.q,c.k]) ahq));have K3:=qh (HJ.o _ _ K2.o);have e1:=K2.o.sp.cell HP.o 3 _ rfl;have z1:=K2.o.sp.free (i*4+3))
        | (go_at_call 271;go_loud (refine Pi (HO.o _ K1.o) λw3 a3=>?_);have K2:=qh (K1.o.op a3.o.2 a3.o.1);have T2:=qh (((aa.refl [c.a,c.g,c.q,c.k] w).drew).trans (a3.o.2.mono (T:=[c.a,c.g,c.q,c.k]) ahq));have K3:=qh (HJ.o _ _ K2.o);have e1:=K2.o.sp.cell HP.o 3 _ rfl;have z1:=K2.o.sp.free (i*4+3)))
    all_goals
      have e3:=by simpa using K3.o.sp.cell Qm.o 0 _ rfl
      go_wp2
      go_ret
      rw[HX.o]
      exact⟨rfl,K3.o,T2.o.trans (dt ⟨c.q,i*4+3,none⟩ _ rfl)⟩):Q:=h_
def G3(k:aq w c cap bud nd h)(i:Nat)(hin:i<nd.length)(a b z:Int)(hp:h.S[i]? =some (⟨1,a,b,z⟩:Sp))(Y:h.ar.ops+1<=1000000000000):E 315 #[↑c.l,pointer (some ⟨c.q,i*4,none⟩),J ((i:Int)+1)] w (eI w c cap bud nd h i (⟨1,a,b,z⟩:Sp) (ah nd.length (ndf nd) bud h i (⟨1,a,b,z⟩:Sp))):=by have hn:=k.n32.2;have HX:Kq (ah nd.length (ndf nd) bud h i (⟨1,a,b,z⟩:Sp)=(ae h.ar (cN ((i:Int)+1)) 0,h.wk,⟨2,a,b,z⟩)):=qh (by rw[JJ rfl]<;>rfl);have HF:=qh (λW (k:aq W c cap bud nd h)=>mI k ((i:Int)+1) ahp);have HO:=qh (λW (k:aq W c cap bud nd h)=>an k.ar (cN ((i:Int)+1)) 0 Y);exact cyN
def G4(k:aq w c cap bud nd h)(i:Nat)(hin:i<nd.length)(a b z:Int)(hp:h.S[i]? =some (⟨2,a,b,z⟩:Sp))(Y:h.ar.ops+1<=1000000000000):E 315 #[↑c.l,pointer (some ⟨c.q,i*4,none⟩),J ((i:Int)+1)] w (eI w c cap bud nd h i (⟨2,a,b,z⟩:Sp) (ah nd.length (ndf nd) bud h i (⟨2,a,b,z⟩:Sp))):=by have hn:=k.n32.2;have HX:Kq (ah nd.length (ndf nd) bud h i (⟨2,a,b,z⟩:Sp)=(ae h.ar (cS ((i:Int)+1)) 0,h.wk,⟨3,a,b,z⟩)):=qh (by rw[JK rfl]<;>rfl);have HF:=qh (λW (k:aq W c cap bud nd h)=>pj k ((i:Int)+1) ahp);have HO:=qh (λW (k:aq W c cap bud nd h)=>an k.ar (cS ((i:Int)+1)) 0 Y);exact cyN
def G7(k:aq w c cap bud nd h)(i:Nat)(hin:i<nd.length)(a b z:Int)(hp:h.S[i]? =some (⟨4,a,b,z⟩:Sp))(Y:h.ar.ops+1<=1000000000000)(H:-5<=a/\a<=100000):E 315 #[↑c.l,pointer (some ⟨c.q,i*4,none⟩),J ((i:Int)+1)] w (eI w c cap bud nd h i (⟨4,a,b,z⟩:Sp) (ah nd.length (ndf nd) bud h i (⟨4,a,b,z⟩:Sp))):=by have HX:Kq (ah nd.length (ndf nd) bud h i (⟨4,a,b,z⟩:Sp)=(ae h.ar (cN a) ((i:Int)+1),h.wk,⟨5,a,b,z⟩)):=qh (by rw[JM rfl]<;>rfl);have HF:=qh (λW (k:aq W c cap bud nd h)=>mI k a (by exact H));have HO:=qh (λW (k:aq W c cap bud nd h)=>an k.ar (cN a) ((i:Int)+1) Y);exact cyN
def G9(k:aq w c cap bud nd h)(i:Nat)(hin:i<nd.length)(a b z:Int)(hp:h.S[i]? =some (⟨6,a,b,z⟩:Sp))(Y:h.ar.ops+1<=1000000000000):E 315 #[↑c.l,pointer (some ⟨c.q,i*4,none⟩),J ((i:Int)+1)] w (eI w c cap bud nd h i (⟨6,a,b,z⟩:Sp) (ah nd.length (ndf nd) bud h i (⟨6,a,b,z⟩:Sp))):=by have hn:=k.n32.2;have HX:Kq (ah nd.length (ndf nd) bud h i (⟨6,a,b,z⟩:Sp)=(ae h.ar (cS ((i:Int)+1)) (-1),h.wk,⟨10,a,b,z⟩)):=qh (by rw[JO rfl]<;>rfl);have HF:=qh (λW (k:aq W c cap bud nd h)=>pj k ((i:Int)+1) ahp);have HO:=qh (λW (k:aq W c cap bud nd h)=>an k.ar (cS ((i:Int)+1)) (-1) Y);exact cyN
def G6(k:aq w c cap bud nd h)(i:Nat)(hin:i<nd.length)(a b z:Int)(hp:h.S[i]? =some (⟨3,a,b,z⟩:Sp))(Y:h.ar.ops+1<=1000000000000):E 315 #[↑c.l,pointer (some ⟨c.q,i*4,none⟩),J ((i:Int)+1)] w (eI w c cap bud nd h i (⟨3,a,b,z⟩:Sp) (ah nd.length (ndf nd) bud h i (⟨3,a,b,z⟩:Sp))):=by
  refine ajq ?_;intro hn e0;obtain⟨ab,hV⟩:=LE (ch h.ar 1 ((i:Int)+1));obtain⟨v,O⟩:=LE (ldW h.ar.W 1);have HX:Kq (ah nd.length (ndf nd) bud h i (⟨3,a,b,z⟩:Sp)=(ab,h.wk,(⟨if v=0 then 6 else 4,v,b,z⟩:Sp))):=qh (by rw[JL rfl,hV,O]<;>rfl);have hv:=(λW (k:aq W c cap bud nd h)=>fh k.ar 1 ((i:Int)+1) Y);rw[<-hV,<-O]at hv;have HO:=qh hv;have V:=qh (λW (h:Cn) (u:Int) (k:aq W c cap bud nd h) (hp:h.S[i]? =some (⟨3,u,b,z⟩:Sp))=>And.intro k.l0 k.l1);refine aiQ ?_;intro HP HL K1;clear hv k hp hV O;have L4:=qh (λw b x y v O=>qj w b x y v O);by_cases I:v=0
  all_goals
    have t0:(v==0)=decide (v=0):=(by by_cases h:v=0<;>simp[h]);first| rw[decide_eq_true I]at t0| rw[decide_eq_false I]at t0
    have HV:=qh I;clear I;go_enter func315,ntmps315;go_wp2_with fail
    go_region_held3 (λW=>W.cell? c.l=some ↑c.a/\Z W c.l 1 (J 1))
      (first|with_reducible exact V.o _ _ _ K1.o HP.o|with_reducible exact V.o _ _ _ H.o HP.o|with_reducible exact KL.o)
      (first
        | (go_at_call 271;go_loud (refine Pi (HO.o _ K1.o) λw3 a3=>?_);have H:=qh (K1.o.op a3.o.2 a3.o.1);have T2:=qh (((aa.refl [c.a,c.g,c.q,c.k] w).drew).trans (a3.o.2.mono (T:=[c.a,c.g,c.q,c.k]) ahq));have K3:=qh (H.o.putS (p':=(⟨3,v,b,z⟩:Sp)) HP.o (j:=1) (v:= J v) ahr rfl);have KL:=qh (V.o _ _ v K3.o ahW);have e1:=H.o.sp.cell HP.o 1 _ rfl;have z1:=H.o.sp.free (i*4+1)))
    all_goals
      go_wp2_with fail;first| refine(L4.o _ true 6 4 6 rfl).mono ?_| refine(L4.o _ false 6 4 4 rfl).mono ?_
      rintro en w5 ⟨rfl,rfl⟩;go_wp2;go_ret;rw[HX.o];first| exact⟨by rw[if_pos HV.o];rfl,K3.o,T2.o.trans (dt ⟨c.q,i*4+1,none⟩ _ rfl)⟩| exact⟨by rw[if_neg HV.o];rfl,K3.o,T2.o.trans (dt ⟨c.q,i*4+1,none⟩ _ rfl)⟩
def G8(k:aq w c cap bud nd h)(i:Nat)(hin:i<nd.length)(a b z:Int)(hp:h.S[i]? =some (⟨5,a,b,z⟩:Sp))(Y:h.ar.ops+1<=1000000000000):E 315 #[↑c.l,pointer (some ⟨c.q,i*4,none⟩),J ((i:Int)+1)] w (eI w c cap bud nd h i (⟨5,a,b,z⟩:Sp) (ah nd.length (ndf nd) bud h i (⟨5,a,b,z⟩:Sp))):=by
  refine ajq ?_;intro hn e0;obtain⟨ab,hV⟩:=LE (af h.ar (cS ((i:Int)+1)));obtain⟨v,O⟩:=LE (ldW h.ar.W (cS ((i:Int)+1)));have HX:Kq (ah nd.length (ndf nd) bud h i (⟨5,a,b,z⟩:Sp)=(ab,h.wk,(⟨if v≠0 then 10 else 5,v,b,z⟩:Sp))):=qh (by rw[JN rfl,hV,O]<;>rfl);have HF:=qh (λW (k:aq W c cap bud nd h)=>pj k ((i:Int)+1) ahp);have hv:=(λW (k:aq W c cap bud nd h)=>aE k.ar (cS ((i:Int)+1)) Y);rw[<-hV,<-O]at hv;have HO:=qh hv;have V:=qh (λW (h:Cn) (u:Int) (k:aq W c cap bud nd h) (hp:h.S[i]? =some (⟨5,u,b,z⟩:Sp))=>k.l0);refine aiQ ?_;intro HP HL K1;clear hv k hp hV O;have L4:=qh (λw b x y v O=>qj w b x y v O);by_cases I:v≠0
  all_goals
    have t0:(v !=0)=decide (v≠0):=(by by_cases h:v=0<;>simp[h]);first| rw[decide_eq_true I]at t0| rw[decide_eq_false I]at t0
    have HV:=qh I;clear I;go_enter func315,ntmps315;go_wp2_with fail
    go_region_held3 (λW=>W.cell? c.l=some ↑c.a)
      (first|with_reducible exact V.o _ _ _ K1.o HP.o|with_reducible exact V.o _ _ _ H.o HP.o|with_reducible exact KL.o)
      (first
        | (go_at_call 319;go_loud (refine LT (HF.o _ K1.o) ?_))
        | (go_at_call 173;go_loud (refine Pi (HO.o _ K1.o) λw3 a3=>?_);have H:=qh (K1.o.op a3.o.2 a3.o.1);have T2:=qh (((aa.refl [c.a,c.g,c.q,c.k] w).drew).trans (a3.o.2.mono (T:=[c.a,c.g,c.q,c.k]) ahq));have K3:=qh (H.o.putS (p':=(⟨5,v,b,z⟩:Sp)) HP.o (j:=1) (v:= J v) ahr rfl);have KL:=qh (V.o _ _ v K3.o ahW);have e1:=H.o.sp.cell HP.o 1 _ rfl;have z1:=H.o.sp.free (i*4+1)))
    all_goals
      go_wp2_with fail;first| refine(L4.o _ true 10 5 10 rfl).mono ?_| refine(L4.o _ false 10 5 5 rfl).mono ?_
      rintro en w5 ⟨rfl,rfl⟩;go_wp2;go_ret;rw[HX.o];first| exact⟨by rw[if_pos HV.o];rfl,K3.o,T2.o.trans (dt ⟨c.q,i*4+1,none⟩ _ rfl)⟩| exact⟨by rw[if_neg HV.o];rfl,K3.o,T2.o.trans (dt ⟨c.q,i*4+1,none⟩ _ rfl)⟩
end
end
section
open Go.RowKit
section
variable{c:Cx}{h:Cn}
def Aj(k:aq w c cap bud nd h)(i:Nat)(hin:i<nd.length)(a b z:Int)(hp:h.S[i]? =some (⟨11,a,b,z⟩:Sp))(Y:h.ar.ops+1<=1000000000000):E 316 #[↑c.l,pointer (some ⟨c.q,i*4,none⟩),J ((i:Int)+1)] w (eI w c cap bud nd h i (⟨11,a,b,z⟩:Sp) (ah nd.length (ndf nd) bud h i (⟨11,a,b,z⟩:Sp))):=by
  have hn:=k.n32.2;obtain⟨v,O⟩:=LE (ldW h.ar.W (cS ((i:Int)+1)));have HX:Kq (ah nd.length (ndf nd) bud h i (⟨11,a,b,z⟩:Sp)=(af h.ar (cS ((i:Int)+1)),h.wk,(⟨12,a,v,z⟩:Sp))):=qh (by rw[IU rfl,O]<;>rfl);have HF:=qh (λW (k:aq W c cap bud nd h)=>pj k ((i:Int)+1) ahp);have HO:=λW (k:aq W c cap bud nd h)=>aE k.ar (cS ((i:Int)+1)) Y;rw[<-O]at HO;replace HO:=qh HO;clear O;have HJ:=qh (λW H (k:aq W c cap bud nd ⟨H,h.wk,h.S⟩)=>k.putS (p':=(⟨11,a,v,z⟩:Sp)) hp (j:=2) (v:= J v) ahr rfl);have HPN:=fun(q:i<h.S.length)=>show(h.S.set i (⟨11,a,v,z⟩:Sp))[i]? =some (⟨11,a,v,z⟩:Sp)by simp[q]
  exact cwB
def Ak(k:aq w c cap bud nd h)(i:Nat)(hin:i<nd.length)(a b z:Int)(hp:h.S[i]? =some (⟨12,a,b,z⟩:Sp))(Y:h.ar.ops+1<=1000000000000):E 316 #[↑c.l,pointer (some ⟨c.q,i*4,none⟩),J ((i:Int)+1)] w (eI w c cap bud nd h i (⟨12,a,b,z⟩:Sp) (ah nd.length (ndf nd) bud h i (⟨12,a,b,z⟩:Sp))):=by
  refine ajq ?_;intro hn e0;obtain⟨ab,hV⟩:=LE (af h.ar (cN ((i:Int)+1)));obtain⟨v,O⟩:=LE (ldW h.ar.W (cN ((i:Int)+1)));have HX:Kq (ah nd.length (ndf nd) bud h i (⟨12,a,b,z⟩:Sp)=(ab,h.wk,(⟨if v≠0 then 17 else if 0<b then 14 else 13,v,b,z⟩:Sp))):=qh (by rw[IV rfl,hV,O]<;>rfl);have HF:=qh (λW (k:aq W c cap bud nd h)=>mI k ((i:Int)+1) ahp);have hv:=(λW (k:aq W c cap bud nd h)=>aE k.ar (cN ((i:Int)+1)) Y);rw[<-hV,<-O]at hv;have HO:=qh hv;have HC:=qh (λW (h:Cn) (u:Int) (k:aq W c cap bud nd h) (hp:h.S[i]? =some (⟨12,u,b,z⟩:Sp))=>k.l0);refine aiQ ?_;intro HP HL K1;clear hv k hp hV O;have L4:=qh (λw b x y v O=>qj w b x y v O);obtain⟨t,ht⟩:=LE (decide (0<b));obtain⟨r,V⟩:=LE ((v !=0));obtain⟨q1,SB⟩:∃x:Int,x=if t then 14 else 13:=⟨_,rfl⟩
  obtain⟨q2,Un⟩:∃x:Int,x=if r then 17 else q1:=⟨_,rfl⟩
  have HQ:Kq ((if v≠0 then 17 else if 0<b then 14 else 13:Int)=q2):=qh (by
    rw[Un,SB,V,ht];by_cases I:v=0
    . by_cases e2:0<b;. simp[I,e2]
      . simp[I,e2]
    . simp[I])
  have X6:=qh SB;have X7:=qh Un;have HR:=qh V;have HT:=qh ht;clear SB Un V ht;go_enter func316,ntmps316;go_wp2_with fail
  go_region_held3 (λW=>W.cell? c.l=some ↑c.a)
    (first|with_reducible exact HC.o _ _ _ K1.o HP.o|with_reducible exact HC.o _ _ _ H.o HP.o|with_reducible exact KL.o)
    (first
      | (go_at_call 146;go_loud (refine LT (HF.o _ K1.o) ?_))
      | (go_at_call 173;go_loud (refine Pi (HO.o _ K1.o) λw3 a3=>?_);have H:=qh (K1.o.op a3.o.2 a3.o.1);have T2:=qh (((aa.refl [c.a,c.g,c.q,c.k] w).drew).trans (a3.o.2.mono (T:=[c.a,c.g,c.q,c.k]) ahq));have K3:=qh (H.o.putS (p':=(⟨12,v,b,z⟩:Sp)) HP.o (j:=1) (v:= J v) ahr rfl);have KL:=qh (HC.o _ _ v K3.o ahW);have I:=H.o.sp.cell HP.o 1 _ rfl;have z1:=H.o.sp.free (i*4+1)))
  all_goals
    have e3:=K3.o.sp.cell (i:=i) (p:=⟨12,v,b,z⟩) ahW 2 _ rfl;have g1:=HT.o.symm;have g2:=HR.o.symm;go_wp2
    go_quiet ((first
      | (go_at_call 320;exact bV (L4.o _ _ _ _ _ X6.o))
      | (go_at_call 320;exact bV (L4.o _ _ _ _ _ X7.o))))
    go_wp2;go_ret;rw[HX.o];exact⟨aT HQ.o.symm,K3.o.below (Qt.below ⟨_,rfl⟩ _),(T2.o.trans (dt ⟨c.q,i*4+1,none⟩ _ rfl)).trans (aa.of_qt ⟨_,rfl⟩)⟩
def Al(k:aq w c cap bud nd h)(i:Nat)(hin:i<nd.length)(a b z:Int)(hp:h.S[i]? =some (⟨13,a,b,z⟩:Sp))(Y:h.ar.ops+1<=1000000000000):E 316 #[↑c.l,pointer (some ⟨c.q,i*4,none⟩),J ((i:Int)+1)] w (eI w c cap bud nd h i (⟨13,a,b,z⟩:Sp) (ah nd.length (ndf nd) bud h i (⟨13,a,b,z⟩:Sp))):=by
  refine ajq ?_;intro hn e0;obtain⟨ab,hV⟩:=LE (dU h.ar 1 ((i:Int)+1) 0);obtain⟨v,O⟩:=LE (cB h.ar 1 ((i:Int)+1));have HX:Kq (ah nd.length (ndf nd) bud h i (⟨13,a,b,z⟩:Sp)=(ab,h.wk,(⟨if v then 0 else 16,a,b,z⟩:Sp))):=qh (by rw[IW rfl,hV,O]<;>rfl);have hv:=(λW (k:aq W c cap bud nd h)=>jc k.ar 1 ((i:Int)+1) 0 Y);rw[<-hV,<-O]at hv;have HO:=qh hv;have V:=qh (λW (h:Cn) (k:aq W c cap bud nd h) (hp:h.S[i]? =some (⟨13,a,b,z⟩:Sp))=>And.intro k.l0 k.l1);refine aiQ ?_;intro HP HL K1;clear hv k hp hV O;have L4:=qh (λw b x y v O=>qj w b x y v O);cases v
  . go_enter func316,ntmps316;go_wp2_with fail
    go_region_held3 (λW=>W.cell? c.l=some ↑c.a/\Z W c.l 1 (J 1))
      (first|with_reducible exact V.o _ _ K1.o HP.o|with_reducible exact V.o _ _ I.o HP.o)
      (first
        | (go_at_call 320;go_loud (refine LT (L4.o _ false 0 16 16 rfl) ?_))
        | (go_at_call 272;go_loud (refine Pi (HO.o _ K1.o) λw3 H=>?_);have I:=qh (K1.o.op H.o.2 H.o.1);have T2:=qh (((aa.refl [c.a,c.g,c.q,c.k] w).drew).trans (H.o.2.mono (T:=[c.a,c.g,c.q,c.k]) ahq))))
    all_goals go_wp2;go_ret;rw[HX.o];exact⟨rfl,I.o.samS HP.o,T2.o⟩
  . go_enter func316,ntmps316;go_wp2_with fail
    go_region_held3 (λW=>W.cell? c.l=some ↑c.a/\Z W c.l 1 (J 1))
      (first|with_reducible exact V.o _ _ K1.o HP.o|with_reducible exact V.o _ _ I.o HP.o)
      (first
        | (go_at_call 320;go_loud (refine LT (L4.o _ true 0 16 0 rfl) ?_))
        | (go_at_call 272;go_loud (refine Pi (HO.o _ K1.o) λw3 H=>?_);have I:=qh (K1.o.op H.o.2 H.o.1);have T2:=qh (((aa.refl [c.a,c.g,c.q,c.k] w).drew).trans (H.o.2.mono (T:=[c.a,c.g,c.q,c.k]) ahq))))
    all_goals go_wp2;go_ret;rw[HX.o];exact⟨rfl,I.o.samS HP.o,T2.o⟩
def Am(k:aq w c cap bud nd h)(i:Nat)(hin:i<nd.length)(a b z:Int)(hp:h.S[i]? =some (⟨14,a,b,z⟩:Sp))(Y:h.ar.ops+1<=1000000000000)(I:-5<=b/\b<=100000):E 316 #[↑c.l,pointer (some ⟨c.q,i*4,none⟩),J ((i:Int)+1)] w (eI w c cap bud nd h i (⟨14,a,b,z⟩:Sp) (ah nd.length (ndf nd) bud h i (⟨14,a,b,z⟩:Sp))):=by
  obtain⟨v,O⟩:=LE (ldW h.ar.W (cL b));have HX:Kq (ah nd.length (ndf nd) bud h i (⟨14,a,b,z⟩:Sp)=(af h.ar (cL b),h.wk,(⟨15,a,b,v⟩:Sp))):=qh (by rw[IX rfl,O]<;>rfl);refine ajN ?_;intro HF HO;rw[<-O]at HO;replace HO:=qh HO;clear O;have HJ:=qh (λW H (k:aq W c cap bud nd ⟨H,h.wk,h.S⟩)=>k.putS (p':=(⟨14,a,b,v⟩:Sp)) hp (j:=3) (v:= J v) ahr rfl);have HPN:=fun(q:i<h.S.length)=>show(h.S.set i (⟨14,a,b,v⟩:Sp))[i]? =some (⟨14,a,b,v⟩:Sp)by simp[q]
  exact cwZ
def An(k:aq w c cap bud nd h)(i:Nat)(hin:i<nd.length)(a b z:Int)(hp:h.S[i]? =some (⟨15,a,b,z⟩:Sp))(Y:h.ar.ops+1<=1000000000000):E 316 #[↑c.l,pointer (some ⟨c.q,i*4,none⟩),J ((i:Int)+1)] w (eI w c cap bud nd h i (⟨15,a,b,z⟩:Sp) (ah nd.length (ndf nd) bud h i (⟨15,a,b,z⟩:Sp))):=by
  refine ajq ?_;intro hn e0;obtain⟨ab,hV⟩:=LE (dU h.ar 1 ((i:Int)+1) z);obtain⟨v,O⟩:=LE (cB h.ar 1 ((i:Int)+1));have HX:Kq (ah nd.length (ndf nd) bud h i (⟨15,a,b,z⟩:Sp)=(ab,h.wk,(⟨if v then 28 else 16,a,b,z⟩:Sp))):=qh (by rw[IY rfl,hV,O]<;>rfl);have hv:=(λW (k:aq W c cap bud nd h)=>jc k.ar 1 ((i:Int)+1) z Y);rw[<-hV,<-O]at hv;have HO:=qh hv;have V:=qh (λW (h:Cn) (k:aq W c cap bud nd h) (hp:h.S[i]? =some (⟨15,a,b,z⟩:Sp))=>And.intro k.l0 (And.intro k.l1 (k.sp.cell hp 3 _ rfl)));refine aiQ ?_;intro HP HL K1;clear hv k hp hV O;have L4:=qh (λw b x y v O=>qj w b x y v O);cases v
  . go_enter func316,ntmps316;go_wp2_with fail
    go_region_held3 (λW=>W.cell? c.l=some ↑c.a/\Z W c.l 1 (J 1)/\Z W c.q (i*4+3) (J z))
      (first|with_reducible exact V.o _ _ K1.o HP.o|with_reducible exact V.o _ _ I.o HP.o)
      (first
        | (go_at_call 320;go_loud (refine LT (L4.o _ false 28 16 16 rfl) ?_))
        | (go_at_call 272;go_loud (refine Pi (HO.o _ K1.o) λw3 H=>?_);have I:=qh (K1.o.op H.o.2 H.o.1);have T2:=qh (((aa.refl [c.a,c.g,c.q,c.k] w).drew).trans (H.o.2.mono (T:=[c.a,c.g,c.q,c.k]) ahq))))
    all_goals go_wp2;go_ret;rw[HX.o];exact⟨rfl,I.o.samS HP.o,T2.o⟩
  . go_enter func316,ntmps316;go_wp2_with fail
    go_region_held3 (λW=>W.cell? c.l=some ↑c.a/\Z W c.l 1 (J 1)/\Z W c.q (i*4+3) (J z))
      (first|with_reducible exact V.o _ _ K1.o HP.o|with_reducible exact V.o _ _ I.o HP.o)
      (first
        | (go_at_call 320;go_loud (refine LT (L4.o _ true 28 16 28 rfl) ?_))
        | (go_at_call 272;go_loud (refine Pi (HO.o _ K1.o) λw3 H=>?_);have I:=qh (K1.o.op H.o.2 H.o.1);have T2:=qh (((aa.refl [c.a,c.g,c.q,c.k] w).drew).trans (H.o.2.mono (T:=[c.a,c.g,c.q,c.k]) ahq))))
    all_goals go_wp2;go_ret;rw[HX.o];exact⟨rfl,I.o.samS HP.o,T2.o⟩
def Ao(k:aq w c cap bud nd h)(i:Nat)(hin:i<nd.length)(a b z:Int)(hp:h.S[i]? =some (⟨16,a,b,z⟩:Sp))(Y:h.ar.ops+1<=1000000000000):E 316 #[↑c.l,pointer (some ⟨c.q,i*4,none⟩),J ((i:Int)+1)] w (eI w c cap bud nd h i (⟨16,a,b,z⟩:Sp) (ah nd.length (ndf nd) bud h i (⟨16,a,b,z⟩:Sp))):=by
  refine ajq ?_;intro hn e0;obtain⟨ab,hV⟩:=LE (af h.ar (cN ((i:Int)+1)));obtain⟨v,O⟩:=LE (ldW h.ar.W (cN ((i:Int)+1)));have HX:Kq (ah nd.length (ndf nd) bud h i (⟨16,a,b,z⟩:Sp)=(ab,h.wk,(⟨if v≠0 then 17 else 16,v,b,z⟩:Sp))):=qh (by rw[IZ rfl,hV,O]<;>rfl);have HF:=qh (λW (k:aq W c cap bud nd h)=>mI k ((i:Int)+1) ahp);have hv:=(λW (k:aq W c cap bud nd h)=>aE k.ar (cN ((i:Int)+1)) Y);rw[<-hV,<-O]at hv;have HO:=qh hv;have V:=qh (λW (h:Cn) (u:Int) (k:aq W c cap bud nd h) (hp:h.S[i]? =some (⟨16,u,b,z⟩:Sp))=>k.l0);refine aiQ ?_;intro HP HL K1;clear hv k hp hV O;have L4:=qh (λw b x y v O=>qj w b x y v O);by_cases I:v≠0
  all_goals
    have t0:(v !=0)=decide (v≠0):=(by by_cases h:v=0<;>simp[h]);first| rw[decide_eq_true I]at t0| rw[decide_eq_false I]at t0
    have HV:=qh I;clear I;go_enter func316,ntmps316;go_wp2_with fail
    go_region_held3 (λW=>W.cell? c.l=some ↑c.a)
      (first|with_reducible exact V.o _ _ _ K1.o HP.o|with_reducible exact V.o _ _ _ H.o HP.o|with_reducible exact KL.o)
      (first
        | (go_at_call 146;go_loud (refine LT (HF.o _ K1.o) ?_))
        | (go_at_call 173;go_loud (refine Pi (HO.o _ K1.o) λw3 a3=>?_);have H:=qh (K1.o.op a3.o.2 a3.o.1);have T2:=qh (((aa.refl [c.a,c.g,c.q,c.k] w).drew).trans (a3.o.2.mono (T:=[c.a,c.g,c.q,c.k]) ahq));have K3:=qh (H.o.putS (p':=(⟨16,v,b,z⟩:Sp)) HP.o (j:=1) (v:= J v) ahr rfl);have KL:=qh (V.o _ _ v K3.o ahW);have e1:=H.o.sp.cell HP.o 1 _ rfl;have z1:=H.o.sp.free (i*4+1)))
    all_goals
      go_wp2_with fail;first| refine(L4.o _ true 17 16 17 rfl).mono ?_| refine(L4.o _ false 17 16 16 rfl).mono ?_
      rintro en w5 ⟨rfl,rfl⟩;go_wp2;go_ret;rw[HX.o];first| exact⟨by rw[if_pos HV.o];rfl,K3.o,T2.o.trans (dt ⟨c.q,i*4+1,none⟩ _ rfl)⟩| exact⟨by rw[if_neg HV.o];rfl,K3.o,T2.o.trans (dt ⟨c.q,i*4+1,none⟩ _ rfl)⟩
end
end
section
open Go.RowKit
section
variable{c:Cx}{h:Cn}
def Fi(w:World)(c:Cx)(cap:Nat)(bud:Int)(nd:List Int)(ar':Ar)(Lo:Wk)(S:List Sp)(e:Ending)(w':World):Prop:=
 e= returned (bool (!Lo.way))/\aq w' c cap bud nd ⟨ar',Lo,S⟩/\aa [c.a,c.g,c.q,c.k] w w'
def GC(k:aq w c cap bud nd h)(Y:h.ar.ops+1<=1000000000000)(P8:h.wk.way=true)(hp:0<=h.wk.passed/\h.wk.passed<=32)(hl:-5<=h.wk.last/\h.wk.last<=100000):E 324 #[↑c.k] w (Fi w c cap bud nd (af h.ar (cN h.wk.last)) (dQ nd.length (ndf nd) h.wk (ldW h.ar.W (cN h.wk.last))) h.S):=by
  obtain⟨v,O⟩:=LE (ldW h.ar.W (cN h.wk.last));obtain⟨al,hV⟩:=LE (af h.ar (cN h.wk.last));obtain⟨Lo,MU⟩:=LE (dQ nd.length (ndf nd) h.wk v);have HO:=qh (IM k.wk);rw[P8]at HO;have Ks:=λW (k:aq W c cap bud nd h)=>Di k h.wk.last hl Y;rw[<-O,<-hV]at Ks;have HB:=qh Ks;have M0:=λW (k:cH W c.k c.n1 (uC c) nd h.wk)=>CW k hp v;rw[<-MU]at M0;have HT:=qh M0;have H:=qh (λW (k:cH W c.k c.n1 (uC c) nd h.wk)=>And.intro k.c0 k.c5);rw[<-O,<-hV,<-MU];have K0:=qh k;have I:=qh (k.below ((Below.refl _ w).drew));obtain⟨ab,V⟩:=LE h.wk.last;have ad:=qh V;rw[<-V]at HB;have UT:=H;have H:=qh (show ∀W,cH W c.k c.n1 (uC c) nd h.wk->W.cell? c.k=some (.func (.func 172) #[] #[↑c.b0,↑c.b1,↑c.b2])/\W.cell? ⟨c.k,5,none⟩=some (J ab)from λW k=>by rw[V];exact UT.o W k);clear Ks M0 UT O hV MU hp hl k P8 V;go_enter func324,ntmps324;go_wp2_with fail;refine LT HO.o ?_;go_wp2_with fail;have k0:=(H.o _ I.o.wk).1;have k5:=(H.o _ I.o.wk).2
  go_region_with
    (first
      | (go_at_call 172;go_loud (refine Pi (HB.o _ I.o) λw2 a2=>?_);have K2:=qh (I.o.op a2.o.2 a2.o.1);have T2:=qh (((aa.refl [c.a,c.g,c.q,c.k] w).drew).trans (a2.o.2.mono (T:=[c.a,c.g,c.q,c.k]) ahq)))
      | (go_at_call 327;go_loud (refine Pi (HT.o _ K2.o.wk) λw3 k3=>?_);have K3:=qh (And.intro (K2.o.walk k3.o.1 k3.o.2) (T2.o.trans (k3.o.2.mono (T:=[c.a,c.g,c.q,c.k]) ahq)))))
  all_goals go_wp2;go_ret;exact⟨rfl,K3.o.1,K3.o.2⟩
end
end
section
open Go.RowKit
def iA{P:Program}{c rest:Code}(l:Nat)(hf:findLabel c l=some rest)(first:c.wp P (Exit.jump l (λa' w'=>rest.wp P (Exit.noGoto Q) a' w') Q) a w):(Code.scope c).wp P Q a w:=by exact abg
def sX{h:Act->World->Prop}{l:Nat}:Exit.jump l h Q .ret a w=Q .ret a w:=rfl
section
variable{c:Cx}{h:Cn}
def yt(k:aq w c cap bud nd h)(i:Nat)(a b z:Int)(hp:h.S[i]? =some (⟨18,a,b,z⟩:Sp))(Y:h.ar.ops+1<=1000000000000)(P8:h.wk.way=true)(WL:0<=h.wk.passed/\h.wk.passed<=32)(hl:-5<=h.wk.last/\h.wk.last<=100000):E 317 #[↑c.l,pointer (some ⟨c.q,i*4,none⟩),J ((i:Int)+1)] w (eI w c cap bud nd h i (⟨18,a,b,z⟩:Sp) (ah nd.length (ndf nd) bud h i (⟨18,a,b,z⟩:Sp))):=by
  have e0:=aaa (k.sp.cell hp 0 _ rfl);have l4:=k.l4;obtain⟨ab,hV⟩:=LE (af h.ar (cN h.wk.last));obtain⟨O,MU⟩:=LE (dQ nd.length (ndf nd) h.wk (ldW h.ar.W (cN h.wk.last)));have HX:Kq (ah nd.length (ndf nd) bud h i (⟨18,a,b,z⟩:Sp)=(ab,O,if O.way then(⟨18,a,b,z⟩:Sp)else if O.found≠0 then⟨19,a,b,z⟩else eK ⟨18,a,b,z⟩)):=qh (by rw[I1 rfl P8,hV,MU]);have LI:=GC k Y P8 WL hl;rw[<-hV,<-MU]at LI;have HW:=qh LI;have HP:=qh hp;clear LI k hp hV MU P8 WL hl Y;go_enter func317,ntmps317;go_wp2;refine iA 0 rfl ?_;go_wp2;go_step3;refine⟨rfl,?_⟩;go_wp2_with fail;refine Pi HW.o λw1 k1=>?_;have H:=qh (And.intro k1.o.1 k1.o.2);have KS:=qh (k1.o.1.samS HP.o);have d4:=k1.o.1.l4;have d2:=k1.o.1.sp.cell HP.o 2 _ rfl;clear e0 l4;cases MV:O.way
  . have HY:=qh MV;by_cases V:O.found=0
    . have t0:(O.found !=0)=false:=(by simpa using V);have HF:=qh V;clear V MV;by_cases I:0<b;. have HB:=qh I;go_wp2_with fail;refine LT (qQ H.o.1.wk) ?_;go_wp2;go_step3;go_wp2;rw[Exit.noGoto_ret];go_ret;rw[HX.o,HY.o,if_neg ahr,if_neg (λh=>h HF.o)];exact⟨by unfold eK;rw[if_pos HB.o];rfl,by unfold eK;exact KS.o,H.o.2⟩
      . have HB:=qh I;go_wp2_with fail;refine LT (qQ H.o.1.wk) ?_;go_wp2;go_step3;go_wp2;rw[Exit.noGoto_ret];go_ret;rw[HX.o,HY.o,if_neg ahr,if_neg (λh=>h HF.o)];exact⟨by unfold eK;rw[if_neg (show ¬0<b by have:=HB.o;omega)];rfl,by unfold eK;exact KS.o,H.o.2⟩
    . have t0:(O.found !=0)=true:=(by simpa using V);have HF:=qh V;clear V MV;go_wp2_with fail;refine LT (qQ H.o.1.wk) ?_;go_wp2;rw[Exit.noGoto_ret];go_ret;rw[HX.o,HY.o,if_neg ahr,if_pos HF.o];exact⟨rfl,KS.o,H.o.2⟩
  . have HY:=qh MV;clear MV;go_wp2;rw[Exit.noGoto_ret];go_ret;rw[HX.o,HY.o,if_pos rfl];exact⟨rfl,KS.o,H.o.2⟩
def yr(k:aq w c cap bud nd h)(i:Nat)(hin:i<nd.length)(a b z:Int)(hp:h.S[i]? =some (⟨17,a,b,z⟩:Sp))(Y:h.ar.ops+1<=1000000000000):E 317 #[↑c.l,pointer (some ⟨c.q,i*4,none⟩),J ((i:Int)+1)] w (eI w c cap bud nd h i (⟨17,a,b,z⟩:Sp) (ah nd.length (ndf nd) bud h i (⟨17,a,b,z⟩:Sp))):=by
  obtain⟨_,hn⟩:=k.n32;have Mj:(i:Int)<nd.length:=by omega
  have Ub:i<nd.length:=hin;have x7:IntKind.i64.wrap (i:Int)=(i:Int):=IntWalk.i64_in _ ahp;have e0:=aaa (k.sp.cell hp 0 _ rfl);obtain⟨ab,hV⟩:=LE (af h.ar 2);obtain⟨v,O⟩:=LE (ldW h.ar.W 2);obtain⟨Lo,MU⟩:=LE (gN nd.length (ndf nd) h.wk a (ndf nd i));have HX:Kq (ah nd.length (ndf nd) bud h i (⟨17,a,b,z⟩:Sp)=if bud<=v then(ab,h.wk,eK ⟨17,a,b,v⟩)else(ab,Lo,(⟨if Lo.way then 18 else 23,a,b,v⟩:Sp))):=qh (by rw[I0 rfl,hV,O,MU]);have HF:=qh (λW (k:aq W c cap bud nd h)=>qM k);have hv:=(λW (k:aq W c cap bud nd h)=>aE k.ar 2 Y);rw[<-hV,<-O]at hv;have HO:=qh hv;have HC:=qh (λW (h:Cn) (k:aq W c cap bud nd h)=>k.l0);refine aiQ ?_;intro HP HL K1;obtain⟨nv,Oo⟩:=LE (ndf nd i);have To:=λW (k:cH W c.k c.n1 (uC c) nd h.wk)=>Dh k a (ndf nd i);rw[<-MU,<-Oo]at To;have Yo:=qh To
  have RH:=qh (show ∀W (ar:Ar) (wk:Wk),aq W c cap bud nd ⟨ar,wk,h.S.set i ⟨17,a,b,v⟩⟩->Z W c.l 3 (slice (some ⟨c.nb,0,none⟩) nd.length cap)/\Z W c.l 4 ↑c.k/\Z W c.q (i*4+1) (J a)/\W.cell? ⟨c.nb,i,none⟩=some (J nv)from λW ar wk k=>
    ⟨k.l3,k.l4,k.sp.cell (i:=i) (p:=⟨17,a,b,v⟩) ahW 1 _ rfl,by rw[Oo];exact k.row i hin⟩)
  clear hv To k hp hV O MU Oo;by_cases V5:bud<=v
  . have Qf:=qh V5;go_enter func317,ntmps317;go_wp2;refine iA 1 rfl ?_;go_wp2_with fail
    go_region_held3 (λW=>W.cell? c.l=some ↑c.a)
      (first|with_reducible exact HC.o _ _ K1.o|with_reducible exact HC.o _ _ I.o|with_reducible exact HC.o _ _ H.o)
      (first
        | (go_at_call 322;go_loud (refine LT (HF.o _ K1.o) ?_))
        | (go_at_call 173;go_loud (refine Pi (HO.o _ K1.o) λw3 V=>?_);have I:=qh (K1.o.op V.o.2 V.o.1);have T2:=qh (((aa.refl [c.a,c.g,c.q,c.k] w).drew).trans (V.o.2.mono (T:=[c.a,c.g,c.q,c.k]) ahq));have H:=qh (I.o.putS (p':=(⟨17,a,b,v⟩:Sp)) HP.o (j:=3) (v:= J v) ahr rfl);have e1:=I.o.sp.cell HP.o 3 _ rfl;have z1:=I.o.sp.free (i*4+3)))
    all_goals
      have T3:=qh (T2.o.trans (dt ⟨c.q,i*4+3,none⟩ (J v) rfl));have P1:(h.S.set i (⟨17,a,b,v⟩:Sp))[i]? =some (⟨17,a,b,v⟩:Sp):=(by simp[HL.o]);have l2:=H.o.l2;have s2:=H.o.sp.cell P1 2 _ rfl;have s3:=H.o.sp.cell P1 3 _ rfl;clear P1 e1 z1 e0;go_wp2_with fail;go_quiet (fail);go_wp2;go_step3;refine⟨rfl,?_⟩;by_cases OO:0<b;. have HB:=qh OO;go_wp2;rw[Exit.noGoto_ret];go_ret;rw[HX.o,if_pos Qf.o];exact⟨by unfold eK;rw[if_pos HB.o];rfl,by unfold eK;exact H.o.below (Qt.below ⟨_,rfl⟩ _),T3.o.trans (aa.of_qt ⟨_,rfl⟩)⟩
      . have HB:=qh OO;go_wp2;rw[Exit.noGoto_ret];go_ret;rw[HX.o,if_pos Qf.o];exact⟨by unfold eK;rw[if_neg (show ¬0<b by have:=HB.o;omega)];rfl,by unfold eK;exact H.o.below (Qt.below ⟨_,rfl⟩ _),T3.o.trans (aa.of_qt ⟨_,rfl⟩)⟩
  . have Qf:=qh V5;go_enter func317,ntmps317;go_wp2;refine iA 1 rfl ?_;go_wp2_with fail
    go_region_held3 (λW=>W.cell? c.l=some ↑c.a)
      (first|with_reducible exact HC.o _ _ K1.o|with_reducible exact HC.o _ _ I.o|with_reducible exact HC.o _ _ H.o)
      (first
        | (go_at_call 322;go_loud (refine LT (HF.o _ K1.o) ?_))
        | (go_at_call 173;go_loud (refine Pi (HO.o _ K1.o) λw3 V=>?_);have I:=qh (K1.o.op V.o.2 V.o.1);have T2:=qh (((aa.refl [c.a,c.g,c.q,c.k] w).drew).trans (V.o.2.mono (T:=[c.a,c.g,c.q,c.k]) ahq));have H:=qh (I.o.putS (p':=(⟨17,a,b,v⟩:Sp)) HP.o (j:=3) (v:= J v) ahr rfl);have e1:=I.o.sp.cell HP.o 3 _ rfl;have z1:=I.o.sp.free (i*4+3)))
    all_goals
      have T3:=qh (T2.o.trans (dt ⟨c.q,i*4+3,none⟩ (J v) rfl));have P1:(h.S.set i (⟨17,a,b,v⟩:Sp))[i]? =some (⟨17,a,b,v⟩:Sp):=(by simp[HL.o]);have l2:=H.o.l2;have s3:=H.o.sp.cell P1 3 _ rfl;obtain⟨wm,UD⟩:=LE (w3.setCell ⟨c.q,i*4+3,none⟩ (J v));rw[<-UD]at H T3 l2 s3 ⊢;clear P1 e1 z1 e0 UD;go_wp2_with fail;go_quiet (fail);go_wp2_with fail;have K4:=qh ((H.o.below (Qt.below (w':=wm.drewN nq) ⟨_,rfl⟩ _)).below ((Below.refl _ _).drew));have T4:=qh ((T3.o.trans (aa.of_qt (b:=wm.drewN nq) ⟨_,rfl⟩)).drew)
      go_region_held3 (λW=>Z W c.l 3 (slice (some ⟨c.nb,0,none⟩) nd.length cap)/\Z W c.l 4 ↑c.k/\Z W c.q (i*4+1) (J a)/\Z W c.nb i (J nv))
        (first|with_reducible exact RH.o _ _ _ K4.o|with_reducible exact RH.o _ _ _ K5.o)
        (first
          | (go_at_call 323;go_loud (refine Pi (Yo.o _ K4.o.wk) λw5 k5=>?_);have K5:=qh (K4.o.walk k5.o.1 k5.o.2);have T5:=qh (T4.o.trans (k5.o.2.mono (T:=[c.a,c.g,c.q,c.k]) ahq))))
      all_goals
        cases MV:Lo.way;. have HY:=qh MV;clear MV;go_wp2;rw[sX];go_ret;rw[HX.o,if_neg (show ¬bud<=v by have:=Qf.o;omega),HY.o,if_neg ahr];exact⟨rfl,K5.o,T5.o⟩
        . have HY:=qh MV;clear MV;go_wp2;rw[sX];go_ret;rw[HX.o,if_neg (show ¬bud<=v by have:=Qf.o;omega),HY.o,if_pos rfl];exact⟨rfl,K5.o,T5.o⟩
end
end
section
open Go.RowKit
section
variable{c:Cx}{h:Cn}
def uF(k:aq w c cap bud nd h)(i:Nat)(hin:i<nd.length)(a b z:Int)(hp:h.S[i]? =some (⟨19,a,b,z⟩:Sp))(Y:h.ar.ops+1<=1000000000000)(hl:-5<=h.wk.last/\h.wk.last<=100000)(JX:decide (0<b)=true):E 318 #[↑c.l,pointer (some ⟨c.q,i*4,none⟩)] w (eI w c cap bud nd h i (⟨19,a,b,z⟩:Sp) (ah nd.length (ndf nd) bud h i (⟨19,a,b,z⟩:Sp))):=by
  refine ajq ?_;intro hn e0;obtain⟨ab,O⟩:=LE (ae h.ar (cN h.wk.last) 0);have HX:Kq (ah nd.length (ndf nd) bud h i (⟨19,a,b,z⟩:Sp)=(ab,h.wk,(⟨20,a,b,z⟩:Sp))):=qh (by rw[E7 rfl,O];simp at JX;simp[JX]);have HF:=qh (λW (k:aq W c cap bud nd h)=>mI k h.wk.last (by exact hl));have V:=(λW (k:aq W c cap bud nd h)=>an k.ar (cN h.wk.last) 0 Y);rw[<-O]at V;have HO:=qh V;have HC:=qh (λW (h:Cn) (k:aq W c cap bud nd h) (hp:h.S[i]? =some (⟨19,a,b,z⟩:Sp))=>And.intro k.l0 k.l4);refine aiQ ?_;intro HP HL K1;have HW:=qh (λW (k:aq W c cap bud nd h)=>vf k.wk);clear V k hp O;go_enter func318,ntmps318;go_wp2_with fail
  go_region_held3 (λW=>W.cell? c.l=some ↑c.a/\Z W c.l 4 ↑c.k)
    (first|with_reducible exact HC.o _ _ K1.o HP.o|with_reducible exact HC.o _ _ H.o HP.o)
    (first
      | (go_at_call 146;go_loud (refine LT (HF.o _ K1.o) ?_))
      | (go_at_call 326;go_loud (refine LT (HW.o _ K1.o) ?_))
      | (go_at_call 177;go_loud (refine Pi (HO.o _ K1.o) λw3 I=>?_);have H:=qh (K1.o.op I.o.2 I.o.1);have T2:=qh (((aa.refl [c.a,c.g,c.q,c.k] w).drew).trans (I.o.2.mono (T:=[c.a,c.g,c.q,c.k]) ahq))))
  all_goals have e3:=H.o.sp.cell HP.o 2 _ rfl;have e4:=H.o.sp.cell HP.o 1 _ rfl;have z3:=H.o.sp.free (i*4+2);go_wp2;go_ret;rw[HX.o];exact⟨rfl,H.o.samS HP.o,T2.o⟩
def uE(k:aq w c cap bud nd h)(i:Nat)(hin:i<nd.length)(a b z:Int)(hp:h.S[i]? =some (⟨19,a,b,z⟩:Sp))(Y:h.ar.ops+1<=1000000000000)(hl:-5<=h.wk.last/\h.wk.last<=100000)(JX:decide (0<b)=false):E 318 #[↑c.l,pointer (some ⟨c.q,i*4,none⟩)] w (eI w c cap bud nd h i (⟨19,a,b,z⟩:Sp) (ah nd.length (ndf nd) bud h i (⟨19,a,b,z⟩:Sp))):=by
  refine ajq ?_;intro hn e0;obtain⟨ab,O⟩:=LE (ae h.ar (cN h.wk.last) 0);have HX:Kq (ah nd.length (ndf nd) bud h i (⟨19,a,b,z⟩:Sp)=(ab,h.wk,(⟨22,a,a,z⟩:Sp))):=qh (by rw[E7 rfl,O];simp at JX;simp[JX]);have HF:=qh (λW (k:aq W c cap bud nd h)=>mI k h.wk.last (by exact hl));have V:=(λW (k:aq W c cap bud nd h)=>an k.ar (cN h.wk.last) 0 Y);rw[<-O]at V;have HO:=qh V;have HC:=qh (λW (h:Cn) (k:aq W c cap bud nd h) (hp:h.S[i]? =some (⟨19,a,b,z⟩:Sp))=>And.intro k.l0 k.l4);refine aiQ ?_;intro HP HL K1;have HW:=qh (λW (k:aq W c cap bud nd h)=>vf k.wk);clear V k hp O;go_enter func318,ntmps318;go_wp2_with fail
  go_region_held3 (λW=>W.cell? c.l=some ↑c.a/\Z W c.l 4 ↑c.k)
    (first|with_reducible exact HC.o _ _ K1.o HP.o|with_reducible exact HC.o _ _ H.o HP.o)
    (first
      | (go_at_call 146;go_loud (refine LT (HF.o _ K1.o) ?_))
      | (go_at_call 326;go_loud (refine LT (HW.o _ K1.o) ?_))
      | (go_at_call 177;go_loud (refine Pi (HO.o _ K1.o) λw3 I=>?_);have H:=qh (K1.o.op I.o.2 I.o.1);have T2:=qh (((aa.refl [c.a,c.g,c.q,c.k] w).drew).trans (I.o.2.mono (T:=[c.a,c.g,c.q,c.k]) ahq))))
  all_goals have e3:=H.o.sp.cell HP.o 2 _ rfl;have e4:=H.o.sp.cell HP.o 1 _ rfl;have z3:=H.o.sp.free (i*4+2);go_wp2;go_ret;rw[HX.o];exact⟨rfl,H.o.putS (p':=(⟨19,a,a,z⟩:Sp)) HP.o (j:=2) (v:= J a) ahr rfl,T2.o.trans (dt ⟨c.q,i*4+2,none⟩ _ rfl)⟩
def yf(k:aq w c cap bud nd h)(i:Nat)(hin:i<nd.length)(a b z:Int)(hp:h.S[i]? =some (⟨20,a,b,z⟩:Sp))(Y:h.ar.ops+1<=1000000000000)(I:-5<=b/\b<=100000):E 318 #[↑c.l,pointer (some ⟨c.q,i*4,none⟩)] w (eI w c cap bud nd h i (⟨20,a,b,z⟩:Sp) (ah nd.length (ndf nd) bud h i (⟨20,a,b,z⟩:Sp))):=by
  obtain⟨v,O⟩:=LE (ldW h.ar.W (cL b));have HX:Kq (ah nd.length (ndf nd) bud h i (⟨20,a,b,z⟩:Sp)=(af h.ar (cL b),h.wk,(⟨21,a,b,v⟩:Sp))):=qh (by rw[I2 rfl,O]<;>rfl);refine ajN ?_;intro HF HO;rw[<-O]at HO;replace HO:=qh HO;clear O;have HJ:=qh (λW H (k:aq W c cap bud nd ⟨H,h.wk,h.S⟩)=>k.putS (p':=(⟨20,a,b,v⟩:Sp)) hp (j:=3) (v:= J v) ahr rfl);have HPN:=fun(q:i<h.S.length)=>show(h.S.set i (⟨20,a,b,v⟩:Sp))[i]? =some (⟨20,a,b,v⟩:Sp)by simp[q]
  exact cwZ
def yk(k:aq w c cap bud nd h)(i:Nat)(hin:i<nd.length)(a b z:Int)(hp:h.S[i]? =some (⟨25,a,b,z⟩:Sp))(Y:h.ar.ops+1<=1000000000000)(I:-5<=b/\b<=100000):E 318 #[↑c.l,pointer (some ⟨c.q,i*4,none⟩)] w (eI w c cap bud nd h i (⟨25,a,b,z⟩:Sp) (ah nd.length (ndf nd) bud h i (⟨25,a,b,z⟩:Sp))):=by
  obtain⟨v,O⟩:=LE (ldW h.ar.W (cL b));have HX:Kq (ah nd.length (ndf nd) bud h i (⟨25,a,b,z⟩:Sp)=(af h.ar (cL b),h.wk,(⟨26,a,b,v⟩:Sp))):=qh (by rw[I7 rfl,O]<;>rfl);refine ajN ?_;intro HF HO;rw[<-O]at HO;replace HO:=qh HO;clear O;have HJ:=qh (λW H (k:aq W c cap bud nd ⟨H,h.wk,h.S⟩)=>k.putS (p':=(⟨25,a,b,v⟩:Sp)) hp (j:=3) (v:= J v) ahr rfl);have HPN:=fun(q:i<h.S.length)=>show(h.S.set i (⟨25,a,b,v⟩:Sp))[i]? =some (⟨25,a,b,v⟩:Sp)by simp[q]
  exact cwZ
def yg(k:aq w c cap bud nd h)(i:Nat)(hin:i<nd.length)(a b z:Int)(hp:h.S[i]? =some (⟨21,a,b,z⟩:Sp))(Y:h.ar.ops+1<=1000000000000)(H:-5<=z/\z<=100000):E 318 #[↑c.l,pointer (some ⟨c.q,i*4,none⟩)] w (eI w c cap bud nd h i (⟨21,a,b,z⟩:Sp) (ah nd.length (ndf nd) bud h i (⟨21,a,b,z⟩:Sp))):=by have HX:Kq (ah nd.length (ndf nd) bud h i (⟨21,a,b,z⟩:Sp)=(ae h.ar (cN z) a,h.wk,(⟨22,a,b,z⟩:Sp))):=qh (by rw[I3 rfl]<;>rfl);have HF:=qh (λW (k:aq W c cap bud nd h)=>mI k z (by exact H));have HO:=qh (λW (k:aq W c cap bud nd h)=>an k.ar (cN z) a Y);exact cyN
def ym(k:aq w c cap bud nd h)(i:Nat)(hin:i<nd.length)(a b z:Int)(hp:h.S[i]? =some (⟨26,a,b,z⟩:Sp))(Y:h.ar.ops+1<=1000000000000)(H:-5<=z/\z<=100000):E 318 #[↑c.l,pointer (some ⟨c.q,i*4,none⟩)] w (eI w c cap bud nd h i (⟨26,a,b,z⟩:Sp) (ah nd.length (ndf nd) bud h i (⟨26,a,b,z⟩:Sp))):=by have HX:Kq (ah nd.length (ndf nd) bud h i (⟨26,a,b,z⟩:Sp)=(ae h.ar (cN z) a,h.wk,(⟨27,a,b,z⟩:Sp))):=qh (by rw[I8 rfl]<;>rfl);have HF:=qh (λW (k:aq W c cap bud nd h)=>mI k z (by exact H));have HO:=qh (λW (k:aq W c cap bud nd h)=>an k.ar (cN z) a Y);exact cyN
def yh(k:aq w c cap bud nd h)(i:Nat)(hin:i<nd.length)(a b z:Int)(hp:h.S[i]? =some (⟨22,a,b,z⟩:Sp))(Y:h.ar.ops+1<=1000000000000)(I:-5<=b/\b<=100000):E 318 #[↑c.l,pointer (some ⟨c.q,i*4,none⟩)] w (eI w c cap bud nd h i (⟨22,a,b,z⟩:Sp) (ah nd.length (ndf nd) bud h i (⟨22,a,b,z⟩:Sp))):=by
  refine ajq ?_;intro hn e0;obtain⟨ab,V⟩:=LE (ae h.ar (cL b) h.wk.last);have HX:Kq (ah nd.length (ndf nd) bud h i (⟨22,a,b,z⟩:Sp)=(ab,h.wk,(⟨23,h.wk.found,b,z⟩:Sp))):=qh (by rw[I4 rfl,V]<;>rfl);have HF:=qh (λW (k:aq W c cap bud nd h)=>xo k b (by exact I));have hv:=(λW (k:aq W c cap bud nd h)=>an k.ar (cL b) h.wk.last Y);rw[<-V]at hv;have HO:=qh hv;have HC:=qh (λW (h:Cn) (k:aq W c cap bud nd h) (hp:h.S[i]? =some (⟨22,a,b,z⟩:Sp))=>And.intro k.l0 (And.intro k.l4 (k.sp.cell hp 2 _ rfl)));refine aiQ ?_;intro HP HL K1;have HW:=qh (λW (k:aq W c cap bud nd h)=>vf k.wk);clear hv k hp V;go_enter func318,ntmps318;go_wp2_with fail
  go_region_held3 (λW=>W.cell? c.l=some ↑c.a/\Z W c.l 4 ↑c.k/\Z W c.q (i*4+2) (J b))
    (first|with_reducible exact HC.o _ _ K1.o HP.o|with_reducible exact HC.o _ _ H.o HP.o)
    (first
      | (go_at_call 321;go_loud (refine LT (HF.o _ K1.o) ?_))
      | (go_at_call 326;go_loud (refine LT (HW.o _ K1.o) ?_))
      | (go_at_call 177;go_loud (refine Pi (HO.o _ K1.o) λw3 O=>?_);have H:=qh (K1.o.op O.o.2 O.o.1);have T2:=qh (((aa.refl [c.a,c.g,c.q,c.k] w).drew).trans (O.o.2.mono (T:=[c.a,c.g,c.q,c.k]) ahq))))
  all_goals have l4:=H.o.l4;have e4:=H.o.sp.cell HP.o 1 _ rfl;have z4:=H.o.sp.free (i*4+1);have e3:Z w3 c.q (i*4) (J 22):=(by simpa using H.o.sp.cell HP.o 0 _ rfl);go_wp2_with fail;refine LT (qQ H.o.wk) ?_;go_wp2;go_ret;rw[HX.o];exact⟨rfl,H.o.putS (p':=(⟨22,h.wk.found,b,z⟩:Sp)) HP.o (j:=1) (v:= J h.wk.found) ahr rfl,T2.o.trans (dt ⟨c.q,i*4+1,none⟩ _ rfl)⟩
def yi(k:aq w c cap bud nd h)(i:Nat)(hin:i<nd.length)(a b z:Int)(hp:h.S[i]? =some (⟨23,a,b,z⟩:Sp))(Y:h.ar.ops+1<=1000000000000):E 318 #[↑c.l,pointer (some ⟨c.q,i*4,none⟩)] w (eI w c cap bud nd h i (⟨23,a,b,z⟩:Sp) (ah nd.length (ndf nd) bud h i (⟨23,a,b,z⟩:Sp))):=by obtain⟨v,O⟩:=LE ((if inR h.ar.W 2 then IntKind.i64.wrap (ldW h.ar.W 2+1)else 0));have HX:Kq (ah nd.length (ndf nd) bud h i (⟨23,a,b,z⟩:Sp)=(addA h.ar 2 1,h.wk,(⟨24,a,b,z⟩:Sp))):=qh (by rw[I5 rfl]<;>rfl);have HF:=qh (λW (k:aq W c cap bud nd h)=>qM k);have HO:=λW (k:aq W c cap bud nd h)=>ie k.ar 2 1 Y;rw[<-O]at HO;replace HO:=qh HO;clear O;exact cyN
def yj(k:aq w c cap bud nd h)(i:Nat)(hin:i<nd.length)(a b z:Int)(hp:h.S[i]? =some (⟨24,a,b,z⟩:Sp))(Y:h.ar.ops+1<=1000000000000)(H:-5<=a/\a<=100000):E 318 #[↑c.l,pointer (some ⟨c.q,i*4,none⟩)] w (eI w c cap bud nd h i (⟨24,a,b,z⟩:Sp) (ah nd.length (ndf nd) bud h i (⟨24,a,b,z⟩:Sp))):=by have HX:Kq (ah nd.length (ndf nd) bud h i (⟨24,a,b,z⟩:Sp)=(ae h.ar (cS a) b,h.wk,(⟨0,a,b,z⟩:Sp))):=qh (by rw[I6 rfl]<;>rfl);have HF:=qh (λW (k:aq W c cap bud nd h)=>pj k a (by exact H));have HO:=qh (λW (k:aq W c cap bud nd h)=>an k.ar (cS a) b Y);exact cyN
def yn(k:aq w c cap bud nd h)(i:Nat)(hin:i<nd.length)(a b z:Int)(hp:h.S[i]? =some (⟨27,a,b,z⟩:Sp))(Y:h.ar.ops+1<=1000000000000):E 318 #[↑c.l,pointer (some ⟨c.q,i*4,none⟩)] w (eI w c cap bud nd h i (⟨27,a,b,z⟩:Sp) (ah nd.length (ndf nd) bud h i (⟨27,a,b,z⟩:Sp))):=by have HX:Kq (ah nd.length (ndf nd) bud h i (⟨27,a,b,z⟩:Sp)=(ae h.ar 2 0,h.wk,(⟨28,a,b,z⟩:Sp))):=qh (by rw[I9 rfl]<;>rfl);have HF:=qh (λW (k:aq W c cap bud nd h)=>qM k);have HO:=qh (λW (k:aq W c cap bud nd h)=>an k.ar 2 0 Y);exact cyN
def yp(k:aq w c cap bud nd h)(i:Nat)(hin:i<nd.length)(a b z:Int)(hp:h.S[i]? =some (⟨29,a,b,z⟩:Sp))(Y:h.ar.ops+1<=1000000000000):E 318 #[↑c.l,pointer (some ⟨c.q,i*4,none⟩)] w (eI w c cap bud nd h i (⟨29,a,b,z⟩:Sp) (ah nd.length (ndf nd) bud h i (⟨29,a,b,z⟩:Sp))):=by have HX:Kq (ah nd.length (ndf nd) bud h i (⟨29,a,b,z⟩:Sp)=(ae h.ar 2 0,h.wk,(⟨30,a,b,z⟩:Sp))):=qh (by rw[Jb rfl]<;>rfl);have HF:=qh (λW (k:aq W c cap bud nd h)=>qM k);have HO:=qh (λW (k:aq W c cap bud nd h)=>an k.ar 2 0 Y);exact cyN
def yo(k:aq w c cap bud nd h)(i:Nat)(hin:i<nd.length)(a b z:Int)(hp:h.S[i]? =some (⟨28,a,b,z⟩:Sp))(Y:h.ar.ops+1<=1000000000000)(I:-5<=b/\b<=100000):E 318 #[↑c.l,pointer (some ⟨c.q,i*4,none⟩)] w (eI w c cap bud nd h i (⟨28,a,b,z⟩:Sp) (ah nd.length (ndf nd) bud h i (⟨28,a,b,z⟩:Sp))):=by have HX:Kq (ah nd.length (ndf nd) bud h i (⟨28,a,b,z⟩:Sp)=(ae h.ar (cS b) (-1),h.wk,(⟨0,a,b,z⟩:Sp))):=qh (by rw[Ja rfl]<;>rfl);have HF:=qh (λW (k:aq W c cap bud nd h)=>pj k b (by exact I));have HO:=qh (λW (k:aq W c cap bud nd h)=>an k.ar (cS b) (-1) Y);exact cyN
def yq(k:aq w c cap bud nd h)(i:Nat)(hin:i<nd.length)(a b z:Int)(hp:h.S[i]? =some (⟨30,a,b,z⟩:Sp))(Y:h.ar.ops+1<=1000000000000)(H:-5<=a/\a<=100000):E 318 #[↑c.l,pointer (some ⟨c.q,i*4,none⟩)] w (eI w c cap bud nd h i (⟨30,a,b,z⟩:Sp) (ah nd.length (ndf nd) bud h i (⟨30,a,b,z⟩:Sp))):=by have HX:Kq (ah nd.length (ndf nd) bud h i (⟨30,a,b,z⟩:Sp)=(ae h.ar (cS a) (-1),h.wk,(⟨0,a,b,z⟩:Sp))):=qh (by rw[Jc rfl]<;>rfl);have HF:=qh (λW (k:aq W c cap bud nd h)=>pj k a (by exact H));have HO:=qh (λW (k:aq W c cap bud nd h)=>an k.ar (cS a) (-1) Y);exact cyN
end
end
section
open Go.RowKit
section
variable{c:Cx}{h:Cn}
structure pS(n:Nat)(h:Cn):Prop where
 ops:h.ar.ops+1<=1000000000000
 sp:∀(j:Nat) (p:Sp),h.S[j]? =some p->(-1<=p.a/\p.a<=2000)/\(-1<=p.b/\p.b<=2000)/\(p.pc=21\/p.pc=26->-1<=p.c/\p.c<=2000)
 wk:(0<=h.wk.passed/\h.wk.passed<=n)/\(-1<=h.wk.last/\h.wk.last<=2000)
 way:∀(j:Nat) (p:Sp),h.S[j]? =some p->p.pc=18->h.wk.way=true
 pcs:∀(j:Nat) (p:Sp),h.S[j]? =some p->(0<=p.pc/\p.pc<=6)\/(10<=p.pc/\p.pc<=30)
def Im(k:aq w c cap bud nd h)(C:pS nd.length h)(i:Nat)(H:i<nd.length)(p:Sp)(O:h.S[i]? =some p)(h0:p.pc≠0)(h10:p.pc<10):E 315 #[↑c.l,pointer (some ⟨c.q,i*4,none⟩),J ((i:Int)+1)] w (eI w c cap bud nd h i p (ah nd.length (ndf nd) bud h i p)):=by
  have I:=C.sp i p O;have V:=C.pcs i p O;have Y:=C.ops;obtain⟨pc,a,b,z⟩:=p;simp only at h0 h10 I V;have:pc=1\/pc=2\/pc=3\/pc=4\/pc=5\/pc=6:=by omega
  rcases this with rfl|rfl|rfl|rfl|rfl|rfl
  . exact G3 k i H a b z O Y
  . exact G4 k i H a b z O Y
  . exact G6 k i H a b z O Y
  . exact G7 k i H a b z O Y ahp
  . exact G8 k i H a b z O Y
  . exact G9 k i H a b z O Y
def Eh(k:aq w c cap bud nd h)(C:pS nd.length h)(i:Nat)(H:i<nd.length)(p:Sp)(O:h.S[i]? =some p)(V:10<p.pc)(h10:p.pc<=16):E 316 #[↑c.l,pointer (some ⟨c.q,i*4,none⟩),J ((i:Int)+1)] w (eI w c cap bud nd h i p (ah nd.length (ndf nd) bud h i p)):=by
  have I:=C.sp i p O;have Y:=C.ops;obtain⟨pc,a,b,z⟩:=p;simp only at V h10 I;have:pc=11\/pc=12\/pc=13\/pc=14\/pc=15\/pc=16:=by omega
  rcases this with rfl|rfl|rfl|rfl|rfl|rfl
  . exact Aj k i H a b z O Y
  . exact Ak k i H a b z O Y
  . exact Al k i H a b z O Y
  . exact Am k i H a b z O Y ahp
  . exact An k i H a b z O Y
  . exact Ao k i H a b z O Y
def Ch(k:aq w c cap bud nd h)(C:pS nd.length h)(i:Nat)(O:i<nd.length)(p:Sp)(H:h.S[i]? =some p)(h0:16<p.pc)(h10:p.pc<=18):E 317 #[↑c.l,pointer (some ⟨c.q,i*4,none⟩),J ((i:Int)+1)] w (eI w c cap bud nd h i p (ah nd.length (ndf nd) bud h i p)):=by
  have I:=C.sp i p H;have V:=C.way i p H;have MU:=C.wk;have Y:=C.ops;have hn:=k.n32;obtain⟨pc,a,b,z⟩:=p;simp only at h0 h10 I V;have:pc=17\/pc=18:=by omega
  rcases this with rfl|rfl
  . exact yr k i O a b z H Y
  . exact yt k i a b z H Y (V rfl) ahp ahp
def Cg(k:aq w c cap bud nd h)(C:pS nd.length h)(i:Nat)(H:i<nd.length)(p:Sp)(O:h.S[i]? =some p)(V:18<p.pc):E 318 #[↑c.l,pointer (some ⟨c.q,i*4,none⟩)] w (eI w c cap bud nd h i p (ah nd.length (ndf nd) bud h i p)):=by
  have I:=C.sp i p O;have JU:=C.pcs i p O;have MU:=C.wk;have Y:=C.ops;obtain⟨pc,a,b,z⟩:=p;simp only at V I JU;have:pc=19\/pc=20\/pc=21\/pc=22\/pc=23\/pc=24\/pc=25\/pc=26\/pc=27\/pc=28\/pc=29\/pc=30:=by omega
  rcases this with rfl|rfl|rfl|rfl|rfl|rfl|rfl|rfl|rfl|rfl|rfl|rfl
  . by_cases V:0<b;. exact uF k i H a b z O Y ahp (decide_eq_true V)
    . exact uE k i H a b z O Y ahp (decide_eq_false V)
  . exact yf k i H a b z O Y ahp
  . exact yg k i H a b z O Y ahp
  . exact yh k i H a b z O Y ahp
  . exact yi k i H a b z O Y
  . exact yj k i H a b z O Y ahp
  . exact yk k i H a b z O Y ahp
  . exact ym k i H a b z O Y ahp
  . exact yn k i H a b z O Y
  . exact yo k i H a b z O Y ahp
  . exact yp k i H a b z O Y
  . exact yq k i H a b z O Y ahp
def Gz(k:aq w c cap bud nd h)(i:Int)(C:pS nd.length h):E 312 #[↑c.l,J i] w (COp w c cap bud nd (hJ nd.length (ndf nd) bud h i)):=by
  have Ll:=aO;have H:=qh k;obtain⟨_,HN⟩:=k.n32;have J6:=k.sl;obtain⟨p,hp⟩:=LE (getS h.S i);have HP:=qh hp;by_cases hc:okI h.S i/\p.pc≠0/\p.pc≠10
  . obtain⟨O,hc0,TN⟩:=hc;have I:=dJ O;rw[<-hp]at I;obtain⟨V,h9⟩:=id O;obtain⟨n,rfl⟩:=Int.eq_ofNat_of_zero_le V;simp only[Int.toNat_natCast]at I;rw[J6]at h9;have Y:n<nd.length:=(by omega);have Pu:(n:Int)<nd.length:=(by omega);have Z1:=C.pcs n p I;obtain⟨y,hy⟩:=LE (ah nd.length (ndf nd) bud h n p)
    have HS:Kq (hJ nd.length (ndf nd) bud h n=(⟨y.1,y.2.1,h.S.set n y.2.2⟩,decide (y.2.2.pc=0\/y.2.2.pc=10))):=qh (by
      unfold hJ;rw[<-HP.o,if_pos ⟨O,hc0,TN⟩];simp only[Int.toNat_natCast]
      rw[hy])
    have x7:IntKind.i64.wrap ((n:Int)+1)=(n:Int)+1:=IntWalk.i64_in _ ahp;have u0:(p.pc==0)=false:=(by simpa using hc0);have u10:(p.pc==10)=false:=(by simpa using TN);have M8:p.pc<10\/(10<p.pc/\p.pc<=16)\/(16<p.pc/\p.pc<=18)\/18<p.pc:=(by omega);have l5:∀W,aq W c cap bud nd h->Z W c.l 5 (slice (some ⟨c.q,0,none⟩) nd.length nd.length):=λW k=>k.l5;have XR:=qh l5;clear l5;rcases M8 with e|e|e|e
    all_goals
      first| have Lt:=λW (k:aq W c cap bud nd h)=>Im k C n Y p I hc0 e| have Lt:=λW (k:aq W c cap bud nd h)=>Eh k C n Y p I e.1 e.2| have Lt:=λW (k:aq W c cap bud nd h)=>Ch k C n Y p I e.1 e.2| have Lt:=λW (k:aq W c cap bud nd h)=>Cg k C n Y p I e
      rw[<-hy]at Lt;have HM:=qh Lt;first|(have u1:decide (p.pc<10)=true:=decide_eq_true ahp)|(have u1:decide (p.pc<10)=false:=decide_eq_false ahp)
      first|(have u2:decide (p.pc<=16)=true:=decide_eq_true ahp)|(have u2:decide (p.pc<=16)=false:=decide_eq_false ahp)
      first|(have u3:decide (p.pc<=18)=true:=decide_eq_true ahp)|(have u3:decide (p.pc<=18)=false:=decide_eq_false ahp)
      have HG:=qh I;clear Lt k hp C hc0 TN I V h9 O J6 e hy Z1;go_enter func312,ntmps312;go_wp2_with fail;refine ST (uc H.o n) λw1 b1=>?_;refine ajm ?_;intro H1;have c5:=XR.o _ H1.o.1;clear b1;go_wp2_with fail;refine(HM.o _ H1.o.1).mono ?_;rintro en w2 ⟨rfl,K2,t2⟩;have Lr:(h.S.set n {y.2.2 with pc:=p.pc})[n]? =some {y.2.2 with pc:=p.pc}:=(by have:=(List.getElem?_eq_some_iff.1 HG.o).1;simp[this]);have d0:=aaa (K2.sp.cell Lr 0 _ rfl);have f0:=K2.sp.free (n*4);have hq:=K2.sp.lt;have K3:=K2.putS Lr (j:=0) (v:= J y.2.2.pc) (p':=y.2.2) ahr rfl;simp only[Nat.add_zero,List.set_set]at K3;have H2:=qh (And.intro K3 (((aa.of_below H1.o.2).trans t2).trans (dt ⟨c.q,n*4,none⟩ (J y.2.2.pc) rfl)));clear K2 t2 Lr K3 c5;cases z0:(y.2.2.pc==0)
      . cases z1:(y.2.2.pc==10);. have HD:Kq (decide (y.2.2.pc=0\/y.2.2.pc=10)=false):=qh ah4;go_wp2;go_ret;rw[HS.o];exact⟨az HD.o.symm,H2.o.1,H2.o.2⟩
        . have HD:Kq (decide (y.2.2.pc=0\/y.2.2.pc=10)=true):=qh ah5;go_wp2;go_ret;rw[HS.o];exact⟨az HD.o.symm,H2.o.1,H2.o.2⟩
      . have HD:Kq (decide (y.2.2.pc=0\/y.2.2.pc=10)=true):=qh ah6;go_wp2;go_ret;rw[HS.o];exact⟨az HD.o.symm,H2.o.1,H2.o.2⟩
  . have HS:Kq (hJ nd.length (ndf nd) bud h i=(h,false)):=qh (by unfold hJ;rw[<-hp,if_neg hc])
    have hz:p.pc=0\/p.pc=10:=by
      by_cases O:okI h.S i;. apply Classical.byContradiction;intro Y;exact hc ⟨O,λe=>Y (.inl e),λe=>Y (.inr e)⟩
      . left;rw[hp,dC O];rfl
    have HZ:=qh hz;clear k hp hc J6 hz C;by_cases V:p.pc=0;. have u0:(p.pc==0)=true:=(by simpa using V);clear V;go_enter func312,ntmps312;go_wp2_with fail;refine ST (uc H.o i) λw1 b1=>?_;refine ajm ?_;intro H1;clear b1;go_wp2;go_ret;rw[HS.o];exact⟨rfl,H1.o.1,aa.of_below H1.o.2⟩
    . have u0:(p.pc==0)=false:=(by simpa using V);have u10:(p.pc==10)=true:=(by have:=HZ.o;simp;omega);clear V;go_enter func312,ntmps312;go_wp2_with fail;refine ST (uc H.o i) λw1 b1=>?_;refine ajm ?_;intro H1;clear b1;go_wp2;go_ret;rw[HS.o];exact⟨rfl,H1.o.1,aa.of_below H1.o.2⟩
end
end
end Go.Proofs.YtglokdbiggbkjaaGreat
