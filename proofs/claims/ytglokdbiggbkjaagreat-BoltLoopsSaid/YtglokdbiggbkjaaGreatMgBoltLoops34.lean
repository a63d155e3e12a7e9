/- Joined texts. -/
import Derived.Deep.DeepCutAuto
import Derived.Test.YtglokdbiggbkjaaGreatMgBoltLoops0
import Derived.Test.YtglokdbiggbkjaaGreatMgBoltLoops2
import Derived.Test.YtglokdbiggbkjaaGreatMgBoltLoops3
import Derived.Test.YtglokdbiggbkjaaGreatMgBoltLoops4
import Derived.Test.YtglokdbiggbkjaaGreatMgBoltLoops5
import Derived.Test.YtglokdbiggbkjaaGreatMgBoltLoops6
import Derived.Test.YtglokdbiggbkjaaGreatMgBoltLoops9
import Derived.Test.YtglokdbiggbkjaaGreatMgBoltLoops10
import Derived.Test.YtglokdbiggbkjaaGreatMgBoltLoops33
set_option linter.unusedVariables false
set_option linter.unusedSimpArgs false
set_option linter.defProp false
set_option maxRecDepth 100000
set_option maxHeartbeats 16000000
open Go.Proofs.Tryz
namespace Go.Proofs.YtglokdbiggbkjaaGreat
open Go.IntKind(i64)
open Go.Value(int bool slice agg tuple pointer)
open Go.Ending(returned)
open Go.Obj(cells)
variable{n k:Nat}{P T:List Int}{w:World}
section
open Go Go.RowKit
variable{i:Nat}{S S':List Sp}{u v:Int}
structure SeU{n:Nat}(M:LkM n)(U:M.σ->List Sp):Prop where
 rd:M.rd=false
 sp:∀st i,M.sp st i=sv (U st) i
 len:∀st N,M.ok st N->n<=(U st).length
 step:∀st N i,M.ok st N->i<n->U (M.step st i)=U st\/∃p,U (M.step st i)=(U st).set i p/\(0<(sv (U st) i).pc->(sv (U st) i).pc<10->0<p.pc/\p.pc<=10)/\(10<(sv (U st) i).pc->p.pc=0\/10<p.pc)
 askT:∀st i,M.ask st i true=st
 ask:∀st N i,M.ok st N->i<n->(U (M.ask st i false)=U st/\(sv (U st) i).pc≠0)\/∃p,U (M.ask st i false)=(U st).set i p/\((sv (U st) i).pc=0->0<p.pc/\p.pc<10)/\((sv (U st) i).pc≠0->p=sv (U st) i)
 leave:∀st N i,M.ok st N->i<n->(U (M.leave st i)=U st/\(sv (U st) i).pc≠10)\/∃p,U (M.leave st i)=(U st).set i p/\((sv (U st) i).pc=10->10<p.pc)/\((sv (U st) i).pc≠10->p=sv (U st) i)
def fU{rd:Bool}(h:rd=false)(p:Sp):rdB rd p=false:=by unfold rdB;rw[h];rfl
def SeU.seen{M:LkM n}{U:M.σ->List Sp}(h:SeU M U):M.Seen where
 sO:=λst N i j H _ hi Y hne=>by
  rw[h.sp,h.sp]
  rcases h.step st N i H hi with e|⟨p,e,_⟩
  .rw[e]
  .exact acE
 s1:=λst N i H _ hi O h1=>by
  refine⟨?_,by rw[fU h.rd,fU h.rd]⟩
  rw[h.sp]at O h1 ⊢
  have V:=h.len st N H
  rcases h.step st N i H hi with e|⟨p,e,q,_⟩
  .rw[e];omega
  .rw[e,be,if_pos ⟨rfl,by omega⟩];exact q O h1
 s3:=λst N i H _ hi O=>by
  rw[fU h.rd,fU h.rd]
  rw[h.sp]at O ⊢
  have V:=h.len st N H
  rcases h.step st N i H hi with e|⟨p,e,_,q⟩
  .rw[e];right;simpa using O
  .rw[e,be,if_pos ⟨rfl,by omega⟩];have:=q O;simpa using this
 aO:=λst N i r j H _ hi Y hne=>by
  cases r
  .rw[h.sp,h.sp]
   rcases h.ask st N i H hi with⟨e,_⟩|⟨p,e,_⟩
   .rw[e]
   .exact acE
  .rw[h.askT]
 a1:=λst N i r H _ hi O I=>by
  have:r=false:=by cases r;rfl;exact absurd (I rfl) (by rw[h.rd];decide)
  subst this
  refine⟨?_,fU h.rd _⟩
  rw[h.sp]at O ⊢
  have V:=h.len st N H
  rcases h.ask st N i H hi with⟨_,q⟩|⟨p,e,q,_⟩
  .exact absurd O q
  .rw[e,be,if_pos ⟨rfl,by omega⟩];exact q O
 aN:=λst N i r H _ hi O=>by
  cases r
  .rw[h.sp]at O ⊢
   rw[h.sp]
   rcases h.ask st N i H hi with⟨e,_⟩|⟨p,e,_,q⟩
   .rw[e]
   .rw[e,q O,be];split<;>rfl
  .rw[h.askT]
 lO:=λst N i j H _ hi Y hne=>by
  rw[h.sp,h.sp]
  rcases h.leave st N i H hi with⟨e,_⟩|⟨p,e,_⟩
  .rw[e]
  .exact acE
 l1:=λst N i H _ hi O=>by
  refine⟨?_,by rw[fU h.rd,fU h.rd]⟩
  rw[h.sp]at O ⊢
  have V:=h.len st N H
  rcases h.leave st N i H hi with⟨_,q⟩|⟨p,e,q,_⟩
  .exact absurd O q
  .rw[e,be,if_pos ⟨rfl,by omega⟩];exact q O
 lN:=λst N i H _ hi O=>by
  rw[h.sp]at O ⊢
  rw[h.sp]
  rcases h.leave st N i H hi with⟨e,_⟩|⟨p,e,_,q⟩
  .rw[e]
  .rw[e,q O,be];split<;>rfl
def Cc(p:Sp):(p.pc=10->10<(ba p).pc)/\(p.pc≠10->ba p=p):=by unfold ba;split<;>simp[*]
def FD(k:Nat)(p:Sp):(p.pc=0->0<(askK k p).pc/\(askK k p).pc<10)/\(p.pc≠0->askK k p=p):=by
 unfold askK;split;.split<;>simp[*]
 .simp[*]
def PcOk(p p':Sp):Prop:=(0<p.pc->p.pc<10->0<p'.pc/\p'.pc<=10)/\(10<p.pc->p'.pc=0\/10<p'.pc)
def I5{m:Nat}(H:1<=k/\k<=5):(Eg k n m).Seen:=SeU.seen (U:=λst:Ar×List Sp=>st.2)
 {rd:=rfl
  sp:=λ_ _=>rfl
  len:=λ_ _ h=>Nat.le_of_eq h.i.len.symm
  step:=λ_ _ _ h hi=> .inr ⟨_,rfl,(jb H (im.at h hi).2).2⟩
  askT:=λ_ _=>rfl
  ask:=λ_ _ _ _ _=> .inr ⟨_,rfl,FD k _⟩
  leave:=λ_ _ _ _ _=> .inr ⟨_,rfl,Cc _⟩}
theorem Gg(n:Nat)(bud:Int)(h:Mal)(i:Nat)(p:Sp):PcOk p (maP n bud h i p).2.2.2:=by
 unfold maP;split;.unfold fo PcOk;grind
 .unfold dA PcOk kY;grind (splits:=40)
def me(S S':List Sp)(i:Nat)(u v:Int):Prop:=(S'=S/\(sv S i).pc≠u)\/∃p,S'=S.set i p/\p.pc=v/\(sv S i).pc=u
def me.ask(h:me S S' i 0 1):(S'=S/\(sv S i).pc≠0)\/∃p,S'=S.set i p/\((sv S i).pc=0->0<p.pc/\p.pc<10)/\((sv S i).pc≠0->p=sv S i):=by exact acF
def me.leave(h:me S S' i 10 11):(S'=S/\(sv S i).pc≠10)\/∃p,S'=S.set i p/\((sv S i).pc=10->10<p.pc)/\((sv S i).pc≠10->p=sv S i):=by exact acF
def Av(h:Mal)(i:Nat)(u v:Int):me h.S (io h i u v).S i u v:=by
 unfold io;split;.rename_i e;exact .inr ⟨_,rfl,rfl,e⟩
 .rename_i e;exact .inl ⟨rfl,e⟩
def I8(n:Nat)(bud:Int):(xM n bud).Seen:=SeU.seen (U:=λst:Mal=>st.S)
 {rd:=rfl
  sp:=λ_ _=>rfl
  len:=λ_ _ h=>Nat.le_of_eq h.1.len.symm
  step:=fun(st:Mal) _ i _ _=>by
   show(dT n bud st i).1.S=st.S\/∃p,(dT n bud st i).1.S=_/\_
   unfold dT
   split
   .exact .inl rfl
   .exact .inr ⟨_,rfl,Gg ..⟩
  askT:=λ_ _=>rfl
  ask:=fun(st:Mal) _ i _ _=>(Av st i 0 1).ask
  leave:=fun(st:Mal) _ i _ _=>(Av st i 10 11).leave}
def lp(h:okI S (i:Int)):getS S (i:Int)=sv S i:=gu (by unfold okI at h;omega)
def rI(h:n<=S.length)(hi:i<n):okI S (i:Int):=by unfold okI;omega
def nL.len{dl:Int}{st:Hc}{N:Nat}(h:nL dl P T st N):T.length<=st.S.length:=by obtain⟨G,h⟩:=h.1;exact Nat.le_of_eq h.iv.sl.symm
def sH{h:Hc}(hl:okI h.S (i:Int)):me h.S (bo h i u v).1.S i u v:=by unfold bo;exact acG
theorem I6(dl:Int)(P T:List Int):(Eh dl P T).Seen:=SeU.seen (U:=λst:Hc=>st.S)
 {rd:=rfl
  sp:=λ_ _=>rfl
  len:=fun(st:Hc) N h=>nL.len h
  step:=fun(st:Hc) N i hk hi=>by
   show(ff _ _ dl _ st i).1.S=st.S\/∃p,(ff _ _ dl _ st i).1.S=_/\_
   unfold ff
   split
   .rename_i h
    rw[lp h.1,Int.toNat_natCast]
    refine .inr ⟨_,rfl,?_⟩
    have hg:=h.2
    rw[lp h.1]at hg
    unfold iw at hg
    show PcOk _ _
    unfold PcOk bp
    grind
   .exact .inl rfl
  askT:=λ_ _=>rfl
  ask:=fun(st:Hc) _ i hk hi=>(sH (u:=0) (v:=1) (rI (nL.len hk) hi)).ask
  leave:=fun(st:Hc) _ i hk hi=>(sH (u:=10) (v:=11) (rI (nL.len hk) hi)).leave}
def sF{h:Cn}(hl:okI h.S (i:Int)):me h.S (bS h i u v).1.S i u v:=by unfold bS;exact acG
theorem zD(n:Nat)(node:Nat->Int)(bud:Int)(h:Cn)(i:Nat)(p:Sp):PcOk p (ah n node bud h i p).2.2:=by
 unfold ah;split;.unfold inC PcOk;grind
 split;.unfold jM PcOk;grind
 split;.unfold mD eI PcOk;grind
 .unfold eb PcOk;grind (splits:=30)
def I3(n:Nat)(nd:List Int)(bud:Int):(xL bud nd n).Seen:=SeU.seen (U:=λst:Cn=>st.S)
 {rd:=rfl
  sp:=λ_ _=>rfl
  len:=fun(st:Cn) N h=>Nat.le_of_eq h.1.len.symm
  step:=fun(st:Cn) N i hk hi=>by
   show(fK n (ndf nd) bud st i).1.S=st.S\/∃p,(fK n (ndf nd) bud st i).1.S=_/\_
   unfold fK
   split
   .rename_i h
    rw[lp h.1,Int.toNat_natCast]
    exact .inr ⟨_,rfl,zD ..⟩
   .exact .inl rfl
  askT:=λ_ _=>rfl
  ask:=fun(st:Cn) _ i hk hi=>(sF (u:=0) (v:=1) (rI (Nat.le_of_eq hk.1.len.symm) hi)).ask
  leave:=fun(st:Cn) _ i hk hi=>(sF (u:=10) (v:=11) (rI (Nat.le_of_eq hk.1.len.symm) hi)).leave}
theorem DF(c:CoC)(st:Co)(i:Nat)(p:Sp):PcOk p (da c st i p).2.2.2:=by
 unfold da;split;.unfold yK PcOk;grind
 .unfold qj PcOk;grind
def I4(c:CoC)(P T:List Int)(L:Nat):(Ef c P T L).Seen:=SeU.seen (U:=λst:Co=>st.T)
 {rd:=rfl
  sp:=λ_ _=>rfl
  len:=fun(st:Co) N h=>h.2.1.v.lT
  step:=fun(st:Co) N i hk hi=>by
   show(ak c st i).T=st.T\/∃p,(ak c st i).T=_/\_
   unfold ak iM
   split
   .exact .inl rfl
   .exact .inr ⟨_,rfl,DF ..⟩
  askT:=λ_ _=>rfl
  ask:=fun(st:Co) _ i _ _=>me.ask (by
   show me st.T (bC c st i).T i 0 1
   unfold bC
   split
   .rename_i e;exact .inr ⟨_,rfl,rfl,e⟩
   .rename_i e;exact .inl ⟨rfl,e⟩)
  leave:=fun(st:Co) _ i _ _=>me.leave (by
   show me st.T (aA st i).T i 10 11
   unfold aA
   split
   .rename_i e;exact .inr ⟨_,rfl,rfl,e⟩
   .rename_i e;exact .inl ⟨rfl,e⟩)}
def qS(T:HTr)(bud:Int)(i:Nat):∀(f:Nat) (m:Hm) (k:Nat),((gB T bud f m i k).S=m.S/\(k<T.D->f+k<T.D))\/∃p,(gB T bud f m i k).S=m.S.set i p/\10<p.pc
 |0,m,k=> .inl ⟨rfl,λh=>by omega⟩
 |f+1,m,k=>by
  have w:∀v j u c,(eT m v j u c).S=m.S:=λv j u c=>by unfold eT;split<;>rfl
  unfold gB;split;.exact acH
  .split;.exact acH
   .rcases qS T bud i f m (k+1)with⟨h1,h2⟩|h
    .exact .inl ⟨h1,λq=>by omega⟩
    .exact .inr h
def I7(T:HTr)(Y:T.Ok)(bud:Int):(Ch T bud).Seen:=SeU.seen (U:=λst:HmA=>st.m.S)
 {rd:=rfl
  sp:=λ_ _=>rfl
  len:=fun(st:HmA) N h=>by obtain⟨I,h⟩:=h.1;exact Nat.le_of_eq ((h.x 0).sl).symm
  step:=fun(st:HmA) N i hk hi=>by
   show(stepI T bud st.m i).S=st.m.S\/∃p,(stepI T bud st.m i).S=_/\_
   have Ki:(sv st.m.S i).pc=0\/(sv st.m.S i).pc=1\/(sv st.m.S i).pc=10\/10<(sv st.m.S i).pc:=by
    obtain⟨I,h⟩:=hk.1
    obtain⟨K,h,_⟩:=h.t i hi
    cases h<;>omega
   unfold stepI
   split
   case isFalse=>exact .inl rfl
   rename_i h
   rw[Int.toNat_natCast]
   unfold j7
   split
   .exact .inl rfl
   rename_i h0
   simp only
   split
   .exact .inl rfl
   split
   .exact .inl rfl
   have ask:∀m v j,(iL m v j).S=m.S:=λm v j=>by unfold iL;split<;>rfl
   have wth:∀m v j u c,(eT m v j u c).S=m.S:=λm v j u c=>by unfold eT;split<;>rfl
   split
   .rename_i e1
    unfold jJ
    split
    .exact .inr ⟨_,rfl,λ_ _=>by simp,λq=>by omega⟩
    .refine .inr ⟨_,by show((iL _ _ _).S).set i _=_;rw[ask];rfl,λ_ _=>?_,λq=>by omega⟩
     show 0<(sv st.m.S i).pc/\(sv st.m.S i).pc<=10
     omega
   split
   .unfold jK
    split
    .exact .inr ⟨_,rfl,λO V=>ahB,λ_=> .inl rfl⟩
    .exact .inr ⟨_,by show((eT _ _ _ _ _).S).set i _=_;rw[wth];rfl,λO V=>ahB,λ_=> .inr ahC⟩
   .rcases qS T bud i T.D (rstH st.m (T.pl i (sv st.m.S i).c.toNat) (T.sl i (sv st.m.S i).c.toNat)) ((sv st.m.S i).c.toNat+1)with⟨h1,_⟩|⟨p,h1,H⟩
    .exact .inl h1
    .exact .inr ⟨p,h1,λO V=>ahB,λ_=> .inr H⟩
  askT:=λ_ _=>rfl
  ask:=fun(st:HmA) _ i hk hi=>me.ask (by
   show me st.m.S (lh T st.m i).S i 0 1
   obtain⟨I,h⟩:=hk.1
   unfold lh
   rw[if_pos (h.okN hi).1,Int.toNat_natCast]
   unfold qc
   split
   .rename_i e;refine .inr ⟨_,by show((iL _ _ _).S).set i _=_;unfold iL;split<;>rfl,rfl,e⟩
   .rename_i e;exact .inl ⟨rfl,e⟩)
  leave:=fun(st:HmA) _ i hk hi=>by
   show((gD T bud st.m i).S=_/\_)\/∃p,(gD T bud st.m i).S=_/\_
   obtain⟨I,h⟩:=hk.1
   unfold gD
   rw[if_pos (h.okN hi).1,Int.toNat_natCast]
   unfold kA
   split
   .rename_i e
    rcases qS T bud i T.D st.m 0 with⟨h1,H⟩|⟨p,h1,H⟩
    .have:=H (by have:=Y.d1;omega);omega
    .exact .inr ⟨p,h1,λ_=>H,λq=>absurd e q⟩
   .rename_i e;exact .inl ⟨rfl,e⟩}
end
section
open Go Go.RowKit
structure kO.See(F:kO)(c:CoC)(P T:List Int)(L:Nat):Prop where
 step:∀B x i,F.ok c T.length (ac P).length L (mtQ P T) B x->i<T.length->(F.step c (ac P).length x i).U=x.U\/∃p,(F.step c (ac P).length x i).U=x.U.set i p/\PcOk (sv x.U i) p/\(p.pc≠0->p.a=(sv x.U i).a)
 askN:∀x i r,(sv x.U i).pc≠0->F.ask c x i r=x
 ask:∀x i r,(sv x.U i).pc=0->∃p:Sp,(F.ask c x i r).U=x.U.set i p/\(0<p.pc/\p.pc<10)/\p.a=if r then 1 else 0
def CT{F:kO}{c:CoC}{L:Nat}(K:F.Ok c P T L)(h:F.See c P T L):(Ei F c P T L).Seen where
 sO:=fun(x:Nu) N i j hk _ hi hj hne=>by
  show sv (F.step c _ x i).U j=sv x.U j
  rcases h.step _ x i hk.1 hi with e|⟨p,e,_⟩
  .rw[e]
  .exact acE
 s1:=fun(x:Nu) N i hk _ hi H h1=>by
  show(0<(sv (F.step c _ x i).U i).pc/\(sv (F.step c _ x i).U i).pc<=10)/\rdB true (sv (F.step c _ x i).U i)=rdB true (sv x.U i)
  have I:=K.lU _ x hk.1
  replace H:0<(sv x.U i).pc:=H
  replace h1:(sv x.U i).pc<10:=h1
  rcases h.step _ x i hk.1 hi with e|⟨p,e,q,qa⟩
  .rw[e];exact⟨by omega,rfl⟩
  .rw[e,be,if_pos ⟨rfl,by omega⟩]
   have:=q.1 H h1
   exact⟨this,by unfold rdB;rw[qa ahB]⟩
 s3:=fun(x:Nu) N i hk _ hi H=>by
  show(sv (F.step c _ x i).U i).pc=0\/10<(sv (F.step c _ x i).U i).pc/\rdB true (sv (F.step c _ x i).U i)=rdB true (sv x.U i)
  have I:=K.lU _ x hk.1
  replace H:10<(sv x.U i).pc:=H
  rcases h.step _ x i hk.1 hi with e|⟨p,e,q,qa⟩
  .rw[e];exact .inr ⟨H,rfl⟩
  .rw[e,be,if_pos ⟨rfl,by omega⟩]
   rcases q.2 H with e0|e0
   .exact .inl e0
   .exact .inr ⟨e0,by unfold rdB;rw[qa ahB]⟩
 aO:=fun(x:Nu) N i r j hk _ hi hj hne=>by
  show sv (F.ask c x i r).U j=sv x.U j
  by_cases e:(sv x.U i).pc=0
  .obtain⟨p,e,_⟩:=h.ask x i r e
   exact acE
  .rw[h.askN x i r e]
 a1:=fun(x:Nu) N i r hk _ hi H _=>by
  show(0<(sv (F.ask c x i r).U i).pc/\(sv (F.ask c x i r).U i).pc<10)/\rdB true (sv (F.ask c x i r).U i)=r
  have I:=K.lU _ x hk.1
  obtain⟨p,e,q,qa⟩:=h.ask x i r H
  rw[e,be,if_pos ⟨rfl,by omega⟩]
  exact⟨q,by unfold rdB;rw[qa];cases r<;>rfl⟩
 aN:=fun(x:Nu) N i r hk _ hi H=>by
  show sv (F.ask c x i r).U i=sv x.U i
  rw[h.askN x i r H]
 lO:=fun(x:Nu) N i j hk _ hi hj hne=>by
  show sv (aE x i).U j=sv x.U j
  unfold aE
  split
  .show sv (x.U.set i _) j=_
   rw[be,if_neg (λq=>hne q.1.symm)]
  .rfl
 l1:=fun(x:Nu) N i hk _ hi H=>by
  show 10<(sv (aE x i).U i).pc/\rdB true (sv (aE x i).U i)=rdB true (sv x.U i)
  have I:=K.lU _ x hk.1
  replace H:(sv x.U i).pc=10:=H
  have O:=(K.link _ x hk.1 i hi).2 ahB
  unfold aE
  rw[if_pos H]
  show 10<(sv (x.U.set i _) i).pc/\rdB true (sv (x.U.set i _) i)=_
  rw[be,if_pos ⟨rfl,by omega⟩]
  exact⟨by show 10<12-(sv x.U i).a;omega,rfl⟩
 lN:=fun(x:Nu) N i hk _ hi H=>by
  show sv (aE x i).U i=sv x.U i
  replace H:¬(sv x.U i).pc=10:=H
  unfold aE
  rw[if_neg H]
def nE(c:CoC)(x:Nu)(i:Nat)(r:Bool):((sv x.U i).pc≠0->cH c x i r=x)/\((sv x.U i).pc=0->∃p:Sp,(cH c x i r).U=x.U.set i p/\(0<p.pc/\p.pc<10)/\p.a=if r then 1 else 0):=by
 unfold cH;constructor;.intro h;rw[if_neg h]
 .intro h;exact acI
theorem Ja(c:CoC)(P T:List Int)(L:Nat):uw.See c P T L where
 askN:=λx i r=>(nE c x i r).1
 ask:=λx i r=>(nE c x i r).2
 step:=λB x i h hi=>by
  show(cG c _ x i).U=x.U\/∃p,(cG c _ x i).U=x.U.set i p/\_
  unfold cG
  split
  .exact .inl rfl
  split
  .refine .inr ⟨_,rfl,?_,λ_=>rfl⟩
   unfold PcOk;grind
  .refine .inr ⟨_,rfl,?_,λ_=>by unfold nuTo;split<;>rfl⟩
   unfold PcOk nuTo rH;grind
theorem Jb(c:CoC)(P T:List Int)(L:Nat):uy.See c P T L where
 askN:=λx i r=>(nE c x i r).1
 ask:=λx i r=>(nE c x i r).2
 step:=λB x i I hi=>by
  show(a7 c _ x i).U=x.U\/∃p,(a7 c _ x i).U=x.U.set i p/\_
  have H:=RsI.k (RsS.i I) i hi
  unfold a7
  split
  .exact .inl rfl
  .refine .inr ⟨_,rfl,?_,λ_=>rfl⟩
   unfold iy at H
   unfold PcOk fu
   rcases H with h|h|h|h|h<;>grind
theorem Jc(c:CoC)(P T:List Int)(L:Nat):uA.See c P T L where
 askN:=λx i r h=>by show fi x i r=x;unfold fi;rw[if_neg h]
 ask:=λx i r h=>by
  show ∃p:Sp,(fi x i r).U=_/\_
  unfold fi
  exact acI
 step:=λB x i I hi=>by
  show(bj c _ x i).U=x.U\/∃p,(bj c _ x i).U=x.U.set i p/\_
  have H:=WsI.k (WsS.i I) i hi
  unfold bj
  split
  .exact .inl rfl
  .refine .inr ⟨_,rfl,?_,λ_=>rfl⟩
   unfold ia at H
   unfold PcOk iI
   rcases H with h|h|h|h|h|h<;>grind
end
section
open Go Go.RowKit
variable{gl lo pa bu:Nat}
def Fh(h:1<=k/\k<=13):(rE P T gl lo pa bu k).1.rd=decide (11<=(k:Int)/\(k:Int)<=13):=by
 have:k=1\/k=2\/k=3\/k=4\/k=5\/k=6\/k=7\/k=8\/k=9\/k=10\/k=11\/k=12\/k=13:=by omega
 rcases this with rfl|rfl|rfl|rfl|rfl|rfl|rfl|rfl|rfl|rfl|rfl|rfl|rfl<;>rfl
def Gx:Ak rE:=by
 intro W vP AT cT P T k gl lo pa bu h H hc Y I O V Zn;have hn:=(bh (aR hc).1);refine Fj h H hc (Fh Y) λgs a g b hA ha hg=>IJ ⟨hA,h.below b (Nat.le_refl _),H.below b (Nat.le_refl _),λi hi=>?_,λi hi=>?_,hc,I,O,V,Zn⟩ Y;.have:=jW h ahB hi;have:=b.size;omega
 .have:=jW H ahB hi;have:=b.size;omega
def jx(k n i:Nat):(sv (a9 k n) i).pc=0/\(sv (List.replicate n Sp.zero) i).pc=0:=by
 have h:(sv (List.replicate n Sp.zero) i).pc=0:=by exact abD
 refine⟨?_,h⟩;unfold a9;split;.unfold sv;rw[List.getD_eq_getElem?_getD,List.getElem?_map];cases(List.range n)[i]?<;>rfl
 .exact h
def I9(hc:a5 P T=0)(Y:1<=k/\k<=13)(I:1<=gl/\gl<=5)(O:1<=lo/\lo<=5)(V:1<=pa/\pa<=4):(rE P T gl lo pa bu k).1.Seen/\∀i<T.length,((rE P T gl lo pa bu k).1.sp (rE P T gl lo pa bu k).2 i).pc=0:=by
 have hN:1<=(ac P).length:=by have:=(bh (aR hc).1);have h1:=eE hc (i:=0) ahB;omega
 have H:=EB (bud:=(bu:Int)) (s:=dI 4096) hc I O V rfl hN;have:(k=1\/k=2\/k=3\/k=4\/k=5)\/k=6\/k=7\/k=8\/k=9\/k=10\/k=11\/k=12\/k=13:=by omega
 rcases this with h|rfl|rfl|rfl|rfl|rfl|rfl|rfl|rfl
 .have e:rE P T gl lo pa bu k=zk P T k pa:=if_pos ahB;rw[e];exact⟨I5 ahB,λi _=>(jx k T.length i).1⟩
 .exact⟨I4 _ _ _ _,λi _=>(jx 0 T.length i).2⟩
 .exact⟨I7 _ (jh hc) _,λi _=>(jx 0 T.length i).2⟩
 .exact⟨I6 _ _ _,λi _=>(jx 0 T.length i).2⟩
 .exact⟨I3 _ _ _,λi _=>(jx 0 T.length i).2⟩
 .exact⟨I8 _ _,λi _=>(jx 0 T.length i).2⟩
 .exact⟨CT (ux H) (Ja _ _ _ _),λi _=>(jx 0 T.length i).2⟩
 .exact⟨CT (uz H) (Jb _ _ _ _),λi _=>(jx 0 T.length i).2⟩
 .exact⟨CT (uB H) (Jc _ _ _ _),λi _=>(jx 0 T.length i).2⟩
end
section
open Go Go.RowKit Go.Maps
abbrev P47:List Int:=[-1,0,0]
abbrev T47:List Int:=[1,2]
abbrev eR:MS T47.length:=zk P47 T47 2 1
def JM:a5 P47 T47=0:=by decide+kernel
def BG{a g:Nat}{s:Ar}(h:aB w a g s)(n:Nat)(h1:1<=n)(V:n<=32)(I:s.W.length+2<=s.room):E 109 #[↑a,J 2,J n,J 0] w (nM w a g 2 s n 1):=by have O:=qh (pM h n h1 V 1 ahD ahD I);have HG:=qh (And.intro h.blk.lt h.wds.lt);clear h I;go_enter func109,ntmps109;go_wp2_with fail;refine O.o.mono ?_;rintro en w1 ⟨x,rfl,e1,e2,e3⟩;have HE:=qh (And.intro e1 (And.intro e2 e3));clear e1 e2 e3;go_wp2;go_ret2;refine akh ?_;intro e1 e2 e3 hq hs hg;have H:aa [] w1 (w1.alloc (cells #[J ((2:Nat):Int),ifV 2 x.l] 303)):=(aa.refl _ _).alloc _;exact⟨{x with p:=w1.heap.size},rfl,⟨Blk.new w1 303 #[J ((2:Nat):Int),ifV 2 x.l],⟨e1.ar.turns H ahC ahC,H.blk e1.lk ahC,e1.sp.turns H ahC,e1.n,e1.la,e1.lg,e1.lq,e1.qa,e1.qg,e1.n32,e1.t0,e1.t1,e1.m0,e1.m1,e1.cap⟩,by show w1.heap.size≠a;omega,by show w1.heap.size≠g;omega,by show w1.heap.size≠x.q;omega⟩,⟨by show w.heap.size<=w1.heap.size;omega,e2.1,e2.2.1,e2.2.2.1,e2.2.2.2.1,e2.2.2.2.2.1⟩,e3.alloc _⟩
def Gw{W:World}{Y:Value}{H:Option Addr}{I:Nat}(O:RdL W Y 1 encI P)(V:RdL W (.slice H T.length I) 1 encI T)(hc:a5 P T=0):E 20 #[agg #[Y,.slice H T.length I],agg #[J 2,J 0,J 0,J 0,J 0]] W (sq W (zk P T 2 1) P T):=by have hn:=(bh (aR hc).1);refine Fj (k:=2) (gl:=0) (lo:=0) (pa:=0) (bu:=0) O V hc rfl λgs a g b h ha hg=>?_;refine CG h.blk.lt h.wds.lt (O.below b (Nat.le_refl _)) (V.below b (Nat.le_refl _)) hc ahD λV2 lb b2 hl OQ=>?_;refine tN (.fl ahD) hl OQ ⟨Nat.lt_of_lt_of_le h.blk.lt b2.size,Nat.lt_of_lt_of_le h.wds.lt b2.size⟩ λW2 b3=>?_;have Y6:=(h.turns (S:=[]) (aa.of_below b2) ahC ahC).turns (S:=[]) (aa.of_below b3) ahC ahC;refine(BG Y6 T.length ahB ahB (by show 0+2<=4096;omega)).mono ?_;rintro e w' ⟨x,rfl,k1,h1,t⟩;exact⟨x.p,rfl,Fd ahD ⟨by omega,by omega⟩ ahD rfl rfl k1 h1,t⟩
def Gt(W:World)(vP vT:Value):E 31 #[agg #[vP,vT],agg #[J 0,J 0,J 0,J 0,J 0]] W λe w'=>e= returned (tuple #[.pointer none,J 7])/\Below W.heap.size W w':=by
 obtain⟨w0,E'⟩:=LE ((W.alloc (cells #[vP,vT] 24)).alloc (cells #[J 0,J 0,J 0,J 0,J 0] 38));have H:Below W.heap.size W w0:=by rw[E'];exact((Below.refl _ _).alloc (Nat.le_refl _) _).alloc ahC _
 refine ajM ?_;intro k1 k2;have c0:=k1.cell 0;have c1:=k1.cell 1;have d0:=k2.cell 0;have d1:=k2.cell 1;have d2:=k2.cell 2;have d3:=k2.cell 3;have d4:=k2.cell 4;have h:=qh H;have O:=qh E';clear H E' k1 k2;go_enter func31,ntmps31;go_upto_region 1 with fail;rw[<-O.o];go_wp2_with fail;refine Op (Ey w0 vP vT) λw3 b3=>?_;have I:=qh (h.o.trans (b3.o.mono h.o.size));clear c0 c1 d0 d1 d2 d3 d4;go_wp2;go_ret2;exact⟨rfl,I.o⟩
def Ft(w:World):E 70 #[] w λe w'=>∃h H,e= returned (agg #[slice (some ⟨h,0,none⟩) P47.length P47.length,slice (some ⟨H,0,none⟩) T47.length T47.length])/\RdL w' (slice (some ⟨h,0,none⟩) P47.length P47.length) 1 encI P47/\RdL w' (slice (some ⟨H,0,none⟩) T47.length T47.length) 1 encI T47/\Below w.heap.size w w':=by
 go_enter func70,ntmps70;go_wp2;refine bodyPost_ret (v:= agg #[slice (some ⟨w.heap.size+1,0,none⟩) 3 3,slice (some ⟨w.heap.size+1+1,0,none⟩) 2 2]) (by simp[results,Tryz.results70,go_sem]) rfl ⟨_,_,rfl,?_,?_,?_⟩;.exact wG _ 3 P47 ((Blk.new' _ _ _ ahC).alloc _) rfl ahD
 .exact wG _ 3 T47 (Blk.new' _ _ _ ahC) rfl ahD
 .exact(((Below.refl _ _).alloc (Nat.le_refl _) _).alloc (by simp<;>omega) _).alloc (by simp<;>omega) _
section
variable{M:LkM n}{X:WoB M}{bb B:Nat}{w0 w':World}{C':M.σ}{pl:List (Int×Int)}
structure BoS(X:WoB M)(bb B:Nat)(w0 w:World)(C':M.σ)(pl:List (Int×Int)):Prop where
 b:dY X bb B w C' pl
 bel:Below w0.heap.size w0 w
 lo:w0.heap.size<=bb
 fp:∀i∈M.fp X.b,w0.heap.size<=i
def BoS.below(G:M.Good)(h:BoS X bb B w0 w C' pl)(t:Below w.heap.size w w'):BoS X bb B w0 w' C' pl:={h with b:=h.b.below G t,bel:=h.bel.trans (t.mono h.bel.size)}
def sN{f:FuncId}{O:Int}(K:BoC O f)(G:M.Good)(h:BoS X bb B w0 w C' pl)(hk:M.ok C' 0)(t H:Int)(hm:H<=60)(hN:pl.length<=100){Y g:Int}{ps V:List (Int×Int)}(I:(k,g,ps)=M.bDo (M.runA C' pl pl.length) O t H)(e:(k:Int)=Y)(e2:pl++ps=V):Calls prog f #[lkP bb,J t,J H] w λe w'=>e= returned (tuple #[J Y,J g])/\BoS X bb B w0 w' C' V:=by
  subst e e2;refine(E7 K G h.b hk t H hm (by unfold lkB;omega) I).mono ?_;rintro en w' ⟨⟨rfl,k2,R,hR,t2,-⟩,-⟩;have hB:=h.b.hb;have hl:=h.lo;refine⟨rfl,{h with b:=k2,bel:=h.bel.trans (t2.below (λi hi=>?_) h.bel.size)}⟩;rcases List.mem_append.1 hi with m|m
  . have:=(hR i m).1;omega
  . rcases List.mem_cons.1 m with rfl|m
    . exact hl
    . exact h.fp i m
end
abbrev pA:List (Int×Int):=[(0,1),(0,0),(0,0)]
abbrev pB:List (Int×Int):=pA++[(1,1),(1,0),(1,0),(1,0)]
abbrev pC:List (Int×Int):=pB++[(0,2),(0,0)]
abbrev pD:List (Int×Int):=pC++[(1,0)]
def d1:(2,0,pA)=eR.1.bDo (eR.1.runA eR.2 [] 0) 1 0 9:=by decide+kernel
def d2:(3,10,[(1,1),(1,0),(1,0),(1,0)])=eR.1.bDo (eR.1.runA eR.2 pA pA.length) 1 1 3:=by decide+kernel
def d3:(0,5,[])=eR.1.bDo (eR.1.runA eR.2 pB pB.length) 1 0 9:=by decide+kernel
def d4:(0,6,[])=eR.1.bDo (eR.1.runA eR.2 pB pB.length) 2 1 9:=by decide+kernel
def d5:(0,7,[])=eR.1.bDo (eR.1.runA eR.2 pB pB.length) 3 1 9:=by decide+kernel
def d6:(1,0,[(0,2),(0,0)])=eR.1.bDo (eR.1.runA eR.2 pB pB.length) 2 0 9:=by decide+kernel
def d7:(1,0,[(1,0)])=eR.1.bDo (eR.1.runA eR.2 pC pC.length) 1 1 3:=by decide+kernel
def d8:(0,4,[])=eR.1.bDo (eR.1.runA eR.2 pD pD.length) 1 2 1:=by decide+kernel
def w47:(eR.1.ar (eR.1.runA eR.2 pD pD.length)).W=[2,1]:=by decide+kernel
def xf:Awk 30:=by intro w;go_enter func30,ntmps30;go_wp2_with fail;refine(Ft _).mono ?_;rintro en w1 ⟨gP,gT,rfl,hP,hT,b1⟩;have Y:=qh (Fi (W:=w1) (k:=2) (gl:=0) (lo:=0) (pa:=0) (bu:=0) (ms:=eR) rfl (λgs b=>Gw (hP.below b (Nat.le_refl _)) (hT.below b (Nat.le_refl _)) JM));have B1:=qh b1;clear hP hT b1;go_wp2_with fail;refine Y.o.mono ?_;rintro en w2 ⟨X,bb,rfl,hG,mT,O,Kt,OZ,L7,MG,b2⟩;have h:=qh hG;have H:=qh mT;have H2:=qh (show BoS X bb w2.heap.size w w2 eR.2 []from⟨so.at O MG L7,B1.o.trans (b2.mono B1.o.size),by have:=B1.o.size;have:=O.hw;omega,λx hx=>Nat.le_trans B1.o.size (Kt x hx)⟩);clear hG mT O Kt OZ L7 MG b2 Y B1;unfold lkP;go_wp2_with fail;refine(Ft _).mono ?_;rintro en w3 ⟨al,ax,rfl,-,-,b3⟩;have H3:=qh (H2.o.below h.o b3);clear b3;go_wp2_with fail;refine Op (Gt w3 _ _) λw4 b4=>?_;have H4:=qh (H3.o.below h.o b4.o);go_wp2_with fail;refine Op (sN .l h.o H4.o H.o 0 9 ahD ahD d1 rfl rfl) λw5 H5=>?_;go_wp2_with fail;refine Op (sN .l h.o H5.o H.o 1 3 ahD ahD d2 rfl rfl) λw6 H6=>?_;go_wp2_with fail;refine Op (sN .l h.o H6.o H.o 0 9 ahD ahD d3 rfl rfl) λw7 H7=>?_;go_wp2_with fail;refine Op (sN .u h.o H7.o H.o 1 9 ahD ahD d4 rfl rfl) λw8 H8=>?_;go_wp2_with fail;refine Op (sN .r h.o H8.o H.o 1 9 ahD ahD d5 rfl rfl) λw9 H9=>?_;go_wp2_with fail;refine Op (sN .u h.o H9.o H.o 0 9 ahD ahD d6 rfl rfl) λw10 NG=>?_;go_wp2_with fail;refine Op (sN .l h.o NG.o H.o 1 3 ahD ahD d7 rfl rfl) λw11 Mf=>?_;go_wp2_with fail;refine Op (sN .l h.o Mf.o H.o 2 1 ahD ahD d8 rfl rfl) λw12 OE=>?_;go_wp2_with fail;refine(r5 OE.o.b ahD).mono ?_;rintro en w13 ⟨v13,rfl,RA,-,Of⟩;have Nm:=qh (OE.o.below h.o Of);obtain⟨ab,ad,rfl,-,-,-⟩:=id RA;rw[dC];clear RA Of;go_wp2_with fail;refine(sf h.o Nm.o.b).mono ?_;rintro en w14 ⟨v14,rfl,I,-,QL⟩;change RdL w14 v14 1 encI (eR.1.ar (eR.1.runA eR.2 pD pD.length)).W at I;rw[w47]at I;have V:=(Below.refl w14.heap.size w14).alloc (Nat.le_refl _) (cells #[J 2,J 1] 3);have HS:=qh (jY _ v14 (slice (some ⟨w14.heap.size,0,none⟩) 2 2) [2,1] [2,1] (I.below V (Nat.le_refl _)) (wG _ 3 [2,1] (Blk.new w14 3 _) rfl ahD));rw[decide_eq_true rfl]at HS;have RI:=qh ((Nm.o.below h.o QL).below h.o V);clear I QL V;go_wp2_with fail;refine Op HS.o λw16 VH=>?_;have XH:=qh (RI.o.bel.trans ((VH.o.below _).mono RI.o.bel.size));go_wp2;go_ret;exact⟨rfl,XH.o⟩
end
end Go.Proofs.YtglokdbiggbkjaaGreat
