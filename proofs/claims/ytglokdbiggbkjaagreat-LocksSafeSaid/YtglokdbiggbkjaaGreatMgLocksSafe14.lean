/- Joined texts. -/
import Derived.Test.YtglokdbiggbkjaaGreatMgLocksSafe0
import Derived.Test.YtglokdbiggbkjaaGreatMgLocksSafe13
set_option linter.unusedVariables false
set_option linter.unusedSimpArgs false
set_option maxRecDepth 100000
set_option maxHeartbeats 16000000
namespace Go.Proofs.YtglokdbiggbkjaaGreat
section
open Go.RowKit
section
variable{B:Nat->Prop}{w w' w0:World}{a g:Nat}{x:Cox}{c:CoC}{P T:List Int}{st st':Co}{s':Ar}{BB:Int}
theorem FM (h:aB B w a g x c P T st) (C:cX BB x c st) (i:Nat) (hi:i<x.n) (p:Sp) (hp:sv st.T i=p) (h0:0<p.pc) (h1:p.pc<10):
    Calls Tryz.prog 242 #[↑x.l,.int .i64 i] w (gD B w a g x c P T st i p):=by
  have hk:=C.v.k i hi;rw[hp]at hk;obtain⟨pc,u,b,z⟩:=p;simp only at h0 h1;have hc:pc=1\/pc=2\/pc=3\/pc=4:=by unfold db at hk;simp only at hk;omega
  rcases hc with rfl|rfl|rfl|rfl
  · exact Ee h C i hi u b z hp
  · exact Ef h C i hi u b z hp
  · exact Eg h C i hi u b z hp
  · exact Eh h C i hi u b z hp
theorem Ei (h:aB B w a g x c P T st) (C:cX BB x c st) (i:Nat) (hi:i<x.n) (p:Sp) (hp:sv st.T i=p) (h1:10<p.pc):
    Calls Tryz.prog 243 #[↑x.l,.int .i64 i] w (gD B w a g x c P T st i p):=by
  have hk:=C.v.k i hi;have ht:=C.bd.tsp (by have:=C.B0;omega) i;have hB:=C.B1;rw[hp]at hk ht;obtain⟨pc,u,b,z⟩:=p;simp only at h1 ht;have hc:pc=11\/pc=12\/pc=13\/pc=14\/pc=15\/pc=16:=by unfold db at hk;simp only at hk;omega
  rcases hc with rfl|rfl|rfl|rfl|rfl|rfl
  · exact zp h C i hi u b z hp
  · exact zq h C i hi u b z (by unfold db at hk;simp only at hk;omega) hp
  · exact zr h C i hi u b z QX hp
  · exact zt h C i hi u b z hp
  · exact zu h C i hi u b z hp
  · exact zv h C i hi u b z hp
def me (B:Nat->Prop)(w:World)(a g:Nat)(x:Cox)(c:CoC)(P T:List Int)(st':Co)(r:Bool)(e:Ending)(w':World):Prop:=
 e= .returned (.bool r)/\aB B w' a g x c P T st'/\aa (CoS a g x) w w'
theorem zw (h:aB B w a g x c P T st) (i:Nat) (hi:i<x.n) (hc:(sv st.T i).pc=0\/(sv st.T i).pc=10):
    Calls Tryz.prog 237 #[↑x.l,.int .i64 i] w (me B w a g x c P T (ak c st i) (bf (sv st.T i) (sv (ak c st i).T i))):=by
  have HS:=qh (lQ h i hi);have H:=qh h;have e1:ak c st i=st:=by unfold ak;rw[if_pos hc]
  rw[e1];have e2:bf (sv st.T i) (sv st.T i)=false:=by unfold bf;rcases hc with hc|hc<;>simp[hc]
  rw[e2];obtain⟨p,hp⟩:∃p,p=sv st.T i:=⟨_,rfl⟩;rw[<-hp]at hc HS;clear e1 e2 hp h;obtain⟨pc,u,b,z⟩:=p;simp only at hc;unfold aE at HS;have hfield:=aK;rcases hc with rfl|rfl
  all_goals go_enter Tryz.func237,Tryz.ntmps237;go_wp2_with fail;refine HS.o.mono ?_;rintro en w1 ⟨rfl,b1⟩;have HB:=qh b1;clear b1;go_wp2;go_ret;exact⟨rfl,H.o.below HB.o,aa.of_below HB.o⟩
theorem tP (h:aB B w a g x c P T st) (C:cX BB x c st) (i:Nat) (hi:i<x.n) (hc:0<(sv st.T i).pc/\(sv st.T i).pc<10):
    Calls Tryz.prog 237 #[↑x.l,.int .i64 i] w (me B w a g x c P T (ak c st i) (bf (sv st.T i) (sv (ak c st i).T i))):=by
  have hT:=h.thr hi;have hlen:i<st.T.length:=by rw[h.lS];exact hi
  have HS:=qh (lQ h i hi);have hn:=h.fx.n32;have hl1:=h.lk.lt;have hs2:=h.sp.lt;have t2:¬(i:Int)<0:=by omega
  obtain⟨p,hp⟩:∃p,p=sv st.T i:=⟨_,rfl⟩;have hI:=(λW (k:aB B W a g x c P T st)=>FM k C i hi p hp.symm);rw[<-hp]at hc HS hT;have HI:=qh (λW (k:aB B W a g x c P T st)=>hI W k hc.1 hc.2);obtain⟨m,hm⟩:∃m,m=cO c st i p:=⟨_,rfl⟩;have HM:=qh hm;have e1:ak c st i=jg st i m:=by unfold ak;rw[<-hp,if_neg QX,hm]
  rw[e1];have e2:sv (jg st i m).T i=m.2.2.2:=by show sv (st.T.set i m.2.2.2) i=_;rw[cD,if_pos ⟨rfl,hlen⟩]
  rw[e2,<-hp];have q1:¬p.pc=0:=by omega
  have q2:¬p.pc=10:=by omega
  have HQ:Kq (bf p m.2.2.2=((m.2.2.2.pc==10)||(m.2.2.2.pc==0))):=qh (by
    unfold bf;simp only[q1,q2,ne_eq,not_false_eq_true,and_true,Bool.decide_or]
    rfl)
  have u1:(p.pc==0)=false:=by simpa using q1
  have u2:(p.pc==10)=false:=by simpa using q2
  have u3:decide (p.pc<10)=true:=by simpa using hc.2
  obtain⟨s1,G1,L1,r⟩:=m;simp only at HQ e1;have HC:=qh (λW st (k:aB B W a g x c P T st)=>CoN.spots k);have HT:=qh hT;have H:=qh h;have HX:Kq (xq c st i p=⟨s1,G1,L1,st.T.set i {r with pc:=p.pc}⟩):=qh (by unfold xq;rw[<-hm];rfl);have HR:Kq ((cO c st i p).2.2.2.pc=r.pc):=qh (by rw[<-hm]);clear hI h C hp hT hm e1 e2 q1 q2 hc hlen;obtain⟨pc,u,b,z⟩:=p;obtain⟨pc',u',b',z'⟩:=r;simp only at u1 u2 u3 HQ HR;unfold aE at HS;have hfield:=aK;cases v1:(pc'==10)<;>cases v2:(pc'==0)
  all_goals
    go_enter Tryz.func237,Tryz.ntmps237;go_wp2_with fail;refine HS.o.mono ?_;rintro en w1 ⟨rfl,b1⟩;have K1:=qh (H.o.below b1.drew);have T1:=qh (aa.of_below (S:=CoS a g x) b1.drew);have hb1:=b1.size;clear b1;go_wp2_with fail
    go_region_held3 (λW=>W.cell? ⟨x.l,8,none⟩=some (.slice (some ⟨x.qs,0,none⟩) x.n x.n))
      (first|with_reducible exact HC.o _ _ K1.o|with_reducible exact HC.o _ _ K2.o|with_reducible exact HC.o _ _ K3.o)
      (first
        | (go_at_call 242;go_loud (refine(HI.o _ K1.o).mono ?_);rintro en w3 ⟨he,k3,t3⟩;rw[HR.o]at he;subst he;rw[HX.o]at k3;have K2:=qh k3;have T2:=qh (T1.o.trans t3);have K3:=qh (K2.o.put0 (p':=(⟨pc',u',b',z'⟩:Sp)) (au HT.o _) (u:= .int .i64 pc') rfl);have e1:=K2.o.sp.cell (au HT.o _) 0 _ rfl;have z1:=K2.o.sp.free (i*4);simp only[Nat.add_zero]at e1;clear k3 t3))
  all_goals have e4:=K3.o.sp.cell (au (au HT.o _) _) 0 _ rfl;have c8':=HC.o _ _ K3.o;simp only[Nat.add_zero]at e4;clear e1 z1;go_wp2;go_ret;refine⟨by rw[HQ.o,v1,v2];rfl,?_,T2.o.trans (sU _ _)⟩;have k:=K3.o;rw[show(({s:=s1,G:=G1,L:=L1,T:=(st.T.set i {(⟨pc',u',b',z'⟩:Sp)with pc:=pc}).set i ⟨pc',u',b',z'⟩}:Co))=jg st i (s1,G1,L1,⟨pc',u',b',z'⟩)from by unfold jg;simp]at k;exact k
theorem rI (h:aB B w a g x c P T st) (C:cX BB x c st) (i:Nat) (hi:i<x.n) (hc:10<(sv st.T i).pc):
    Calls Tryz.prog 237 #[↑x.l,.int .i64 i] w (me B w a g x c P T (ak c st i) (bf (sv st.T i) (sv (ak c st i).T i))):=by
  have hT:=h.thr hi;have hlen:i<st.T.length:=by rw[h.lS];exact hi
  have HS:=qh (lQ h i hi);have hn:=h.fx.n32;have hl1:=h.lk.lt;have hs2:=h.sp.lt;have t2:¬(i:Int)<0:=by omega
  obtain⟨p,hp⟩:∃p,p=sv st.T i:=⟨_,rfl⟩;have hI:=(λW (k:aB B W a g x c P T st)=>Ei k C i hi p hp.symm);rw[<-hp]at hc HS hT;have HI:=qh (λW (k:aB B W a g x c P T st)=>hI W k hc);obtain⟨m,hm⟩:∃m,m=cO c st i p:=⟨_,rfl⟩;have HM:=qh hm;have e1:ak c st i=jg st i m:=by unfold ak;rw[<-hp,if_neg QX,hm]
  rw[e1];have e2:sv (jg st i m).T i=m.2.2.2:=by show sv (st.T.set i m.2.2.2) i=_;rw[cD,if_pos ⟨rfl,hlen⟩]
  rw[e2,<-hp];have q1:¬p.pc=0:=by omega
  have q2:¬p.pc=10:=by omega
  have HQ:Kq (bf p m.2.2.2=((m.2.2.2.pc==10)||(m.2.2.2.pc==0))):=qh (by
    unfold bf;simp only[q1,q2,ne_eq,not_false_eq_true,and_true,Bool.decide_or]
    rfl)
  have u1:(p.pc==0)=false:=by simpa using q1
  have u2:(p.pc==10)=false:=by simpa using q2
  have u3:decide (p.pc<10)=false:=by simp;omega
  obtain⟨s1,G1,L1,r⟩:=m;simp only at HQ e1;have HC:=qh (λW st (k:aB B W a g x c P T st)=>CoN.spots k);have HT:=qh hT;have H:=qh h;have HX:Kq (xq c st i p=⟨s1,G1,L1,st.T.set i {r with pc:=p.pc}⟩):=qh (by unfold xq;rw[<-hm];rfl);have HR:Kq ((cO c st i p).2.2.2.pc=r.pc):=qh (by rw[<-hm]);clear hI h C hp hT hm e1 e2 q1 q2 hc hlen;obtain⟨pc,u,b,z⟩:=p;obtain⟨pc',u',b',z'⟩:=r;simp only at u1 u2 u3 HQ HR;unfold aE at HS;have hfield:=aK;cases v1:(pc'==10)<;>cases v2:(pc'==0)
  all_goals
    go_enter Tryz.func237,Tryz.ntmps237;go_wp2_with fail;refine HS.o.mono ?_;rintro en w1 ⟨rfl,b1⟩;have K1:=qh (H.o.below b1.drew);have T1:=qh (aa.of_below (S:=CoS a g x) b1.drew);have hb1:=b1.size;clear b1;go_wp2_with fail
    go_region_held3 (λW=>W.cell? ⟨x.l,8,none⟩=some (.slice (some ⟨x.qs,0,none⟩) x.n x.n))
      (first|with_reducible exact HC.o _ _ K1.o|with_reducible exact HC.o _ _ K2.o|with_reducible exact HC.o _ _ K3.o)
      (first
        | (go_at_call 243;go_loud (refine(HI.o _ K1.o).mono ?_);rintro en w3 ⟨he,k3,t3⟩;rw[HR.o]at he;subst he;rw[HX.o]at k3;have K2:=qh k3;have T2:=qh (T1.o.trans t3);have K3:=qh (K2.o.put0 (p':=(⟨pc',u',b',z'⟩:Sp)) (au HT.o _) (u:= .int .i64 pc') rfl);have e1:=K2.o.sp.cell (au HT.o _) 0 _ rfl;have z1:=K2.o.sp.free (i*4);simp only[Nat.add_zero]at e1;clear k3 t3))
  all_goals have e4:=K3.o.sp.cell (au (au HT.o _) _) 0 _ rfl;have c8':=HC.o _ _ K3.o;simp only[Nat.add_zero]at e4;clear e1 z1;go_wp2;go_ret;refine⟨by rw[HQ.o,v1,v2];rfl,?_,T2.o.trans (sU _ _)⟩;have k:=K3.o;rw[show(({s:=s1,G:=G1,L:=L1,T:=(st.T.set i {(⟨pc',u',b',z'⟩:Sp)with pc:=pc}).set i ⟨pc',u',b',z'⟩}:Co))=jg st i (s1,G1,L1,⟨pc',u',b',z'⟩)from by unfold jg;simp]at k;exact k
theorem lR (h:aB B w a g x c P T st) (C:cX BB x c st) (i:Nat) (hi:i<x.n):
    Calls Tryz.prog 237 #[↑x.l,.int .i64 i] w (me B w a g x c P T (ak c st i) (bf (sv st.T i) (sv (ak c st i).T i))):=by
  have hk:=C.v.k i hi;by_cases h0:(sv st.T i).pc=0\/(sv st.T i).pc=10;· exact zw h i hi h0
  by_cases h1:(sv st.T i).pc<10;· exact tP h C i hi (by unfold db at hk;omega)
  · exact rI h C i hi QX
theorem rt (h:aB B w a g x c P T st) (i:Nat) (hi:i<x.n):
    Calls Tryz.prog 233 #[↑x.l,.int .i64 i] w (me B w a g x c P T (bD c st i) (decide ((sv st.T i).pc=0))):=by
  obtain⟨y,v,S,hy,hv,hS,hs,hsp⟩:=h.loc hi;have hT:=h.thr hi;have e0:=h.sp.cell hT 0 _ rfl;simp only[Nat.add_zero]at e0;have hn:=h.fx.n32;have c8:=CoN.spots h;have hl1:=h.lk.lt;have hs2:=h.sp.lt;have t2:¬(i:Int)<0:=by omega
  have HH:=qh (DG h i hi);have HOF:=qh (n4 h i hi hy hv);have HNB:=qh (λw1 (b1:Below w.heap.size w w1)=>CoN.mk' h b1 y v);have HA:=qh (λW (k:aB B W a g x c P T st)=>Cg k i hi hy);have H:=qh h;obtain⟨st1,hst⟩:∃s,s=bD c st i:=⟨_,rfl⟩;rw[<-hst];unfold bD at hst;obtain⟨L1,hL1⟩:∃L,L=setL c st i (askK c.kl (lsp st.L (c.node i) (c.slot i))):=⟨_,rfl⟩;rw[<-hL1]at hst HA;obtain⟨p,hp⟩:∃p,p=sv st.T i:=⟨_,rfl⟩;rw[<-hp]at hst e0 hT ⊢;have HT:=qh hT;have HE:=qh hst;clear h hy hv hS hs hsp hp hL1 hst hT;obtain⟨pc,u,b,z⟩:=p;simp only at HE;by_cases hpc:pc=0;· subst hpc;go_enter Tryz.func233,Tryz.ntmps233;go_wp2_with fail;refine HH.o.mono ?_;rintro en w1 ⟨rfl,rfl⟩;go_wp2_with fail;refine HOF.o.mono ?_;rintro en w1 ⟨rfl,b1⟩;have N1:=qh (HNB.o w1 b1);have hb1:=b1.size;have k0:=N1.o.n0;clear b1;go_wp2_with fail;refine(HA.o _ N1.o.is).mono ?_;rintro en w2 ⟨⟨bb,rfl⟩,k2,t2'⟩;have N2:=qh (N1.o.to k2 t2');have c8':=CoN.spots N2.o.is;have e2:=N2.o.is.sp.cell HT.o 0 _ rfl;have z2:=N2.o.is.sp.free (i*4);simp only[Nat.add_zero]at e2;clear k2 t2' k0;have N3:=qh (N2.o.is.put0 (p':=(⟨1,u,b,z⟩:Sp)) HT.o (u:= .int .i64 1) rfl);have T3:=qh (N2.o.tn.trans (sU (a:=a) (g:=g) (x:=x) (w:=w2) (i*4) (.int .i64 1)));go_wp2;go_ret;refine⟨rfl,?_,T3.o⟩;rw[HE.o];exact N3.o
  · have u1:(pc !=0)=true:=(by simpa using hpc);have e9:decide (pc=0)=false:=(by simpa using hpc);show Calls _ _ _ _ (me B w a g x c P T st1 (decide (pc=0)));rw[e9];go_enter Tryz.func233,Tryz.ntmps233;go_wp2_with fail;refine HH.o.mono ?_;rintro en w1 ⟨rfl,rfl⟩;go_wp2;go_ret;refine⟨rfl,?_,aa.refl _ _⟩;rw[HE.o,if_neg hpc];exact H.o
theorem kJ (h:aB B w a g x c P T st) (i:Nat) (hi:i<x.n):
    Calls Tryz.prog 235 #[↑x.l,.int .i64 i] w (me B w a g x c P T (ay st i) (decide ((sv st.T i).pc=10))):=by
  have hT:=h.thr hi;have hn:=h.fx.n32;have t2:¬(i:Int)<0:=by omega
  have HS:=qh (lQ h i hi);have H:=qh h;obtain⟨st1,hst⟩:∃s,s=ay st i:=⟨_,rfl⟩;rw[<-hst];unfold ay at hst;obtain⟨p,hp⟩:∃p,p=sv st.T i:=⟨_,rfl⟩;rw[<-hp]at hst hT HS ⊢;have HT:=qh hT;have HE:=qh hst;clear h hp hst hT;obtain⟨pc,u,b,z⟩:=p;simp only at HE;unfold aE at HS;have hfield:=aK;by_cases hpc:pc=10;· subst hpc;go_enter Tryz.func235,Tryz.ntmps235;go_wp2_with fail;refine HS.o.mono ?_;rintro en w1 ⟨rfl,b1⟩;have K1:=qh (H.o.below b1);have T1:=qh (aa.of_below (S:=CoS a g x) b1);have c8':=CoN.spots K1.o;have e2:=K1.o.sp.cell HT.o 0 _ rfl;have z2:=K1.o.sp.free (i*4);simp only[Nat.add_zero]at e2;clear b1;have N3:=qh (K1.o.put0 (p':=(⟨11,u,b,z⟩:Sp)) HT.o (u:= .int .i64 11) rfl);have T3:=qh (T1.o.trans (sU (a:=a) (g:=g) (x:=x) (w:=w1) (i*4) (.int .i64 11)));go_wp2;go_ret;refine⟨rfl,?_,T3.o⟩;rw[HE.o];exact N3.o
  · have u1:(pc !=10)=true:=(by simpa using hpc);have e9:decide (pc=10)=false:=(by simpa using hpc);show Calls _ _ _ _ (me B w a g x c P T st1 (decide (pc=10)));rw[e9];go_enter Tryz.func235,Tryz.ntmps235;go_wp2_with fail;refine HS.o.mono ?_;rintro en w1 ⟨rfl,b1⟩;have HB:=qh b1;clear b1;go_wp2;go_ret;refine⟨rfl,?_,aa.of_below HB.o⟩;rw[HE.o,if_neg hpc];exact H.o.below HB.o
end
end
section
open Go.RowKit
def mtQ (P T:List Int)(n:Nat):Nat:=max 1 (T.count ((ab P).getD n 0))
def aH (kl par:Nat)(f:Nat->Nat)(s:Ar):Nat->Ar
 |0=>s
 |k+1=>bi (aD kl (aH kl par f s k) (f k) par) 1
def cwN (kl par:Nat)(f:Nat->Nat)(s:Ar)(n:Nat):Nat:=(aD kl (aH kl par f s n) (f n) par).W.length+1
def ic (kl:Nat)(f:Nat->Nat)(N:Nat):List (List Sp):=(List.range N).map λn=>a7 kl (f n)
theorem oH (s:Ar)(x v:Int):(ac s x v).W.length=s.W.length:=by rw[aw,bE]
theorem mp (s:Ar)(x v:Int):(ac s x v).room=s.room:=by unfold ac wrA fj;split<;>rfl
theorem ee (s:Ar)(n:Nat):(bi s n).W.length=s.W.length+n:=by unfold bi;simp
theorem a6 (k:Nat)(s:Ar)(n m:Nat):(aD k s n m).W.length=s.W.length+szK k n m:=by
 unfold aD;split;·rw[oH,ee]
 split;·rw[oH,ee]
 ·rw[ee]
theorem kx (k:Nat)(s:Ar)(n m:Nat):(aD k s n m).room=s.room:=by
 unfold aD;split;·rw[mp];rfl
 split;·rw[mp];rfl
 ·rfl
theorem jJ{k n m:Nat}(hn:n<=32)(hm:m<=4):szK k n m<=65:=by exact Jl
theorem gN (k n:Nat):(a7 k n).length=n:=by unfold a7;split<;>simp
theorem oe (s:Ar)(x v:Int):(ac s x v).ops<=s.ops+1:=gS _ _ _
theorem j3 (k:Nat)(s:Ar)(n m:Nat):(aD k s n m).ops<=s.ops+1:=by
 unfold aD;split;·exact oe _ _ _
 split;·exact oe _ _ _
 ·show s.ops<=_;omega
theorem n5 (kl par:Nat)(f:Nat->Nat)(s:Ar)(k:Nat):(aH kl par f s k).ops<=s.ops+k:=by
 induction k with
 |zero=>exact Nat.le_refl _
 |succ k ih=>have:=j3 kl (aH kl par f s k) (f k) par;show(aD _ _ _ _).ops<=_;omega
section
variable{kl par:Nat}{f:Nat->Nat}{s:Ar}
theorem rD (k:Nat):(aH kl par f s k).room=s.room:=by
 induction k with
 |zero=>rfl
 |succ k ih=>show(aD _ _ _ _).room=_;rw[kx,ih]
theorem nh (hf:∀n,f n<=32)(hp:par<=4)(k:Nat):(aH kl par f s k).W.length<=s.W.length+66*k:=by
 induction k with
 |zero=>exact Nat.le_refl _
 |succ k ih=>show(bi (aD _ _ _ _) 1).W.length<=_;rw[ee,a6];have:=jJ (k:=kl) (hf k) hp;omega
theorem nX{P T:List Int}(hT:T.length<=32)(n:Nat):1<=mtQ P T n/\mtQ P T n<=32:=by have:T.count ((ab P).getD n 0)<=T.length:=List.count_le_length;unfold mtQ;omega
end
def eV (kg kl par:Nat)(bud:Int)(P T:List Int)(s:Ar):CoC:=
 ⟨kg,kl,(s.W.length+1:Nat),(par:Int),bud,fY P T,λi=>(cr T i).toNat,λn=>((aH kl par (mtQ P T) (aD kg s (ab P).length par) n).W.length+1:Nat),λn=>(cwN kl par (mtQ P T) (aD kg s (ab P).length par) n:Nat)⟩
def bz (kg kl par:Nat)(P T:List Int)(s:Ar):Co:=
 ⟨aH kl par (mtQ P T) (aD kg s (ab P).length par) (ab P).length,a7 kg (ab P).length,ic kl (mtQ P T) (ab P).length,List.replicate T.length Sp.zero⟩
theorem tF{w:World}{i j:Nat}{t u:TypeId}{cs ds:Array Value}(h:Blk w i t cs)(k:Blk w j u ds)(hn:t≠u):i≠j:=by rintro rfl;have e:=h.symm.trans k;simp only[Option.some.injEq,Obj.cells.injEq]at e;exact hn e.2.1
def BP (t:TypeId):Prop:=t=240\/t=243
theorem EJ (k:Nat){t:TypeId}(h:BP t):t≠lkT k:=by unfold lkT;rcases h with rfl|rfl<;>split<;>decide
theorem di.away{w:World}{a g k:Nat}{x:Fx}{s:Ar}{S:List Sp}(h:di w a g k x s S){i:Nat}{t:TypeId}{cs:Array Value}(hb:Blk w i t cs)(ht:BP t):i≠x.p/\i≠x.l/\i≠x.q:=by
 obtain⟨Z,z⟩:=h.ki.sp;refine⟨tF hb h.p ?_,tF hb h.ki.lk (EJ k ht),tF hb z ?_⟩;·rcases ht with rfl|rfl<;>decide
 ·rcases ht with rfl|rfl<;>decide
structure NwQ (w:World)(a g lo:Nat)(o0:Nat->Nat)(kg kl par N:Nat)(f:Nat->Nat)(s7:Ar)(xg:Fx)(k:Nat)(X:List Fx)(V:List Nat)(o:Nat->Nat):Prop where
 ar:aA w a g (aH kl par f s7 k)
 gl:di w a g kg xg (aH kl par f s7 k) (a7 kg N)
 ls:∀(n:Nat) (y:Fx),X[n]? =some y->di w a g kl y (aH kl par f s7 k) (a7 kl (f n))/\y.t=(aH kl par f s7 n).W.length+1/\y.m=par/\(o y.p=5+n/\o y.l=5+n/\o y.q=5+n)/\lo<=y.p/\lo<=y.l/\lo<=y.q
 v:∀n v,V[n]? =some v->v=cwN kl par f s7 n
 lX:X.length=k
 lV:V.length=k
 oo:∀i,i<lo->o i=o0 i
section
variable{w1 w2 w3 w4:World}{a g lo:Nat}{o0 o:Nat->Nat}{kg kl par N:Nat}{f:Nat->Nat}{s7:Ar}{xg:Fx}{k:Nat}{X:List Fx}{V:List Nat}
theorem di.beside{k:Nat}{x:Fx}{s s':Ar}{S:List Sp}(h:di w1 a g k x s S)(t2:aa [a,g] w1 w3)(hA:aA w3 a g s'){q:List Nat}(t3:aa q w3 w4)(ha:a∉q)(hg:g∉q)(hq:∀i∈q,∃t cs,Blk w3 i t cs/\BP t):di w4 a g k x s' S:=by have h2:di w3 a g k x s' S:=h.oth t2 hA (by simp[h.pa,h.pg]) (by simp[h.ki.la,h.ki.lg]) (by simp[h.ki.qa,h.ki.qg]);refine h2.turns t3 ?_ ?_ ha hg ?_;all_goals intro hm;obtain⟨t,cs,hb,ht⟩:=hq _ hm;have:=h2.away hb ht;omega
theorem NwQ.step (h:NwQ w1 a g lo o0 kg kl par N f s7 xg k X V o) (hlo:lo<=w1.heap.size) {y:Fx} (hy:di w2 a g kl y (aD kl (aH kl par f s7 k) (f k) par) (a7 kl (f k)))
    (t1:aa [a,g] w1 w2) (hf:w1.heap.size<=y.p/\w1.heap.size<=y.l/\w1.heap.size<=y.q) (ht:y.t=(aH kl par f s7 k).W.length+1) (hm:y.m=par)
    (t2:aa [a] w2 w3) (hA:aA w3 a g (bi (aD kl (aH kl par f s7 k) (f k) par) 1)) {q:List Nat} (t3:aa q w3 w4) (ha:a∉q) (hg:g∉q) (hq:∀i∈q,∃t cs,Blk w3 i t cs/\BP t):
    NwQ w4 a g lo o0 kg kl par N f s7 xg (k+1) (X++[y]) (V++[cwN kl par f s7 k]) (λi=>if w1.heap.size<=i then 5+k else o i):=by
  have t2':aa [a,g] w2 w3:=t2.mono QY;have t12:=t1.trans t2';refine⟨hA.turns t3 ha hg,h.gl.beside t12 hA t3 ha hg hq,?_,?_,by simp[h.lX],by simp[h.lV],λi hi=>by rw[if_neg QX];exact h.oo i hi⟩
  · intro n z hz;by_cases hn:n<k;· rw[List.getElem?_append_left (by rw[h.lX];exact hn)]at hz;obtain⟨e1,e2,e3,e4,e5⟩:=h.ls n z hz;have l1:=e1.p.lt;have l2:=e1.ki.lk.lt;have l3:=e1.ki.sp.lt;exact⟨e1.beside t12 hA t3 ha hg hq,e2,e3,⟨by rw[if_neg QX];exact e4.1,by rw[if_neg QX];exact e4.2.1,by rw[if_neg QX];exact e4.2.2⟩,e5⟩
    · have hlt:=(List.getElem?_eq_some_iff.1 hz).1;simp only[List.length_append,List.length_cons,List.length_nil,h.lX]at hlt;obtain rfl:n=k:=by omega
      rw[List.getElem?_append_right (by rw[h.lX];omega),h.lX]at hz;simp only[Nat.sub_self,List.getElem?_cons_zero,Option.some.injEq]at hz;subst hz;exact⟨hy.beside t2' hA t3 ha hg hq,ht,hm,⟨by rw[if_pos hf.1],by rw[if_pos hf.2.1],by rw[if_pos hf.2.2]⟩,by omega,by omega,by omega⟩
  · intro n v hv;by_cases hn:n<k;· rw[List.getElem?_append_left (by rw[h.lV];exact hn)]at hv;exact h.v n v hv
    · have hlt:=(List.getElem?_eq_some_iff.1 hv).1;simp only[List.length_append,List.length_cons,List.length_nil,h.lV]at hlt;obtain rfl:n=k:=by omega
      rw[List.getElem?_append_right (by rw[h.lV];omega),h.lV]at hv;simp only[Nat.sub_self,List.getElem?_cons_zero,Option.some.injEq]at hv;exact hv.symm
theorem NwQ.start (hA:aA w1 a g s7)(hgl:di w1 a g kg xg s7 (a7 kg N)):NwQ w1 a g lo o0 kg kl par N f s7 xg 0 [] [] o0:=
 ⟨hA,hgl,by intro n y hy;simp at hy,by intro n v hv;simp at hv,rfl,rfl,λ_ _=>rfl⟩
end
theorem BO (X:List Fx)(V:List Nat)(y:Fx)(v:Nat)(h:X.length=V.length):((X++[y]).zip (V++[v])).flatMap ndE=(X.zip V).flatMap ndE++[.pointer (some ⟨y.p,0,none⟩),.int .i64 v]:=by rw[List.zip_append h];simp[List.flatMap_append,ndE]
theorem eD{P T:List Int}(hc:a5 P T=0){i:Nat}(hi:i<T.length):fY P T i<(ab P).length/\(ab P).getD (fY P T i) 0=T.getD i 0/\0<=cr T i/\(cr T i).toNat<mtQ P T (fY P T i):=by
 obtain⟨y,hy⟩:=aj hi;have hm:=jc (aR hc).2.2.2 hy;obtain⟨k,hk⟩:=Int.eq_ofNat_of_zero_le ((eI (ab P) y).1.2 hm);have hg:=mI hm hk;have e:fY P T i=k:=by unfold fY;rw[ba hy,hk];rfl
 rw[e,ba hg,ba hy];refine⟨(List.getElem?_eq_some_iff.1 hg).1,rfl,by unfold cr;omega,?_⟩;unfold cr mtQ;rw[ba hy,ba hg,Int.toNat_natCast];have e2:T=T.take i++T.drop i:=(List.take_append_drop i T).symm;have e3:T.drop i=y :: T.drop (i+1):=by rw[List.drop_eq_getElem_cons hi];congr 1;have:=List.getElem?_eq_getElem hi;rw[hy]at this;injection this with this;exact this.symm
 have:T.count y=(T.take i).count y+1+(T.drop (i+1)).count y:=by
  conv=>lhs;rw[e2,List.count_append,e3,List.count_cons_self]
  omega
 omega
theorem Ch {B:Nat->Prop} {w:World} {a g l b qs lo:Nat} {o0 o:Nat->Nat} {kg kl par:Nat} {bud:Int} {P T:List Int} {s:Ar} {xg:Fx} {X:List Fx} {V:List Nat} {v:Value}
    (h:NwQ w a g lo o0 kg kl par (ab P).length (mtQ P T) (aD kg s (ab P).length par) xg (ab P).length X V o)
    (hc:a5 P T=0) (hkg:KOk kg) (hkl:KOk kl) (hp:1<=par/\par<=4) (hb:0<=bud/\bud<=1000) (hN:1<=(ab P).length)
    (hl:Blk w l 240 (coC a b (kg:Int) (kl:Int) par bud ↑xg.p v (.slice (some ⟨qs,0,none⟩) T.length T.length)))
    (hv:w.ownsRow lo 243 2 v (ab P).length ((X.zip V).flatMap ndE)) (htab:d7 B w b P T) (hsp:SpR w qs (List.replicate T.length Sp.zero))
    (ht:xg.t=s.W.length+1) (hm:xg.m=par) (hlen:s.W.length<=100)
    (o1:o0 l=1) (o2:o0 qs=2) (o3:o0 a=3/\o0 g=3) (o4:o0 xg.p=4/\o0 xg.l=4/\o0 xg.q=4) (oB:∀i,B i->o0 i=0)
    (ll:l<lo) (lq:qs<lo) (la:a<lo) (lg:g<lo) (lG:xg.p<lo/\xg.l<lo/\xg.q<lo) (lB:∀i,B i->i<lo):
    ∃x:Cox,x.l=l/\x.qs=qs/\x.g=xg/\x.X=X/\lo<=x.qn/\aB B w a g x (eV kg kl par bud P T s) P T (bz kg kl par P T s):=by
  obtain⟨qn,cap,rfl,hcap,hq,Z,hZ⟩:=sI hv hN;have hml:=bh (aR hc).1;have hT32:T.length<=32:=hml.2.2.2;have hN32:(ab P).length<=32:=by exact IK
  have hbn:∀i,i<lo->(if i=qn then 1 else o i)=o0 i:=λi hi=>by rw[if_neg QX];exact h.oo i hi
  refine⟨⟨l,b,qn,qs,T.length,(ab P).length,cap,par,xg,X,V,λi=>if i=qn then 1 else o i⟩,rfl,rfl,rfl,rfl,hq,?_⟩;refine {fx:=?_,ar:=h.ar,lk:=hl,tb:=htab,nd:=⟨Z,hZ⟩,sp:=hsp,gl:=h.gl,lo:=?_,lL:=?_,lG:=gN _ _,lS:=by simp[bz],sl:=?_}
  · refine {ck:=hc,nT:=rfl,nN:=rfl,lX:=h.lX,lW:=h.lV,cap:=hcap,cn:=?_,tg:=?_,tl:=?_,gm:=by show(xg.m:Int)=(par:Int);rw[hm],pm:=rfl,cc:=?_,kg:=hkg,kl:=hkl,bud:=hb,par:=hp,ol:=?_,on:=by simp,os:=?_,oa:=?_,og:=?_,oG:=?_,oL:=?_,oB:=?_};· intro i hi;refine⟨rfl,?_⟩;have:=(eD hc hi).2.2.1;show(((cr T i).toNat:Nat):Int)=_;omega
    · show((s.W.length+1:Nat):Int)=_;rw[ht]
    · intro n y hy;obtain⟨_,e2,e3,_⟩:=h.ls n y hy;refine⟨?_,by show(y.m:Int)=(par:Int);rw[e3]⟩;show(((aH _ _ _ _ n).W.length+1:Nat):Int)=_;rw[e2]
    · intro n v hv;have hn:n<(ab P).length:=(by have:=(List.getElem?_eq_some_iff.1 hv).1;rw[h.lV]at this;exact this);have e:=h.v n v hv;refine⟨by show((cwN _ _ _ _ n:Nat):Int)=_;rw[e],?_⟩;rw[e];unfold cwN;rw[a6];have h1:=nh (kl:=kl) (par:=par) (f:=mtQ P T) (s:=aD kg s (ab P).length par) (λn=>(nX hT32 n).2) hp.2 n;rw[a6]at h1;have h2:=jJ (k:=kg) hN32 hp.2;have h3:=jJ (k:=kl) (nX (P:=P) hT32 n).2 hp.2;omega
    · show(if _ then 1 else _)=1;rw[hbn _ ll,o1]
    · show(if _ then 1 else _)=2;rw[hbn _ lq,o2]
    · show(if _ then 1 else _)=3;rw[hbn _ la,o3.1]
    · show(if _ then 1 else _)=3;rw[hbn _ lg,o3.2]
    · refine⟨?_,?_,?_⟩;· show(if _ then 1 else _)=4;rw[hbn _ lG.1,o4.1]
      · show(if _ then 1 else _)=4;rw[hbn _ lG.2.1,o4.2.1]
      · show(if _ then 1 else _)=4;rw[hbn _ lG.2.2,o4.2.2]
    · intro n y hy;obtain⟨e1,_,_,e4,_⟩:=h.ls n y hy;have:=e1.away hZ (.inr rfl);refine⟨?_,?_,?_⟩;· show(if _ then 1 else _)=_;rw[if_neg QX];exact e4.1
      · show(if _ then 1 else _)=_;rw[if_neg QX];exact e4.2.1
      · show(if _ then 1 else _)=_;rw[if_neg QX];exact e4.2.2
    · intro i hi;show(if _ then 1 else _)=0;rw[hbn _ (lB i hi),oB i hi]
  · intro n y S hy hS;have e:=(h.ls n y hy).1;have hn:n<(ab P).length:=(by have:=(List.getElem?_eq_some_iff.1 hy).1;rw[h.lX]at this;exact this);have:S=a7 kl (mtQ P T n):=(by simp only[bz,ic,List.getElem?_map,List.getElem?_range hn,Option.map_some,Option.some.injEq]at hS;exact hS.symm);rw[this];exact e
  · show(ic _ _ _).length=_;simp[ic]
  · intro i S hi hS;obtain⟨h1,_,h3,h4⟩:=eD hc (show i<T.length from hi);have:S=a7 kl (mtQ P T (fY P T i)):=(by have hS':(ic kl (mtQ P T) (ab P).length)[fY P T i]? =some S:=hS;simp only[ic,List.getElem?_map,List.getElem?_range h1,Option.map_some,Option.some.injEq]at hS';exact hS'.symm);rw[this,gN];exact h4
end
section
open Go.RowKit
def eK (x:Cox)(B:Nat->Prop)(i:Nat):Prop:=i=x.l\/i=x.qn\/i=x.qs\/(i=x.g.p\/i=x.g.l\/i=x.g.q)\/(∃y∈x.X,i=y.p\/i=y.l\/i=y.q)\/B i
def Fq (w:World)(a g:Nat)(s:Ar)(kg kl par:Nat)(bud:Int)(P T:List Int)(e:Ending)(w':World):Prop:=
 ∃(x:Cox) (B:Nat->Prop),e= .returned (.tuple #[↑x.l,.int .i64 0])/\aB B w' a g x (eV kg kl par bud P T s) P T (bz kg kl par P T s)/\(∀i,eK x B i->w.heap.size<=i/\i<w'.heap.size)/\aa [a,g] w w'
theorem Ie{l l':Nat}(h:l'=l):Ending.returned (.tuple #[↑l,.int .i64 0])= .returned (.tuple #[↑l',.int .i64 0]):=by rw[h]
theorem nt {w:World} {a g:Nat} {s:Ar} (h:aA w a g s) (vP vT:Value) (P T:List Int) (hP:RdL w vP 1 encI P) (hT:RdL w vT 1 encI T) (hc:a5 P T=0) (kg kl:Nat) (hkg:KOk kg) (hkl:KOk kl) (par:Nat) (hp:1<=par/\par<=4) (bud:Int) (hb:0<=bud/\bud<=1000) (hr:s.W.length+2500<=s.room) (hs100:s.W.length<=100) (ho:s.ops+100<=1000000000000):
    Calls Tryz.prog 103 #[↑a,.agg #[vP,vT],.agg #[.int .i64 (kg:Int),.int .i64 (kl:Int),.int .i64 par,.int .i64 bud]] w (Fq w a g s kg kl par bud P T):=by
  obtain⟨i0,hi,hz0,hz1,hz2⟩:=info_parts Tryz.infoSpF;obtain⟨j0,hj,hy0,hy1,hy2⟩:=info_parts Tryz.infoNd;have HJ:=qh (And.intro hj (And.intro hy0 (And.intro hy1 hy2)));clear hj hy0 hy1 hy2;have hml:=bh (aR hc).1;have ha0:=h.blk.lt;have hg0:=h.wds.lt;obtain⟨hT1,hT32⟩:1<=T.length/\T.length<=32:=⟨hml.2.2.1,hml.2.2.2⟩;have hN32:(ab P).length<=32:=by exact IK
  have hN1:1<=(ab P).length:=by exact Jm
  have HPD:=qh (And.intro hkg (And.intro hkl (And.intro hp hb)));have H:=qh (And.intro h (And.intro ha0 hg0));have HN:=qh (jw ((w.alloc (.cells #[vP,vT] 24)).alloc (.cells #[.int .i64 (kg:Int),.int .i64 (kl:Int),.int .i64 par,.int .i64 bud] 36)) vP vT P T ((hP.alloc _).alloc _) ((hT.alloc _).alloc _) hc);have HCK:=qh hc;have HS:=qh (And.intro hr (And.intro hs100 ho));have HR:=qh (λW=>ot bud W hb.1 QX);have hlo:((w.alloc (.cells #[vP,vT] 24)).alloc (.cells #[.int .i64 (kg:Int),.int .i64 (kl:Int),.int .i64 par,.int .i64 bud] 36)).heap.size=w.heap.size+2:=by simp
  have B0:=qh (((Below.refl w.heap.size w).alloc (Nat.le_refl _) (.cells #[vP,vT] 24)).alloc QY (.cells #[.int .i64 (kg:Int),.int .i64 (kl:Int),.int .i64 par,.int .i64 bud] 36));have hbx:=Blk.new (w.alloc (.cells #[vP,vT] 24)) 36 #[.int .i64 (kg:Int),.int .i64 (kl:Int),.int .i64 par,.int .i64 bud];rw[show(w.alloc (.cells #[vP,vT] 24)).heap.size=w.heap.size+1 by simp]at hbx;have BX:=qh hbx;clear h hP hT hr hs100 ho hml ha0 hg0 hc hbx hkg hkl hp hb;go_enter Tryz.func103,Tryz.ntmps103;go_wp2_with fail;refine HN.o.mono ?_;rintro en w1 ⟨b,rfl,hb,t1,b1⟩;rw[hlo]at hb t1 b1;have K1:=qh (And.intro (t1.q HCK.o) (And.intro (B0.o.trans (b1.mono QX)) (And.intro (aa.blk (S:=[]) ⟨b1.os,b1.tape,b1.output,b1.size,λi hi _=>b1.block i QX⟩ BX.o QY) hb)));clear t1 b1 hb HN BX B0;have p3:w1.cell? ⟨w.heap.size+1,3,none⟩=some (.int .i64 bud):=K1.o.2.2.1.cell 3;go_wp2_with fail;refine(HR.o _).mono ?_;rintro en w1' ⟨rfl,rfl⟩;have p0:w1.cell? ⟨w.heap.size+1,0,none⟩=some (.int .i64 (kg:Int)):=K1.o.2.2.1.cell 0;have p1:w1.cell? ⟨w.heap.size+1,1,none⟩=some (.int .i64 (kl:Int)):=K1.o.2.2.1.cell 1;have p2:w1.cell? ⟨w.heap.size+1,2,none⟩=some (.int .i64 par):=K1.o.2.2.1.cell 2;have hpl:w.heap.size+1<w1.heap.size:=K1.o.2.2.1.lt;have HTh:=qh (dW w1.drew b P T ((K1.o.1.turns ((aa.refl (S:=[]) _).drew) QY).tab HCK.o));obtain⟨w4,hrun,hown,hg⟩:=run_makeSlice_full (P:=Tryz.prog) w1.drew w1.heap.size 237 113 i0 (.agg #[.int .i64 0,.int .i64 0,.int .i64 0,.int .i64 0]) 4 Tryz.underlying237 hi hz0 hz1 .i64 .i64 T.length QX (by rw[hz2];omega) (by unfold maxLen;omega) (Nat.le_refl _);have H4:=qh (show aa [] w1 w4 from((aa.refl _ _).drew).trans (aa.of_below ((Below.refl _ _).grown hg (Nat.le_refl _) (λj hj=>by cases hj))));have HSp:=qh (jD hown);have q0:=H4.o.cellQ p0 QY;have q1:=H4.o.cellQ p1 QY;have q2:=H4.o.cellQ p2 QY;have q3:=H4.o.cellQ p3 QY;have hw14:w1.heap.size<=w4.heap.size:=H4.o.size;clear hown hg;go_wp2_with fail
  have HQA:=qh (λo:Obj=>show(w4.alloc o).cell? ⟨w.heap.size+1,0,none⟩=some (.int .i64 (kg:Int))/\(w4.alloc o).cell? ⟨w.heap.size+1,1,none⟩=some (.int .i64 (kl:Int))/\(w4.alloc o).cell? ⟨w.heap.size+1,2,none⟩=some (.int .i64 par)/\(w4.alloc o).cell? ⟨w.heap.size+1,3,none⟩=some (.int .i64 bud)from by
    have t:aa [] w4 (w4.alloc o):=(aa.refl _ _).alloc o
    exact⟨t.cellQ q0 QY,t.cellQ q1 QY,t.cellQ q2 QY,t.cellQ q3 QY⟩)
  go_region_held3 (λW=>W.cell? ⟨w.heap.size+1,0,none⟩=some (.int .i64 (kg:Int))/\W.cell? ⟨w.heap.size+1,1,none⟩=some (.int .i64 (kl:Int))/\W.cell? ⟨w.heap.size+1,2,none⟩=some (.int .i64 par)/\W.cell? ⟨w.heap.size+1,3,none⟩=some (.int .i64 bud))
    (first|exact⟨p0,p1,p2,p3⟩|exact⟨q0,q1,q2,q3⟩|exact HQA.o _)
    (first|(go_at_call 136;go_loud (refine HTh.o.mono ?_);rintro en w3 ⟨rfl,rfl⟩))
  obtain⟨l,hl⟩:∃l,l=w4.heap.size:=⟨_,rfl⟩;obtain⟨w5,hw5⟩:∃W,W=w4.alloc (.cells (coC a b (kg:Int) (kl:Int) par bud (.pointer none) (.slice none 0 0) (.slice (some ⟨w1.heap.size,0,none⟩) T.length T.length)) 240):=⟨_,rfl⟩;have hw5':=hw5;unfold coC at hw5';rw[<-hw5',<-hl];have HB5:=qh (show Blk w5 l 240 (coC a b (kg:Int) (kl:Int) par bud (.pointer none) (.slice none 0 0) (.slice (some ⟨w1.heap.size,0,none⟩) T.length T.length))from by rw[hw5,hl];exact Blk.new _ _ _);have H5:=qh (show aa [] w1 w5 from by rw[hw5];exact H4.o.alloc _);have HSp5:=qh (show SpR w5 w1.heap.size (List.replicate T.length Sp.zero)from by rw[hw5];exact HSp.o.turns ((aa.refl [] _).alloc _) QY);have hqs:=HSp.o.lt;have HQS:=qh (show w1.heap.size<w4.heap.size from hqs);clear hqs
  have HO:=qh (show a<w.heap.size/\g<w.heap.size/\w.heap.size+2<=b/\b<w1.heap.size/\w1.heap.size<l/\w5.heap.size=l+1 from by
    have e1:b<w1.heap.size:=K1.o.1.low.2;have e2:=K1.o.2.2.2;have e4:=H.o;have e5:=HQS.o;rw[hw5,hl];simp
    omega)
  have HPC:Kq (∀W,aa [l,b,a,g] w5 W->W.cell? ⟨w.heap.size+1,0,none⟩=some (.int .i64 (kg:Int))/\W.cell? ⟨w.heap.size+1,1,none⟩=some (.int .i64 (kl:Int))/\W.cell? ⟨w.heap.size+1,2,none⟩=some (.int .i64 par)/\W.cell? ⟨w.heap.size+1,3,none⟩=some (.int .i64 bud)):=qh λW hW=>by have o:=HO.o;have t:aa [l,b,a,g] w1 W:=(H5.o.mono QY).trans hW;have n:w.heap.size+1∉[l,b,a,g]:=(by simp;omega);exact⟨t.cellQ p0 n,t.cellQ p1 n,t.cellQ p2 n,t.cellQ p3 n⟩
  obtain⟨N,hN⟩:∃N,N=(ab P).length:=⟨_,rfl⟩;rw[<-hN]at hN32 hN1;have HNo0:=pK (λi=>w.heap.size+2<=i/\i<w1.heap.size) w5.drew b P T HCK.o ((K1.o.1.turns H5.o QY).turns ((aa.refl (S:=[]) _).drew) QY);rw[<-hN]at HNo0;have HNo:=qh HNo0;have HNN:=qh hN;have HA5:=qh ((H.o.1.turns (aa.of_below (S:=[]) K1.o.2.1) QY QY).turns H5.o QY QY);have HFl:=qh (λW (hA:aA W a g s)=>zS hA kg HPD.o.1 N hN1 hN32 par HPD.o.2.2.1.1 HPD.o.2.2.1.2 (by have:=HS.o;have:=jJ (k:=kg) hN32 HPD.o.2.2.1.2;omega) (by have:=HS.o;omega));have k50:=HPC.o w5 (aa.refl _ _);have hl5:l<w5.heap.size:=HB5.o.lt;clear hw5 hw5' hl hN HNo0 p0 p1 p2 p3 q0 q1 q2 q3 hrun HQA HTh H4 hw14;go_wp2_with fail
  go_region_held3 (λW=>W.cell? ⟨w.heap.size+1,0,none⟩=some (.int .i64 (kg:Int))/\W.cell? ⟨w.heap.size+1,1,none⟩=some (.int .i64 (kl:Int))/\W.cell? ⟨w.heap.size+1,2,none⟩=some (.int .i64 par)/\W.cell? ⟨w.heap.size+1,3,none⟩=some (.int .i64 bud))
    (first|exact k50|exact HPC.o _ T6.o|exact HPC.o _ T7.o|exact HPC.o _ T8.o)
    (first
      | (go_at_call 137;go_loud (refine HNo.o.mono ?_);rintro en w6 ⟨rfl,t6,n6⟩;have T6:=qh (show aa [l,b,a,g] w5 w6 from((aa.refl _ _).drew).trans (n6.mono QY));have Q6:=qh t6.lt;have A6:=qh (HA5.o.turns (show aa [b] w5 w6 from((aa.refl _ _).drew).trans n6) Ra Ra);have B6:=qh (show Blk w6 l _ _ from(show aa [b] w5 w6 from((aa.refl _ _).drew).trans n6).blk HB5.o Ra);clear t6 n6)
      | (go_at_call 109;go_loud (refine(HFl.o w6 A6.o).mono ?_);rintro en w7 ⟨xg,rfl,e1,e2,e5⟩;have T7:=qh (T6.o.trans (e5.mono QY));have B7:=qh (e5.blk B6.o Ra);have c6:w7.cell? ⟨l,6,none⟩=some (.pointer none):=B7.o.cell 6;have z6:=B7.o.free 6;have T8:=qh (T7.o.trans ((aa.refl [l,b,a,g] w7).setCell (p:=⟨l,6,none⟩) (.inl QY) ↑xg.p));have H7:=qh (And.intro e1 (And.intro e2 e5));clear e1 e2 e5))
  obtain⟨w8,hw8⟩:∃W,W=w7.setCell ⟨l,6,none⟩ ↑xg.p:=⟨_,rfl⟩;rw[<-hw8]at T8 ⊢;have t78:aa [l] w7 w8:=by rw[hw8];exact(aa.refl _ _).setCell (.inl QY) _
  have HB8:=qh (show Blk w8 l 240 (coC a b (kg:Int) (kl:Int) par bud ↑xg.p (.slice none 0 0) (.slice (some ⟨w1.heap.size,0,none⟩) T.length T.length))from by rw[hw8];exact B7.o.set_ 6 _);have HG8:=qh (H7.o.1.turns t78 (by have:=HO.o;have:=H7.o.2.1;have:=Q6.o;have:=T6.o.size;simp;omega) Si Ra Ra Si);have HX8:=qh (show w6.heap.size<=xg.p/\w6.heap.size<=xg.l/\w6.heap.size<=xg.q/\xg.m=par/\xg.t=s.W.length+1/\w5.heap.size<=w6.heap.size from⟨H7.o.2.1.1,H7.o.2.1.2.1,H7.o.2.1.2.2.1,H7.o.2.1.2.2.2.2.1,H7.o.2.1.2.2.2.2.2,T6.o.size⟩);have HA8:=qh HG8.o.ki.ar
  have HQ8:=qh (show d7 (λi=>((w.heap.size+2<=i/\i<w1.heap.size)\/w5.drew.heap.size<=i)/\i<w6.heap.size) w8 b P T from by
    have o:=HO.o;refine(Q6.o.turns H7.o.2.2 (λi hi hB=>?_)).turns t78 (λi hi hB=>?_);· have e:w5.drew.heap.size=w5.heap.size:=rfl;simp at hi;omega
    · have e:w5.drew.heap.size=w5.heap.size:=rfl;simp at hi
      omega)
  have hs8:w5.heap.size<=w8.heap.size:=T8.o.size;have hl8:l<w8.heap.size:=by omega
  obtain⟨o0,ho0⟩:∃o:Nat->Nat,o=λi=>if i=l then 1 else if i=w1.heap.size then 2 else if i=a\/i=g then 3 else if w6.heap.size<=i then 4 else 0:=⟨_,rfl⟩
  have HO0:=qh (show o0 l=1/\o0 w1.heap.size=2/\(o0 a=3/\o0 g=3)/\(o0 xg.p=4/\o0 xg.l=4/\o0 xg.q=4)/\(∀i,((w.heap.size+2<=i/\i<w1.heap.size)\/w5.drew.heap.size<=i)/\i<w6.heap.size->o0 i=0)from by
    have o:=HO.o;have x:=HX8.o;have e:w5.drew.heap.size=w5.heap.size:=rfl;have ev:∀i,o0 i=if i=l then 1 else if i=w1.heap.size then 2 else if i=a\/i=g then 3 else if w6.heap.size<=i then 4 else 0:=λi=>by rw[ho0]
    refine⟨?_,?_,⟨?_,?_⟩,⟨?_,?_,?_⟩,λi hi=>?_⟩<;>rw[ev]<;>(repeat' split)<;>omega)
  clear ho0;have HT8:=qh (show w7.heap.size<=w8.heap.size from t78.size);have HXl:=qh (show xg.p<w8.heap.size/\xg.l<w8.heap.size/\xg.q<w8.heap.size from⟨HG8.o.p.lt,HG8.o.ki.lk.lt,HG8.o.ki.sp.lt⟩);have HSp8:=qh (HSp5.o.turns T8.o Ra);obtain⟨s7,hs7⟩:∃s',s'=aD kg s N par:=⟨_,rfl⟩;have HS7:=qh (And.intro hs7 (show s7.room=s.room/\s7.W.length<=s.W.length+65 from by rw[hs7,kx,a6];have:=jJ (k:=kg) hN32 HPD.o.2.2.1.2;omega));have HG8:=qh (show di w8 a g kg xg s7 (a7 kg N)from by rw[hs7];exact HG8.o);clear hs7;clear hw8 c6 z6 t78 B7 B6 H7 k50;have HNq0:=kS w8 b P T HQ8.o.f;rw[<-HNN.o]at HNq0;have HNq:=qh HNq0;clear HNq0;go_wp2_with fail;refine HNq.o.mono ?_;rintro en w8' ⟨rfl,rfl⟩;go_wp2;go_loopw [56] (λi wr=>∃(k:Nat) (v:Value) (X:List Fx) (V:List Nat) (o:Nat->Nat),i= .int .i64 k/\k<=N/\Blk wr l 240 (coC a b (kg:Int) (kl:Int) par bud ↑xg.p v (.slice (some ⟨w1.heap.size,0,none⟩) T.length T.length))/\wr.ownsRow w8.heap.size 243 2 v k ((X.zip V).flatMap ndE)/\NwQ wr a g w8.heap.size o0 kg kl par N (mtQ P T) s7 xg k X V o/\aa [l,a,g] w8 wr) (λi _=>N-(intOf i).toNat);case atStart=>exact⟨0,_,[],[],o0,rfl,by omega,HB8.o,World.ownsRow_nil _ _ _ _,NwQ.start HG8.o.ki.ar HG8.o,aa.refl _ _⟩
  case round=>
    obtain⟨k,v,X,V,o,rfl,hk,hb,hown,hQ,ht⟩:=hrel;obtain⟨wo,rfl⟩:∃wo:World,wo=wr:=⟨_,rfl⟩;obtain⟨xs,hxs⟩:∃l,l=(X.zip V).flatMap ndE:=⟨_,rfl⟩;rw[<-hxs]at hown;have HXS:=qh hxs;clear hxs;have H:=qh (And.intro hb (And.intro hown (And.intro hQ ht)));have h8o:=ht.size;by_cases hlt:k<N
    · obtain⟨A,cap,rfl⟩:=bO hown
      have HQo:=qh (show d7 (λi=>((w.heap.size+2<=i/\i<w1.heap.size)\/w5.drew.heap.size<=i)/\i<w6.heap.size) wo.drew b P T from by
        have o:=HO.o;have e:w5.drew.heap.size=w5.heap.size:=rfl
        exact(HQ8.o.turns ht (λi hi hB=>by simp at hi;omega)).turns ((aa.refl (S:=[]) _).drew) QY)
      obtain⟨x,hx⟩:=aj (show k<(ab P).length by rw[<-HNN.o];exact hlt);have HMt:=qh (AH wo.drew b P T HQo.o.f hx);have hct:T.count x<=32:=Nat.le_trans List.count_le_length hT32;have HXk:=qh hx;have HCT:=qh (show mtQ P T k=max 1 (T.count x)from by unfold mtQ;rw[ba hx]);obtain⟨ct,hcte⟩:∃ct,ct=T.count x:=⟨_,rfl⟩;rw[<-hcte]at HCT;rw[<-hcte]at HMt hct;obtain⟨s',hs'⟩:∃q,q=aH kl par (mtQ P T) s7 k:=⟨_,rfl⟩;have hA:=hQ.ar;rw[<-hs']at hA;have ho8:aa [l,b,a,g] w5 wo:=T8.o.trans (ht.mono QY);have HPo:=qh (HPC.o wo ho8);obtain⟨p0,p1,p2,p3⟩:=HPC.o wo ho8;have hlen:s'.W.length+100<=s'.room/\s'.ops+1<=1000000000000:=(by have h5:=n5 kl par (mtQ P T) s7 k;have h6:=j3 kg s N par;rw[<-HS7.o.1]at h6;rw[<-hs']at h5;have h1:=nh (kl:=kl) (par:=par) (f:=mtQ P T) (s:=s7) (λn=>(nX hT32 n).2) HPD.o.2.2.1.2 k;have h2:=rD (kl:=kl) (par:=par) (f:=mtQ P T) (s:=s7) k;rw[<-hs']at h1 h2;have h3:=HS7.o.2;have h4:=HS.o;omega);have HSe:=qh hs';have HFL:=qh (λn (h1:1<=n) (h2:n<=32)=>zS (w:=wo.drew) (hA.turns ((aa.refl (S:=[]) _).drew) QY QY) kl HPD.o.2.1 n h1 h2 par HPD.o.2.2.1.1 HPD.o.2.2.1.2 (by have:=jJ (k:=kl) h2 HPD.o.2.2.1.2;omega) QX);have hllo:=hb.lt;have ho8:=qh ho8;clear hb hown hA hQ ht hx hcte hs';obtain⟨z,hz⟩:∃z:Int,z=(ct:Int):=⟨_,rfl⟩;rw[<-hz]at HMt;obtain⟨n,hn⟩:∃n:Nat,n=max 1 ct:=⟨_,rfl⟩;have hif:(if 1<z then z else 1)=(n:Int):=(by split<;>omega);have HF1:=qh (HFL.o n QX QX);have HNe:=qh (show mtQ P T k=n from by rw[HCT.o,hn]);have HN32:=qh (show n<=32 from by omega);clear hn;clear hz hct;go_wp2_with fail
      go_region_held3 (λW=>W.cell? ⟨w.heap.size+1,0,none⟩=some (.int .i64 (kg:Int))/\W.cell? ⟨w.heap.size+1,1,none⟩=some (.int .i64 (kl:Int))/\W.cell? ⟨w.heap.size+1,2,none⟩=some (.int .i64 par)/\W.cell? ⟨w.heap.size+1,3,none⟩=some (.int .i64 bud))
        (first|exact HPo.o|exact HP7.o)
        (first
          | (go_at_call 138;go_loud (refine HMt.o.mono ?_);rintro en w6' ⟨rfl,rfl⟩)
          | (go_at_call 109;go_loud (refine HF1.o.mono ?_);rintro en w7' ⟨y,rfl,e1,e2,e5⟩;have T7':=qh (show aa [a,g] wo w7' from((aa.refl _ _).drew).trans e5);have HP7:=qh (HPC.o w7' (ho8.o.trans (T7'.o.mono QY)));have H7':=qh (And.intro e1 e2);clear e1 e2 e5))
      all_goals
        obtain⟨s2,hs2⟩:∃q,q=aD kl s' n par:=⟨_,rfl⟩;have HS2:=qh hs2;have hlen2:s2.W.length+1<=s2.room:=(by have h1:=a6 kl s' n par;have h2:=kx kl s' n par;rw[<-hs2]at h1 h2;have h3:=jJ (k:=kl) HN32.o HPD.o.2.2.1.2;omega);have HA7:=qh (show aA w7' a g s2 from by rw[hs2];exact H7'.o.1.ki.ar);clear hs2;go_wp2_with fail;refine(mq HA7.o 1 hlen2).mono ?_;rintro en w9 ⟨rfl,k9,t9⟩;have T9:=qh (T7'.o.trans (t9.mono QY));have H9:=qh k9;have hna:l∉[a,g]:=(by have:=HO.o;simp;omega);have bl9:Blk w9 l 240 (coC a b (kg:Int) (kl:Int) par bud ↑xg.p (.slice A k cap) (.slice (some ⟨w1.heap.size,0,none⟩) T.length T.length)):=T9.o.blk H.o.1 hna;have o9:w9.ownsRow w8.heap.size 243 2 (.slice A k cap) k xs:=aa.own H.o.2.1 T9.o (λx hx=>by have:=(H.o.2.1.lt x hx).1;have:=HO.o;simp;omega);have c7:w9.cell? ⟨l,7,none⟩=some (.slice A k cap):=bl9.cell 7;have hs9:wo.heap.size<=w9.heap.size:=T9.o.size;have hll9:=bl9.lt;have hlow:(Value.slice A k cap).ownBlock≠some l:=λe=>by have:=(H.o.2.1.lt l e).1;omega
        have HB9:=qh bl9;have HT79:=qh t9
        have HAQ:=qh (show ∀q,(Value.slice A k cap).ownBlock=some q->∃cs,Blk w9 q 243 cs from λq hq=>by
          rcases o9.2 with⟨e,_⟩|⟨g',c',cu',e,_,hb',_⟩
          · injection e with e1 e2 e3;subst e1;simp[Value.ownBlock]at hq
          · injection e with e1 e2 e3;subst e1;simp only[Value.ownBlock,Option.some.injEq]at hq;subst hq
            exact⟨_,hb'⟩)
        have HO9:=qh o9;clear k9 t9 bl9 o9 hna;go_wp2_with (at_builtin;refine wpList_append_lies _ rfl _ _ 238 rfl w8.heap.size 243 j0 (.agg #[.pointer none,.int .i64 0]) 2 16 Tryz.underlying238 HJ.o.1 HJ.o.2.1 HJ.o.2.2.1 HJ.o.2.2.2 rfl QZ _ _ _ rfl (HO9.o.alloc _) ⟨w9.heap.size,0,none⟩ 1 1 [.pointer (some ⟨y.p,0,none⟩),.int .i64 ((s2.W.length:Int)+1)] rfl rfl (m6 _ _ _) Rv QZ ?c3 ?c4 ?c5 _ rfl ?_);case c3=>unfold maxLen;omega
        case c4=>omega
        case c5=>simp;omega
        intro g3 cap3 w10 h3 hg3 hl3 hlt3;have bl10:=(HB9.o.alloc (.cells #[↑y.p,.int .i64 ((s2.W.length:Int)+1)] 243)).grown hg3 (λe=>hlow e.symm);have c10:w10.cell? ⟨l,7,none⟩=some (.slice A k cap):=bl10.cell 7;have z10:=bl10.free 7;obtain⟨w11,hw11⟩:∃W,W=w10.setCell ⟨l,7,none⟩ (.slice (some ⟨g3,0,none⟩) (k+1) cap3):=⟨_,rfl⟩;have tr:aa (l :: (Value.slice A k cap).ownBlock.toList) w9 w11:=(by rw[hw11];exact(((aa.refl _ _).alloc _).trans ((aa.grownByQ hg3).mono λi hi=>List.mem_cons_of_mem _ hi)).trans ((aa.refl _ _).setCell (.inl QY) _));have HR1:=qh (show Blk w11 l 240 (coC a b (kg:Int) (kl:Int) par bud ↑xg.p (.slice (some ⟨g3,0,none⟩) (k+1) cap3) (.slice (some ⟨w1.heap.size,0,none⟩) T.length T.length))from by rw[hw11];exact bl10.set_ 7 _)
        have HR2:=qh (show w11.ownsRow w8.heap.size 243 2 (.slice (some ⟨g3,0,none⟩) (k+1) cap3) (k+1) (xs++[.pointer (some ⟨y.p,0,none⟩),.int .i64 ((s2.W.length:Int)+1)])from by
          rw[hw11];have hg3b:=(h3.lt g3 rfl).1
          exact aa.own h3 ((aa.refl [l] _).setCell (.inl QY) _) (λx hx=>by injection hx with hx;subst hx;simp;omega))
        have hAq:∀r,r<w8.heap.size->r≠l->r∉l :: (Value.slice A k cap).ownBlock.toList:=λr hr hrl hm=>by
          rcases List.mem_cons.1 hm with e|e
          · exact hrl e
          · have:=(H.o.2.1.lt r Rf).1;omega
        have HNX:=qh (show NwQ w11 a g w8.heap.size o0 kg kl par N (mtQ P T) s7 xg (k+1) (X++[y]) (V++[cwN kl par (mtQ P T) s7 k]) (λi=>if wo.heap.size<=i then 5+k else o i)from by
          have e7:=H7'.o;rw[<-HNe.o,HSe.o]at e7;have e9:aA w9 a g (bi (aD kl (aH kl par (mtQ P T) s7 k) (mtQ P T k) par) 1):=(by rw[<-HSe.o,HNe.o,<-HS2.o];exact H9.o);have ho':=HO.o;refine H.o.2.2.1.step h8o e7.1 T7'.o ⟨e7.2.1,e7.2.2.1,e7.2.2.2.1⟩ e7.2.2.2.2.2.2 e7.2.2.2.2.2.1 HT79.o e9 tr (hAq a QX QX) (hAq g QX QX) (λi hi=>?_);rcases List.mem_cons.1 hi with e|e
          · subst e;exact⟨_,_,HB9.o,.inl rfl⟩
          · obtain⟨cs,hcs⟩:=HAQ.o i Rf
            exact⟨_,cs,hcs,.inr rfl⟩)
        have HXV:=qh (show((X++[y]).zip (V++[cwN kl par (mtQ P T) s7 k])).flatMap ndE=xs++[.pointer (some ⟨y.p,0,none⟩),.int .i64 ((s2.W.length:Int)+1)]from by
          rw[BO _ _ _ _ (by rw[H.o.2.2.1.lX,H.o.2.2.1.lV]),<-HXS.o];have:((cwN kl par (mtQ P T) s7 k:Nat):Int)=(s2.W.length:Int)+1:=by unfold cwN;rw[<-HSe.o,HNe.o,<-HS2.o];omega
          rw[this])
        have hlowA:∀x,(Value.slice A k cap).ownBlock=some x->w8.heap.size<=x:=λx hx=>(H.o.2.1.lt x hx).1
        have HR5:=qh (show aa [l,a,g] w8 w11 from by
          have t1:aa ([l,a,g]++(Value.slice A k cap).ownBlock.toList) w8 w11:=((H.o.2.2.2.mono λi hi=>List.mem_append_left _ hi).trans (T9.o.mono λi hi=>List.mem_append_left _ (by simp at hi ⊢;omega))).trans (tr.mono λi hi=>by
            rcases List.mem_cons.1 hi with e|e
            · exact List.mem_append_left _ (by simp[e])
            · exact List.mem_append_right _ e)
          refine t1.fresh λi hi=>?_;rcases List.mem_append.1 hi with hi|hi
          · exact .inl hi
          · exact .inr (hlowA i Rr))
        rw[hw11]at HR1 HR2 HNX HR5;clear h3 hg3 hl3 bl10 HB9 HO9 H9 tr hw11 hlowA;go_wp2;go_roundw;case rel=>exact⟨k+1,_,_,_,_,by go_num,by omega,HR1.o,by rw[HXV.o];exact HR2.o,HNX.o,HR5.o⟩
        case measure=>simp[intOf];omega
    · obtain rfl:k=N:=by omega
      clear hb hown hQ ht;go_wp2;go_ret2;have o':=HO.o;have s8:=T8.o.size;have s1:=K1.o.2.1.size;have s15:=H5.o.size;have hx8:=HX8.o;have hxl:=HXl.o;have o0':=HO0.o;have e68:=T8.o.size;have Z:=H.o;rw[HS7.o.1,HXS.o,HNN.o]at Z
      have hQ:=HQ8.o.turns H.o.2.2.2 (λi hi hB=>by
        have e:w5.drew.heap.size=w5.heap.size:=rfl;simp at hi
        omega)
      have hlow6:w6.heap.size<=w8.heap.size:=by omega
      obtain⟨x,e1,e2,e3,e4,e5,hco⟩:=Ch (bud:=bud) Z.2.2.1 HCK.o HPD.o.1 HPD.o.2.1 HPD.o.2.2.1 HPD.o.2.2.2 (by rw[<-HNN.o];exact hN1) Z.1 Z.2.1 hQ (HSp8.o.turns H.o.2.2.2 Ra) hx8.2.2.2.2.1 hx8.2.2.2.1 HS.o.2.1
        o0'.1 o0'.2.1 o0'.2.2.1 o0'.2.2.2.1 o0'.2.2.2.2 QX QX QX QX QX (λi hi=>by omega)
      refine⟨x,_,Ie e1,hco,λi hi=>?_,?_⟩
      · have e:w5.drew.heap.size=w5.heap.size:=rfl;have u8:=H.o.2.2.2.size;rcases hi with hi|hi|hi|hi|⟨y,hy,hi⟩|hi
        · have:=hco.lk.lt;omega
        · obtain⟨Z,z⟩:=hco.nd;have:=z.lt;omega
        · have:=hco.sp.lt;omega
        · rw[e3]at hi;omega
        · rw[e4]at hy;obtain⟨n,hn,rfl⟩:=List.getElem_of_mem hy;have e9:=H.o.2.2.1.ls n _ (List.getElem?_eq_getElem hn);have l1:=e9.1.p.lt;have l2:=e9.1.ki.lk.lt;have l3:=e9.1.ki.sp.lt;have e10:=e9.2.2.2.2;clear e9;omega
        · omega
      · have t:aa [l,b,a,g] w wo:=(((aa.of_below (S:=[l,b,a,g]) K1.o.2.1).trans (H5.o.mono QY)).trans T8.o).trans (H.o.2.2.2.mono QY);exact t.fresh λi hi=>by simp at hi ⊢;omega
end
section
open Go.RowKit
structure kB (c:CoC)(n N L:Nat):Prop where
 k:(1<=c.kg/\c.kg<=5)/\1<=c.kl/\c.kl<=5
 inj:Inj c n
 nd:∀i,i<n->c.node i<N/\c.slot i<32
 N32:N<=32
 m:1<=c.m/\c.m<=4
 tg:1<=c.tg/\c.tg<=L
 tl:∀j,j<N->1<=c.tl j/\c.tl j<=L
structure bH (c:CoC)(n L:Nat)(B:Int)(o:Nat)(st:Co):Prop where
 bd:CoB c B st
 v:CoV c n st
 len:st.s.W.length=L
 ops:st.s.ops<=o
section
variable{c:CoC}{n N L o:Nat}{B:Int}{st:Co}
theorem bH.step (h:bH c n L B o st)(k:kB c n N L)(hB:40<=B)(hB2:B<=10000000000000){i:Nat}(hi:i<n):bH c n L (B+2) (o+1) (ak c st i):=by have h1:=k.nd i hi;have h2:=k.N32;have h3:=k.m;have h4:=mh (c:=c) (st:=st) i;exact⟨xr h.bd QX hB2 i QX QX QX,rF h.v k.inj k.k hi,by rw[h4.2,h.len],by have:=h4.1;have:=h.ops;omega⟩
theorem bH.ask (h:bH c n L B o st)(k:kB c n N L)(hB:40<=B){i:Nat}(hi:i<n):bH c n L (B+2) (o+1) (bD c st i):=by have h4:=ur (c:=c) (st:=st) i;exact⟨zk h.bd QX i,vu h.v k.inj hi,by rw[h4.2,h.len],by have:=h4.1;have:=h.ops;omega⟩
theorem bH.leave (h:bH c n L B o st)(k:kB c n N L)(hB:40<=B){i:Nat}(hi:i<n):bH c n L (B+2) (o+1) (ay st i):=by have h4:=qM (st:=st) i;exact⟨tN h.bd QX i,px h.v k.inj hi,by rw[h4.2,h.len],by have:=h4.1;have:=h.ops;omega⟩
theorem bH.mono (h:bH c n L B o st){C:Int}(hC:B<=C):bH c n L C o st:=⟨h.bd.mono hC,h.v,h.len,h.ops⟩
end
section
variable{BD:Nat->Prop}{w:World}{a g:Nat}{x:Cox}{c:CoC}{P T:List Int}{st:Co}{L o:Nat}{B:Int}
theorem bH.pre (h:bH c x.n L B o st)(k:kB c x.n x.N L)(f:wI BD a g x c P T)(hB:40<=B)(hB2:B<=10000000000)(ho:o+1<=1000000000000):cX B x c st:=by
 refine⟨by have:=h.ops;omega,h.bd,by omega,hB2,?_,λn y hy=>?_,h.v⟩;·rw[<-f.tg];exact aO.2 (by rw[h.len];exact k.tg)
 ·rw[<-(f.tl n y hy).1];have hn:n<x.N:=by rw[<-f.lX];exact(List.getElem?_eq_some_iff.1 hy).1
  exact aO.2 (by rw[h.len];exact k.tl n hn)
end
theorem mW{s:Ar}{k n m:Nat}{B:Int}(h:WdB B s)(hB:40<=B)(hn:n<=32):WdB B (aD k s n m):=by
 have h1:∀j,WdB B (bi s j):=λj v hv=>by
  have hv':v∈s.W++List.replicate j 0:=hv;rcases List.mem_append.1 hv' with h2|h2
  ·exact h v h2
  ·rw[(List.mem_replicate.1 h2).2];omega
 unfold aD;split;·exact(h1 _).store _ _ QX
 split;·exact(h1 _).store _ _ QX
 ·exact h1 _
theorem wP{s:Ar}{kl par:Nat}{f:Nat->Nat}{B:Int}(h:WdB B s)(hB:40<=B)(hf:∀n,f n<=32)(k:Nat):WdB B (aH kl par f s k):=by
 induction k with
 |zero=>exact h
 |succ k ih=>
  have h1:=mW (k:=kl) (m:=par) ih hB (hf k);intro v hv;have hv':v∈(aD kl (aH kl par f s k) (f k) par).W++List.replicate 1 0:=hv;rcases List.mem_append.1 hv' with h2|h2
  ·exact h1 v h2
  ·rw[(List.mem_replicate.1 h2).2];omega
theorem iK (k n:Nat):∀p∈a7 k n,p.pc=0/\0<=p.a/\p.a<=n/\p.b=0:=by
 intro p hp;unfold a7 at hp;split at hp;·obtain⟨i,hi,rfl⟩:=List.mem_map.1 hp;have:=List.mem_range.1 hi;exact⟨rfl,by show(0:Int)<=(i:Int)+1;omega,by show(i:Int)+1<=n;omega,rfl⟩
 ·rw[(List.mem_replicate.1 hp).2];exact⟨rfl,Int.le_refl _,by show(0:Int)<=n;omega,rfl⟩
theorem E4 (k:Nat){p:Sp}(h:p.pc=0):pcK k p:=by unfold pcK iG;rw[h];exact IU
theorem uK{k n:Nat}{B:Int}(hn:n<=32)(hB:40<=B):∀p∈a7 k n,SpB k B p:=λp hp=>by
 obtain⟨_,h1,h2,h3⟩:=iK k n p hp
 exact⟨h1,by omega,by omega,by omega,λ_=>by omega⟩
theorem fV (kl par:Nat)(f:Nat->Nat)(s:Ar){j k:Nat}(h:j<=k):(aH kl par f s j).W.length<=(aH kl par f s k).W.length:=by
 induction k with
 |zero=>obtain rfl:j=0:=QX;exact Nat.le_refl _
 |succ k ih=>
  by_cases e:j=k+1;·subst e;exact Nat.le_refl _
  ·have:=ih QX;show _<=(bi (aD _ _ _ _) 1).W.length;rw[ee,a6];omega
theorem jU (kl par:Nat)(f:Nat->Nat)(s:Ar){j k:Nat}(h:j<k):(aH kl par f s j).W.length+szK kl (f j) par+1<=(aH kl par f s k).W.length:=by refine Nat.le_trans ?_ (fV kl par f s (show j+1<=k from h));show _<=(bi (aD _ _ _ _) 1).W.length;rw[ee,a6];omega
theorem Dq (k n m:Nat):1<=szK k n m:=by exact Jl
theorem rJ{T:List Int}{k:Nat}{y:Int}(h:T[k]? =some y)(x:Int):(T.take (k+1)).count x=(T.take k).count x+if y==x then 1 else 0:=by rw[List.take_add_one,h,List.count_append,Option.toList_some,List.count_cons,List.count_nil,Nat.zero_add]
theorem Bl{P T:List Int}(hc:a5 P T=0){i j:Nat}(hi:i<T.length)(hj:j<T.length)(h1:fY P T i=fY P T j)(h2:cr T i=cr T j):i=j:=by
 have e:T.getD i 0=T.getD j 0:=by rw[<-(eD hc hi).2.1,<-(eD hc hj).2.1,h1]
 obtain⟨y,hy⟩:=aj hi;obtain⟨z,hz⟩:=aj hj;rw[ba hy,ba hz]at e;subst e;unfold cr at h2;rw[ba hy,ba hz]at h2
 have key:∀(i j:Nat),i<j->T[i]? =some y->(T.take i).count y<(T.take j).count y:=λi j hij hy=>by
  have e1:=rJ hy y;simp only[beq_self_eq_true,↓reduceIte]at e1;have e2:(T.take (i+1)).count y<=(T.take j).count y:=by have:(T.take (i+1)).Sublist (T.take j):=(List.take_prefix_take_left QX).sublist;exact this.count_le y
  omega
 rcases Nat.lt_trichotomy i j with h|h|h
 ·have:=key i j h hy;omega
 ·exact h
 ·have:=key j i h hz;omega
section
variable{kg kl par:Nat}{bud:Int}{P T:List Int}{s:Ar}
theorem uu (hc:a5 P T=0) (hkg:1<=kg/\kg<=5) (hkl:1<=kl/\kl<=5) (hp:1<=par/\par<=4):
    kB (eV kg kl par bud P T s) T.length (ab P).length (bz kg kl par P T s).s.W.length:=by
  have hml:=bh (aR hc).1;have hT32:T.length<=32:=hml.2.2.2;have hN32:(ab P).length<=32:=by exact IK
  refine⟨⟨hkg,hkl⟩,λi j hi hj h1 h2=>?_,λi hi=>?_,hN32,?_,?_,λj hj=>?_⟩;· have e1:=(eD hc hi).2.2.1;have e2:=(eD hc hj).2.2.1;have h2':(cr T i).toNat=(cr T j).toNat:=h2;exact Bl hc hi hj h1 QX
  · obtain⟨h1,_,h3,h4⟩:=eD hc hi;have:=(nX (P:=P) hT32 (fY P T i)).2;exact⟨h1,by show(cr T i).toNat<32;omega⟩
  · show 1<=(par:Int)/\(par:Int)<=4;omega
  · show 1<=((s.W.length+1:Nat):Int)/\((s.W.length+1:Nat):Int)<=((aH _ _ _ _ _).W.length:Int);have h1:=fV kl par (mtQ P T) (aD kg s (ab P).length par) (Nat.zero_le (ab P).length);have h2:(aH kl par (mtQ P T) (aD kg s (ab P).length par) 0).W.length=s.W.length+szK kg (ab P).length par:=a6 _ _ _ _;have h3:=Dq kg (ab P).length par;omega
  · show 1<=(((aH _ _ _ _ j).W.length+1:Nat):Int)/\(((aH _ _ _ _ j).W.length+1:Nat):Int)<=((aH _ _ _ _ _).W.length:Int);have h1:=jU kl par (mtQ P T) (aD kg s (ab P).length par) hj;omega
theorem nY (hc:a5 P T=0) (hs:WdB 40 s):
    bH (eV kg kl par bud P T s) T.length (bz kg kl par P T s).s.W.length 40 (s.ops+40) (bz kg kl par P T s):=by
  have hml:=bh (aR hc).1;have hT32:T.length<=32:=hml.2.2.2;have hN32:(ab P).length<=32:=by exact IK
  have hf:∀n,mtQ P T n<=32:=λn=>(nX hT32 n).2;have hL:∀x∈(bz kg kl par P T s).L,∃n,x=a7 kl (mtQ P T n):=λx hx=>by obtain⟨n,_,rfl⟩:=List.mem_map.1 hx;exact⟨n,rfl⟩
  have hlen:(bz kg kl par P T s).L.length=(ab P).length:=by simp[bz,ic]
  have hget:∀n,n<(ab P).length->(bz kg kl par P T s).L.getD n []=a7 kl (mtQ P T n):=λn hn=>by rw[List.getD_eq_getElem?_getD];simp[bz,ic,hn]
  refine⟨⟨wP (mW hs QX hN32) QX hf _,uK hN32 QX,λx hx=>?_,λp hp=>?_⟩,⟨λp hp=>E4 _ (iK _ _ p hp).1,λx hx p hp=>?_,λi hi=>?_,by simp[bz],λi hi=>?_,λi hi=>?_⟩,rfl,?_⟩;· obtain⟨n,rfl⟩:=hL x hx;exact uK (hf n) QX
  · rw[(List.mem_replicate.1 hp).2];exact⟨Int.le_refl _,by show(0:Int)<=40;omega⟩
  · obtain⟨n,rfl⟩:=hL x hx;exact E4 _ (iK _ _ p hp).1
  · left;refine⟨?_,?_⟩;· show(sv (List.replicate T.length Sp.zero) i).pc=0;unfold sv;rw[List.getD_eq_getElem?_getD,List.getElem?_replicate];split<;>rfl
    · have hlt:=eD hc hi;show(((bz kg kl par P T s).L.getD (fY P T i) []).getD (cr T i).toNat Sp.zero).pc=0;rw[hget _ hlt.1];exact iA (P:=λp=>p.pc=0) (λp hp=>(iK _ _ p hp).1) rfl _
  · show fY P T i<(a7 _ _).length;rw[gN];exact(eD hc hi).1
  · show fY P T i<_/\(cr T i).toNat<_;have hlt:=eD hc hi;rw[hlen];refine⟨hlt.1,?_⟩;show _<((bz kg kl par P T s).L.getD (fY P T i) []).length;rw[hget _ hlt.1,gN];exact hlt.2.2.2
  · have h1:=n5 kl par (mtQ P T) (aD kg s (ab P).length par) (ab P).length;have h2:=j3 kg s (ab P).length par;show(aH _ _ _ _ _).ops<=_;omega
end
end
end Go.Proofs.YtglokdbiggbkjaaGreat
