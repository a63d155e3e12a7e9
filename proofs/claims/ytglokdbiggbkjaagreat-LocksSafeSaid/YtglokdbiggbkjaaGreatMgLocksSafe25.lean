/- Joined texts. -/
import Derived.Test.YtglokdbiggbkjaaGreatMgLocksSafe0
import Derived.Test.YtglokdbiggbkjaaGreatMgLocksSafe23
import Derived.Test.YtglokdbiggbkjaaGreatMgLocksSafe24
set_option linter.unusedVariables false
set_option linter.unusedSimpArgs false
set_option maxRecDepth 100000
set_option maxHeartbeats 16000000
namespace Go.Proofs.YtglokdbiggbkjaaGreat
section
open Go.RowKit
section
variable{B BC:Nat->Prop}{w w' w0:World}{a g:Nat}{X:SmX}{c:CoC}{P T:List Int}{st st':Co}{d d':Dr}{U:List Sp}{s':Ar}{BB:Int}
theorem we (h:av 337 B BC w a g X c P T st d U)(ho:st.s.ops+1<=1000000000000):Calls Tryz.prog 405 #[↑X.l] w λe w'=>e= .returned (.bool (ldW st.s.W (nuFl (ab P).length)==0))/\av 337 B BC w' a g X c P T (onA st (ae st.s (nuFl (ab P).length))) d U/\aa (SmS a g X) w w':=by
 have H:=qh h;clear h;obtain⟨q,hq⟩:∃q,q=ldW st.s.W (nuFl (ab P).length):=⟨_,rfl⟩;rw[<-hq];have HQ:=qh hq;clear hq;have K0d:=qh H.o.drw;have HO0:=qh (aC (K0d.o).gd.ar (nuFl (ab P).length) ho);rw[<-HQ.o]at HO0;go_enter Tryz.func405,Tryz.ntmps405;go_wp2_with fail
 go_region_held3 (λW=>W.cell? X.l=some ↑a/\W.cell? ⟨X.l,4,none⟩=some (.int .i64 (2*((ab P).length:Int)+1)))
  (first|exact⟨K0d.o.cs.1,K0d.o.cs.2.2.2.2.1⟩|exact⟨K1.o.cs.1,K1.o.cs.2.2.2.2.1⟩)
  (first
   |(go_at_call 173;go_loud (refine HO0.o.mono ?_);rintro en w1 ⟨rfl,a3,t3⟩;have K1:=qh (K0d.o.arT t3 a3);have T1:=qh ((aa.refl (SmS a g X) w).drew.trans (fd t3));clear a3 t3))
 exact KL
theorem Dc (h:av 337 B BC w a g X c P T st d U)(n:Nat)(hn:n<T.length){nd:Nat}(hnd:nd<(ab P).length)(hnn:(ao P T T.length)[n]? =some ((nd:Nat):Int))(ho:st.s.ops+1<=1000000000000):Calls Tryz.prog 404 #[↑X.l,.int .i64 n,.int .i64 2] w (bV 337 B BC w a g X c P T (onA st (addA st.s (2*(nd:Int)+1) 1),d,3) U):=by have HND:=qh (kh w X.b P T n hn h.tb.f _ hnn);have l1:=h.cs.2.1;have hnd:=qh hnd;have H:=qh h;clear h hnn;go_enter Tryz.func404,Tryz.ntmps404;go_wp2_with fail;refine HND.o.mono ?_;rintro en wn ⟨rfl,rfl⟩;exact Ky
theorem De (h:av 337 B BC w a g X c P T st d U)(n:Nat)(hn:n<T.length){nd:Nat}(hnd:nd<(ab P).length)(hnn:(ao P T T.length)[n]? =some ((nd:Nat):Int))(ho:st.s.ops+1<=1000000000000):Calls Tryz.prog 404 #[↑X.l,.int .i64 n,.int .i64 4] w (bV 337 B BC w a g X c P T (onA st (addA st.s (2*(nd:Int)+1+1) 1),d,1) U):=by exact KM
theorem Bd (h:av 337 B BC w a g X c P T st d U)(n:Nat)(hn:n<T.length){nd:Nat}(hnd:nd<(ab P).length)(hnn:(ao P T T.length)[n]? =some ((nd:Nat):Int))(ho:st.s.ops+1<=1000000000000):Calls Tryz.prog 404 #[↑X.l,.int .i64 n,.int .i64 11] w (bV 337 B BC w a g X c P T (onA st (addA st.s (2*(nd:Int)+1+1) 1),d,0) U):=by exact KM
theorem Db (h:av 337 B BC w a g X c P T st d U) (n:Nat) (hn:n<T.length) {nd:Nat} (hnd:nd<(ab P).length) (hnn:(ao P T T.length)[n]? =some ((nd:Nat):Int)) (ho:st.s.ops+1<=1000000000000):Calls Tryz.prog 404 #[↑X.l,.int .i64 n,.int .i64 1] w (bV 337 B BC w a g X c P T (onA st (ae st.s (nuFl (ab P).length)),d,if ldW st.s.W (nuFl (ab P).length)=0 then 2 else 1) U):=by
  have HND:=qh (kh w X.b P T n hn h.tb.f _ hnn);have l1:=h.cs.2.1;have hnd:=qh hnd;have HQ0:=we h ho;obtain⟨q,hq⟩:∃q,q=ldW st.s.W (nuFl (ab P).length):=⟨_,rfl⟩;rw[<-hq]at HQ0 ⊢;obtain⟨v,hv⟩:∃v:Int,v=if q=0 then 2 else 1:=⟨_,rfl⟩
  exact KN
theorem Dd (h:av 337 B BC w a g X c P T st d U) (n:Nat) (hn:n<T.length) {nd:Nat} (hnd:nd<(ab P).length) (hnn:(ao P T T.length)[n]? =some ((nd:Nat):Int)) (ho:st.s.ops+1<=1000000000000):Calls Tryz.prog 404 #[↑X.l,.int .i64 n,.int .i64 3] w (bV 337 B BC w a g X c P T (onA st (ae st.s (nuFl (ab P).length)),d,if ldW st.s.W (nuFl (ab P).length)=0 then 10 else 4) U):=by
  have HND:=qh (kh w X.b P T n hn h.tb.f _ hnn);have l1:=h.cs.2.1;have hnd:=qh hnd;have HQ0:=we h ho;obtain⟨q,hq⟩:∃q,q=ldW st.s.W (nuFl (ab P).length):=⟨_,rfl⟩;rw[<-hq]at HQ0 ⊢;obtain⟨v,hv⟩:∃v:Int,v=if q=0 then 10 else 4:=⟨_,rfl⟩
  exact KN
theorem BK (h:av 337 B BC w a g X c P T st d U)(n:Nat)(hn:n<T.length)(ho:st.s.ops+1<=1000000000000):Calls Tryz.prog 403 #[↑X.l,.int .i64 n,.int .i64 5] w (bV 337 B BC w a g X c P T (bD c (onA st (addA st.s (nuFl (ab P).length) 1)) n,d,7) U):=by
 have hnx:n<X.x.n:=by rw[h.nT.1];exact hn
 have H:=qh h;clear h;go_enter Tryz.func403,Tryz.ntmps403;have K0:=H;have T0:=qh (aa.refl (SmS a g X) w);have K0d:=qh K0.o.drw;have HO0:=qh (gY (K0d.o).gd.ar (nuFl (ab P).length) (1) ho);obtain⟨va,hva⟩:∃va:Int,va=(if inR st.s.W (nuFl (ab P).length)then IntKind.i64.wrap (ldW st.s.W (nuFl (ab P).length)+(1))else 0):=⟨_,rfl⟩;rw[<-hva]at HO0;clear hva;go_wp2_with fail
 go_region_held3 (λW=>W.cell? X.l=some ↑a/\W.cell? ⟨X.l,4,none⟩=some (.int .i64 (2*((ab P).length:Int)+1)))
  (first|exact⟨K0d.o.cs.1,K0d.o.cs.2.2.2.2.1⟩|exact⟨K1.o.cs.1,K1.o.cs.2.2.2.2.1⟩)
  (first
   |(go_at_call 298;go_loud (refine HO0.o.mono ?_);rintro en w1 ⟨rfl,a3,t3⟩;have K1:=qh (K0d.o.arT t3 a3);have T1:=qh (T0.o.drew.trans (fd t3));clear a3 t3))
 have l5:=K1.o.cs.2.2.2.2.2.1;go_wp2_with fail;refine(rt K1.o.co n hnx).mono ?_;exact KO
theorem yy (h:av 337 B BC w a g X c P T st d U)(n:Nat)(hn:n<T.length)(ho:st.s.ops+1<=1000000000000):Calls Tryz.prog 403 #[↑X.l,.int .i64 n,.int .i64 12] w (bV 337 B BC w a g X c P T (ay (onA st (addA st.s (nuFl (ab P).length) (-1))) n,d,13) U):=by
 have hnx:n<X.x.n:=by rw[h.nT.1];exact hn
 have H:=qh h;clear h;go_enter Tryz.func403,Tryz.ntmps403;have K0:=H;have T0:=qh (aa.refl (SmS a g X) w);have K0d:=qh K0.o.drw;have HO0:=qh (gY (K0d.o).gd.ar (nuFl (ab P).length) (-1) ho);obtain⟨va,hva⟩:∃va:Int,va=(if inR st.s.W (nuFl (ab P).length)then IntKind.i64.wrap (ldW st.s.W (nuFl (ab P).length)+(-1))else 0):=⟨_,rfl⟩;rw[<-hva]at HO0;clear hva;go_wp2_with fail
 go_region_held3 (λW=>W.cell? X.l=some ↑a/\W.cell? ⟨X.l,4,none⟩=some (.int .i64 (2*((ab P).length:Int)+1)))
  (first|exact⟨K0d.o.cs.1,K0d.o.cs.2.2.2.2.1⟩|exact⟨K1.o.cs.1,K1.o.cs.2.2.2.2.1⟩)
  (first
   |(go_at_call 298;go_loud (refine HO0.o.mono ?_);rintro en w1 ⟨rfl,a3,t3⟩;have K1:=qh (K0d.o.arT t3 a3);have T1:=qh (T0.o.drew.trans (fd t3));clear a3 t3))
 exact KF
theorem yz (h:av 337 B BC w a g X c P T st d U)(n:Nat)(hn:n<T.length)(C:cX BB X.x c st)(ho:st.s.ops+1<=1000000000000):Calls Tryz.prog 403 #[↑X.l,.int .i64 n,.int .i64 13] w (bV 337 B BC w a g X c P T (ak c st n,d,if bf (sv st.T n) (sv (ak c st n).T n)then 0 else 13) U):=by
 have hnx:n<X.x.n:=by rw[h.nT.1];exact hn
 have HS0:=lR h.co C n hnx;obtain⟨q,hq⟩:∃q,q=bf (sv st.T n) (sv (ak c st n).T n):=⟨_,rfl⟩;rw[<-hq]at HS0 ⊢;have HS:=qh HS0;have l5:=h.cs.2.2.2.2.2.1;have H:=qh h;clear h hq HS0;cases q;all_goals go_enter Tryz.func403,Tryz.ntmps403;go_wp2_with fail;refine HS.o.mono ?_;rintro en w1 ⟨rfl,k3,t3⟩;have K1:=qh (H.o.coT t3 k3);have T1:=qh (gQ (X:=X) t3);clear k3 t3;go_wp2;go_ret;exact⟨rfl,K1.o,T1.o⟩
theorem BL (h:av 337 B BC w a g X c P T st d U)(n:Nat)(hn:n<T.length)(C:cX BB X.x c st)(hN:1<=(ab P).length)(ho:st.s.ops+1<=1000000000000):Calls Tryz.prog 403 #[↑X.l,.int .i64 n,.int .i64 7] w (bV 337 B BC w a g X c P T (ak c st n,if bf (sv st.T n) (sv (ak c st n).T n)then dM d (ab P).length false else d,if bf (sv st.T n) (sv (ak c st n).T n)then 9 else 7) U):=by
 have hnx:n<X.x.n:=by rw[h.nT.1];exact hn
 have HS0:=lR h.co C n hnx;obtain⟨q,hq⟩:∃q,q=bf (sv st.T n) (sv (ak c st n).T n):=⟨_,rfl⟩;rw[<-hq]at HS0 ⊢;have HS:=qh HS0;have l5:=h.cs.2.2.2.2.2.1;have H:=qh h;clear h hq HS0;cases q;·go_enter Tryz.func403,Tryz.ntmps403;go_wp2_with fail;refine HS.o.mono ?_;rintro en w1 ⟨rfl,k3,t3⟩;have K1:=qh (H.o.coT t3 k3);have T1:=qh (gQ (X:=X) t3);clear k3 t3;exact KL
 ·go_enter Tryz.func403,Tryz.ntmps403;go_wp2_with fail;refine HS.o.mono ?_;rintro en w1 ⟨rfl,k3,t3⟩;have K1:=qh (H.o.coT t3 k3);have T1:=qh (gQ (X:=X) t3);clear k3 t3;exact KA
theorem BM (h:av 337 B BC w a g X c P T st d U)(hb:d.busy=true->d.at_<(ab P).length)(n:Nat)(ho:st.s.ops+1<=1000000000000):Calls Tryz.prog 403 #[↑X.l,.int .i64 n,.int .i64 9] w (bV 337 B BC w a g X c P T (onA st (ah st.s d).1,(ah st.s d).2.1,if (ah st.s d).2.2=true then 10 else 9) U):=by obtain⟨r,hr⟩:∃r,r=ah st.s d:=⟨_,rfl⟩;have HD0:=mE h.gd hb ho;rw[<-hr]at HD0 ⊢;obtain⟨s1,d1,q⟩:=r;simp only at HD0 ⊢;have HD:=qh HD0;have H:=qh h;clear h hr hb HD0;cases q;all_goals go_enter Tryz.func403,Tryz.ntmps403;have d3:=H.o.cs.2.2.2.1;go_wp2_with fail;refine HD.o.mono ?_;rintro en w1 ⟨rfl,k4,t4⟩;have K1:=qh (H.o.gdT t4 k4);have T1:=qh (ja (X:=X) t4);clear k4 t4;go_wp2;go_ret;exact⟨rfl,K1.o,T1.o⟩
end
end
section
open Go.RowKit
section
variable{B BC:Nat->Prop}{w w' w0:World}{a g:Nat}{X:SmX}{c:CoC}{P T:List Int}{st st':Co}{d d':Dr}{U:List Sp}{s':Ar}{BB:Int}
theorem wB (h:av 337 B BC w a g X c P T st d U)(n:Nat)(hn:n<T.length)(hc:(sv U n).pc=0\/(sv U n).pc=10):Calls Tryz.prog 400 #[↑X.l,.int .i64 n] w (Iq 337 B BC w a g X c P T U n (bv c (ab P).length ⟨st,d,U⟩ n)):=by
 have hfp:=aK;have HS0:=oD h n;have hp:=h.thr hn;have hg:getS U (n:Int)=sv U n:=by exact Kd
 rw[hg]at HS0;have H:=qh h;have t2:¬(n:Int)<0:=by omega
 have hn32:=h.nT.2.2.1;have hx':bv c (ab P).length ⟨st,d,U⟩ n=⟨st,d,U⟩:=by unfold bv;rw[if_pos hc]
 obtain⟨p,hpp⟩:∃p,p=sv U n:=⟨_,rfl⟩;rw[<-hpp]at hc HS0;have HS:=qh HS0;have HX:=qh hx';clear h hp hpp hx' hg HS0;obtain⟨pc,u,b,z⟩:=p;simp only at hc;unfold aE at HS;rcases hc with rfl|rfl
 all_goals go_enter Tryz.func400,Tryz.ntmps400;go_wp2_with fail;refine HS.o.mono ?_;rintro en w1 ⟨rfl,b1⟩;have HB:=qh b1;clear b1;go_wp2;go_ret;rw[HX.o];first|exact Iq.stay ((H.o.below HB.o).below ((Below.refl _ _).alloc (Nat.le_refl _) _)) ((aa.of_below HB.o).alloc _) rfl|exact Iq.put HP.o ((H.o.below HB.o).below ((Below.refl _ _).alloc (Nat.le_refl _) _)) ((aa.of_below HB.o).alloc _) rfl Rb
theorem iT (h:av 337 B BC w a g X c P T st d U) (n:Nat) (hn:n<T.length) (pc b z:Int) (hU:sv U n=⟨pc,1,b,z⟩) (hc:pc≠0/\pc≠10)
    (hD:∀W,av 337 B BC W a g X c P T st d U->Calls Tryz.prog 404 #[↑X.l,.int .i64 n,.int .i64 pc] W (bV 337 B BC W a g X c P T (jf c (ab P).length ⟨st,d,U⟩ n ⟨pc,1,b,z⟩) U)):Calls Tryz.prog 400 #[↑X.l,.int .i64 n] w (Iq 337 B BC w a g X c P T U n (bv c (ab P).length ⟨st,d,U⟩ n)):=by
  have hfp:=aK;have HS0:=oD h n;have hp:=h.thr hn;have hg:getS U (n:Int)=sv U n:=by exact Kd
  rw[hg]at HS0;have H:=qh h;have t2:¬(n:Int)<0:=by omega
  have hn32:=h.nT.2.2.1;obtain⟨r,hr⟩:∃r,r=jf c (ab P).length ⟨st,d,U⟩ n ⟨pc,1,b,z⟩:=⟨_,rfl⟩;have hx':bv c (ab P).length ⟨st,d,U⟩ n=⟨r.1,r.2.1,U.set n ⟨r.2.2,1,b,z⟩⟩:=by unfold bv;exact KJ
  rw[<-hr]at hD;rw[hU]at hp HS0;obtain⟨s1,d1,v⟩:=r;simp only at hx';have u0:(pc==0)=false:=by simpa using hc.1
  have u1:(pc==10)=false:=by simpa using hc.2
  have HX:=qh hx';have HS:=qh HS0;have HP:=qh hp;have HD:=qh hD;clear h hp hx' hg HS0 hD hr hU hc;unfold aE at HS;cases v1:(v==10)<;>cases v2:(v==0);all_goals go_enter Tryz.func400,Tryz.ntmps400;go_wp2_with fail;refine HS.o.mono ?_;rintro en w1 ⟨rfl,b1⟩;have K1:=qh (H.o.below b1);have T1:=qh (aa.of_below (S:=SmS a g X) b1);clear b1;go_upto_region 2 with fail;obtain⟨sb,hsb⟩:∃y,y=w1.heap.size:=⟨_,rfl⟩;obtain⟨wa,hwa⟩:∃W,W=w1.alloc (.cells #[.int .i64 pc,.int .i64 1,.int .i64 b,.int .i64 z] 113):=⟨_,rfl⟩;rw[<-hwa,<-hsb];have HA1:=qh (show av 337 B BC wa a g X c P T st d U/\aa (SmS a g X) w wa/\Blk wa sb 113 #[.int .i64 pc,.int .i64 1,.int .i64 b,.int .i64 z]/\sb∉SmS a g X from⟨by rw[hwa];exact(K1.o).below ((Below.refl _ _).alloc (Nat.le_refl _) _),by rw[hwa];exact T1.o.alloc _,by rw[hwa,hsb];exact Blk.new _ _ _,λk=>by have:=K1.o.ltsA _ k;omega⟩);clear hwa hsb K1 T1;have v0:wa.cell? sb=some (.int .i64 pc):=HA1.o.2.2.1.cell 0;have va:wa.cell? ⟨sb,1,none⟩=some (.int .i64 1):=HA1.o.2.2.1.cell 1;go_wp2_with fail;refine(HD.o _ HA1.o.1).mono ?_;rintro en w3 ⟨rfl,k3,t3⟩;have K3:=qh k3;have T3:=qh (HA1.o.2.1.trans t3);clear k3 t3
  all_goals have e0:=K3.o.sp.cell HP.o 0 _ rfl;have z0:=K3.o.sp.free (n*4);have d6:=K3.o.cs.2.2.2.2.2.2;simp only[Nat.add_zero]at e0;have K4:=qh (K3.o.put0 HP.o (p':=(⟨v,1,b,z⟩:Sp)) (u:= .int .i64 v) rfl);go_wp2;go_ret;rw[HX.o];first|exact Iq.stay (K4.o) (T3.o.trans (dU _ _)) rfl|exact Iq.put HP.o (K4.o) (T3.o.trans (dU _ _)) rfl Rb
theorem iS (h:av 337 B BC w a g X c P T st d U) (n:Nat) (hn:n<T.length) (pc b z:Int) (hU:sv U n=⟨pc,0,b,z⟩) (hc:pc≠0/\pc≠10)
    (hD:∀W,av 337 B BC W a g X c P T st d U->Calls Tryz.prog 403 #[↑X.l,.int .i64 n,.int .i64 pc] W (bV 337 B BC W a g X c P T (jf c (ab P).length ⟨st,d,U⟩ n ⟨pc,0,b,z⟩) U)):Calls Tryz.prog 400 #[↑X.l,.int .i64 n] w (Iq 337 B BC w a g X c P T U n (bv c (ab P).length ⟨st,d,U⟩ n)):=by
  have hfp:=aK;have HS0:=oD h n;have hp:=h.thr hn;have hg:getS U (n:Int)=sv U n:=by exact Kd
  rw[hg]at HS0;have H:=qh h;have t2:¬(n:Int)<0:=by omega
  have hn32:=h.nT.2.2.1;obtain⟨r,hr⟩:∃r,r=jf c (ab P).length ⟨st,d,U⟩ n ⟨pc,0,b,z⟩:=⟨_,rfl⟩;have hx':bv c (ab P).length ⟨st,d,U⟩ n=⟨r.1,r.2.1,U.set n ⟨r.2.2,0,b,z⟩⟩:=by unfold bv;exact KJ
  rw[<-hr]at hD;rw[hU]at hp HS0;obtain⟨s1,d1,v⟩:=r;simp only at hx';have u0:(pc==0)=false:=by simpa using hc.1
  have u1:(pc==10)=false:=by simpa using hc.2
  have HX:=qh hx';have HS:=qh HS0;have HP:=qh hp;have HD:=qh hD;clear h hp hx' hg HS0 hD hr hU hc;unfold aE at HS;cases v1:(v==10)<;>cases v2:(v==0);all_goals go_enter Tryz.func400,Tryz.ntmps400;go_wp2_with fail;refine HS.o.mono ?_;rintro en w1 ⟨rfl,b1⟩;have K1:=qh (H.o.below b1);have T1:=qh (aa.of_below (S:=SmS a g X) b1);clear b1;go_upto_region 2 with fail;obtain⟨sb,hsb⟩:∃y,y=w1.heap.size:=⟨_,rfl⟩;obtain⟨wa,hwa⟩:∃W,W=w1.alloc (.cells #[.int .i64 pc,.int .i64 0,.int .i64 b,.int .i64 z] 113):=⟨_,rfl⟩;rw[<-hwa,<-hsb];have HA1:=qh (show av 337 B BC wa a g X c P T st d U/\aa (SmS a g X) w wa/\Blk wa sb 113 #[.int .i64 pc,.int .i64 0,.int .i64 b,.int .i64 z]/\sb∉SmS a g X from⟨by rw[hwa];exact(K1.o).below ((Below.refl _ _).alloc (Nat.le_refl _) _),by rw[hwa];exact T1.o.alloc _,by rw[hwa,hsb];exact Blk.new _ _ _,λk=>by have:=K1.o.ltsA _ k;omega⟩);clear hwa hsb K1 T1;have v0:wa.cell? sb=some (.int .i64 pc):=HA1.o.2.2.1.cell 0;have va:wa.cell? ⟨sb,1,none⟩=some (.int .i64 0):=HA1.o.2.2.1.cell 1;go_wp2_with fail;refine(HD.o _ HA1.o.1).mono ?_;rintro en w3 ⟨rfl,k3,t3⟩;have K3:=qh k3;have T3:=qh (HA1.o.2.1.trans t3);clear k3 t3
  all_goals have e0:=K3.o.sp.cell HP.o 0 _ rfl;have z0:=K3.o.sp.free (n*4);have d6:=K3.o.cs.2.2.2.2.2.2;simp only[Nat.add_zero]at e0;have K4:=qh (K3.o.put0 HP.o (p':=(⟨v,0,b,z⟩:Sp)) (u:= .int .i64 v) rfl);go_wp2;go_ret;rw[HX.o];first|exact Iq.stay (K4.o) (T3.o.trans (dU _ _)) rfl|exact Iq.put HP.o (K4.o) (T3.o.trans (dU _ _)) rfl Rb
theorem Dm (h:av 337 B BC w a g X c P T st d U) (n:Nat) (hn:n<T.length) (hc:hY (sv U n) (sv st.T n)) (ho:st.s.ops+1<=1000000000000) (hN:1<=(ab P).length) (hb:((sv U n).a=0->(sv U n).pc=9->d.busy=true->d.at_<(ab P).length)) (C:cX BB X.x c st):
    Calls Tryz.prog 400 #[↑X.l,.int .i64 n] w (Iq 337 B BC w a g X c P T U n (bv c (ab P).length ⟨st,d,U⟩ n)):=by
  obtain⟨p,hpp⟩:∃p,p=sv U n:=⟨_,rfl⟩
  have hcs:p.pc=0\/p.pc=10\/(p.a=1/\p.pc=1)\/(p.a=1/\p.pc=2)\/(p.a=1/\p.pc=3)\/(p.a=1/\p.pc=4)\/(p.a=1/\p.pc=11)\/(p.a=0/\p.pc=5)\/(p.a=0/\p.pc=7)\/(p.a=0/\p.pc=9)\/(p.a=0/\p.pc=12)\/(p.a=0/\p.pc=13):=by
    rw[<-hpp]at hc;unfold hY at hc;rcases hc with⟨q1,_⟩|⟨q1,q2,_⟩|⟨q1,q2,_⟩|⟨q1,q2,_⟩|⟨q1,q2,_⟩|⟨q1,q2,_⟩
    all_goals omega
  have hb':=hb;rw[<-hpp]at hb';obtain⟨pc,u,b,z⟩:=p;have hpc:(sv U n).pc=pc:=by rw[<-hpp]
  simp only at hcs hb';have hnd:=h.nodeA hn;rcases hcs with rfl|rfl|⟨rfl,rfl⟩|⟨rfl,rfl⟩|⟨rfl,rfl⟩|⟨rfl,rfl⟩|⟨rfl,rfl⟩|⟨rfl,rfl⟩|⟨rfl,rfl⟩|⟨rfl,rfl⟩|⟨rfl,rfl⟩|⟨rfl,rfl⟩
  · exact wB h n hn (.inl hpc)
  · exact wB h n hn (.inr hpc)
  · exact iT h n hn _ b z hpp.symm QZ (λW k=>Db k n hn hnd.1 hnd.2 ho)
  · exact iT h n hn _ b z hpp.symm QZ (λW k=>Dc k n hn hnd.1 hnd.2 ho)
  · exact iT h n hn _ b z hpp.symm QZ (λW k=>Dd k n hn hnd.1 hnd.2 ho)
  · refine iT h n hn _ b z hpp.symm QZ (λW k=>?_);have k9:=De k n hn hnd.1 hnd.2 ho;rw[show 2*((c.node n:Nat):Int)+1+1=gaW (c.node n)by unfold gaW;omega]at k9;exact k9
  · refine iT h n hn _ b z hpp.symm QZ (λW k=>?_);have k9:=Bd k n hn hnd.1 hnd.2 ho;rw[show 2*((c.node n:Nat):Int)+1+1=gaW (c.node n)by unfold gaW;omega]at k9;exact k9
  · exact iS h n hn _ b z hpp.symm QZ (λW k=>BK k n hn ho)
  · exact iS h n hn _ b z hpp.symm QZ (λW k=>BL k n hn C hN ho)
  · exact iS h n hn _ b z hpp.symm QZ (λW k=>BM k (hb' rfl rfl) n ho)
  · exact iS h n hn _ b z hpp.symm QZ (λW k=>yy k n hn ho)
  · exact iS h n hn _ b z hpp.symm QZ (λW k=>yz k n hn C ho)
end
end
section
open Go
section
variable{c:CoC}{n N:Nat}{ml:Nat->Nat}{x:Nu}{B:Int}
theorem kW{p:Sp}(h:¬(p.a=1/\(p.pc=2\/p.pc=10\/p.pc=11))):fk p=false:=decide_eq_false h
theorem C9{p:Sp}(h:p.a=1/\(p.pc=2\/p.pc=10\/p.pc=11)):fk p=true:=decide_eq_true h
theorem RsI.ask (h:RsI c n N ml x)(y:cp c n N ml){i:Nat}(hi:i<n)(r:Bool):RsI c n N ml (cy c x i r):=by
 unfold cy;split
 ·rename_i h0;have hk:=h.k i hi;have ht:(sv x.st.T i).pc=0:=by unfold iE at hk;omega
  have hb:fk (sv x.U i)=false:=kW QX;split;·exact h.upd (p':=⟨1,1,0,0⟩) hi h.m (λ_ _=>rfl) (.inr (.inl ⟨rfl,.inl rfl,ht⟩)) (dC h hi Ry (λ_ _=>rfl)) (λj hj _ hw=>h.fl j hj hw) (λhw=>by unfold gy at hw;simp at hw) (λ_ _=>Int.le_refl _) (λhr=>by unfold dx at hr;simp at hr) (λ_ _ _ _ _=>rfl) (λe=>by simp at e) (λe=>by simp at e)
  ·have hm:=h.m.ask y hi;have hs:=gq c x.st i;have hT:=(gZ (c:=c) (j:=i) h.m.v hi).2 ht;exact h.upd (p':=⟨7,0,0,0⟩) hi hm (λj hj=>(gZ (c:=c) h.m.v hi).1 hj) (.inr (.inr (.inl ⟨rfl,rfl,by omega,by omega⟩))) (by rw[hs];exact dC h hi Ry (λ_ _=>rfl)) (λj hj _ hw=>by rw[hs];exact h.fl j hj hw) (λhw=>by unfold gy at hw;simp at hw) (λa _=>by rw[hs];exact Int.le_refl _) (λhr=>by unfold dx at hr;simp at hr) (λ_ _ _ _ _=>rfl) (λ_ e=>by simp at e) (λ_ e=>by simp at e)
 ·exact h
theorem RsI.leave (h:RsI c n N ml x){i:Nat}(hi:i<n):RsI c n N ml (aJ x i):=by
 unfold aJ;split
 ·rename_i h10;have hk:=h.k i hi;obtain⟨p,hp⟩:∃p,p=sv x.U i:=⟨_,rfl⟩;have hw0:=h.fl i hi;rw[<-hp]at hk h10 hw0 ⊢;have hcase:(p.a=1/\(sv x.st.T i).pc=0)\/(p.a=0/\(sv x.st.T i).pc=10):=by unfold iE at hk;omega
  obtain⟨pc,u,b,z⟩:=p;simp only at h10 hcase;subst h10;rcases hcase with⟨rfl,ht⟩|⟨rfl,ht⟩
  ·exact h.upd (p':=⟨11,1,b,z⟩) hi h.m (λ_ _=>rfl) (.inr (.inl ⟨rfl,.inr (.inr (.inr rfl)),ht⟩)) (dC h hi Q7 (λ_ _=>rfl)) (λj hj _ hw=>h.fl j hj hw) (λhw=>by unfold gy at hw;simp at hw) (λ_ _=>Int.le_refl _) (λhr=> .inl (by rw[<-hp];exact⟨rfl,.inl rfl⟩)) (λ_ _ _ _ _=>rfl) (λe=>by simp at e) (λe=>by simp at e)
  ·exact h.upd (p':=⟨12,0,b,z⟩) hi h.m (λ_ _=>rfl) (.inr (.inr (.inr (.inl ⟨rfl,.inr (.inr (.inr (.inr (.inr rfl)))),ht⟩)))) (dC h hi Q7 (λ_ _=>rfl)) (λj hj _ hw=>h.fl j hj hw) (λ_=>hw0 ⟨rfl,.inr (.inr (.inl rfl))⟩) (λ_ _=>Int.le_refl _) (λhr=>by unfold dx at hr;simp at hr) (λ_ _ _ _ _=>rfl) (λ_ e=>by simp at e) (λ_ e=>by simp at e)
 ·exact h
theorem km {P Q:Prop} (q:Q) (h:Kq Q->P:=by
    intro q_
    have hn:=(y.nd i hi).1
    have hnn:∀j,j<n->c.node j<N:=λj hj=>(y.nd j hj).1
    have hk:=h.k i hi
    have hw0:=h.fl i hi
    have hdr:=h.dr i hi
    have oth:(sv x.st.T i).pc=10->∀j,j<n->j≠i->¬gy (sv x.U j):=λht j hj e hw=>e (h.one y hj hi (Hj (h.k j hj) hw) ht)
    have oth9:(sv x.st.T i).pc=10->∀j,j<n->j≠i->(sv x.U j).a=0->(sv x.U j).pc=9->False:=λht j hj e h0 h9=>oth ht j hj e ⟨h0,.inr (.inl h9)⟩
    have bA:=hB.w.ld QX (gaA (c.node i))
    have bW:=hB.w.ld QX (gaW (c.node i))
    have wA:IntKind.i64.wrap (ldW x.st.s.W (gaA (c.node i))+1)=ldW x.st.s.W (gaA (c.node i))+1:=IntWalk.i64_in _ QX
    have wW:IntKind.i64.wrap (ldW x.st.s.W (gaW (c.node i))+1)=ldW x.st.s.W (gaW (c.node i))+1:=IntWalk.i64_in _ QX
    have lA:=qA h y l (z:=gaA (c.node i)) ⟨(eH hn).1,by have:=(eH hn).2;omega⟩ (ldW x.st.s.W (gaA (c.node i))+1) (s':=addA x.st.s (gaA (c.node i)) 1) (by rw[dR,wA])
    have lW:=qA h y l (z:=gaW (c.node i)) ⟨(bB hn).1,by have:=(bB hn).2;omega⟩ (ldW x.st.s.W (gaW (c.node i))+1) (s':=addA x.st.s (gaW (c.node i)) 1) (by rw[dR,wW])
    have lF:=λv=>qA h y l (z:=nuFl N) ⟨by unfold nuFl;omega,Int.le_refl _⟩ v (s':=ac x.st.s (nuFl N) v) (aw _ _ _)
    have fA:ldW (addA x.st.s (gaA (c.node i)) 1).W (nuFl N)=ldW x.st.s.W (nuFl N):=by rw[lA.1,if_neg (by have:=(eH hn).2;omega)]
    have fW:ldW (addA x.st.s (gaW (c.node i)) 1).W (nuFl N)=ldW x.st.s.W (nuFl N):=by rw[lW.1,if_neg (by have:=(bB hn).2;omega)]
    have HA:∀a,a<N->ldW x.st.s.W (gaW a)<=ldW (addA x.st.s (gaA (c.node i)) 1).W (gaW a):=λa _=>by rw[lA.1,if_neg (by unfold gaA gaW;omega)];exact Int.le_refl _
    have HW:∀a,a<N->ldW x.st.s.W (gaW a)<=ldW (addA x.st.s (gaW (c.node i)) 1).W (gaW a):=λa _=>by
      exact Kf
    have HF:∀v a,a<N->ldW x.st.s.W (gaW a)<=ldW (ac x.st.s (nuFl N) v).W (gaW a):=λv a ha=>by rw[(lF v).1,if_neg Q9];exact Int.le_refl _
    have SF:∀v q,q<nuFl N->ldW (ac x.st.s (nuFl N) v).W q=ldW x.st.s.W q:=λv q hq=>by rw[(lF v).1,if_neg QX]
    have mS:=h.m.step y hB QX QX hi
    have lS:=h.m.stepLow y hB QX QX hi
    have lS':∀q,q<=nuFl N->ldW (ak c x.st i).s.W q=ldW x.st.s.W q:=λq hq=>lS q Sa
    have tS:∀j,j≠i->sv (ak c x.st i).T j=sv x.st.T j:=λj hj=>ni h.m.v hi hj
    have aS:=ly h.m.v hi
    unfold a8
    rw[<-hp]
    rw[<-hp]at hk hw0 hdr
    rw[if_neg QY]
    revert hn hnn hk hw0 hdr oth oth9 bA bW wA wW lA lW lF fA fW HA HW HF SF mS lS lS' tS aS
    exact q_.o):P:=h ⟨q⟩
theorem RsI.s1 (h:RsI c n N ml x)(y:cp c n N ml)(l:NuL c N x.st.s.W)(hB:CoB c B x.st)(hB0:40<=B)(hB1:B<=1000000000000){i:Nat}(hi:i<n)(b z:Int)(hp:(⟨1,1,b,z⟩:Sp)=sv x.U i)(ht:(sv x.st.T i).pc=0):RsI c n N ml (a8 c N x i):=by refine km ?_;intro hn hnn hk hw0 hdr oth oth9 bA bW wA wW lA lW lF fA fW HA HW HF SF mS lS lS' tS aS;show RsI c n N ml ⟨onA x.st (addA x.st.s (gaA (c.node i)) 1),x.d,x.U.set i ⟨2,1,b,z⟩⟩;exact h.upd (p':=⟨2,1,b,z⟩) hi lA.2 (λ_ _=>rfl) (.inr (.inl ⟨rfl,.inr (.inl rfl),ht⟩)) (FV h hnn hi Q7 rfl lA.1) (λj hj _ hw=>by rw[show ldW (onA x.st (addA x.st.s (gaA (c.node i)) 1)).s.W (nuFl N)=_ from fA];exact h.fl j hj hw) (λhw=>by unfold gy at hw;simp at hw) HA (λhr=>by unfold dx at hr;simp at hr) (λ_ _ _ _ _=>rfl) (λe=>by simp at e) (λe=>by simp at e)
theorem RsI.s2 (h:RsI c n N ml x)(y:cp c n N ml)(l:NuL c N x.st.s.W)(hB:CoB c B x.st)(hB0:40<=B)(hB1:B<=1000000000000){i:Nat}(hi:i<n)(b z:Int)(hp:(⟨2,1,b,z⟩:Sp)=sv x.U i)(ht:(sv x.st.T i).pc=0):RsI c n N ml (a8 c N x i):=by
 refine km ?_;intro hn hnn hk hw0 hdr oth oth9 bA bW wA wW lA lW lF fA fW HA HW HF SF mS lS lS' tS aS;have e:(ae x.st.s (nuFl N)).W=x.st.s.W:=aM _ _;show RsI c n N ml ⟨onA x.st (ae x.st.s (nuFl N)),x.d,x.U.set i ⟨if ldW x.st.s.W (nuFl N)=0 then 10 else 2,1,b,z⟩⟩;by_cases hf0:ldW x.st.s.W (nuFl N)=0;·rw[if_pos hf0];exact h.upd (p':=⟨10,1,b,z⟩) hi (mJ h y e) (λ_ _=>rfl) (.inr (.inl ⟨rfl,.inr (.inr (.inl rfl)),ht⟩)) (dC h hi Q7 (λq _=>by show ldW (ae _ _).W q=_;rw[e])) (λj hj _ hw=>by show ldW (ae _ _).W _≠0;rw[e];exact h.fl j hj hw) (λhw=>by unfold gy at hw;simp at hw) (λa _=>by show _<=ldW (ae _ _).W _;rw[e];exact Int.le_refl _) (λ_=> .inr (λj hj _ hw=>h.fl j hj hw hf0)) (λ_ _ _ _ _=>rfl) (λe=>by simp at e) (λe=>by simp at e)
 ·rw[if_neg hf0];exact h.upd (p':=⟨2,1,b,z⟩) hi (mJ h y e) (λ_ _=>rfl) (.inr (.inl ⟨rfl,.inr (.inl rfl),ht⟩)) (dC h hi Rd (λq _=>by show ldW (ae _ _).W q=_;rw[e])) (λj hj _ hw=>by show ldW (ae _ _).W _≠0;rw[e];exact h.fl j hj hw) (λhw=>by unfold gy at hw;simp at hw) (λa _=>by show _<=ldW (ae _ _).W _;rw[e];exact Int.le_refl _) (λhr=>by unfold dx at hr;simp at hr) (λ_ _ _ _ _=>rfl) (λe=>by simp at e) (λe=>by simp at e)
theorem RsI.s11 (h:RsI c n N ml x)(y:cp c n N ml)(l:NuL c N x.st.s.W)(hB:CoB c B x.st)(hB0:40<=B)(hB1:B<=1000000000000){i:Nat}(hi:i<n)(b z:Int)(hp:(⟨11,1,b,z⟩:Sp)=sv x.U i)(ht:(sv x.st.T i).pc=0):RsI c n N ml (a8 c N x i):=by refine km ?_;intro hn hnn hk hw0 hdr oth oth9 bA bW wA wW lA lW lF fA fW HA HW HF SF mS lS lS' tS aS;show RsI c n N ml ⟨onA x.st (addA x.st.s (gaW (c.node i)) 1),x.d,x.U.set i ⟨0,1,b,z⟩⟩;exact h.upd (p':=⟨0,1,b,z⟩) hi lW.2 (λ_ _=>rfl) (.inl ⟨rfl,ht⟩) (Ex h hnn hi Q7 rfl lW.1) (λj hj _ hw=>by rw[show ldW (onA x.st (addA x.st.s (gaW (c.node i)) 1)).s.W (nuFl N)=_ from fW];exact h.fl j hj hw) (λhw=>by unfold gy at hw;simp at hw) HW (λhr=>by unfold dx at hr;simp at hr) (λ_ _ _ _ _=>rfl) (λe=>by simp at e) (λe=>by simp at e)
theorem RsI.s7 (h:RsI c n N ml x)(y:cp c n N ml)(l:NuL c N x.st.s.W)(hB:CoB c B x.st)(hB0:40<=B)(hB1:B<=1000000000000){i:Nat}(hi:i<n)(b z:Int)(hp:(⟨7,0,b,z⟩:Sp)=sv x.U i)(ht:0<(sv x.st.T i).pc/\(sv x.st.T i).pc<10):RsI c n N ml (a8 c N x i):=by
 refine km ?_;intro hn hnn hk hw0 hdr oth oth9 bA bW wA wW lA lW lF fA fW HA HW HF SF mS lS lS' tS aS;have a1:=aS.1 ht;show RsI c n N ml ⟨ak c x.st i,x.d,x.U.set i ⟨if bf (sv x.st.T i) (sv (ak c x.st i).T i)then 8 else 7,0,b,z⟩⟩;rw[a1.2];by_cases e10:(sv (ak c x.st i).T i).pc=10;·rw[decide_eq_true e10];exact h.upd (p':=⟨8,0,b,z⟩) hi mS tS (.inr (.inr (.inr (.inl ⟨rfl,.inr (.inr (.inl rfl)),by omega⟩)))) (dC h hi Q7 (λq hq=>lS' q QX)) (λj hj _ hw=>by rw[lS' _ (Int.le_refl _)];exact h.fl j hj hw) (λhw=>by unfold gy at hw;simp at hw) (λa ha=>by rw[lS' _ Q9];exact Int.le_refl _) (λhr=>by unfold dx at hr;simp at hr) (λ_ _ _ _ _=>rfl) (λ_ e=>by simp at e) (λ_ e=>by simp at e)
 ·rw[decide_eq_false e10];have a2:=a1.1;exact h.upd (p':=⟨7,0,b,z⟩) hi mS tS (.inr (.inr (.inl ⟨rfl,rfl,by omega,by omega⟩))) (dC h hi Rd (λq hq=>lS' q QX)) (λj hj _ hw=>by rw[lS' _ (Int.le_refl _)];exact h.fl j hj hw) (λhw=>by unfold gy at hw;simp at hw) (λa ha=>by rw[lS' _ Q9];exact Int.le_refl _) (λhr=>by unfold dx at hr;simp at hr) (λ_ _ _ _ _=>rfl) (λ_ e=>by simp at e) (λ_ e=>by simp at e)
theorem RsI.s5 (h:RsI c n N ml x)(y:cp c n N ml)(l:NuL c N x.st.s.W)(hB:CoB c B x.st)(hB0:40<=B)(hB1:B<=1000000000000){i:Nat}(hi:i<n)(b z:Int)(hp:(⟨5,0,b,z⟩:Sp)=sv x.U i)(ht:(sv x.st.T i).pc=10):RsI c n N ml (a8 c N x i):=by refine km ?_;intro hn hnn hk hw0 hdr oth oth9 bA bW wA wW lA lW lF fA fW HA HW HF SF mS lS lS' tS aS;show RsI c n N ml ⟨onA x.st (ac x.st.s (nuFl N) 0),dM x.d N false,x.U.set i ⟨6,0,b,z⟩⟩;exact h.upd (p':=⟨6,0,b,z⟩) hi (lF 0).2 (λ_ _=>rfl) (.inr (.inr (.inr (.inl ⟨rfl,.inr (.inl rfl),ht⟩)))) (dC h hi Q7 (SF 0)) (λj hj e hw=>absurd hw (oth ht j hj e)) (λhw=>by unfold gy at hw;simp at hw) (HF 0) (λhr=>by unfold dx at hr;simp at hr) (λj hj e h0 h9=>(oth9 ht j hj e h0 h9).elim) (λ_ e=>by simp at e) (λ_ e=>by simp at e)
theorem RsI.s6 (h:RsI c n N ml x)(y:cp c n N ml)(l:NuL c N x.st.s.W)(hB:CoB c B x.st)(hB0:40<=B)(hB1:B<=1000000000000){i:Nat}(hi:i<n)(b z:Int)(hp:(⟨6,0,b,z⟩:Sp)=sv x.U i)(ht:(sv x.st.T i).pc=10):RsI c n N ml (a8 c N x i):=by
 refine km ?_;intro hn hnn hk hw0 hdr oth oth9 bA bW wA wW lA lW lF fA fW HA HW HF SF mS lS lS' tS aS;have hW:=gJ x.st.s x.d;have go:∀(pc':Int) (d':Dr),(pc'=6\/pc'=8)->RsI c n N ml ⟨onA x.st (ah x.st.s x.d).1,d',x.U.set i ⟨pc',0,b,z⟩⟩:=λpc' d' hpc=>by refine h.upd (p':=⟨pc',0,b,z⟩) hi (mJ h y hW) (λ_ _=>rfl) (by rcases hpc with rfl|rfl;exact .inr (.inr (.inr (.inl ⟨rfl,.inr (.inl rfl),ht⟩)));exact .inr (.inr (.inr (.inl ⟨rfl,.inr (.inr (.inl rfl)),ht⟩)))) (dC h hi ?_ (λq _=>by show ldW (ah _ _).1.W q=_;rw[hW])) (λj hj _ hw=>by show ldW (ah _ _).1.W _≠0;rw[hW];exact h.fl j hj hw) (λhw=>by unfold gy at hw;simp only at hw;omega) (λa _=>by show _<=ldW (ah _ _).1.W _;rw[hW];exact Int.le_refl _) (λhr=>by unfold dx at hr;simp at hr) (λj hj e h0 h9=>(oth9 ht j hj e h0 h9).elim) (λ_ e=>by simp only at e;omega) (λ_ e=>by simp only at e;omega);rw[<-hp,kW QY,kW QY]
 show RsI c n N ml ⟨onA x.st (ah x.st.s x.d).1,(ah x.st.s x.d).2.1,x.U.set i ⟨if (ah x.st.s x.d).2.2=false then 6 else 8,0,b,z⟩⟩;exact go _ _ (by split<;>omega)
theorem RsI.s8 (h:RsI c n N ml x)(y:cp c n N ml)(l:NuL c N x.st.s.W)(hB:CoB c B x.st)(hB0:40<=B)(hB1:B<=1000000000000){i:Nat}(hi:i<n)(b z:Int)(hp:(⟨8,0,b,z⟩:Sp)=sv x.U i)(ht:(sv x.st.T i).pc=10):RsI c n N ml (a8 c N x i):=by
 refine km ?_;intro hn hnn hk hw0 hdr oth oth9 bA bW wA wW lA lW lF fA fW HA HW HF SF mS lS lS' tS aS;show RsI c n N ml ⟨onA x.st (ac x.st.s (nuFl N) 1),dM x.d N true,x.U.set i ⟨9,0,b,z⟩⟩;have hN:1<=N:=by omega
 refine h.upd (p':=⟨9,0,b,z⟩) hi (lF 1).2 (λ_ _=>rfl) (.inr (.inr (.inr (.inl ⟨rfl,.inr (.inr (.inr (.inl rfl))),ht⟩)))) (dC h hi Q7 (SF 1)) (λj hj e hw=>absurd hw (oth ht j hj e)) (λ_=>by show ldW (ac _ _ _).W _≠0;rw[(lF 1).1,if_pos rfl];decide) (HF 1) (λhr=>by unfold dx at hr;simp at hr) (λj hj e h0 h9=>(oth9 ht j hj e h0 h9).elim) (λ_ _=>?_) (λ_ e=>by simp at e);exact Kg
theorem RsI.s9 (h:RsI c n N ml x)(y:cp c n N ml)(l:NuL c N x.st.s.W)(hB:CoB c B x.st)(hB0:40<=B)(hB1:B<=1000000000000){i:Nat}(hi:i<n)(b z:Int)(hp:(⟨9,0,b,z⟩:Sp)=sv x.U i)(ht:(sv x.st.T i).pc=10):RsI c n N ml (a8 c N x i):=by
 refine km ?_;intro hn hnn hk hw0 hdr oth oth9 bA bW wA wW lA lW lF fA fW HA HW HF SF mS lS lS' tS aS;obtain⟨⟨q1,q2,q3,q4⟩,q5,q6⟩:=hdr rfl rfl;have hfl:=hw0 ⟨rfl,.inr (.inl rfl)⟩;have hW:=gJ x.st.s x.d;have hs:=svS (show i<x.U.length by rw[h.lU];exact hi)
 have nr:∀pc' j,dx (sv (x.U.set i ⟨pc',0,b,z⟩) j)->j≠i/\dx (sv x.U j):=λpc' j hr=>by
  rw[hs]at hr;split at hr;·unfold dx at hr;simp at hr
  ·rename_i e;exact⟨e,hr⟩
 have go:∀(pc':Int) (d':Dr),(pc'=9\/pc'=10\/pc'=5)->(pc'=9->yJ c n N d' x.st.s.W (x.U.set i ⟨pc',0,b,z⟩))->(pc'=10->∀j,j<n->j≠i->¬dx (sv x.U j))->RsI c n N ml ⟨onA x.st (ah x.st.s x.d).1,d',x.U.set i ⟨pc',0,b,z⟩⟩:=λpc' d' hpc o9 o10=>by
  refine h.upd (p':=⟨pc',0,b,z⟩) hi (mJ h y hW) (λ_ _=>rfl) (by rcases hpc with rfl|rfl|rfl;exact .inr (.inr (.inr (.inl ⟨rfl,.inr (.inr (.inr (.inl rfl))),ht⟩)));exact .inr (.inr (.inr (.inl ⟨rfl,.inr (.inr (.inr (.inr (.inl rfl)))),ht⟩)));exact .inr (.inr (.inr (.inl ⟨rfl,.inl rfl,ht⟩)))) (dC h hi ?_ (λq _=>by show ldW (ah _ _).1.W q=_;rw[hW])) (λj hj _ hw=>by show ldW (ah _ _).1.W _≠0;rw[hW];exact h.fl j hj hw) (λ_=>by show ldW (ah _ _).1.W _≠0;rw[hW];exact hfl) (λa _=>by show _<=ldW (ah _ _).1.W _;rw[hW];exact Int.le_refl _) (λhr=>by unfold dx at hr;simp at hr) (λj hj e h0 h9=>(oth9 ht j hj e h0 h9).elim) (λ_ h9=>?_) (λ_ h10=>o10 h10);·rw[<-hp,kW QY,kW QY]
  ·show yJ c n N d' (ah _ _).1.W _;rw[hW];exact o9 h9
 show RsI c n N ml ⟨onA x.st (ah x.st.s x.d).1,(ah x.st.s x.d).2.1,x.U.set i ⟨if (ah x.st.s x.d).2.2=false then 9 else if (9:Int)=6 then 8 else if (ah x.st.s x.d).2.1.clear=true then 10 else 5,0,b,z⟩⟩;by_cases hsec:x.d.second=true
 ·have e1:ah x.st.s x.d=(ae x.st.s (gaA x.d.at_),dL x.st.s x.d):=by unfold ah;rw[q1,hsec];rfl
  have e2:(ah x.st.s x.d).2=dL x.st.s x.d:=by rw[e1]
  rw[e2];unfold dL;by_cases hv:ldW x.st.s.W (gaA x.d.at_)=x.d.o
  ·rw[if_neg (by simpa using hv)];have hg:=h.g x.d.at_ q3;have hout:=q5 hsec;have hcz:gH c n x.U x.d.at_=0:=by omega
   have hno:∀j,j<n->dx (sv x.U j)->c.node j≠x.d.at_:=λj hj hr e=>by
    have:0<gH c n x.U x.d.at_:=jn (P:=λj=>decide (c.node j=x.d.at_)&&fk (sv x.U j)) hj (by
     simp only[Bool.and_eq_true,decide_eq_true_eq]
     exact⟨e,C9 ⟨hr.1,.inr hr.2⟩⟩)
    omega
   by_cases hend:x.d.at_+1=x.d.lim;·rw[if_pos hend];refine go 10 _ QX (λe=>by simp at e) (λ_ j hj e hr=>?_);have h1:=q6 j hj hr;have h2:=hno j hj hr;have h3:=hnn j hj;omega
   ·rw[if_neg hend];refine go 9 _ QX (λ_=>⟨⟨q1,q2,by show x.d.at_+1<N;omega,q4⟩,λe=>by simp at e,λj hj hr=>?_⟩) (λe=>by simp at e);exact KP
  ·rw[if_pos hv,if_pos q2];exact go 5 _ QX (λe=>by simp at e) (λe=>by simp at e)
 ·have e1:ah x.st.s x.d=(ae x.st.s (gaW x.d.at_),{x.d with o:=ldW x.st.s.W (gaW x.d.at_),second:=true},false):=by unfold ah;rw[if_pos q1,if_neg hsec]
  have e2:(ah x.st.s x.d).2=({x.d with o:=ldW x.st.s.W (gaW x.d.at_),second:=true},false):=by rw[e1]
  rw[e2];exact go 9 _ QX (λ_=>⟨⟨q1,q2,q3,q4⟩,λ_=>Int.le_refl _,λj hj hr=>q6 j hj (nr 9 j hr).2⟩) (λe=>by simp at e)
theorem RsI.s12 (h:RsI c n N ml x)(y:cp c n N ml)(l:NuL c N x.st.s.W)(hB:CoB c B x.st)(hB0:40<=B)(hB1:B<=1000000000000){i:Nat}(hi:i<n)(b z:Int)(hp:(⟨12,0,b,z⟩:Sp)=sv x.U i)(ht:(sv x.st.T i).pc=10):RsI c n N ml (a8 c N x i):=by
 refine km ?_;intro hn hnn hk hw0 hdr oth oth9 bA bW wA wW lA lW lF fA fW HA HW HF SF mS lS lS' tS aS;show RsI c n N ml ⟨ay (onA x.st (ac x.st.s (nuFl N) 0)) i,x.d,x.U.set i ⟨13,0,b,z⟩⟩;have hm:=(lF 0).2.leave y hi;have hs:=fu (onA x.st (ac x.st.s (nuFl N) 0)) i;have hT':(sv (ay (onA x.st (ac x.st.s (nuFl N) 0)) i).T i).pc=11:=(eM (st:=onA x.st (ac x.st.s (nuFl N) 0)) (j:=i) (lF 0).2.v hi).2 ht;refine h.upd (p':=⟨13,0,b,z⟩) hi hm (λj hj=>(eM (st:=onA x.st (ac x.st.s (nuFl N) 0)) (lF 0).2.v hi).1 hj) (.inr (.inr (.inr (.inr ⟨rfl,rfl,by omega⟩)))) ?_ (λj hj e hw=>absurd hw (oth ht j hj e)) (λhw=>by unfold gy at hw;simp at hw) (λa ha=>?_) (λhr=>by unfold dx at hr;simp at hr) (λ_ _ _ _ _=>rfl) (λ_ e=>by simp at e) (λ_ e=>by simp at e);·show ∀a,a<N->ldW (ay _ i).s.W _=_;rw[hs];exact dC h hi Q7 (SF 0)
 ·show _<=ldW (ay _ i).s.W _;rw[hs];exact HF 0 a ha
theorem RsI.s13 (h:RsI c n N ml x)(y:cp c n N ml)(l:NuL c N x.st.s.W)(hB:CoB c B x.st)(hB0:40<=B)(hB1:B<=1000000000000){i:Nat}(hi:i<n)(b z:Int)(hp:(⟨13,0,b,z⟩:Sp)=sv x.U i)(ht:10<(sv x.st.T i).pc):RsI c n N ml (a8 c N x i):=by
 refine km ?_;intro hn hnn hk hw0 hdr oth oth9 bA bW wA wW lA lW lF fA fW HA HW HF SF mS lS lS' tS aS;have a1:=aS.2 ht;show RsI c n N ml ⟨ak c x.st i,x.d,x.U.set i ⟨if bf (sv x.st.T i) (sv (ak c x.st i).T i)then 0 else 13,0,b,z⟩⟩;rw[a1.2];by_cases e10:(sv (ak c x.st i).T i).pc=0;·rw[decide_eq_true e10];exact h.upd (p':=⟨0,0,b,z⟩) hi mS tS (.inl ⟨rfl,by omega⟩) (dC h hi Q7 (λq hq=>lS' q QX)) (λj hj _ hw=>by rw[lS' _ (Int.le_refl _)];exact h.fl j hj hw) (λhw=>by unfold gy at hw;simp at hw) (λa ha=>by rw[lS' _ Q9];exact Int.le_refl _) (λhr=>by unfold dx at hr;simp at hr) (λ_ _ _ _ _=>rfl) (λ_ e=>by simp at e) (λ_ e=>by simp at e)
 ·rw[decide_eq_false e10];have a2:=a1.1;exact h.upd (p':=⟨13,0,b,z⟩) hi mS tS (.inr (.inr (.inr (.inr ⟨rfl,rfl,by omega⟩)))) (dC h hi Rd (λq hq=>lS' q QX)) (λj hj _ hw=>by rw[lS' _ (Int.le_refl _)];exact h.fl j hj hw) (λhw=>by unfold gy at hw;simp at hw) (λa ha=>by rw[lS' _ Q9];exact Int.le_refl _) (λhr=>by unfold dx at hr;simp at hr) (λ_ _ _ _ _=>rfl) (λ_ e=>by simp at e) (λ_ e=>by simp at e)
theorem RsI.step (h:RsI c n N ml x)(y:cp c n N ml)(l:NuL c N x.st.s.W)(hB:CoB c B x.st)(hB0:40<=B)(hB1:B<=1000000000000){i:Nat}(hi:i<n):RsI c n N ml (a8 c N x i):=by
 have hk:=h.k i hi;obtain⟨p,hp⟩:∃p,p=sv x.U i:=⟨_,rfl⟩;rw[<-hp]at hk;by_cases hne:p.pc=0\/p.pc=10;·unfold a8;rw[<-hp,if_pos hne];exact h
 unfold iE at hk;obtain⟨pc,u,b,z⟩:=p;simp only at hk hne;rcases hk with⟨q1,q2⟩|⟨rfl,q2,q3⟩|⟨rfl,rfl,q3⟩|⟨rfl,q2,q3⟩|⟨rfl,rfl,q3⟩
 ·exact absurd (.inl q1) hne
 ·rcases q2 with rfl|rfl|rfl|rfl
  ·exact h.s1 y l hB hB0 hB1 hi b z hp q3
  ·exact h.s2 y l hB hB0 hB1 hi b z hp q3
  ·exact absurd (.inr rfl) hne
  ·exact h.s11 y l hB hB0 hB1 hi b z hp q3
 ·exact h.s7 y l hB hB0 hB1 hi b z hp q3
 ·rcases q2 with rfl|rfl|rfl|rfl|rfl|rfl
  ·exact h.s5 y l hB hB0 hB1 hi b z hp q3
  ·exact h.s6 y l hB hB0 hB1 hi b z hp q3
  ·exact h.s8 y l hB hB0 hB1 hi b z hp q3
  ·exact h.s9 y l hB hB0 hB1 hi b z hp q3
  ·exact absurd (.inr rfl) hne
  ·exact h.s12 y l hB hB0 hB1 hi b z hp q3
 ·exact h.s13 y l hB hB0 hB1 hi b z hp q3
end
end
section
open Go Go.RowKit
section
variable{c:CoC}{n N L:Nat}{ml:Nat->Nat}{x:Nu}{st:Co}{B:Int}{o:Nat}
theorem ye (h:bH c n L B o x.st)(k:kB c n N L)(hB:40<=B)(hB2:B<=1000000000000){i:Nat}(hi:i<n)(p:Sp):bH c n L (B+4) (o+1) (fE c N x i p).1:=by
 have hadd:∀z,bH c n L (B+2) (o+1) (onA x.st (addA x.st.s z 1)):=λz=>h.on QX (h.bd.w.add1 QX QX z) (kQ _ _ _);have hld:∀z,bH c n L (B+2) (o+1) (onA x.st (ae x.st.s z)):=λz=>h.on QX ((h.bd.w.mono QX).load _) (fX _ _);have hst:∀z v,0<=v/\v<=1->bH c n L (B+2) (o+1) (onA x.st (ac x.st.s z v)):=λz v hv=>h.on QX ((h.bd.w.mono QX).store z v QX) (iJ _ _ _);have hask:∀{st'},bH c n L (B+2) (o+1) st'->bH c n L (B+4) (o+1) (bD c st' i):=λ{st'} q=>by exact Kh
 have hlv:∀{st'},bH c n L (B+2) (o+1) st'->bH c n L (B+4) (o+1) (ay st' i):=λ{st'} q=>by exact Ki
 have hdr:bH c n L (B+4) (o+1) (onA x.st (ah x.st.s x.d).1):=h.on QX ((h.bd.w.mono QX).same (gJ _ _)) (uq _ _);unfold fE;split
 ·split;·exact Kj
  split;·exact(hld _).mono QX
  ·exact Kj
 split;·exact Kl
 split;·exact hlv (hst _ _ QX)
 split;·exact Kl
 split;·exact Kk
 split;·exact Kk
 ·exact hdr
theorem yf (h:bH c n L B o x.st)(k:kB c n N L)(hB:40<=B)(hB2:B<=1000000000000){i:Nat}(hi:i<n):bH c n L (B+4) (o+1) (a8 c N x i).st:=by
 unfold a8;split;·exact h.up QX QX
 ·exact ye h k hB hB2 hi _
structure RsS (c:CoC)(n N L:Nat)(ml:Nat->Nat)(B:Int)(x:Nu):Prop where
 i:RsI c n N ml x
 ok:bH c n L B x.st.s.ops x.st
 dok:x.d.busy=true->x.d.at_<N/\x.d.lim=N
theorem Cq{d:Dr}{N:Nat}(h:1<=N)(b:Bool):(dM d N b).busy=true->(dM d N b).at_<N/\(dM d N b).lim=N:=λ_=>⟨h,rfl⟩
theorem zB{d:Dr}{N:Nat}{s:Ar}(h:d.busy=true->d.at_<N/\d.lim=N):(ah s d).2.1.busy=true->(ah s d).2.1.at_<N/\(ah s d).2.1.lim=N:=by
 unfold ah;split
 ·rename_i hb;have:=h hb;split
  ·show(dL s d).1.busy=true->(dL s d).1.at_<N/\(dL s d).1.lim=N;unfold dL;split
   ·split;·intro e;simp at e
    ·intro _;exact this
   ·split;·intro e;simp at e
    ·intro _;simp only;omega
  ·intro _;exact this
 ·exact h
theorem zA{c:CoC}{x:Nu}(h:x.d.busy=true->x.d.at_<N/\x.d.lim=N)(hN:1<=N)(i:Nat)(p:Sp):(fE c N x i p).2.1.busy=true->(fE c N x i p).2.1.at_<N/\(fE c N x i p).2.1.lim=N:=by unfold fE;(repeat' split)<;>first|exact h|exact Cq hN _|exact zB h
theorem Em{c:CoC}{x:Nu}(h:x.d.busy=true->x.d.at_<N/\x.d.lim=N)(hN:1<=N)(i:Nat):(a8 c N x i).d.busy=true->(a8 c N x i).d.at_<N/\(a8 c N x i).d.lim=N:=by
 unfold a8;split;·exact h
 ·exact zA h hN _ _
theorem vY (c:CoC)(x:Nu)(i:Nat)(r:Bool):(cy c x i r).d=x.d:=by unfold cy;(repeat' split)<;>rfl
theorem xZ (x:Nu)(i:Nat):(aJ x i).d=x.d:=by unfold aJ;split<;>rfl
def rp (c:CoC)(N:Nat)(x:Nu)(kd i:Int):Nu:=
 if okI x.U i then if kd=0 then a8 c N x i.toNat else if kd=1 then cy c x i.toNat false else if kd=2 then aJ x i.toNat else if kd=3 then cy c x i.toNat true else x else x
theorem RsS.act (h:RsS c n N L ml B x) (k:NuK c n N L ml) (hB:40<=B) (hB2:B<=1000000000000) (kd i:Int):
    RsS c n N L ml (B+4) (rp c N x kd i)/\(rp c N x kd i).st.s.ops<=x.st.s.ops+1/\(kd≠0->(rp c N x kd i).st.s.ops=x.st.s.ops):=by
  have same:RsS c n N L ml (B+4) x:=⟨h.i,h.ok.mono QX,h.dok⟩;unfold rp;split
  · rename_i hok;have hi:i.toNat<n:=(by exact Km);split;· rename_i k0;have q:=yf h.ok k.w hB hB2 hi;refine⟨⟨h.i.step k.y ⟨k.tg,by rw[h.ok.len];exact k.len⟩ h.ok.bd hB hB2 hi,⟨q.bd,q.v,q.len,Nat.le_refl _⟩,Em h.dok k.N1 _⟩,q.ops,λe=>absurd k0 e⟩
    split;· have q:=kT h.ok k.w hB hi false;refine⟨⟨h.i.ask k.y hi false,by rw[q.2];exact q.1,by rw[vY];exact h.dok⟩,by rw[q.2];omega,λ_=>by rw[q.2]⟩
    split;· have e:=kz x i.toNat;refine⟨⟨h.i.leave hi,by rw[e];exact same.ok,by rw[xZ];exact h.dok⟩,by rw[e];omega,λ_=>by rw[e]⟩
    split;· have q:=kT h.ok k.w hB hi true;refine⟨⟨h.i.ask k.y hi true,by rw[q.2];exact q.1,by rw[vY];exact h.dok⟩,by rw[q.2];omega,λ_=>by rw[q.2]⟩
    · exact⟨same,by omega,λ_=>rfl⟩
  · exact⟨same,by omega,λ_=>rfl⟩
end
section
variable{kg kl par:Nat}{bud:Int}{P T:List Int}{s:Ar}
theorem Ig (hc:a5 P T=0) (hkg:1<=kg/\kg<=5) (hkl:1<=kl/\kl<=5) (hp:1<=par/\par<=4) (hs:s.W=[]):
    RsS (eV kg kl par bud P T (smA s (ab P).length)) T.length (ab P).length (bz kg kl par P T (smA s (ab P).length)).s.W.length (mtQ P T) 40 ⟨bz kg kl par P T (smA s (ab P).length),dr0,List.replicate T.length Sp.zero⟩/\(bz kg kl par P T (smA s (ab P).length)).s.ops<=s.ops+40:=by
  have hz:=wu hs (ab P).length;have h40:WdB 40 (smA s (ab P).length):=hz.1.mono QX;have hok:=nY (kg:=kg) (kl:=kl) (par:=par) (bud:=bud) hc h40;have hw:∀y:Int,y<=((smA s (ab P).length).W.length:Int)->ldW (bz kg kl par P T (smA s (ab P).length)).s.W y=0:=λy hy=>by exact Kn
  have hsv:∀i,sv (List.replicate T.length Sp.zero) i=Sp.zero:=svR _;refine⟨⟨⟨vO hc hkg hkl hp h40,by simp,λi hi=> .inl ⟨?_,?_⟩,λa ha=>?_,λi hi hw=>?_,λi hi h0 h9=>?_,λi hi h0 h9=>?_⟩,⟨hok.bd,hok.v,hok.len,Nat.le_refl _⟩,λe=>by simp[dr0]at e⟩,hok.ops⟩;· show(sv (List.replicate T.length Sp.zero) i).pc=0;rw[hsv];rfl
  · show(sv (List.replicate T.length Sp.zero) i).pc=0;rw[hsv];rfl
  · have hc0:gH (eV kg kl par bud P T (smA s (ab P).length)) T.length (List.replicate T.length Sp.zero) a=0:=(by unfold gH i2;refine List.countP_eq_zero.2 (λj _=>?_);rw[hsv];simp[fk,Sp.zero]);show ldW _ _=ldW _ _+((gH _ _ (List.replicate T.length Sp.zero) a:Nat):Int);rw[hc0];have g1:=eH ha;have g2:=bB ha;unfold nuFl at g1 g2;have hl:=hz.2;rw[hw _ Rz,hw _ Rz];rfl
  · have hw':gy (sv (List.replicate T.length Sp.zero) i):=hw;rw[hsv]at hw';unfold gy Sp.zero at hw';simp at hw'
  · have h9':(sv (List.replicate T.length Sp.zero) i).pc=9:=h9;rw[hsv]at h9';simp[Sp.zero]at h9'
  · have h9':(sv (List.replicate T.length Sp.zero) i).pc=10:=h9;rw[hsv]at h9';simp[Sp.zero]at h9'
end
end
end Go.Proofs.YtglokdbiggbkjaaGreat
