/- Joined texts. -/
import Derived.Test.YtglokdbiggbkjaaGreatMgWorldTrace0
import Derived.Test.YtglokdbiggbkjaaGreatMgWorldTrace2
import Derived.Test.YtglokdbiggbkjaaGreatMgWorldTrace4
import Derived.Test.YtglokdbiggbkjaaGreatMgWorldTrace6
import Derived.Test.YtglokdbiggbkjaaGreatMgWorldTrace14
set_option linter.unusedVariables false
set_option linter.unusedSimpArgs false
set_option linter.defProp false
set_option maxRecDepth 100000
set_option maxHeartbeats 16000000
open Go.Proofs.Tryz
namespace Go.Proofs.YtglokdbiggbkjaaGreat
open Go.IntKind(i64)
open Go.Value(int bool slice agg tuple pointer)
open Go.Ending(returned)
open Go.Obj(cells)
variable{w:World}{a g gg N i:Nat}{u:Value}
section
open Go.RowKit
def gaC(a N:Nat):Array Value:=#[↑a,J 1,J N]
def BF{s:Ar}(h:aB w a g s)(N:Nat)(h1:1<=N)(O:N<=32)(hs:s.W=[])(V:s.room=4096):E 174 #[↑a,J N] w λe w'=>∃gg,e= returned (tuple #[pointer (some ⟨gg,0,none⟩),J 0])/\w.heap.size<=gg/\Blk w' gg 365 (gaC a N)/\aB w' a g (bD s (2*N))/\aa [a] w w':=by
  have H:=ni h (2*N) (by rw[hs,V];simp;omega);rw[hs]at H;have I:=qh H;have Y:IntKind.i64.wrap (2*(N:Int))=((2*N:Nat):Int):=by rw[IntWalk.i64_in _ ahy];omega
  have t1:¬(N:Int)<1:=by omega
  have t2:¬32<(N:Int):=by omega
  clear h hs V H;go_enter func174,ntmps174;go_wp2_with fail;refine Pi I.o λw1 H1=>?_;clear I;go_wp2;go_ret2;have s1:=H1.o.2.size;refine⟨w1.heap.size,by simp,s1,?_,H1.o.1.turns (S:=[]) ((aa.refl _ _).alloc _) ahz ahz,H1.o.2.alloc _⟩;have:=Blk.new w1 365 (gaC a N);simpa[gaC]using this
section
variable{s:Ar}
def D4(h:Blk w gg 365 (gaC a N)):E 383 #[↑gg] w λe w'=>e= returned (J N)/\w=w':=by have c2:Z w gg 2 (J N):=h.cell 2;clear h;go_enter func383,ntmps383;exact aab
def BE(h:Blk w gg 365 (gaC a N))(nd:Nat)(I:nd<N)(hN:N<=32):E 380 #[↑gg,J nd] w λe w'=>e= returned (J (2*(nd:Int)+1))/\w=w':=by
 have c1:Z w gg 1 (J 1):=h.cell 1;have H:=qh (D4 h);have t1:¬(nd:Int)<0:=by omega
 have t2:¬(N:Int)<=(nd:Int):=by omega
 have O:IntKind.i64.wrap (2*(nd:Int))=2*(nd:Int):=IntWalk.i64_in _ ahy;have V:IntKind.i64.wrap (1+2*(nd:Int))=2*(nd:Int)+1:=by rw[IntWalk.i64_in _ ahy];omega
 clear h;go_enter func380,ntmps380;go_wp2_with fail;refine LT H.o ?_;exact aab
def Fc(h:Blk w gg 365 (gaC a N))(V:aB w a g s)(nd:Nat)(hn:nd<N)(hN:N<=32)(k:Nat)(hk:k<=1)(Y:s.ops+1<=1000000000000):E 375 #[↑gg,J nd,J k] w λe w'=>e= returned (tuple #[])/\aB w' a g (addA s (2*(nd:Int)+1+k) 1)/\aa [a,g] w w':=by
 have c0:w.cell? gg=some ↑a:=h.cell 0;have I:=qh (BE h nd hn hN);have t1:(0:Int)<2*(nd:Int)+1:=by omega
 have x1:IntKind.i64.wrap (2*(nd:Int)+1+(k:Int))=2*(nd:Int)+1+(k:Int):=IntWalk.i64_in _ ahy;obtain⟨o,O⟩:∃o:Int,o=2*(nd:Int)+1:=⟨_,rfl⟩;rw[<-O]at I t1 x1 ⊢;have H:=qh (iq V (o+(k:Int)) 1 Y);clear h V O;go_enter func375,ntmps375;go_wp2_with fail;refine LT I.o ?_;go_wp2_with fail;refine Pi H.o λw1 H1=>?_;clear H;go_wp2;all_goals go_end0;exact⟨rfl,H1.o.1,H1.o.2⟩
def rl(h:Blk w gg 365 (gaC a N))(I:aB w a g s)(nd:Nat)(O:nd<N)(hN:N<=32)(Y:s.ops+1<=1000000000000):E 371 #[↑gg,J nd] w λe w'=>e= returned (tuple #[])/\aB w' a g (addA s (2*(nd:Int)+1) 1)/\aa [a,g] w w':=by have H:=Fc h I nd O hN 0 ahy Y;rw[show 2*(nd:Int)+1+((0:Nat):Int)=2*(nd:Int)+1 by omega]at H;have HA:=qh H;clear h I H;go_enter func371,ntmps371;exact abH
def rm(h:Blk w gg 365 (gaC a N))(I:aB w a g s)(nd:Nat)(O:nd<N)(hN:N<=32)(Y:s.ops+1<=1000000000000):E 372 #[↑gg,J nd] w λe w'=>e= returned (tuple #[])/\aB w' a g (addA s (2*(nd:Int)+1+1) 1)/\aa [a,g] w w':=by have H:=Fc h I nd O hN 1 ahy Y;rw[show 2*(nd:Int)+1+((1:Nat):Int)=2*(nd:Int)+1+1 by omega]at H;have HA:=qh H;clear h I H;go_enter func372,ntmps372;exact abH
def Im(h:aB w a g s):E 111 #[↑a] w λe w'=>e= returned (agg #[J s.k,J s.at_,.bool s.wr])/\Below w.heap.size w w':=by have c3:=h.c3;have c4:=h.c4;have c5:=h.c5;have H:=h.blk.lt;clear h;go_enter func111,ntmps111;go_wp2;exact bodyPost_ret (results_cell_row ahC _ _ w.heap.size 104 _ (0,0) _ ahC (heap_alloc_new w _) Tryz.underlying104 rfl ahB) rfl ⟨rfl,(Below.refl _ _).alloc (Nat.le_refl _) _⟩
end
end
section
open Go.RowKit
structure Dr where
 at_:Nat
 lim:Nat
 once:Bool
 busy:Bool
 second:Bool
 o:Int
 clear:Bool
def drC(gg:Nat)(d:Dr):Array Value:=#[↑gg,J (d.at_:Int),J (d.lim:Int),.bool d.once,.bool d.busy,.bool d.second,J d.o,.bool d.clear]
def gaA(n:Nat):Int:=2*(n:Int)+1
def gaW(n:Nat):Int:=2*(n:Int)+2
def dV(d:Dr)(N:Nat)(once:Bool):Dr:=⟨0,N,once,true,false,d.o,false⟩
def dT(s:Ar)(d:Dr):Dr×Bool:=
 if ldW s.W (gaA d.at_)≠d.o then if d.once then({d with second:=false,busy:=false,clear:=false},true)else({d with second:=false},false)
 else if d.at_+1=d.lim then({d with second:=false,at_:=d.at_+1,busy:=false,clear:=true},true)else({d with second:=false,at_:=d.at_+1},false)
def aj(s:Ar)(d:Dr):Ar×Dr×Bool:=
 if d.busy then if d.second then(af s (gaA d.at_),dT s d)else(af s (gaW d.at_),{d with o:=ldW s.W (gaW d.at_),second:=true},false)else(s,d,false)
structure GD(w:World)(a g gg dd N:Nat)(s:Ar)(d:Dr):Prop where
 ar:aB w a g s
 ga:Blk w gg 365 (gaC a N)
 dr:Blk w dd 367 (drC gg d)
 n32:N<=32
 hd:dd≠a/\dd≠g/\dd≠gg
 hg:gg≠a/\gg≠g
section
variable{w' w0:World}{dd:Nat}{s s':Ar}{d d':Dr}
def GD.op(h:GD w a g gg dd N s d)(t:aa [a,g] w w')(H:aB w' a g s'):GD w' a g gg dd N s' d:=
 {h with ar:=H,ga:=t.blk h.ga (by simp[h.hg]),dr:=t.blk h.dr (by simp[h.hd])}
def GD.below(h:GD w a g gg dd N s d)(b:Below w.heap.size w w'):GD w' a g gg dd N s d:=
 have t:aa [] w w':=aa.of_below b
 {h with ar:=h.ar.turns t ahz ahz,ga:=t.blk h.ga ahz,dr:=t.blk h.dr ahz}
def GD.set(h:GD w a g gg dd N s d)(H:(drC gg d).setIfInBounds i u=drC gg d'):GD (w.setCell ⟨dd,i,none⟩ u) a g gg dd N s d':=
 have t:aa [dd] w (w.setCell ⟨dd,i,none⟩ u):=aW _ _ _
 {h with ar:=h.ar.turns t (by simp;exact λe=>h.hd.1 e.symm) (by simp;exact λe=>h.hd.2.1 e.symm),ga:=t.blk h.ga (by simp;exact λe=>h.hd.2.2 e.symm),dr:=by rw[<-H];exact h.dr.set_ i u}
def GD.c(h:GD w a g gg dd N s d):w.cell? dd=some ↑gg/\Z w dd 1 (J d.at_)/\Z w dd 2 (J d.lim)/\Z w dd 3 (.bool d.once)/\Z w dd 4 (.bool d.busy)/\Z w dd 5 (.bool d.second)/\Z w dd 6 (J d.o)/\Z w dd 7 (.bool d.clear):=
 ⟨h.dr.cell 0,h.dr.cell 1,h.dr.cell 2,h.dr.cell 3,h.dr.cell 4,h.dr.cell 5,h.dr.cell 6,h.dr.cell 7⟩
def jf:aa [a,g,dd] w (w.setCell ⟨dd,i,none⟩ u):=aI (aW _ _ _)
def BA(h:Blk w gg 365 (gaC a N))(O:aB w a g s)(nd:Nat)(V:nd<N)(hN:N<=32)(k:Nat)(hk:k<=1)(Y:s.ops+1<=1000000000000):E 384 #[↑gg,J nd,J k] w λe w'=>e= returned (J (ldW s.W (2*(nd:Int)+1+k)))/\aB w' a g (af s (2*(nd:Int)+1+k))/\aa [a,g] w w':=by
 have c0:w.cell? gg=some ↑a:=h.cell 0;have H:=qh (BE h nd V hN);have t1:((2*(nd:Int)+1)==0)=false:=by simp;omega
 have x1:IntKind.i64.wrap (2*(nd:Int)+1+(k:Int))=2*(nd:Int)+1+(k:Int):=IntWalk.i64_in _ ahy;obtain⟨o,I⟩:∃o:Int,o=2*(nd:Int)+1:=⟨_,rfl⟩;rw[<-I]at H t1 x1 ⊢;have HA:=qh (aE O (o+(k:Int)) Y);clear h O I;go_enter func384,ntmps384;go_wp2_with fail;refine LT H.o ?_;exact abI
def Id(h:Blk w gg 365 (gaC a N))(I:aB w a g s)(nd:Nat)(O:nd<N)(hN:N<=32)(Y:s.ops+1<=1000000000000):E 381 #[↑gg,J nd] w λe w'=>e= returned (J (ldW s.W (gaW nd)))/\aB w' a g (af s (gaW nd))/\aa [a,g] w w':=by have H:=BA h I nd O hN 1 ahy Y;rw[show 2*(nd:Int)+1+((1:Nat):Int)=gaW nd by unfold gaW;omega]at H;have HA:=qh H;clear h I H;go_enter func381,ntmps381;exact abI
def JU(h:Blk w gg 365 (gaC a N))(I:aB w a g s)(nd:Nat)(O:nd<N)(hN:N<=32)(Y:s.ops+1<=1000000000000):E 382 #[↑gg,J nd] w λe w'=>e= returned (J (ldW s.W (gaA nd)))/\aB w' a g (af s (gaA nd))/\aa [a,g] w w':=by have H:=BA h I nd O hN 0 ahy Y;rw[show 2*(nd:Int)+1+((0:Nat):Int)=gaA nd by unfold gaA;omega]at H;have HA:=qh H;clear h I H;go_enter func382,ntmps382;exact abI
def Bc(h:GD w a g gg dd N s d)(c:Bool):E 376 #[↑dd,.bool c] w λe w'=>e= returned (bool true)/\GD w' a g gg dd N s {d with busy:=false,clear:=c}/\aa [a,g,dd] w w':=by have O:=h.dr.free 4;have V:=h.dr.free 7;have c4:=h.c.2.2.2.2.1;have I:=h.c.2.2.2.2.2.2.2;have H1:=qh (h.set (i:=4) (u:= bool false) (d':={d with busy:=false}) rfl);have H:=qh (H1.o.set (i:=7) (u:= .bool c) (d':={d with busy:=false,clear:=c}) rfl);clear h;go_enter func376,ntmps376;go_wp2;go_ret;exact⟨rfl,H.o,jf.trans jf⟩
def FU(h:GD w a g gg dd N s d):E 377 #[↑dd] w λe w'=>e= returned (.bool d.busy)/\w=w':=by have c4:=h.c.2.2.2.2.1;clear h;go_enter func377,ntmps377;exact aab
def DM(h:GD w a g gg dd N s d):E 395 #[↑dd] w λe w'=>e= returned (.bool d.clear)/\w=w':=by have H:=h.c.2.2.2.2.2.2.2;clear h;go_enter func395,ntmps395;exact aab
def nC(h:GD w a g gg dd N s d)(h1:1<=N)(once:Bool):E 373 #[↑dd,J 0,J N,.bool once] w λe w'=>e= returned (bool false)/\GD w' a g gg dd N s (dV d N once)/\aa [a,g,dd] w w':=by
 obtain⟨c0,c1,c2,c3,c4,c5,c6,c7⟩:=h.c;have z1:=h.dr.free 1;have z2:=h.dr.free 2;have z3:=h.dr.free 3;have z4:=h.dr.free 4;have z5:=h.dr.free 5;have z7:=h.dr.free 7;have t1:decide ((0:Int) >= (N:Int))=false:=by simp;omega
 have t2:¬(N:Int)<=0:=by omega
 have H1:=h.set (i:=1) (u:= J 0) (d':={d with at_:=0}) rfl;have H:=H1.set (i:=2) (u:= J N) (d':={d with at_:=0,lim:=N}) rfl;have I:=H.set (i:=3) (u:= .bool once) (d':={d with at_:=0,lim:=N,once:=once}) rfl;have O:=I.set (i:=5) (u:= bool false) (d':={d with at_:=0,lim:=N,once:=once,second:=false}) rfl;have V:=O.set (i:=4) (u:= bool true) (d':={d with at_:=0,lim:=N,once:=once,second:=false,busy:=true}) rfl;have Y:=qh (V.set (i:=7) (u:= bool false) (d':=dV d N once) rfl);clear h H1 H I O V;go_enter func373,ntmps373;go_wp2;go_ret;exact⟨rfl,Y.o,((((jf.trans jf).trans jf).trans jf).trans jf).trans jf⟩
def DN(h:GD w a g gg dd N s d)(hn:d.at_<N)(Y:s.ops+1<=1000000000000):E 378 #[↑dd] w λe w'=>e= returned (bool false)/\GD w' a g gg dd N (af s (gaW d.at_)) {d with o:=ldW s.W (gaW d.at_),second:=true}/\aa [a,g,dd] w w':=by
 have HF:=qh (λW (k:GD W a g gg dd N s d)=>Id k.ga k.ar d.at_ hn k.n32 Y);have O:=qh (h.below (Below.refl _ _).drew);clear h;go_enter func378,ntmps378;go_wp2_with fail
 go_region_held3 (λW=>W.cell? dd=some ↑gg/\Z W dd 1 (J d.at_))
  (first|with_reducible exact⟨O.o.c.1,O.o.c.2.1⟩|with_reducible exact⟨H.o.c.1,H.o.c.2.1⟩|exact⟨I.o.c.1,I.o.c.2.1⟩)
  (first
   |(go_at_call 381;go_loud (refine Pi (HF.o _ O.o) λw3 V=>?_);have H:=qh (O.o.op V.o.2 V.o.1);have T2:=qh (((aa.refl [a,g,dd] w).drew).trans (aK V.o.2));have I:=qh (H.o.set (i:=6) (u:= J (ldW s.W (gaW d.at_))) (d':={d with o:=ldW s.W (gaW d.at_)}) rfl);have e4:=H.o.c.2.2.2.2.2.2.1;have z1:=H.o.dr.free 6))
 all_goals have e5:=I.o.c.2.2.2.2.2.1;have z5:=I.o.dr.free 5;have K4:=qh (I.o.set (i:=5) (u:= bool true) (d':={d with o:=ldW s.W (gaW d.at_),second:=true}) rfl);clear e4 z1;go_wp2;go_ret;exact⟨rfl,K4.o,(T2.o.trans jf).trans jf⟩
def DO(h:GD w a g gg dd N s d)(hn:d.at_<N)(Y:s.ops+1<=1000000000000):E 379 #[↑dd] w λe w'=>e= returned (bool (dT s d).2)/\GD w' a g gg dd N (af s (gaA d.at_)) (dT s d).1/\aa [a,g,dd] w w':=by
 obtain⟨v,O⟩:=LE (ldW s.W (gaA d.at_));have HX:Kq (dT s d=if v≠d.o then if d.once then({d with second:=false,busy:=false,clear:=false},true)else({d with second:=false},false)else if d.at_+1=d.lim then({d with second:=false,at_:=d.at_+1,busy:=false,clear:=true},true)else({d with second:=false,at_:=d.at_+1},false)):=qh (by rw[O];rfl);have LX:=(λW d' (k:GD W a g gg dd N s d') (he:d'.at_=d.at_)=>JU k.ga k.ar d.at_ hn k.n32 Y);rw[<-O]at LX;have HF:=qh LX;have c5:=h.c.2.2.2.2.2.1;have z5:=h.dr.free 5;have K0:=qh (h.set (i:=5) (u:= bool false) (d':={d with second:=false}) rfl);have H:=qh (K0.o.below (Below.refl _ _).drew);have T1:=qh (show aa [a,g,dd] w ((w.setCell ⟨dd,5,none⟩ (bool false)).drew)from jf.drew);have MW:=h.n32;have x1:IntKind.i64.wrap ((d.at_:Int)+1)=((d.at_+1:Nat):Int):=by rw[IntWalk.i64_in _ ahy];omega
 obtain⟨ab,hv⟩:=LE (af s (gaA d.at_));rw[<-hv]at HF ⊢;clear h O LX hv;obtain⟨at_,lim,once,busy,second,Ps,VU⟩:=d;simp only at HX HF x1 hn;obtain⟨nI,UD⟩:∃nI:Int,nI=((at_+1:Nat):Int):=⟨_,rfl⟩;obtain⟨lI,WL⟩:∃lI:Int,lI=(lim:Int):=⟨_,rfl⟩;rw[<-UD]at x1;have HE:Kq (nI=((at_+1:Nat):Int)/\lI=(lim:Int)):=qh ⟨UD,WL⟩;clear UD WL;cases hq:(v !=Ps)
 .have Qm:Kq (v=Ps):=qh (by simpa using hq);cases u1:(nI==lI)
  .have SC:Kq (¬(at_+1=lim)):=qh (by have e:=HE.o;have:¬nI=lI:=(by simpa using u1);omega);go_enter func379,ntmps379;go_wp2_with fail
   go_region_held3 (λW=>W.cell? dd=some ↑gg/\Z W dd 1 (J at_))
    (first|with_reducible exact⟨H.o.c.1,H.o.c.2.1⟩|with_reducible exact⟨K2.o.c.1,K2.o.c.2.1⟩)
    (first
     |(go_at_call 382;go_loud (refine Pi (HF.o _ _ H.o rfl) λw3 I=>?_);have K2:=qh (H.o.op I.o.2 I.o.1);have T2:=qh (T1.o.trans (aK I.o.2))))
   refine ajr ?_;intro e1 e6 e3 z1 K3 K4 T4;go_wp2_with fail;refine wp_region_held_drew (S:=(λW=>Z W dd 1 (J nI)/\Z W dd 2 (J lI))) ahB (by exact⟨K4.o.c.2.1.trans (by rw[HE.o.1]),K4.o.c.2.2.1.trans (by rw[HE.o.2])⟩) (λhHeld=>?_);refine ai8 ?_;refine tk 9 ?_;refine ajL ?_;refine wpAnyH_done ahB ?_ _;go_wp2;go_ret;rw[HX.o,if_neg (by simpa using Qm.o),if_neg SC.o];exact⟨rfl,K4.o,T4.o⟩
  .have SC:Kq (at_+1=lim):=qh (by have e:=HE.o;have:nI=lI:=(by simpa using u1);omega);go_enter func379,ntmps379;go_wp2_with fail
   go_region_held3 (λW=>W.cell? dd=some ↑gg/\Z W dd 1 (J at_))
    (first|with_reducible exact⟨H.o.c.1,H.o.c.2.1⟩|with_reducible exact⟨K2.o.c.1,K2.o.c.2.1⟩)
    (first
     |(go_at_call 382;go_loud (refine Pi (HF.o _ _ H.o rfl) λw3 I=>?_);have K2:=qh (H.o.op I.o.2 I.o.1);have T2:=qh (T1.o.trans (aK I.o.2))))
   refine ajr ?_;intro e1 e6 e3 z1 K3 K4 T4;go_wp2_with fail;have Tx:=qh (Bc K4.o true)
   go_region_held3 (λW=>Z W dd 1 (J nI)/\Z W dd 2 (J lI))
    (first|exact⟨K4.o.c.2.1.trans (by rw[HE.o.1]),K4.o.c.2.2.1.trans (by rw[HE.o.2])⟩|exact⟨K5.o.c.2.1.trans (by rw[HE.o.1]),K5.o.c.2.2.1.trans (by rw[HE.o.2])⟩)
    (first
     |(go_at_call 376;go_loud (refine Pi Tx.o λw5 k5=>?_);have K5:=qh k5.o.1;have T5:=qh (T4.o.trans k5.o.2)))
   go_wp2;go_ret;rw[HX.o,if_neg (by simpa using Qm.o),if_pos SC.o];exact⟨rfl,K5.o,T5.o⟩
 .have Qm:Kq (¬v=Ps):=qh (by simpa using hq);cases once
  .skip;go_enter func379,ntmps379;go_wp2_with fail
   go_region_held3 (λW=>W.cell? dd=some ↑gg/\Z W dd 1 (J at_))
    (first|with_reducible exact⟨H.o.c.1,H.o.c.2.1⟩|with_reducible exact⟨K2.o.c.1,K2.o.c.2.1⟩)
    (first
     |(go_at_call 382;go_loud (refine Pi (HF.o _ _ H.o rfl) λw3 I=>?_);have K2:=qh (H.o.op I.o.2 I.o.1);have T2:=qh (T1.o.trans (aK I.o.2))))
   have e6:=K2.o.c.2.2.2.2.2.2.1;have e3:=K2.o.c.2.2.2.1;go_wp2;go_ret;rw[HX.o,if_pos Qm.o];exact abJ
  .skip;go_enter func379,ntmps379;go_wp2_with fail
   go_region_held3 (λW=>W.cell? dd=some ↑gg/\Z W dd 1 (J at_))
    (first|with_reducible exact⟨H.o.c.1,H.o.c.2.1⟩|with_reducible exact⟨K2.o.c.1,K2.o.c.2.1⟩)
    (first
     |(go_at_call 382;go_loud (refine Pi (HF.o _ _ H.o rfl) λw3 I=>?_);have K2:=qh (H.o.op I.o.2 I.o.1);have T2:=qh (T1.o.trans (aK I.o.2))))
   have e6:=K2.o.c.2.2.2.2.2.2.1;have e3:=K2.o.c.2.2.2.1;have Tx:=qh (Bc K2.o false);go_wp2_with fail;refine Pi Tx.o λw5 k5=>?_;have K5:=qh k5.o.1;have T5:=qh (T2.o.trans k5.o.2);go_wp2;go_ret;rw[HX.o,if_pos Qm.o];exact⟨rfl,K5.o,T5.o⟩
def nD(h:GD w a g gg dd N s d)(V:d.busy=true->d.at_<N)(Y:s.ops+1<=1000000000000):E 374 #[↑dd] w λe w'=>e= returned (bool (aj s d).2.2)/\GD w' a g gg dd N (aj s d).1 (aj s d).2.1/\aa [a,g,dd] w w':=by
 have HB:=qh (FU h);have c5:=h.c.2.2.2.2.2.1;have H:=qh h;cases I:d.busy;.have HX:Kq (aj s d=(s,d,false)):=qh (by unfold aj;rw[I];rfl);rw[I]at HB;clear h;go_enter func374,ntmps374;go_wp2_with fail;refine LT HB.o ?_;go_wp2;go_ret;rw[HX.o];exact aaG
 .have O:=V I;rw[I]at HB;cases Ko:d.second;.have HF:=qh (DN h O Y);have HX:Kq (aj s d=(af s (gaW d.at_),{d with o:=ldW s.W (gaW d.at_),second:=true},false)):=qh (by unfold aj;rw[I,Ko];rfl);exact abK
  .have HF:=qh (DO h O Y);have HX:Kq (aj s d=(af s (gaA d.at_),dT s d)):=qh (by unfold aj;rw[I,Ko];rfl);exact abK
end
end
end Go.Proofs.YtglokdbiggbkjaaGreat
