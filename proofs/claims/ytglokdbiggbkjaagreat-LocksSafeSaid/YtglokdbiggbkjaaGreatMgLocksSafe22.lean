/- Joined texts. -/
import Derived.Test.YtglokdbiggbkjaaGreatMgLocksSafe0
import Derived.Test.YtglokdbiggbkjaaGreatMgLocksSafe2
import Derived.Test.YtglokdbiggbkjaaGreatMgLocksSafe5
import Derived.Test.YtglokdbiggbkjaaGreatMgLocksSafe9
import Derived.Test.YtglokdbiggbkjaaGreatMgLocksSafe11
import Derived.Test.YtglokdbiggbkjaaGreatMgLocksSafe12
import Derived.Test.YtglokdbiggbkjaaGreatMgLocksSafe14
import Derived.Test.YtglokdbiggbkjaaGreatMgLocksSafe15
import Derived.Test.YtglokdbiggbkjaaGreatMgLocksSafe21
set_option linter.unusedVariables false
set_option linter.unusedSimpArgs false
set_option maxRecDepth 100000
set_option maxHeartbeats 16000000
namespace Go.Proofs.YtglokdbiggbkjaaGreat
section
open Go.RowKit
def gaC (a N:Nat):Array Value:=#[↑a,.int .i64 1,.int .i64 N]
theorem Ab {w:World} {a g:Nat} {s:Ar} (h:aA w a g s) (N:Nat) (h1:1<=N) (h2:N<=32) (hs:s.W=[]) (hr:s.room=4096):
    Calls Tryz.prog 174 #[↑a,.int .i64 N] w λe w'=>∃gg,e= .returned (.tuple #[.pointer (some ⟨gg,0,none⟩),.int .i64 0])/\w.heap.size<=gg/\Blk w' gg 365 (gaC a N)/\aA w' a g (bi s (2*N))/\aa [a] w w':=by
  have HT0:=mq h (2*N) (by rw[hs,hr];simp;omega);rw[hs]at HT0;have HT:=qh HT0;have x1:IntKind.i64.wrap (2*(N:Int))=((2*N:Nat):Int):=by rw[IntWalk.i64_in _ QX];omega
  have t1:¬(N:Int)<1:=by omega
  have t2:¬32<(N:Int):=by omega
  clear h hs hr HT0;go_enter Tryz.func174,Tryz.ntmps174;go_wp2_with fail;refine HT.o.mono ?_;rintro en w1 ⟨rfl,k1,t1'⟩;have H1:=qh (And.intro k1 t1');clear k1 t1' HT;go_wp2;go_ret2;have s1:=H1.o.2.size;refine⟨w1.heap.size,by simp,s1,?_,H1.o.1.turns (S:=[]) ((aa.refl _ _).alloc _) QY QY,H1.o.2.alloc _⟩;have:=Blk.new w1 365 (gaC a N);simpa[gaC]using this
section
variable{w:World}{gg a g N:Nat}{s:Ar}
theorem CI (h:Blk w gg 365 (gaC a N)):Calls Tryz.prog 383 #[↑gg] w λe w'=>e= .returned (.int .i64 N)/\w=w':=by have c2:w.cell? ⟨gg,2,none⟩=some (.int .i64 N):=h.cell 2;clear h;go_enter Tryz.func383,Tryz.ntmps383;exact gs
theorem Aa (h:Blk w gg 365 (gaC a N))(nd:Nat)(hn:nd<N)(hN:N<=32):Calls Tryz.prog 380 #[↑gg,.int .i64 nd] w λe w'=>e= .returned (.int .i64 (2*(nd:Int)+1))/\w=w':=by
 have c1:w.cell? ⟨gg,1,none⟩=some (.int .i64 1):=h.cell 1;have HN:=qh (CI h);have t1:¬(nd:Int)<0:=by omega
 have t2:¬(N:Int)<=(nd:Int):=by omega
 have x1:IntKind.i64.wrap (2*(nd:Int))=2*(nd:Int):=IntWalk.i64_in _ QX;have x2:IntKind.i64.wrap (1+2*(nd:Int))=2*(nd:Int)+1:=by rw[IntWalk.i64_in _ QX];omega
 clear h;go_enter Tryz.func380,Tryz.ntmps380;go_wp2_with fail;refine HN.o.mono ?_;rintro en w' ⟨rfl,rfl⟩;exact gs
theorem DF (h:Blk w gg 365 (gaC a N))(hA:aA w a g s)(nd:Nat)(hn:nd<N)(hN:N<=32)(k:Nat)(hk:k<=1)(ho:s.ops+1<=1000000000000):Calls Tryz.prog 375 #[↑gg,.int .i64 nd,.int .i64 k] w λe w'=>e= .returned (.tuple #[])/\aA w' a g (addA s (2*(nd:Int)+1+k) 1)/\aa [a,g] w w':=by
 have c0:w.cell? gg=some ↑a:=h.cell 0;have HW:=qh (Aa h nd hn hN);have t1:(0:Int)<2*(nd:Int)+1:=by omega
 have x1:IntKind.i64.wrap (2*(nd:Int)+1+(k:Int))=2*(nd:Int)+1+(k:Int):=IntWalk.i64_in _ QX;obtain⟨o,hoo⟩:∃o:Int,o=2*(nd:Int)+1:=⟨_,rfl⟩;rw[<-hoo]at HW t1 x1 ⊢;have HA:=qh (gY hA (o+(k:Int)) 1 ho);clear h hA hoo;go_enter Tryz.func375,Tryz.ntmps375;go_wp2_with fail;refine HW.o.mono ?_;rintro en w' ⟨rfl,rfl⟩;go_wp2_with fail;refine HA.o.mono ?_;rintro en w1 ⟨rfl,k1,t1'⟩;have H1:=qh (And.intro k1 t1');clear k1 t1' HA;go_wp2;all_goals go_end0;exact⟨rfl,H1.o.1,H1.o.2⟩
theorem qm (h:Blk w gg 365 (gaC a N))(hA:aA w a g s)(nd:Nat)(hn:nd<N)(hN:N<=32)(ho:s.ops+1<=1000000000000):Calls Tryz.prog 371 #[↑gg,.int .i64 nd] w λe w'=>e= .returned (.tuple #[])/\aA w' a g (addA s (2*(nd:Int)+1) 1)/\aa [a,g] w w':=by have HA0:=DF h hA nd hn hN 0 QX ho;rw[show 2*(nd:Int)+1+((0:Nat):Int)=2*(nd:Int)+1 by omega]at HA0;have HA:=qh HA0;clear h hA HA0;go_enter Tryz.func371,Tryz.ntmps371;exact JY
theorem qo (h:Blk w gg 365 (gaC a N))(hA:aA w a g s)(nd:Nat)(hn:nd<N)(hN:N<=32)(ho:s.ops+1<=1000000000000):Calls Tryz.prog 372 #[↑gg,.int .i64 nd] w λe w'=>e= .returned (.tuple #[])/\aA w' a g (addA s (2*(nd:Int)+1+1) 1)/\aa [a,g] w w':=by have HA0:=DF h hA nd hn hN 1 QX ho;rw[show 2*(nd:Int)+1+((1:Nat):Int)=2*(nd:Int)+1+1 by omega]at HA0;have HA:=qh HA0;clear h hA HA0;go_enter Tryz.func372,Tryz.ntmps372;exact JY
end
end
section
open Go.RowKit
structure Dr where
 at_:Nat
 lim:Nat
 once:Bool
 busy:Bool
 second:Bool
 o:Int
 clear:Bool
def drC (gg:Nat)(d:Dr):Array Value:=#[↑gg,.int .i64 (d.at_:Int),.int .i64 (d.lim:Int),.bool d.once,.bool d.busy,.bool d.second,.int .i64 d.o,.bool d.clear]
def gaA (n:Nat):Int:=2*(n:Int)+1
def gaW (n:Nat):Int:=2*(n:Int)+2
def dM (d:Dr)(N:Nat)(once:Bool):Dr:=⟨0,N,once,true,false,d.o,false⟩
def dL (s:Ar)(d:Dr):Dr×Bool:=
 if ldW s.W (gaA d.at_)≠d.o then if d.once then({d with second:=false,busy:=false,clear:=false},true)else({d with second:=false},false)
 else if d.at_+1=d.lim then({d with second:=false,at_:=d.at_+1,busy:=false,clear:=true},true)else({d with second:=false,at_:=d.at_+1},false)
def ah (s:Ar)(d:Dr):Ar×Dr×Bool:=
 if d.busy then if d.second then(ae s (gaA d.at_),dL s d)else(ae s (gaW d.at_),{d with o:=ldW s.W (gaW d.at_),second:=true},false)else(s,d,false)
structure GD (w:World)(a g gg dd N:Nat)(s:Ar)(d:Dr):Prop where
 ar:aA w a g s
 ga:Blk w gg 365 (gaC a N)
 dr:Blk w dd 367 (drC gg d)
 n32:N<=32
 hd:dd≠a/\dd≠g/\dd≠gg
 hg:gg≠a/\gg≠g
section
variable{w w' w0:World}{a g gg dd N:Nat}{s s':Ar}{d d':Dr}
theorem GD.op (h:GD w a g gg dd N s d)(t:aa [a,g] w w')(ha:aA w' a g s'):GD w' a g gg dd N s' d:=
 {h with ar:=ha,ga:=t.blk h.ga (by simp[h.hg]),dr:=t.blk h.dr (by simp[h.hd])}
theorem GD.below (h:GD w a g gg dd N s d)(b:Below w.heap.size w w'):GD w' a g gg dd N s d:=
 have t:aa [] w w':=aa.of_below b
 {h with ar:=h.ar.turns t QY QY,ga:=t.blk h.ga QY,dr:=t.blk h.dr QY}
theorem GD.set (h:GD w a g gg dd N s d){i:Nat}{u:Value}(he:(drC gg d).setIfInBounds i u=drC gg d'):GD (w.setCell ⟨dd,i,none⟩ u) a g gg dd N s d':=
 have t:aa [dd] w (w.setCell ⟨dd,i,none⟩ u):=aU _ _ _
 {h with ar:=h.ar.turns t (by simp;exact λe=>h.hd.1 e.symm) (by simp;exact λe=>h.hd.2.1 e.symm),ga:=t.blk h.ga (by simp;exact λe=>h.hd.2.2 e.symm),dr:=by rw[<-he];exact h.dr.set_ i u}
theorem GD.c (h:GD w a g gg dd N s d):w.cell? dd=some ↑gg/\w.cell? ⟨dd,1,none⟩=some (.int .i64 d.at_)/\w.cell? ⟨dd,2,none⟩=some (.int .i64 d.lim)/\w.cell? ⟨dd,3,none⟩=some (.bool d.once)/\w.cell? ⟨dd,4,none⟩=some (.bool d.busy)/\w.cell? ⟨dd,5,none⟩=some (.bool d.second)/\w.cell? ⟨dd,6,none⟩=some (.int .i64 d.o)/\w.cell? ⟨dd,7,none⟩=some (.bool d.clear):=
 ⟨h.dr.cell 0,h.dr.cell 1,h.dr.cell 2,h.dr.cell 3,h.dr.cell 4,h.dr.cell 5,h.dr.cell 6,h.dr.cell 7⟩
theorem iU{i:Nat}{u:Value}:aa [a,g,dd] w (w.setCell ⟨dd,i,none⟩ u):=aG (aU _ _ _)
theorem zZ (h:Blk w gg 365 (gaC a N))(hA:aA w a g s)(nd:Nat)(hn:nd<N)(hN:N<=32)(k:Nat)(hk:k<=1)(ho:s.ops+1<=1000000000000):Calls Tryz.prog 384 #[↑gg,.int .i64 nd,.int .i64 k] w λe w'=>e= .returned (.int .i64 (ldW s.W (2*(nd:Int)+1+k)))/\aA w' a g (ae s (2*(nd:Int)+1+k))/\aa [a,g] w w':=by
 have c0:w.cell? gg=some ↑a:=h.cell 0;have HW:=qh (Aa h nd hn hN);have t1:((2*(nd:Int)+1)==0)=false:=by simp;omega
 have x1:IntKind.i64.wrap (2*(nd:Int)+1+(k:Int))=2*(nd:Int)+1+(k:Int):=IntWalk.i64_in _ QX;obtain⟨o,hoo⟩:∃o:Int,o=2*(nd:Int)+1:=⟨_,rfl⟩;rw[<-hoo]at HW t1 x1 ⊢;have HA:=qh (aC hA (o+(k:Int)) ho);clear h hA hoo;go_enter Tryz.func384,Tryz.ntmps384;go_wp2_with fail;refine HW.o.mono ?_;rintro en w' ⟨rfl,rfl⟩;exact JZ
theorem FZ (h:Blk w gg 365 (gaC a N))(hA:aA w a g s)(nd:Nat)(hn:nd<N)(hN:N<=32)(ho:s.ops+1<=1000000000000):Calls Tryz.prog 381 #[↑gg,.int .i64 nd] w λe w'=>e= .returned (.int .i64 (ldW s.W (gaW nd)))/\aA w' a g (ae s (gaW nd))/\aa [a,g] w w':=by have HA0:=zZ h hA nd hn hN 1 QX ho;rw[show 2*(nd:Int)+1+((1:Nat):Int)=gaW nd by unfold gaW;omega]at HA0;have HA:=qh HA0;clear h hA HA0;go_enter Tryz.func381,Tryz.ntmps381;exact JZ
theorem Hs (h:Blk w gg 365 (gaC a N))(hA:aA w a g s)(nd:Nat)(hn:nd<N)(hN:N<=32)(ho:s.ops+1<=1000000000000):Calls Tryz.prog 382 #[↑gg,.int .i64 nd] w λe w'=>e= .returned (.int .i64 (ldW s.W (gaA nd)))/\aA w' a g (ae s (gaA nd))/\aa [a,g] w w':=by have HA0:=zZ h hA nd hn hN 0 QX ho;rw[show 2*(nd:Int)+1+((0:Nat):Int)=gaA nd by unfold gaA;omega]at HA0;have HA:=qh HA0;clear h hA HA0;go_enter Tryz.func382,Tryz.ntmps382;exact JZ
theorem zC (h:GD w a g gg dd N s d)(c:Bool):Calls Tryz.prog 376 #[↑dd,.bool c] w λe w'=>e= .returned (.bool true)/\GD w' a g gg dd N s {d with busy:=false,clear:=c}/\aa [a,g,dd] w w':=by have z4:=h.dr.free 4;have z7:=h.dr.free 7;have c4:=h.c.2.2.2.2.1;have c7:=h.c.2.2.2.2.2.2.2;have H1:=qh (h.set (i:=4) (u:= .bool false) (d':={d with busy:=false}) rfl);have H2:=qh (H1.o.set (i:=7) (u:= .bool c) (d':={d with busy:=false,clear:=c}) rfl);clear h;go_enter Tryz.func376,Tryz.ntmps376;go_wp2;go_ret;exact⟨rfl,H2.o,iU.trans iU⟩
theorem Eo (h:GD w a g gg dd N s d):Calls Tryz.prog 377 #[↑dd] w λe w'=>e= .returned (.bool d.busy)/\w=w':=by have c4:=h.c.2.2.2.2.1;clear h;go_enter Tryz.func377,Tryz.ntmps377;exact gs
theorem Cr (h:GD w a g gg dd N s d):Calls Tryz.prog 395 #[↑dd] w λe w'=>e= .returned (.bool d.clear)/\w=w':=by have c7:=h.c.2.2.2.2.2.2.2;clear h;go_enter Tryz.func395,Tryz.ntmps395;exact gs
theorem mD (h:GD w a g gg dd N s d)(h1:1<=N)(once:Bool):Calls Tryz.prog 373 #[↑dd,.int .i64 0,.int .i64 N,.bool once] w λe w'=>e= .returned (.bool false)/\GD w' a g gg dd N s (dM d N once)/\aa [a,g,dd] w w':=by
 obtain⟨c0,c1,c2,c3,c4,c5,c6,c7⟩:=h.c;have z1:=h.dr.free 1;have z2:=h.dr.free 2;have z3:=h.dr.free 3;have z4:=h.dr.free 4;have z5:=h.dr.free 5;have z7:=h.dr.free 7;have t1:decide ((0:Int) >= (N:Int))=false:=by simp;omega
 have t2:¬(N:Int)<=0:=by omega
 have H1:=h.set (i:=1) (u:= .int .i64 0) (d':={d with at_:=0}) rfl;have H2:=H1.set (i:=2) (u:= .int .i64 N) (d':={d with at_:=0,lim:=N}) rfl;have H3:=H2.set (i:=3) (u:= .bool once) (d':={d with at_:=0,lim:=N,once:=once}) rfl;have H4:=H3.set (i:=5) (u:= .bool false) (d':={d with at_:=0,lim:=N,once:=once,second:=false}) rfl;have H5:=H4.set (i:=4) (u:= .bool true) (d':={d with at_:=0,lim:=N,once:=once,second:=false,busy:=true}) rfl;have H6:=qh (H5.set (i:=7) (u:= .bool false) (d':=dM d N once) rfl);clear h H1 H2 H3 H4 H5;go_enter Tryz.func373,Tryz.ntmps373;go_wp2;go_ret;exact⟨rfl,H6.o,((((iU.trans iU).trans iU).trans iU).trans iU).trans iU⟩
theorem Cs (h:GD w a g gg dd N s d)(hn:d.at_<N)(ho:s.ops+1<=1000000000000):Calls Tryz.prog 378 #[↑dd] w λe w'=>e= .returned (.bool false)/\GD w' a g gg dd N (ae s (gaW d.at_)) {d with o:=ldW s.W (gaW d.at_),second:=true}/\aa [a,g,dd] w w':=by
 have HF:=qh (λW (k:GD W a g gg dd N s d)=>FZ k.ga k.ar d.at_ hn k.n32 ho);have K1:=qh (h.below (Below.refl _ _).drew);clear h;go_enter Tryz.func378,Tryz.ntmps378;go_wp2_with fail
 go_region_held3 (λW=>W.cell? dd=some ↑gg/\W.cell? ⟨dd,1,none⟩=some (.int .i64 d.at_))
  (first|with_reducible exact⟨K1.o.c.1,K1.o.c.2.1⟩|with_reducible exact⟨K2.o.c.1,K2.o.c.2.1⟩|exact⟨K3.o.c.1,K3.o.c.2.1⟩)
  (first
   |(go_at_call 381;go_loud (refine(HF.o _ K1.o).mono ?_);rintro en w3 ⟨rfl,a3,t3⟩;have K2:=qh (K1.o.op t3 a3);have T2:=qh (((aa.refl [a,g,dd] w).drew).trans (aI t3));have K3:=qh (K2.o.set (i:=6) (u:= .int .i64 (ldW s.W (gaW d.at_))) (d':={d with o:=ldW s.W (gaW d.at_)}) rfl);have e4:=K2.o.c.2.2.2.2.2.2.1;have z1:=K2.o.dr.free 6;clear a3 t3))
 all_goals have e5:=K3.o.c.2.2.2.2.2.1;have z5:=K3.o.dr.free 5;have K4:=qh (K3.o.set (i:=5) (u:= .bool true) (d':={d with o:=ldW s.W (gaW d.at_),second:=true}) rfl);clear e4 z1;go_wp2;go_ret;exact⟨rfl,K4.o,(T2.o.trans iU).trans iU⟩
theorem Ct (h:GD w a g gg dd N s d)(hn:d.at_<N)(ho:s.ops+1<=1000000000000):Calls Tryz.prog 379 #[↑dd] w λe w'=>e= .returned (.bool (dL s d).2)/\GD w' a g gg dd N (ae s (gaA d.at_)) (dL s d).1/\aa [a,g,dd] w w':=by
 obtain⟨v,hv⟩:∃v,v=ldW s.W (gaA d.at_):=⟨_,rfl⟩;have HX:Kq (dL s d=if v≠d.o then if d.once then({d with second:=false,busy:=false,clear:=false},true)else({d with second:=false},false)else if d.at_+1=d.lim then({d with second:=false,at_:=d.at_+1,busy:=false,clear:=true},true)else({d with second:=false,at_:=d.at_+1},false)):=qh (by rw[hv];rfl);have HF0:=(λW d' (k:GD W a g gg dd N s d') (he:d'.at_=d.at_)=>Hs k.ga k.ar d.at_ hn k.n32 ho);rw[<-hv]at HF0;have HF:=qh HF0;have c5:=h.c.2.2.2.2.2.1;have z5:=h.dr.free 5;have K0:=qh (h.set (i:=5) (u:= .bool false) (d':={d with second:=false}) rfl);have K1:=qh (K0.o.below (Below.refl _ _).drew);have T1:=qh (show aa [a,g,dd] w ((w.setCell ⟨dd,5,none⟩ (.bool false)).drew)from iU.drew);have hn32:=h.n32;have x1:IntKind.i64.wrap ((d.at_:Int)+1)=((d.at_+1:Nat):Int):=by rw[IntWalk.i64_in _ QX];omega
 obtain⟨ar',har⟩:∃q,q=ae s (gaA d.at_):=⟨_,rfl⟩;rw[<-har]at HF ⊢;clear h hv HF0 har;obtain⟨at_,lim,once,busy,second,out,clear_⟩:=d;simp only at HX HF x1 hn;obtain⟨nI,hnI⟩:∃nI:Int,nI=((at_+1:Nat):Int):=⟨_,rfl⟩;obtain⟨lI,hlI⟩:∃lI:Int,lI=(lim:Int):=⟨_,rfl⟩;rw[<-hnI]at x1;have HE:Kq (nI=((at_+1:Nat):Int)/\lI=(lim:Int)):=qh ⟨hnI,hlI⟩;clear hnI hlI;cases hq:(v !=out)
 ·have hq':Kq (v=out):=qh (by simpa using hq);cases u1:(nI==lI)
  ·have he':Kq (¬(at_+1=lim)):=qh (by have e:=HE.o;have:¬nI=lI:=(by simpa using u1);omega);go_enter Tryz.func379,Tryz.ntmps379;go_wp2_with fail
   go_region_held3 (λW=>W.cell? dd=some ↑gg/\W.cell? ⟨dd,1,none⟩=some (.int .i64 at_))
    (first|with_reducible exact⟨K1.o.c.1,K1.o.c.2.1⟩|with_reducible exact⟨K2.o.c.1,K2.o.c.2.1⟩)
    (first
     |(go_at_call 382;go_loud (refine(HF.o _ _ K1.o rfl).mono ?_);rintro en w3 ⟨rfl,a3,t3⟩;have K2:=qh (K1.o.op t3 a3);have T2:=qh (T1.o.trans (aI t3));clear a3 t3))
   have e1:=K2.o.c.2.1;have e6:=K2.o.c.2.2.2.2.2.2.1;have e3:=K2.o.c.2.2.2.1;have z1:=K2.o.dr.free 1;have K3:=qh (K2.o.set (i:=1) (u:= .int .i64 nI) (d':=⟨at_+1,lim,once,busy,false,out,clear_⟩) (by rw[HE.o.1];rfl));have K4:=qh (K3.o.below (Below.refl _ _).drew);have T4:=qh (show aa [a,g,dd] w ((w3.setCell ⟨dd,1,none⟩ (.int .i64 nI)).drew)from(T2.o.trans iU).drew);go_wp2_with fail;refine wp_region_held_drew (S:=(λW=>W.cell? ⟨dd,1,none⟩=some (.int .i64 nI)/\W.cell? ⟨dd,2,none⟩=some (.int .i64 lI))) Q0 (by exact⟨K4.o.c.2.1.trans (by rw[HE.o.1]),K4.o.c.2.2.1.trans (by rw[HE.o.2])⟩) (λhHeld=>?_);refine tk 0 ?_;refine tk 1 ?_;refine tk 2 ?_;refine tk 3 ?_;refine tk 4 ?_;refine tk 5 ?_;refine tk 6 ?_;refine tk 7 ?_;refine tk 8 ?_;refine tk 9 ?_;refine tk 10 ?_;refine tk 11 ?_;refine tk 12 ?_;refine tk 13 ?_;refine wpAnyH_done Q0 ?_ _;go_wp2;go_ret;rw[HX.o,if_neg (by simpa using hq'.o),if_neg he'.o];exact⟨rfl,K4.o,T4.o⟩
  ·have he':Kq (at_+1=lim):=qh (by have e:=HE.o;have:nI=lI:=(by simpa using u1);omega);go_enter Tryz.func379,Tryz.ntmps379;go_wp2_with fail
   go_region_held3 (λW=>W.cell? dd=some ↑gg/\W.cell? ⟨dd,1,none⟩=some (.int .i64 at_))
    (first|with_reducible exact⟨K1.o.c.1,K1.o.c.2.1⟩|with_reducible exact⟨K2.o.c.1,K2.o.c.2.1⟩)
    (first
     |(go_at_call 382;go_loud (refine(HF.o _ _ K1.o rfl).mono ?_);rintro en w3 ⟨rfl,a3,t3⟩;have K2:=qh (K1.o.op t3 a3);have T2:=qh (T1.o.trans (aI t3));clear a3 t3))
   have e1:=K2.o.c.2.1;have e6:=K2.o.c.2.2.2.2.2.2.1;have e3:=K2.o.c.2.2.2.1;have z1:=K2.o.dr.free 1;have K3:=qh (K2.o.set (i:=1) (u:= .int .i64 nI) (d':=⟨at_+1,lim,once,busy,false,out,clear_⟩) (by rw[HE.o.1];rfl));have K4:=qh (K3.o.below (Below.refl _ _).drew);have T4:=qh (show aa [a,g,dd] w ((w3.setCell ⟨dd,1,none⟩ (.int .i64 nI)).drew)from(T2.o.trans iU).drew);go_wp2_with fail;have HOV:=qh (zC K4.o true)
   go_region_held3 (λW=>W.cell? ⟨dd,1,none⟩=some (.int .i64 nI)/\W.cell? ⟨dd,2,none⟩=some (.int .i64 lI))
    (first|exact⟨K4.o.c.2.1.trans (by rw[HE.o.1]),K4.o.c.2.2.1.trans (by rw[HE.o.2])⟩|exact⟨K5.o.c.2.1.trans (by rw[HE.o.1]),K5.o.c.2.2.1.trans (by rw[HE.o.2])⟩)
    (first
     |(go_at_call 376;go_loud (refine HOV.o.mono ?_);rintro en w5 ⟨rfl,k5,t5⟩;have K5:=qh k5;have T5:=qh (T4.o.trans t5);clear k5 t5))
   go_wp2;go_ret;rw[HX.o,if_neg (by simpa using hq'.o),if_pos he'.o];exact⟨rfl,K5.o,T5.o⟩
 ·have hq':Kq (¬v=out):=qh (by simpa using hq);cases once
  ·skip;go_enter Tryz.func379,Tryz.ntmps379;go_wp2_with fail
   go_region_held3 (λW=>W.cell? dd=some ↑gg/\W.cell? ⟨dd,1,none⟩=some (.int .i64 at_))
    (first|with_reducible exact⟨K1.o.c.1,K1.o.c.2.1⟩|with_reducible exact⟨K2.o.c.1,K2.o.c.2.1⟩)
    (first
     |(go_at_call 382;go_loud (refine(HF.o _ _ K1.o rfl).mono ?_);rintro en w3 ⟨rfl,a3,t3⟩;have K2:=qh (K1.o.op t3 a3);have T2:=qh (T1.o.trans (aI t3));clear a3 t3))
   have e6:=K2.o.c.2.2.2.2.2.2.1;have e3:=K2.o.c.2.2.2.1;go_wp2;go_ret;rw[HX.o,if_pos hq'.o];exact J0
  ·skip;go_enter Tryz.func379,Tryz.ntmps379;go_wp2_with fail
   go_region_held3 (λW=>W.cell? dd=some ↑gg/\W.cell? ⟨dd,1,none⟩=some (.int .i64 at_))
    (first|with_reducible exact⟨K1.o.c.1,K1.o.c.2.1⟩|with_reducible exact⟨K2.o.c.1,K2.o.c.2.1⟩)
    (first
     |(go_at_call 382;go_loud (refine(HF.o _ _ K1.o rfl).mono ?_);rintro en w3 ⟨rfl,a3,t3⟩;have K2:=qh (K1.o.op t3 a3);have T2:=qh (T1.o.trans (aI t3));clear a3 t3))
   have e6:=K2.o.c.2.2.2.2.2.2.1;have e3:=K2.o.c.2.2.2.1;have HOV:=qh (zC K2.o false);go_wp2_with fail;refine HOV.o.mono ?_;rintro en w5 ⟨rfl,k5,t5⟩;have K5:=qh k5;have T5:=qh (T2.o.trans t5);clear k5 t5;go_wp2;go_ret;rw[HX.o,if_pos hq'.o];exact⟨rfl,K5.o,T5.o⟩
theorem mE (h:GD w a g gg dd N s d)(hn:d.busy=true->d.at_<N)(ho:s.ops+1<=1000000000000):Calls Tryz.prog 374 #[↑dd] w λe w'=>e= .returned (.bool (ah s d).2.2)/\GD w' a g gg dd N (ah s d).1 (ah s d).2.1/\aa [a,g,dd] w w':=by
 have HB:=qh (Eo h);have c5:=h.c.2.2.2.2.2.1;have H:=qh h;cases hb:d.busy;·have HX:Kq (ah s d=(s,d,false)):=qh (by unfold ah;rw[hb];rfl);rw[hb]at HB;clear h;go_enter Tryz.func374,Tryz.ntmps374;go_wp2_with fail;refine HB.o.mono ?_;rintro en w1 ⟨rfl,rfl⟩;go_wp2;go_ret;rw[HX.o];exact⟨rfl,H.o,aa.refl _ _⟩
 ·have hn':=hn hb;rw[hb]at HB;cases hs2:d.second;·have HF:=qh (Cs h hn' ho);have HX:Kq (ah s d=(ae s (gaW d.at_),{d with o:=ldW s.W (gaW d.at_),second:=true},false)):=qh (by unfold ah;rw[hb,hs2];rfl);exact J1
  ·have HF:=qh (Ct h hn' ho);have HX:Kq (ah s d=(ae s (gaA d.at_),dL s d)):=qh (by unfold ah;rw[hb,hs2];rfl);exact J1
end
end
section
open Go.RowKit
structure SmX where
 l:Nat
 q:Nat
 b:Nat
 gg:Nat
 dd:Nat
 x:Cox
def smC (a:Nat)(X:SmX)(N n:Nat):Array Value:=#[↑a,↑X.b,↑X.gg,↑X.dd,.int .i64 (2*(N:Int)+1),↑X.x.l,.slice (some ⟨X.q,0,none⟩) n n]
structure av (ty:TypeId)(B BC:Nat->Prop)(w:World)(a g:Nat)(X:SmX)(c:CoC)(P T:List Int)(st:Co)(d:Dr)(U:List Sp):Prop where
 lk:Blk w X.l ty (smC a X (ab P).length T.length)
 gd:GD w a g X.gg X.dd (ab P).length st.s d
 tb:d7 B w X.b P T
 sp:SpR w X.q U
 co:aB BC w a g X.x c P T st
 lU:U.length=T.length
 o1:∀i∈CoS a g X.x,i≠X.l/\i≠X.q/\i≠X.gg/\i≠X.dd/\¬B i
 o2:¬eK X.x BC X.q/\¬eK X.x BC X.dd
 o3:X.q≠X.l/\X.q≠X.gg/\X.q≠X.dd/\¬B X.q
 o4:X.dd≠X.l/\X.dd≠X.gg/\¬B X.dd
section
variable{ty:TypeId}{B BC:Nat->Prop}{w w':World}{a g:Nat}{X:SmX}{x:Cox}{c:CoC}{P T:List Int}{st st':Co}{d d':Dr}{U:List Sp}{s':Ar}{S:List Nat}
theorem aB.arAway (h:aB BC w a g x c P T st)(t:aa S w w')(ha:aA w' a g s')(hS:∀i∈S,i=a\/i=g\/¬eK x BC i):aB BC w' a g x c P T {st with s:=s'}:=by
 have nb:∀r u,x.o r=u->u≠3->eK x BC r->r∉S:=λr u e hu hb hm=>by
  rcases hS r hm with e1|e1|e1
  ·rw[e1,h.fx.oa]at e;exact hu e.symm
  ·rw[e1,h.fx.og]at e;exact hu e.symm
  ·exact e1 hb
 obtain⟨Z,z⟩:=h.nd
 refine⟨h.fx,ha,t.blk h.lk (nb _ _ h.fx.ol QZ (.inl rfl)),h.tb.turns t (λi hi hb=>nb i _ (h.fx.oB i hb) QZ (.inr (.inr (.inr (.inr (.inr hb))))) hi),⟨Z,t.blk z (nb _ _ h.fx.on QZ (.inr (.inl rfl)))⟩,
  h.sp.turns t (nb _ _ h.fx.os QZ (.inr (.inr (.inl rfl)))),
  h.gl.oth t ha (nb _ _ h.fx.oG.1 QZ (.inr (.inr (.inr (.inl (.inl rfl)))))) (nb _ _ h.fx.oG.2.1 QZ (.inr (.inr (.inr (.inl (.inr (.inl rfl))))))) (nb _ _ h.fx.oG.2.2 QZ (.inr (.inr (.inr (.inl (.inr (.inr rfl))))))),
  λn y S' hy hS'=>?_,h.lL,h.lG,h.lS,h.sl⟩
 have hm:y∈x.X:=List.mem_of_getElem? hy;have ho:=h.fx.oL n y hy;exact(h.lo n y S' hy hS').oth t ha (nb _ _ ho.1 QX (.inr (.inr (.inr (.inr (.inl ⟨y,hm,.inl rfl⟩)))))) (nb _ _ ho.2.1 QX (.inr (.inr (.inr (.inr (.inl ⟨y,hm,.inr (.inl rfl)⟩)))))) (nb _ _ ho.2.2 QX (.inr (.inr (.inr (.inr (.inl ⟨y,hm,.inr (.inr rfl)⟩))))))
theorem av.agS (h:av ty B BC w a g X c P T st d U):(a≠X.l/\a≠X.q/\a≠X.gg/\a≠X.dd/\¬B a)/\(g≠X.l/\g≠X.q/\g≠X.gg/\g≠X.dd/\¬B g):=
 ⟨h.o1 a RE,h.o1 g RE⟩
theorem av.coT (h:av ty B BC w a g X c P T st d U)(t:aa (CoS a g X.x) w w')(k:aB BC w' a g X.x c P T st'):av ty B BC w' a g X c P T st' d U:=
 {h with lk:=t.blk h.lk (λm=>(h.o1 _ m).1 rfl),gd:={h.gd with ar:=k.ar,ga:=t.blk h.gd.ga (λm=>(h.o1 _ m).2.2.1 rfl),dr:=t.blk h.gd.dr (λm=>(h.o1 _ m).2.2.2.1 rfl)},tb:=h.tb.turns t (λi hi=>(h.o1 i hi).2.2.2.2),sp:=h.sp.turns t (λm=>(h.o1 _ m).2.1 rfl),co:=k}
theorem av.gdT (h:av ty B BC w a g X c P T st d U)(t:aa [a,g,X.dd] w w')(k:GD w' a g X.gg X.dd (ab P).length s' d'):av ty B BC w' a g X c P T {st with s:=s'} d' U:=by
 obtain⟨ha,hg⟩:=h.agS;have hm:∀r,r≠a->r≠g->r≠X.dd->r∉[a,g,X.dd]:=λr h1 h2 h3=>by simp[h1,h2,h3]
 refine {h with lk:=t.blk h.lk (hm _ (λe=>ha.1 e.symm) (λe=>hg.1 e.symm) (λe=>h.o4.1 e.symm)),gd:=k,tb:=h.tb.turns t (λi hi hb=>?_),sp:=h.sp.turns t (hm _ (λe=>ha.2.1 e.symm) (λe=>hg.2.1 e.symm) h.o3.2.2.1),co:=h.co.arAway t k.ar (λi hi=>?_)}
 ·simp at hi;rcases hi with rfl|rfl|rfl
  ·exact ha.2.2.2.2 hb
  ·exact hg.2.2.2.2 hb
  ·exact h.o4.2.2 hb
 ·simp at hi;rcases hi with rfl|rfl|rfl
  ·exact .inl rfl
  ·exact .inr (.inl rfl)
  ·exact .inr (.inr h.o2.2)
theorem av.arT (h:av ty B BC w a g X c P T st d U)(t:aa [a,g] w w')(ha:aA w' a g s'):av ty B BC w' a g X c P T {st with s:=s'} d U:=
 h.gdT (aI t) (h.gd.op t ha)
theorem av.put (h:av ty B BC w a g X c P T st d U){i:Nat}{p p':Sp}(hp:U[i]? =some p){j:Nat}{u:Value}(hj:j<4)(he:(a9 p).set j u=a9 p'):av ty B BC (w.setCell ⟨X.q,i*4+j,none⟩ u) a g X c P T st d (U.set i p'):=by obtain⟨ha,hg⟩:=h.agS;have t:aa [X.q] w (w.setCell ⟨X.q,i*4+j,none⟩ u):=aU _ _ _;have hA:=h.gd.ar.turns t (by simp;exact ha.2.1) (by simp;exact hg.2.1);have k:=h.co.arAway t (s':=st.s) hA (λi hi=> .inr (.inr (by simp at hi;rw[hi];exact h.o2.1)));refine {h with lk:=t.blk h.lk (by simp;exact λe=>h.o3.1 e.symm),gd:={h.gd with ar:=hA,ga:=t.blk h.gd.ga (by simp;exact λe=>h.o3.2.1 e.symm),dr:=t.blk h.gd.dr (by simp;exact λe=>h.o3.2.2.1 e.symm)},tb:=h.tb.turns t (λi hi=>by simp at hi;rw[hi];exact h.o3.2.2.2),sp:=h.sp.put hp hj he,co:=k,lU:=by rw[List.length_set];exact h.lU}
theorem av.put0 (h:av ty B BC w a g X c P T st d U){i:Nat}{p p':Sp}(hp:U[i]? =some p){u:Value}(he:(a9 p).set 0 u=a9 p'):av ty B BC (w.setCell ⟨X.q,i*4,none⟩ u) a g X c P T st d (U.set i p'):=h.put hp (j:=0) QZ he
theorem av.below (h:av ty B BC w a g X c P T st d U)(b:Below w.heap.size w w'):av ty B BC w' a g X c P T st d U:=
 have t:aa [] w w':=aa.of_below b
 {h with lk:=t.blk h.lk QY,gd:=h.gd.below b,tb:=h.tb.turns t QY,sp:=h.sp.turns t QY,co:=h.co.below b}
theorem av.qt (h:av ty B BC w a g X c P T st d U)(n:Nat):av ty B BC (w.drewN n) a g X c P T st d U:=h.below (Qt.below ⟨n,rfl⟩ _)
theorem av.nT (h:av ty B BC w a g X c P T st d U):X.x.n=T.length/\X.x.N=(ab P).length/\T.length<=32/\(ab P).length<=32:=by have:=h.co.fx.n32;have e1:=h.co.fx.nT;have e2:=h.co.fx.nN;exact⟨e1,e2,by omega,by omega⟩
theorem av.thr (h:av ty B BC w a g X c P T st d U){i:Nat}(hi:i<T.length):U[i]? =some (sv U i):=by
 have:i<U.length:=by rw[h.lU];exact hi
 exact IG
theorem av.cs (h:av ty B BC w a g X c P T st d U):w.cell? X.l=some ↑a/\w.cell? ⟨X.l,1,none⟩=some ↑X.b/\w.cell? ⟨X.l,2,none⟩=some ↑X.gg/\w.cell? ⟨X.l,3,none⟩=some ↑X.dd/\w.cell? ⟨X.l,4,none⟩=some (.int .i64 (2*((ab P).length:Int)+1))/\w.cell? ⟨X.l,5,none⟩=some ↑X.x.l/\w.cell? ⟨X.l,6,none⟩=some (.slice (some ⟨X.q,0,none⟩) T.length T.length):=
 ⟨h.lk.cell 0,h.lk.cell 1,h.lk.cell 2,h.lk.cell 3,h.lk.cell 4,h.lk.cell 5,h.lk.cell 6⟩
def SmS (a g:Nat)(X:SmX):List Nat:=X.q :: X.dd :: CoS a g X.x
theorem gQ (t:aa (CoS a g X.x) w w'):aa (SmS a g X) w w':=t.mono (λi hi=>by unfold SmS;simp[hi])
theorem ja (t:aa [a,g,X.dd] w w'):aa (SmS a g X) w w':=t.mono (λi hi=>by unfold SmS CoS;simp at hi ⊢;rcases hi with rfl|rfl|rfl<;>simp)
theorem fd (t:aa [a,g] w w'):aa (SmS a g X) w w':=t.mono (λi hi=>by unfold SmS CoS;simp at hi ⊢;rcases hi with rfl|rfl<;>simp)
theorem dU (i:Nat)(u:Value):aa (SmS a g X) w (w.setCell ⟨X.q,i,none⟩ u):=(aU _ _ _).mono (λi hi=>by unfold SmS;simp at hi;simp[hi])
end
end
section
open Go.RowKit
section
variable{B BC:Nat->Prop}{w w':World}{a g:Nat}{X:SmX}{c:CoC}{P T:List Int}{st st':Co}{d d':Dr}{U:List Sp}{s':Ar}
theorem Hd (h:av 330 B BC w a g X c P T st d U):Calls Tryz.prog 366 #[↑X.l] w λe w'=>e= .returned (.int .i64 T.length)/\w=w':=by have c6:=h.cs.2.2.2.2.2.2;clear h;go_enter Tryz.func366,Tryz.ntmps366;exact gs
theorem Ad (h:av 330 B BC w a g X c P T st d U)(i:Int)(r:Bool)(hr:r=decide (okI U i)):Calls Tryz.prog 367 #[↑X.l,.int .i64 i] w λe w'=>e= .returned (.bool r)/\w=w':=by
 have HT:=qh (Hd h);have hsl:=h.lU;clear h;by_cases h0:0<=i
 ·by_cases h1:i<T.length;·have e:r=true:=(by rw[hr];exact decide_eq_true (show 0<=i/\i<U.length from⟨h0,by rw[hsl];exact h1⟩));subst e;clear hr;go_enter Tryz.func367,Tryz.ntmps367;exact Jk
  ·have e:r=false:=(by rw[hr];exact decide_eq_false (λk=>h1 R9));subst e;clear hr;go_enter Tryz.func367,Tryz.ntmps367;exact J2
 ·have e:r=false:=by rw[hr];exact decide_eq_false (λk=>h0 k.1)
  subst e;clear hr;go_enter Tryz.func367,Tryz.ntmps367;exact gs
theorem oA (h:av 330 B BC w a g X c P T st d U) (i:Int):
    Calls Tryz.prog 364 #[↑X.l,.int .i64 i] w λe w'=>e= .returned (aE (getS U i))/\Below w.heap.size w w':=by
  have hb:=h.below ((Below.refl _ _).alloc (Nat.le_refl _) (.cells #[.int .i64 0,.int .i64 0,.int .i64 0,.int .i64 0] 113));have H:=qh hb;have hs1:=h.lk.lt;have hs2:=h.sp.lt;have hsl:=h.lU;by_cases hok:okI U i;· have HH:=qh (Ad hb i true (decide_eq_true hok).symm);have hp:=dE hok;obtain⟨p,hpp⟩:∃p,p=getS U i:=⟨_,rfl⟩;rw[<-hpp]at hp ⊢;have c6:=h.cs.2.2.2.2.2.2;have a0:=h.sp.cell hp 0 _ rfl;have a1:=h.sp.cell hp 1 _ rfl;have a2:=h.sp.cell hp 2 _ rfl;have a3:=h.sp.cell hp 3 _ rfl;simp only[Nat.add_zero]at a0;obtain⟨h0,h1⟩:=id hok;rw[hsl]at h1;obtain⟨n,rfl⟩:=Int.eq_ofNat_of_zero_le h0;simp only[Int.toNat_natCast]at a0 a1 a2 a3;have t2:¬(n:Int)<0:=(by omega);have t4:n<T.length:=(by omega);clear h hb hp hpp h0 h1 hok hsl;go_enter Tryz.func364,Tryz.ntmps364;go_wp2_with (go_at_call 367;refine HH.o.mono ?_;rintro e w' ⟨rfl,rfl⟩);exact bodyPost_ret (results_cell_row Q5 _ _ w.heap.size 113 _ (0,0) _ Q5 (heap_alloc_new w _) Tryz.underlying113 rfl Q0) rfl ⟨rfl,(Below.refl _ _).alloc (Nat.le_refl _) _⟩
  · have HH:=qh (Ad hb i false (decide_eq_false hok).symm);rw[du hok];clear h hb hok hsl;go_enter Tryz.func364,Tryz.ntmps364;go_wp2_with (go_at_call 367;refine HH.o.mono ?_;rintro e w' ⟨rfl,rfl⟩);exact bodyPost_ret (results_cell_row Q5 _ _ w.heap.size 113 _ (0,0) _ Q5 (heap_alloc_new w _) Tryz.underlying113 rfl Q0) rfl ⟨rfl,(Below.refl _ _).alloc (Nat.le_refl _) _⟩
end
end
section
open Go
def i2 (n:Nat)(P:Nat->Bool):Nat:=(List.range n).countP P
theorem lx (n:Nat)(P:Nat->Bool):i2 (n+1) P=i2 n P+if P n then 1 else 0:=by unfold i2;rw[List.range_succ,List.countP_append,List.countP_singleton]
theorem jm{P Q:Nat->Bool}{i:Nat}(hne:∀j,j≠i->Q j=P j):∀n,i<n->i2 n Q+(if P i then 1 else 0)=i2 n P+(if Q i then 1 else 0)
 |0,h=>by omega
 |n+1,h=>by
  rw[lx,lx];by_cases e:i=n;·subst e;have:i2 i Q=i2 i P:=(by unfold i2;refine List.countP_congr (λx hx=>?_);rw[hne x (by have:=List.mem_range.1 hx;omega)]);rw[this];omega
  ·have ih:=jm (P:=P) (Q:=Q) hne n QX;rw[hne n (λh2=>e h2.symm)];omega
theorem jn{P:Nat->Bool}:∀{n i:Nat},i<n->P i=true->0<i2 n P
 |0,i,h,_=>by omega
 |n+1,i,h,hp=>by
  rw[lx];by_cases e:i=n;·subst e;rw[hp];simp
  ·have:=jn (n:=n) (P:=P) (i:=i) QX hp;omega
section
variable{c:CoC}{n N:Nat}{ml:Nat->Nat}{st st':Co}
theorem By (k n:Nat){m:Int}(h:1<=m):0<=szI k n m:=by unfold szI;(repeat' split)<;>omega
theorem CoM.low (h:CoM c n N ml st)(y:cp c n N ml){s':Ar}(hl:s'.W.length=st.s.W.length)(hf:∀x,c.tg<=x->ldW s'.W x=ldW st.s.W x)(hv:CoV c n {st with s:=s'}):CoM c n N ml {st with s:=s'}:=by
 have hz:=By c.kg N h.fG.m1;have hc:∀a,a<N->ldW s'.W (c.cw a)=ldW st.s.W (c.cw a):=λa ha=>hf _ (by have:=y.gl a ha;have:=y.cw a ha;have:=y.sz a ha;omega);refine⟨h.fG.frame hl (λx h1 _=>hf x h1),λa ha=>(h.fL a ha).frame hl (λx h1 _=>hf x (by have:=y.gl a ha;omega)),h.lL,λa ha=>by show 1<=_/\_<=(s'.W.length:Int);rw[hl];exact h.lW a ha,hv,λj hj=>?_,λa ha hq=>?_⟩;·show StP _ _ (ldW s'.W _);rw[hc _ (y.nd j hj).1];exact h.sj j hj
 ·show FrP _ (ldW s'.W _);rw[hc a ha];exact h.fr a ha hq
theorem CoV.ars (h:CoV c n st)(s':Ar):CoV c n {st with s:=s'}:=⟨h.g,h.l,h.k,h.lT,h.lG,h.lL⟩
theorem CoM.stepLow (h:CoM c n N ml st) (y:cp c n N ml) {B:Int} (hB:CoB c B st) (hB0:1<=B) (hB1:B<=10000000000000) {i:Nat} (hi:i<n):∀x,x<c.tg->ldW (ak c st i).s.W x=ldW st.s.W x:=by
  intro x hx;have ha:=y.nd i hi;have hz:=By c.kg N h.fG.m1;have g1:=y.gl _ ha.1;have c1:=y.cw _ ha.1;have s1:=y.sz _ ha.1;have LS:=((h.fL _ ha.1).step y.k.2 hB.w QX hB1 ha.2 (h.v.lpc hi)).2 x QX;have GS:=(h.fG.step y.k.1 hB.w QX hB1 ha.1 (h.v.gpc hi)).2 x QX;have CS:∀u,ldW (stW st.s.W (c.cw (c.node i)) u) x=ldW st.s.W x:=λu=>by rw[gf (aO.2 (h.lW _ ha.1)),if_neg QX]
  have key:∀p,ldW (cO c st i p).1.W x=ldW st.s.W x:=λp=>by
    unfold cO zl rE
    (repeat' split)<;>(try dsimp only)<;>first
      | rfl
      | exact LS
      | exact GS
      | (rw[aM])
      | (rw[aw];exact CS _)
      | (unfold ch
         (repeat' split)<;>first|rfl|rw[aM])
  unfold ak;split;· rfl
  · exact key _
theorem gq (c:CoC)(st:Co)(i:Nat):(bD c st i).s=st.s:=by unfold bD;split<;>rfl
theorem fu (st:Co)(i:Nat):(ay st i).s=st.s:=by unfold ay;split<;>rfl
theorem ni (h:CoV c n st){i j:Nat}(hi:i<n)(hj:j≠i):sv (ak c st i).T j=sv st.T j:=by
 unfold ak;split;·rfl
 ·show sv (st.T.set i _) j=_;rw[svS (by have:=h.lT;omega),if_neg hj]
theorem gZ (h:CoV c n st){i j:Nat}(hi:i<n):(j≠i->sv (bD c st i).T j=sv st.T j)/\((sv st.T i).pc=0->(sv (bD c st i).T i).pc=1):=by
 unfold bD;have hl:i<st.T.length:=by have:=h.lT;omega
 constructor;·exact J3
 ·intro h0;rw[if_pos h0];show(sv (st.T.set i _) i).pc=1;rw[svS hl,if_pos rfl]
theorem eM (h:CoV c n st){i j:Nat}(hi:i<n):(j≠i->sv (ay st i).T j=sv st.T j)/\((sv st.T i).pc=10->(sv (ay st i).T i).pc=11):=by
 unfold ay;have hl:i<st.T.length:=by have:=h.lT;omega
 constructor;·exact J3
 ·intro h0;rw[if_pos h0];show(sv (st.T.set i _) i).pc=11;rw[svS hl,if_pos rfl]
theorem ly (h:CoV c n st) {i:Nat} (hi:i<n):
    (0<(sv st.T i).pc/\(sv st.T i).pc<10->(0<(sv (ak c st i).T i).pc/\(sv (ak c st i).T i).pc<=10)/\bf (sv st.T i) (sv (ak c st i).T i)=decide ((sv (ak c st i).T i).pc=10))/\
    (10<(sv st.T i).pc->((sv (ak c st i).T i).pc=0\/10<(sv (ak c st i).T i).pc)/\bf (sv st.T i) (sv (ak c st i).T i)=decide ((sv (ak c st i).T i).pc=0)):=by
  have hl:i<st.T.length:=by have:=h.lT;omega
  have hlk:=h.k i hi;obtain⟨p,hp⟩:∃p,p=sv st.T i:=⟨_,rfl⟩;have e:¬(p.pc=0\/p.pc=10)->sv (ak c st i).T i=(cO c st i p).2.2.2:=λhne=>by unfold ak;rw[<-hp,if_neg hne];show sv (st.T.set i _) i=_;rw[svS hl,if_pos rfl]
  rw[<-hp]at hlk ⊢;refine⟨λhc=>?_,λhc=>?_⟩
  · rw[e QX]
    have key:0<(cO c st i p).2.2.2.pc/\(cO c st i p).2.2.2.pc<=10:=by
      obtain⟨pc,u,b,z⟩:=p;have hx:pc=1\/pc=2\/pc=3\/pc=4:=(by unfold db at hlk;simp only at hlk hc;omega);rcases hx with rfl|rfl|rfl|rfl
      · rw[mv1];simp only;split<;>simp
      · rw[mv2];split<;>simp
      · rw[mv3];simp only;split<;>simp
      · rw[mv4];simp
    exact⟨key,p7 hc.1 hc.2 key.1⟩
  · rw[e QX]
    have key:(cO c st i p).2.2.2.pc=0\/10<(cO c st i p).2.2.2.pc:=by
      obtain⟨pc,u,b,z⟩:=p;have hx:pc=11\/pc=12\/pc=13\/pc=14\/pc=15\/pc=16:=(by unfold db at hlk;simp only at hlk hc;omega);rcases hx with rfl|rfl|rfl|rfl|rfl|rfl
      · rw[EP];simp only;split<;>simp
      · rw[EQ];simp only;split<;>simp
      · rw[ER];simp
      · rw[ES];simp
      · rw[ET];split<;>simp
      · rw[EU];simp only;split<;>simp
    exact⟨key,mY hc key⟩
end
end
section
open Go
structure Nu where
 st:Co
 d:Dr
 U:List Sp
def nuFl (N:Nat):Int:=2*(N:Int)+1
def onA (st:Co)(s:Ar):Co:={st with s:=s}
def ij (c:CoC)(N:Nat)(x:Nu)(i:Nat)(pc:Int):Co×Dr×Bool:=
 if pc=1 then(onA x.st (addA x.st.s (gaA (c.node i)) 1),x.d,true)
 else if pc=3 then(bD c (onA x.st (addA x.st.s (gaW (c.node i)) 1)) i,x.d,true)
 else if pc=5 then(ay (onA x.st (addA x.st.s (gaA (c.node i)) 1)) i,x.d,true)
 else if pc=8 then(onA x.st (ac x.st.s (nuFl N) 1),dM x.d N false,true)
 else if pc=9 then(onA x.st (ah x.st.s x.d).1,(ah x.st.s x.d).2.1,(ah x.st.s x.d).2.2)
 else if pc=11 then(onA x.st (addA x.st.s (gaW (c.node i)) 1),x.d,true)
 else if pc=12 then(ay (onA x.st (ac x.st.s (nuFl N) 0)) i,x.d,true)
 else(ak c x.st i,x.d,bf (sv x.st.T i) (sv (ak c x.st i).T i))
def ux (pc:Int):Int:=if pc=6\/pc=9 then 10 else if pc=11\/pc=13 then 0 else pc+1
def nuTo (p:Sp)(r:Bool):Sp:=if r then {p with pc:=ux p.pc} else p
def cB (c:CoC)(N:Nat)(x:Nu)(i:Nat):Nu:=
 if (sv x.U i).pc=0\/(sv x.U i).pc=10 then x
 else if (sv x.U i).pc=2 then⟨onA x.st (ae x.st.s (nuFl N)),x.d,x.U.set i {(sv x.U i)with pc:=if ldW x.st.s.W (nuFl N)=0 then 10 else 3}⟩
 else⟨(ij c N x i (sv x.U i).pc).1,(ij c N x i (sv x.U i).pc).2.1,x.U.set i (nuTo (sv x.U i) (ij c N x i (sv x.U i).pc).2.2)⟩
def cy (c:CoC)(x:Nu)(i:Nat)(read:Bool):Nu:=
 if (sv x.U i).pc=0 then if read then {x with U:=x.U.set i ⟨1,1,0,0⟩} else {x with st:=bD c x.st i,U:=x.U.set i ⟨7,0,0,0⟩} else x
def aJ (x:Nu)(i:Nat):Nu:=if (sv x.U i).pc=10 then {x with U:=x.U.set i {(sv x.U i)with pc:=12-(sv x.U i).a}} else x
def ji (p:Sp):Bool:=decide (p.a=1/\(p.pc=2\/p.pc=3\/p.pc=6\/p.pc=10\/p.pc=11))
def eZ (p:Sp):Prop:=p.a=1/\(p.pc=6\/p.pc=10\/p.pc=11)
def wrP (p:Sp):Prop:=p.a=0/\(p.pc=9\/p.pc=10\/p.pc=12)
def gL (p t:Sp):Prop:=
 (p.pc=0/\t.pc=0)\/(p.a=1/\(p.pc=1\/p.pc=2\/p.pc=3\/p.pc=10\/p.pc=11)/\t.pc=0)\/(p.a=1/\p.pc=4/\0<t.pc/\t.pc<10)\/(p.a=1/\p.pc=5/\t.pc=10)\/(p.a=1/\p.pc=6/\10<t.pc)\/
  (p.a=0/\p.pc=7/\0<t.pc/\t.pc<10)\/(p.a=0/\(p.pc=8\/p.pc=9\/p.pc=10\/p.pc=12)/\t.pc=10)\/(p.a=0/\p.pc=13/\10<t.pc)
def ks (c:CoC)(n:Nat)(U:List Sp)(a:Nat):Nat:=i2 n (λj=>decide (c.node j=a)&&ji (sv U j))
def DrI (c:CoC)(n N:Nat)(d:Dr)(W:List Int)(U:List Sp):Prop:=
 (d.busy=true/\d.once=false/\d.at_<N/\d.lim=N)/\(d.second=true->d.o<=ldW W (gaW d.at_))/\∀j,j<n->eZ (sv U j)->d.at_<=c.node j
structure NuI (c:CoC)(n N:Nat)(ml:Nat->Nat)(x:Nu):Prop where
 m:CoM c n N ml x.st
 lU:x.U.length=n
 k:∀i,i<n->gL (sv x.U i) (sv x.st.T i)
 g:∀a,a<N->ldW x.st.s.W (gaA a)=ldW x.st.s.W (gaW a)+(ks c n x.U a:Int)
 fl:∀i,i<n->wrP (sv x.U i)->ldW x.st.s.W (nuFl N)≠0
 dr:∀i,i<n->(sv x.U i).a=0->(sv x.U i).pc=9->DrI c n N x.d x.st.s.W x.U
 hd:∀i,i<n->(sv x.U i).a=0->(sv x.U i).pc=10->∀j,j<n->¬eZ (sv x.U j)
section
variable{c:CoC}{n N:Nat}{ml:Nat->Nat}{x x':Nu}
theorem NuI.safe (h:NuI c n N ml x)(y:cp c n N ml){i:Nat}(hi:i<n)(h1:(sv x.U i).pc=10)(h0:(sv x.U i).a=0){j:Nat}(hj:j<n)(h2:(sv x.U j).pc=10):j=i/\(sv x.U j).a=0:=by
 have ki:=h.k i hi;have kj:=h.k j hj;by_cases ha:(sv x.U j).a=1;·exact absurd ⟨ha,.inr (.inl h2)⟩ (h.hd i hi h0 h1 j hj)
 ·have t1:(sv x.st.T i).pc=10:=by unfold gL at ki;omega
  have t2:(sv x.st.T j).pc=10/\(sv x.U j).a=0:=by unfold gL at kj;omega
  exact J4
theorem NuI.one (h:NuI c n N ml x)(y:cp c n N ml){i j:Nat}(hi:i<n)(hj:j<n)(h1:(sv x.st.T i).pc=10)(h2:(sv x.st.T j).pc=10):i=j:=h.m.one y hi hj QX QX
theorem Io{p t:Sp}(h:gL p t)(hw:wrP p):t.pc=10:=by unfold gL at h;unfold wrP at hw;omega
theorem nf {U:List Sp} {i:Nat} (hl:i<U.length) (hi:i<n) (p:Sp) (a:Nat):
    ks c n (U.set i p) a+(if c.node i=a/\ji (sv U i)=true then 1 else 0)=ks c n U a+(if c.node i=a/\ji p=true then 1 else 0):=by unfold ks;have:=jm (P:=λj=>decide (c.node j=a)&&ji (sv U j)) (Q:=λj=>decide (c.node j=a)&&ji (sv (U.set i p) j)) (i:=i) (λj hj=>by rw[svS hl,if_neg hj]) n hi;simp only[Bool.and_eq_true,decide_eq_true_eq]at this;rw[svS hl,if_pos rfl]at this;exact this
theorem NuI.upd (h:NuI c n N ml x) {i:Nat} (hi:i<n) {st':Co} {d':Dr} {p':Sp} (hm:CoM c n N ml st') (hT:∀j,j≠i->sv st'.T j=sv x.st.T j) (hk:gL p' (sv st'.T i))
    (hg:∀a,a<N->ldW st'.s.W (gaA a)=ldW st'.s.W (gaW a)+(ks c n (x.U.set i p') a:Int))
    (hfl:∀j,j<n->j≠i->wrP (sv x.U j)->ldW st'.s.W (nuFl N)≠0) (hfi:wrP p'->ldW st'.s.W (nuFl N)≠0)
    (hH:∀a,a<N->ldW x.st.s.W (gaW a)<=ldW st'.s.W (gaW a))
    (hset:eZ p'->eZ (sv x.U i)\/∀j,j<n->j≠i->¬wrP (sv x.U j))
    (hd:∀j,j<n->j≠i->(sv x.U j).a=0->(sv x.U j).pc=9->d'=x.d)
    (od:p'.a=0->p'.pc=9->DrI c n N d' st'.s.W (x.U.set i p')) (oh:p'.a=0->p'.pc=10->∀j,j<n->j≠i->¬eZ (sv x.U j)):NuI c n N ml ⟨st',d',x.U.set i p'⟩:=by
  have hl:i<x.U.length:=by rw[h.lU];exact hi
  have hs:=svS hl p';refine⟨hm,by rw[List.length_set];exact h.lU,λj hj=>?_,hg,λj hj hw=>?_,λj hj h0 h9=>?_,λj hj h0 h10=>?_⟩
  · show gL (sv (x.U.set i p') j) (sv st'.T j);rw[hs];split;· rename_i e;rw[e];exact hk
    · rename_i e;rw[hT j e];exact h.k j hj
  · have hw':wrP (sv (x.U.set i p') j):=hw;rw[hs]at hw';split at hw';· exact hfi hw'
    · rename_i e;exact hfl j hj e hw'
  · have h0':(sv (x.U.set i p') j).a=0:=h0;have h9':(sv (x.U.set i p') j).pc=9:=h9;rw[hs]at h0' h9';by_cases e:j=i;· rw[if_pos e]at h0' h9';exact od h0' h9'
    · rw[if_neg e]at h0' h9';obtain⟨q1,q2,q3⟩:=h.dr j hj h0' h9';show DrI c n N d' st'.s.W (x.U.set i p');rw[hd j hj e h0' h9'];refine⟨q1,λhq=>Int.le_trans (q2 hq) (hH _ q1.2.2.1),λk hk hr=>?_⟩;rw[hs]at hr;split at hr
      · rename_i e2;rcases hset hr with h1|h1
        · rw[e2];exact q3 i hi h1
        · exact absurd ⟨h0',.inl h9'⟩ (h1 j hj e)
      · exact q3 k hk hr
  · have h0':(sv (x.U.set i p') j).a=0:=h0;have h9':(sv (x.U.set i p') j).pc=10:=h10;rw[hs]at h0' h9';intro k hk hr;have hr':eZ (sv (x.U.set i p') k):=hr;rw[hs]at hr';by_cases e:j=i
    · rw[if_pos e]at h0' h9';split at hr';· unfold eZ at hr';omega
      · rename_i e2;exact oh h0' h9' k hk e2 hr'
    · rw[if_neg e]at h0' h9';split at hr'
      · rcases hset hr' with h1|h1
        · exact h.hd j hj h0' h9' i hi h1
        · exact h1 j hj e ⟨h0',.inr (.inl h9')⟩
      · exact h.hd j hj h0' h9' k hk hr'
structure NuL (c:CoC)(N:Nat)(W:List Int):Prop where
 tg:c.tg=2*(N:Int)+2
 len:2*(N:Int)+1<=W.length
theorem eH{a:Nat}(h:a<N):1<=gaA a/\gaA a<nuFl N:=by unfold gaA nuFl;omega
theorem bB{a:Nat}(h:a<N):1<=gaW a/\gaW a<nuFl N:=by unfold gaW nuFl;omega
theorem uh (h:NuI c n N ml x)(y:cp c n N ml)(l:NuL c N x.st.s.W){z:Int}(hz:1<=z/\z<=nuFl N)(v:Int){s':Ar}(e:s'.W=stW x.st.s.W z v):(∀q,ldW s'.W q=if q=z then v else ldW x.st.s.W q)/\CoM c n N ml (onA x.st s'):=by exact J5
theorem AB (h:NuI c n N ml x)(y:cp c n N ml){s':Ar}(e:s'.W=x.st.s.W):CoM c n N ml (onA x.st s'):=
 h.m.low y (by rw[e]) (λq _=>by rw[e]) (h.m.v.ars s')
theorem Ec (h:NuI c n N ml x){i:Nat}(hi:i<n){p':Sp}(hb:ji p'=ji (sv x.U i))(a:Nat):ks c n (x.U.set i p') a=ks c n x.U a:=by have:=nf (c:=c) (n:=n) (show i<x.U.length by rw[h.lU];exact hi) hi p' a;rw[hb]at this;omega
theorem eo (h:NuI c n N ml x){i:Nat}(hi:i<n){p':Sp}(hb:ji p'=ji (sv x.U i)){W':List Int}(hw:∀q,q<nuFl N->ldW W' q=ldW x.st.s.W q):∀a,a<N->ldW W' (gaA a)=ldW W' (gaW a)+(ks c n (x.U.set i p') a:Int):=λa ha=>by
 rw[hw _ (eH ha).2,hw _ (bB ha).2,Ec h hi hb a];exact h.g a ha
theorem FU (h:NuI c n N ml x)(hn:∀j,j<n->c.node j<N){i:Nat}(hi:i<n){p':Sp}(h0:ji (sv x.U i)=false)(h1:ji p'=true){W':List Int}(hw:∀q,ldW W' q=if q=gaA (c.node i)then ldW x.st.s.W (gaA (c.node i))+1 else ldW x.st.s.W q):∀a,a<N->ldW W' (gaA a)=ldW W' (gaW a)+(ks c n (x.U.set i p') a:Int):=λa ha=>by
 have h2:=nf (c:=c) (n:=n) (show i<x.U.length by rw[h.lU];exact hi) hi p' a
 exact J6
theorem DE (h:NuI c n N ml x)(hn:∀j,j<n->c.node j<N){i:Nat}(hi:i<n){p':Sp}(h0:ji (sv x.U i)=true)(h1:ji p'=false){W':List Int}(hw:∀q,ldW W' q=if q=gaW (c.node i)then ldW x.st.s.W (gaW (c.node i))+1 else ldW x.st.s.W q):∀a,a<N->ldW W' (gaA a)=ldW W' (gaW a)+(ks c n (x.U.set i p') a:Int):=λa ha=>by
 have h2:=nf (c:=c) (n:=n) (show i<x.U.length by rw[h.lU];exact hi) hi p' a
 exact J7
end
end
section
open Go.RowKit
def Fy (ty:TypeId)(B BC:Nat->Prop)(w:World)(a g:Nat)(X:SmX)(c:CoC)(P T:List Int)(x':Nu)(e:Ending)(w':World):Prop:=
 ∃r,e= .returned (.bool r)/\av ty B BC w' a g X c P T x'.st x'.d x'.U/\aa (SmS a g X) w w'
def kq (a b:Int):Bool:=decide (((a=0\/a=10)/\b≠a)\/(¬(a=0\/a=10)/\(b=0\/b=10)))
theorem bK{a b:Int}(u0:(a==0)=false)(u1:(a==10)=false)(v1:(b==10)=true):true=kq a b:=by simp at u0 u1 v1;exact(decide_eq_true QX).symm
theorem bM{a b:Int}(u0:(a==0)=false)(u1:(a==10)=false)(v2:(b==0)=true):true=kq a b:=by simp at u0 u1 v2;exact(decide_eq_true QX).symm
theorem bN{a b:Int}(u0:(a==0)=false)(u1:(a==10)=false)(v1:(b==10)=false)(v2:(b==0)=false):false=kq a b:=by simp at u0 u1 v1 v2;exact(decide_eq_false QX).symm
theorem bJ{b:Int}(h:b≠10):true=kq 10 b:=(decide_eq_true QX).symm
theorem gX (a:Int):false=kq a a:=(decide_eq_false QX).symm
def Iq (ty:TypeId)(B BC:Nat->Prop)(w:World)(a g:Nat)(X:SmX)(c:CoC)(P T:List Int)(U:List Sp)(n:Nat)(x':Nu)(e:Ending)(w':World):Prop:=
 e= .returned (.bool (kq (sv U n).pc (sv x'.U n).pc))/\av ty B BC w' a g X c P T x'.st x'.d x'.U/\aa (SmS a g X) w w'
section
variable{ty:TypeId}{B BC:Nat->Prop}{w w':World}{a g:Nat}{X:SmX}{c:CoC}{P T:List Int}{U:List Sp}{n:Nat}{x':Nu}{e:Ending}{p p':Sp}{r:Bool}
theorem Iq.to (h:Iq ty B BC w a g X c P T U n x' e w'):Fy ty B BC w a g X c P T x' e w':=⟨_,h⟩
theorem Iq.stay (k:av ty B BC w' a g X c P T x'.st x'.d x'.U)(t:aa (SmS a g X) w w')(hx:x'.U=U):Iq ty B BC w a g X c P T U n x' (.returned (.bool false)) w':=
 ⟨by rw[hx,<-gX],k,t⟩
theorem Iq.put (hp:U[n]? =some p)(k:av ty B BC w' a g X c P T x'.st x'.d x'.U)(t:aa (SmS a g X) w w')(hx:x'.U=U.set n p')(hr:r=kq p.pc p'.pc):Iq ty B BC w a g X c P T U n x' (.returned (.bool r)) w':=by
 refine⟨?_,k,t⟩;obtain⟨hn,he⟩:=List.getElem?_eq_some_iff.1 hp;have e1:sv U n=p:=by unfold sv;rw[List.getD_eq_getElem?_getD,hp];rfl
 rw[hx,hr,e1,cD,if_pos ⟨rfl,hn⟩]
end
section
variable{ty:TypeId}
variable{B BC:Nat->Prop}{w w':World}{a g:Nat}{X:SmX}{c:CoC}{P T:List Int}{st st':Co}{d d':Dr}{U:List Sp}{s':Ar}
theorem av.put4 (h:av ty B BC w a g X c P T st d U){n:Nat}(hn:n<T.length)(p':Sp):av ty B BC ((((w.setCell ⟨X.q,n*4,none⟩ (.int .i64 p'.pc)).setCell ⟨X.q,n*4+1,none⟩ (.int .i64 p'.a)).setCell ⟨X.q,n*4+2,none⟩ (.int .i64 p'.b)).setCell ⟨X.q,n*4+3,none⟩ (.int .i64 p'.c)) a g X c P T st d (U.set n p'):=by have hp:=h.thr hn;obtain⟨p,e⟩:∃p,p=sv U n:=⟨_,rfl⟩;rw[<-e]at hp;have h1:=h.put0 hp (u:= .int .i64 p'.pc) (p':=⟨p'.pc,p.a,p.b,p.c⟩) rfl;have h2:=h1.put (au hp _) (j:=1) (u:= .int .i64 p'.a) (p':=⟨p'.pc,p'.a,p.b,p.c⟩) QZ rfl;have h3:=h2.put (au (au hp _) _) (j:=2) (u:= .int .i64 p'.b) (p':=⟨p'.pc,p'.a,p'.b,p.c⟩) QZ rfl;have h4:=h3.put (au (au (au hp _) _) _) (j:=3) (u:= .int .i64 p'.c) (p':=p') QZ rfl;simp only[List.set_set]at h4;exact h4
theorem fe (w:World)(n:Nat)(u0 u1 u2 u3:Value):aa (SmS a g X) w ((((w.setCell ⟨X.q,n*4,none⟩ u0).setCell ⟨X.q,n*4+1,none⟩ u1).setCell ⟨X.q,n*4+2,none⟩ u2).setCell ⟨X.q,n*4+3,none⟩ u3):=
 (((dU _ _).trans (dU _ _)).trans (dU _ _)).trans (dU _ _)
end
section
variable{B BC:Nat->Prop}{w w':World}{a g:Nat}{X:SmX}{c:CoC}{P T:List Int}{st st':Co}{d d':Dr}{U:List Sp}{s':Ar}
theorem D4 (h:av 330 B BC w a g X c P T st d U)(n:Nat)(hn:n<T.length)(r:Bool):Calls Tryz.prog 361 #[↑X.l,.int .i64 n,.bool r] w (Iq 330 B BC w a g X c P T U n (cy c ⟨st,d,U⟩ n r)):=by
 have hok:okI U (n:Int):=⟨by omega,by rw[h.lU];omega⟩;have HH:=qh (Ad h n true (decide_eq_true hok).symm);have hp:=h.thr hn;have H:=qh h;have hx:=h.nT;have HA:=qh (rt h.co n (by rw[hx.1];exact hn));obtain⟨x',hx'⟩:∃x,x=cy c ⟨st,d,U⟩ n r:=⟨_,rfl⟩;rw[<-hx'];unfold cy at hx';obtain⟨p,hpp⟩:∃p,p=sv U n:=⟨_,rfl⟩;simp only at hx';rw[<-hpp]at hp hx';have c6:=h.cs.2.2.2.2.2.2;have c5:=h.cs.2.2.2.2.2.1;have a0:=h.sp.cell hp 0 _ rfl;have a1:=h.sp.cell hp 1 _ rfl;have a2:=h.sp.cell hp 2 _ rfl;have a3:=h.sp.cell hp 3 _ rfl;have f1:∀j,w.frozen? ⟨X.q,j,none⟩=false:=λj=>h.sp.free j;simp only[Nat.add_zero]at a0;have t2:¬(n:Int)<0:=by omega
 have HX:=qh hx';have HP:=qh hp;clear h hp hpp hok hx hx';by_cases hp0:p.pc=0
 ·have y1:(p.pc !=0)=false:=by simpa using hp0
  have HP0:=qh hp0;clear hp0;cases r;·go_enter Tryz.func361,Tryz.ntmps361;exact J8
  ·go_enter Tryz.func361,Tryz.ntmps361;exact J9
 ·have y1:(p.pc !=0)=true:=by simpa using hp0
  have HP0:=qh hp0;clear hp0;go_enter Tryz.func361,Tryz.ntmps361;exact Kc
theorem Ap (h:av 330 B BC w a g X c P T st d U)(n:Nat)(hn:n<T.length)(ha:(sv U n).pc=10->(sv U n).a=0\/(sv U n).a=1):Calls Tryz.prog 362 #[↑X.l,.int .i64 n] w (Iq 330 B BC w a g X c P T U n (aJ ⟨st,d,U⟩ n)):=by
 have hfp:=aK;have HS0:=oA h n;have hp:=h.thr hn;have hg:getS U (n:Int)=sv U n:=by exact Kd
 rw[hg]at HS0;have H:=qh h;obtain⟨x',hx'⟩:∃x,x=aJ ⟨st,d,U⟩ n:=⟨_,rfl⟩;rw[<-hx'];unfold aJ at hx';obtain⟨p,hpp⟩:∃p,p=sv U n:=⟨_,rfl⟩;simp only at hx';rw[<-hpp]at hp hx' HS0 ha;have HS:=qh HS0;have HX:=qh hx';have HP:=qh hp;have t2:¬(n:Int)<0:=by omega
 have hn32:=h.nT.2.2.1;clear h hp hpp hx' hg HS0;obtain⟨pc,u,b,z⟩:=p;simp only at ha HX;unfold aE at HS;by_cases hp0:pc=10
 ·subst hp0;have ha':=ha rfl;obtain⟨v,hv⟩:∃v,v=12-u:=⟨_,rfl⟩;have x1:IntKind.i64.wrap (12-u)=v:=by rw[hv];exact IntWalk.i64_in _ QX
  rw[<-hv]at HX;have HV:Kq (v≠10):=qh QX;clear ha ha' hv;have HC:=qh (λW (U':List Sp) (pc':Int) (k:av 330 B BC W a g X c P T st d U') (hp:U'[n]? =some (⟨pc',u,b,z⟩:Sp))=>And.intro k.cs.2.2.2.2.2.2 (k.sp.cell hp 1 _ rfl));go_enter Tryz.func362,Tryz.ntmps362;go_wp2_with fail;refine HS.o.mono ?_;rintro en w1 ⟨rfl,b1⟩;have K1:=qh (H.o.below b1.drew);have T1:=qh (aa.of_below (S:=SmS a g X) b1.drew);have K0:=qh (H.o.below b1);have K3:=qh ((K0.o.put0 HP.o (p':=(⟨v,u,b,z⟩:Sp)) (u:= .int .i64 v) rfl).below (Below.refl _ _).drew);have T3:=qh (show aa (SmS a g X) w ((w1.setCell ⟨X.q,n*4,none⟩ (.int .i64 v)).drew)from((aa.of_below b1).trans (dU _ _)).drew);have e0:=K1.o.sp.cell HP.o 0 _ rfl;have z0:=K1.o.sp.free (n*4);simp only[Nat.add_zero]at e0;clear b1;go_wp2_with fail
  go_region_held3 (λW=>W.cell? ⟨X.l,6,none⟩=some (.slice (some ⟨X.q,0,none⟩) T.length T.length)/\W.cell? ⟨X.q,n*4+1,none⟩=some (.int .i64 u))
   (first|with_reducible exact HC.o _ _ _ K1.o HP.o|with_reducible exact HC.o _ _ _ K3.o (au HP.o _))
   (first|fail)
  exact Ke
 ·have y1:(pc !=10)=true:=by simpa using hp0
  have HP0:=qh hp0;clear hp0 ha;go_enter Tryz.func362,Tryz.ntmps362;go_wp2_with fail;refine HS.o.mono ?_;rintro en w1 ⟨rfl,b1⟩;have HB:=qh b1;clear b1;go_wp2;go_ret;rw[HX.o,if_neg HP0.o];first|exact Iq.stay (H.o.below HB.o) (aa.of_below HB.o) rfl|exact Iq.put HP.o (H.o.below HB.o) (aa.of_below HB.o) rfl Rb
end
end
end Go.Proofs.YtglokdbiggbkjaaGreat
