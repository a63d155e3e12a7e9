/- Joined texts. -/
import Derived.Test.YtglokdbiggbkjaaGreatMgWholeRefuses0
import Derived.Test.YtglokdbiggbkjaaGreatMgWholeRefuses7
import Derived.Test.YtglokdbiggbkjaaGreatMgWholeRefuses10
import Derived.Test.YtglokdbiggbkjaaGreatMgWholeRefuses11
set_option linter.unusedVariables false
set_option linter.unusedSimpArgs false
set_option linter.defProp false
set_option maxRecDepth 100000
set_option maxHeartbeats 16000000
open Go.Proofs.Tryz
namespace Go.Proofs.YtglokdbiggbkjaaGreat
open Go.IntKind(i64)
open Go.Value(int bool slice agg tuple pointer)
open Go.Ending(returned)
open Go.Obj(cells)
variable{i:Nat}{u:Value}
section
open Go.RowKit
structure Dr where
 at_:Nat
 lim:Nat
 once:Bool
 busy:Bool
 second:Bool
 o:Int
 clear:Bool
def drC(gg:Nat)(d:Dr):Array Value:=#[↑gg,J (d.at_:Int),J (d.lim:Int),.bool d.once,.bool d.busy,.bool d.second,J d.o,.bool d.clear]
def gaA(n:Nat):Int:=2*(n:Int)+1
def gaW(n:Nat):Int:=2*(n:Int)+2
def dP(d:Dr)(N:Nat)(once:Bool):Dr:=⟨0,N,once,true,false,d.o,false⟩
def dN(s:Ar)(d:Dr):Dr×Bool:=
 if ldW s.W (gaA d.at_)≠d.o then if d.once then({d with second:=false,busy:=false,clear:=false},true)else({d with second:=false},false)
 else if d.at_+1=d.lim then({d with second:=false,at_:=d.at_+1,busy:=false,clear:=true},true)else({d with second:=false,at_:=d.at_+1},false)
def ai(s:Ar)(d:Dr):Ar×Dr×Bool:=
 if d.busy then if d.second then(af s (gaA d.at_),dN s d)else(af s (gaW d.at_),{d with o:=ldW s.W (gaW d.at_),second:=true},false)else(s,d,false)
structure GD(w:World)(a g gg dd N:Nat)(s:Ar)(d:Dr):Prop where
 ar:aB w a g s
 ga:Blk w gg 365 (gaC a N)
 dr:Blk w dd 367 (drC gg d)
 n32:N<=32
 hd:dd≠a/\dd≠g/\dd≠gg
 hg:gg≠a/\gg≠g
section
variable{w w' w0:World}{a g gg dd N:Nat}{s s':Ar}{d d':Dr}
def GD.op(h:GD w a g gg dd N s d)(t:aa [a,g] w w')(H:aB w' a g s'):GD w' a g gg dd N s' d:=
 {h with ar:=H,ga:=t.blk h.ga (by simp[h.hg]),dr:=t.blk h.dr (by simp[h.hd])}
def GD.below(h:GD w a g gg dd N s d)(b:Below w.heap.size w w'):GD w' a g gg dd N s d:=
 have t:aa [] w w':=aa.of_below b
 {h with ar:=h.ar.turns t ahF ahF,ga:=t.blk h.ga ahF,dr:=t.blk h.dr ahF}
def GD.set(h:GD w a g gg dd N s d)(H:(drC gg d).setIfInBounds i u=drC gg d'):GD (w.setCell ⟨dd,i,none⟩ u) a g gg dd N s d':=
 have t:aa [dd] w (w.setCell ⟨dd,i,none⟩ u):=aV _ _ _
 {h with ar:=h.ar.turns t (by simp;exact λe=>h.hd.1 e.symm) (by simp;exact λe=>h.hd.2.1 e.symm),ga:=t.blk h.ga (by simp;exact λe=>h.hd.2.2 e.symm),dr:=by rw[<-H];exact h.dr.set_ i u}
def GD.c(h:GD w a g gg dd N s d):w.cell? dd=some ↑gg/\Z w dd 1 (J d.at_)/\Z w dd 2 (J d.lim)/\Z w dd 3 (.bool d.once)/\Z w dd 4 (.bool d.busy)/\Z w dd 5 (.bool d.second)/\Z w dd 6 (J d.o)/\Z w dd 7 (.bool d.clear):=
 ⟨h.dr.cell 0,h.dr.cell 1,h.dr.cell 2,h.dr.cell 3,h.dr.cell 4,h.dr.cell 5,h.dr.cell 6,h.dr.cell 7⟩
def i4:aa [a,g,dd] w (w.setCell ⟨dd,i,none⟩ u):=aI (aV _ _ _)
def AH(h:Blk w gg 365 (gaC a N))(O:aB w a g s)(nd:Nat)(V:nd<N)(hN:N<=32)(k:Nat)(hk:k<=1)(Y:s.ops+1<=1000000000000):E 384 #[↑gg,J nd,J k] w λe w'=>e= returned (J (ldW s.W (2*(nd:Int)+1+k)))/\aB w' a g (af s (2*(nd:Int)+1+k))/\aa [a,g] w w':=by
 have c0:w.cell? gg=some ↑a:=h.cell 0;have H:=qh (AI h nd V hN);have t1:((2*(nd:Int)+1)==0)=false:=by simp;omega
 have x1:IntKind.i64.wrap (2*(nd:Int)+1+(k:Int))=2*(nd:Int)+1+(k:Int):=IntWalk.i64_in _ ahE;obtain⟨o,I⟩:∃o:Int,o=2*(nd:Int)+1:=⟨_,rfl⟩;rw[<-I]at H t1 x1 ⊢;have HA:=qh (aD O (o+(k:Int)) Y);clear h O I;go_enter func384,ntmps384;go_wp2_with fail;refine LT H.o ?_;exact abJ
def GK(h:Blk w gg 365 (gaC a N))(I:aB w a g s)(nd:Nat)(O:nd<N)(hN:N<=32)(Y:s.ops+1<=1000000000000):E 381 #[↑gg,J nd] w λe w'=>e= returned (J (ldW s.W (gaW nd)))/\aB w' a g (af s (gaW nd))/\aa [a,g] w w':=by have H:=AH h I nd O hN 1 ahE Y;rw[show 2*(nd:Int)+1+((1:Nat):Int)=gaW nd by unfold gaW;omega]at H;have HA:=qh H;clear h I H;go_enter func381,ntmps381;exact abJ
def I4(h:Blk w gg 365 (gaC a N))(I:aB w a g s)(nd:Nat)(O:nd<N)(hN:N<=32)(Y:s.ops+1<=1000000000000):E 382 #[↑gg,J nd] w λe w'=>e= returned (J (ldW s.W (gaA nd)))/\aB w' a g (af s (gaA nd))/\aa [a,g] w w':=by have H:=AH h I nd O hN 0 ahE Y;rw[show 2*(nd:Int)+1+((0:Nat):Int)=gaA nd by unfold gaA;omega]at H;have HA:=qh H;clear h I H;go_enter func382,ntmps382;exact abJ
def Al(h:GD w a g gg dd N s d)(c:Bool):E 376 #[↑dd,.bool c] w λe w'=>e= returned (bool true)/\GD w' a g gg dd N s {d with busy:=false,clear:=c}/\aa [a,g,dd] w w':=by have O:=h.dr.free 4;have V:=h.dr.free 7;have c4:=h.c.2.2.2.2.1;have I:=h.c.2.2.2.2.2.2.2;have H1:=qh (h.set (i:=4) (u:= bool false) (d':={d with busy:=false}) rfl);have H:=qh (H1.o.set (i:=7) (u:= .bool c) (d':={d with busy:=false,clear:=c}) rfl);clear h;go_enter func376,ntmps376;go_wp2;go_ret;exact⟨rfl,H.o,i4.trans i4⟩
def E6(h:GD w a g gg dd N s d):E 377 #[↑dd] w λe w'=>e= returned (.bool d.busy)/\w=w':=by have c4:=h.c.2.2.2.2.1;clear h;go_enter func377,ntmps377;exact aaa
def C4(h:GD w a g gg dd N s d):E 395 #[↑dd] w λe w'=>e= returned (.bool d.clear)/\w=w':=by have H:=h.c.2.2.2.2.2.2.2;clear h;go_enter func395,ntmps395;exact aaa
def mK(h:GD w a g gg dd N s d)(h1:1<=N)(once:Bool):E 373 #[↑dd,J 0,J N,.bool once] w λe w'=>e= returned (bool false)/\GD w' a g gg dd N s (dP d N once)/\aa [a,g,dd] w w':=by
 obtain⟨c0,c1,c2,c3,c4,c5,c6,c7⟩:=h.c;have z1:=h.dr.free 1;have z2:=h.dr.free 2;have z3:=h.dr.free 3;have z4:=h.dr.free 4;have z5:=h.dr.free 5;have z7:=h.dr.free 7;have t1:decide ((0:Int) >= (N:Int))=false:=by simp;omega
 have t2:¬(N:Int)<=0:=by omega
 have H1:=h.set (i:=1) (u:= J 0) (d':={d with at_:=0}) rfl;have H:=H1.set (i:=2) (u:= J N) (d':={d with at_:=0,lim:=N}) rfl;have I:=H.set (i:=3) (u:= .bool once) (d':={d with at_:=0,lim:=N,once:=once}) rfl;have O:=I.set (i:=5) (u:= bool false) (d':={d with at_:=0,lim:=N,once:=once,second:=false}) rfl;have V:=O.set (i:=4) (u:= bool true) (d':={d with at_:=0,lim:=N,once:=once,second:=false,busy:=true}) rfl;have Y:=qh (V.set (i:=7) (u:= bool false) (d':=dP d N once) rfl);clear h H1 H I O V;go_enter func373,ntmps373;go_wp2;go_ret;exact⟨rfl,Y.o,((((i4.trans i4).trans i4).trans i4).trans i4).trans i4⟩
def C5(h:GD w a g gg dd N s d)(hn:d.at_<N)(Y:s.ops+1<=1000000000000):E 378 #[↑dd] w λe w'=>e= returned (bool false)/\GD w' a g gg dd N (af s (gaW d.at_)) {d with o:=ldW s.W (gaW d.at_),second:=true}/\aa [a,g,dd] w w':=by
 have HF:=qh (λW (k:GD W a g gg dd N s d)=>GK k.ga k.ar d.at_ hn k.n32 Y);have O:=qh (h.below (Below.refl _ _).drew);clear h;go_enter func378,ntmps378;go_wp2_with fail
 go_region_held3 (λW=>W.cell? dd=some ↑gg/\Z W dd 1 (J d.at_))
  (first|with_reducible exact⟨O.o.c.1,O.o.c.2.1⟩|with_reducible exact⟨H.o.c.1,H.o.c.2.1⟩|exact⟨I.o.c.1,I.o.c.2.1⟩)
  (first
   |(go_at_call 381;go_loud (refine Op (HF.o _ O.o) λw3 V=>?_);have H:=qh (O.o.op V.o.2 V.o.1);have T2:=qh (((aa.refl [a,g,dd] w).drew).trans (aK V.o.2));have I:=qh (H.o.set (i:=6) (u:= J (ldW s.W (gaW d.at_))) (d':={d with o:=ldW s.W (gaW d.at_)}) rfl);have e4:=H.o.c.2.2.2.2.2.2.1;have z1:=H.o.dr.free 6))
 all_goals have e5:=I.o.c.2.2.2.2.2.1;have z5:=I.o.dr.free 5;have K4:=qh (I.o.set (i:=5) (u:= bool true) (d':={d with o:=ldW s.W (gaW d.at_),second:=true}) rfl);clear e4 z1;go_wp2;go_ret;exact⟨rfl,K4.o,(T2.o.trans i4).trans i4⟩
def C6(h:GD w a g gg dd N s d)(hn:d.at_<N)(Y:s.ops+1<=1000000000000):E 379 #[↑dd] w λe w'=>e= returned (bool (dN s d).2)/\GD w' a g gg dd N (af s (gaA d.at_)) (dN s d).1/\aa [a,g,dd] w w':=by
 obtain⟨v,O⟩:=LE (ldW s.W (gaA d.at_));have HX:Kq (dN s d=if v≠d.o then if d.once then({d with second:=false,busy:=false,clear:=false},true)else({d with second:=false},false)else if d.at_+1=d.lim then({d with second:=false,at_:=d.at_+1,busy:=false,clear:=true},true)else({d with second:=false,at_:=d.at_+1},false)):=qh (by rw[O];rfl);have KP:=(λW d' (k:GD W a g gg dd N s d') (he:d'.at_=d.at_)=>I4 k.ga k.ar d.at_ hn k.n32 Y);rw[<-O]at KP;have HF:=qh KP;have c5:=h.c.2.2.2.2.2.1;have z5:=h.dr.free 5;have K0:=qh (h.set (i:=5) (u:= bool false) (d':={d with second:=false}) rfl);have H:=qh (K0.o.below (Below.refl _ _).drew);have T1:=qh (show aa [a,g,dd] w ((w.setCell ⟨dd,5,none⟩ (bool false)).drew)from i4.drew);have LU:=h.n32;have x1:IntKind.i64.wrap ((d.at_:Int)+1)=((d.at_+1:Nat):Int):=by rw[IntWalk.i64_in _ ahE];omega
 obtain⟨ab,hv⟩:=LE (af s (gaA d.at_));rw[<-hv]at HF ⊢;clear h O KP hv;obtain⟨at_,lim,once,busy,second,Od,UF⟩:=d;simp only at HX HF x1 hn;obtain⟨nI,Ti⟩:∃nI:Int,nI=((at_+1:Nat):Int):=⟨_,rfl⟩;obtain⟨lI,Vq⟩:∃lI:Int,lI=(lim:Int):=⟨_,rfl⟩;rw[<-Ti]at x1;have HE:Kq (nI=((at_+1:Nat):Int)/\lI=(lim:Int)):=qh ⟨Ti,Vq⟩;clear Ti Vq;cases hq:(v !=Od)
 .have Pb:Kq (v=Od):=qh (by simpa using hq);cases u1:(nI==lI)
  .have Rc:Kq (¬(at_+1=lim)):=qh (by have e:=HE.o;have:¬nI=lI:=(by simpa using u1);omega);go_enter func379,ntmps379;go_wp2_with fail
   go_region_held3 (λW=>W.cell? dd=some ↑gg/\Z W dd 1 (J at_))
    (first|with_reducible exact⟨H.o.c.1,H.o.c.2.1⟩|with_reducible exact⟨K2.o.c.1,K2.o.c.2.1⟩)
    (first
     |(go_at_call 382;go_loud (refine Op (HF.o _ _ H.o rfl) λw3 I=>?_);have K2:=qh (H.o.op I.o.2 I.o.1);have T2:=qh (T1.o.trans (aK I.o.2))))
   refine aju ?_;intro e1 e6 e3 z1 K3 K4 T4;go_wp2_with fail;refine wp_region_held_drew (S:=(λW=>Z W dd 1 (J nI)/\Z W dd 2 (J lI))) ahH (by exact⟨K4.o.c.2.1.trans (by rw[HE.o.1]),K4.o.c.2.2.1.trans (by rw[HE.o.2])⟩) (λhHeld=>?_);refine aja ?_;refine tk 9 ?_;refine aj9 ?_;refine wpAnyH_done ahH ?_ _;go_wp2;go_ret;rw[HX.o,if_neg (by simpa using Pb.o),if_neg Rc.o];exact⟨rfl,K4.o,T4.o⟩
  .have Rc:Kq (at_+1=lim):=qh (by have e:=HE.o;have:nI=lI:=(by simpa using u1);omega);go_enter func379,ntmps379;go_wp2_with fail
   go_region_held3 (λW=>W.cell? dd=some ↑gg/\Z W dd 1 (J at_))
    (first|with_reducible exact⟨H.o.c.1,H.o.c.2.1⟩|with_reducible exact⟨K2.o.c.1,K2.o.c.2.1⟩)
    (first
     |(go_at_call 382;go_loud (refine Op (HF.o _ _ H.o rfl) λw3 I=>?_);have K2:=qh (H.o.op I.o.2 I.o.1);have T2:=qh (T1.o.trans (aK I.o.2))))
   refine aju ?_;intro e1 e6 e3 z1 K3 K4 T4;go_wp2_with fail;have Si:=qh (Al K4.o true)
   go_region_held3 (λW=>Z W dd 1 (J nI)/\Z W dd 2 (J lI))
    (first|exact⟨K4.o.c.2.1.trans (by rw[HE.o.1]),K4.o.c.2.2.1.trans (by rw[HE.o.2])⟩|exact⟨K5.o.c.2.1.trans (by rw[HE.o.1]),K5.o.c.2.2.1.trans (by rw[HE.o.2])⟩)
    (first
     |(go_at_call 376;go_loud (refine Op Si.o λw5 k5=>?_);have K5:=qh k5.o.1;have T5:=qh (T4.o.trans k5.o.2)))
   go_wp2;go_ret;rw[HX.o,if_neg (by simpa using Pb.o),if_pos Rc.o];exact⟨rfl,K5.o,T5.o⟩
 .have Pb:Kq (¬v=Od):=qh (by simpa using hq);cases once
  .skip;go_enter func379,ntmps379;go_wp2_with fail
   go_region_held3 (λW=>W.cell? dd=some ↑gg/\Z W dd 1 (J at_))
    (first|with_reducible exact⟨H.o.c.1,H.o.c.2.1⟩|with_reducible exact⟨K2.o.c.1,K2.o.c.2.1⟩)
    (first
     |(go_at_call 382;go_loud (refine Op (HF.o _ _ H.o rfl) λw3 I=>?_);have K2:=qh (H.o.op I.o.2 I.o.1);have T2:=qh (T1.o.trans (aK I.o.2))))
   have e6:=K2.o.c.2.2.2.2.2.2.1;have e3:=K2.o.c.2.2.2.1;go_wp2;go_ret;rw[HX.o,if_pos Pb.o];exact abK
  .skip;go_enter func379,ntmps379;go_wp2_with fail
   go_region_held3 (λW=>W.cell? dd=some ↑gg/\Z W dd 1 (J at_))
    (first|with_reducible exact⟨H.o.c.1,H.o.c.2.1⟩|with_reducible exact⟨K2.o.c.1,K2.o.c.2.1⟩)
    (first
     |(go_at_call 382;go_loud (refine Op (HF.o _ _ H.o rfl) λw3 I=>?_);have K2:=qh (H.o.op I.o.2 I.o.1);have T2:=qh (T1.o.trans (aK I.o.2))))
   have e6:=K2.o.c.2.2.2.2.2.2.1;have e3:=K2.o.c.2.2.2.1;have Si:=qh (Al K2.o false);go_wp2_with fail;refine Op Si.o λw5 k5=>?_;have K5:=qh k5.o.1;have T5:=qh (T2.o.trans k5.o.2);go_wp2;go_ret;rw[HX.o,if_pos Pb.o];exact⟨rfl,K5.o,T5.o⟩
def mL(h:GD w a g gg dd N s d)(V:d.busy=true->d.at_<N)(Y:s.ops+1<=1000000000000):E 374 #[↑dd] w λe w'=>e= returned (bool (ai s d).2.2)/\GD w' a g gg dd N (ai s d).1 (ai s d).2.1/\aa [a,g,dd] w w':=by
 have HB:=qh (E6 h);have c5:=h.c.2.2.2.2.2.1;have H:=qh h;cases I:d.busy;.have HX:Kq (ai s d=(s,d,false)):=qh (by unfold ai;rw[I];rfl);rw[I]at HB;clear h;go_enter func374,ntmps374;go_wp2_with fail;refine LT HB.o ?_;go_wp2;go_ret;rw[HX.o];exact aaF
 .have O:=V I;rw[I]at HB;cases Jx:d.second;.have HF:=qh (C5 h O Y);have HX:Kq (ai s d=(af s (gaW d.at_),{d with o:=ldW s.W (gaW d.at_),second:=true},false)):=qh (by unfold ai;rw[I,Jx];rfl);exact abL
  .have HF:=qh (C6 h O Y);have HX:Kq (ai s d=(af s (gaA d.at_),dN s d)):=qh (by unfold ai;rw[I,Jx];rfl);exact abL
end
end
end Go.Proofs.YtglokdbiggbkjaaGreat
