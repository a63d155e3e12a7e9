/- Joined texts. -/
import Derived.StillTailTactics
import Derived.Deep.RegionHeld3
import Derived.IntWalk
import Derived.Test.YtglokdbiggbkjaaGreatMgLocksSafe0
import Derived.Test.YtglokdbiggbkjaaGreatMgLocksSafe1
import Derived.Test.YtglokdbiggbkjaaGreatMgLocksSafe2
import Derived.Test.YtglokdbiggbkjaaGreatMgLocksSafe3
import Derived.Test.YtglokdbiggbkjaaGreatMgLocksSafe4
set_option linter.unusedVariables false
set_option linter.unusedSimpArgs false
set_option maxRecDepth 100000
set_option maxHeartbeats 16000000
namespace Go.Proofs.YtglokdbiggbkjaaGreat
section
open Go
structure Bn where
 step:Int
 x:Int
 n:Int
 got:Int
def bnS (F:Int)(s:Ar)(b:Bn):Ar×Bn×Bool:=
 if b.step=1 then(ac s (F+1+b.x) 0,{b with step:=2},false)
 else if b.step=2 then(ae s (F+1),{b with n:=ldW s.W (F+1),step:=3},false)
 else if b.step=3 then(ac s (if b.n≠0 then F+1+b.n else F) b.x,{b with step:=4},false)
 else if b.step=4 then(ac s (F+1) b.x,{b with step:=0},true)
 else if b.step=5 then(ae s F,if ldW s.W F=0 then⟨0,0,b.n,0⟩else {b with x:=ldW s.W F,step:=6},decide (ldW s.W F=0))
 else if b.step=6 then(ae s (F+1+b.x),{b with n:=ldW s.W (F+1+b.x),step:=7},false)
 else if b.step=7 then(ac s F b.n,if b.n≠0 then {b with got:=b.x,step:=0} else {b with step:=8},decide (b.n≠0))
 else if b.step=8 then(ac s (F+1) 0,{b with got:=b.x,step:=0},true)
 else(s,b,false)
def bnB (n:Nat)(b:Bn)(st x:Int):Bn:=if b.step=0/\1<=x/\x<=n then {b with step:=st,x:=x} else b
structure Mal where
 ar:Ar
 bn:Bn
 d:Int
 S:List Sp
def maF (n:Nat):Int:=3+2*(n:Int)
def fh (s:Ar)(x:Int)(p:Sp):Ar×Sp:=
 if p.pc=1 then(ac s (1+2*x) 0,{p with pc:=2})
 else if p.pc=2 then(ac s (2+2*x) 1,{p with pc:=3})
 else if p.pc=3 then(bY s 1 x,{p with a:=ldW s.W 1,pc:=if ldW s.W 1=0 then 10 else 4})
 else if p.pc=4 then(ac s (1+2*p.a) x,{p with pc:=5})
 else(ae s (2+2*x),{p with pc:=if ldW s.W (2+2*x)=0 then 10 else p.pc})
def mb (a b:Int):Int:=if b=0 then(if a=0 then 19 else 21)else if a=0 then 15 else 14
def dw (n:Nat)(bud:Int)(h:Mal)(x:Int)(p:Sp):Ar×Bn×Int×Sp:=
 let s:=h.ar
 if p.pc=11 then(addA s 2 1,h.bn,h.d,{p with c:=(if inR s.W 2 then IntKind.i64.wrap (ldW s.W 2+1)else 0),pc:=12})
 else if p.pc=12 then
  if ldW s.W (1+2*x)≠0/\p.c.tmod (bud+1)≠0 then(ae s (1+2*x),h.bn,h.d,{p with a:=ldW s.W (1+2*x),pc:=21})
  else(ae s (1+2*x),bnB n h.bn 5 1,h.d,{p with a:=ldW s.W (1+2*x),pc:=13})
 else if p.pc=13 then
  if (bnS (maF n) s h.bn).2.2 then((bnS (maF n) s h.bn).1,(bnS (maF n) s h.bn).2.1,h.d,{p with b:=(bnS (maF n) s h.bn).2.1.got,pc:=mb p.a (bnS (maF n) s h.bn).2.1.got})
  else((bnS (maF n) s h.bn).1,(bnS (maF n) s h.bn).2.1,h.d,p)
 else if p.pc=14 then(ac s (1+2*p.b) p.a,h.bn,h.d,{p with pc:=18})
 else if p.pc=15 then(ac s (1+2*p.b) 0,h.bn,h.d,{p with pc:=16})
 else if p.pc=16 then(dO s 1 x p.b,h.bn,h.d,{p with pc:=if cl s 1 x then 18 else 17})
 else if p.pc=17 then(ae s (1+2*x),h.bn,h.d,{p with a:=ldW s.W (1+2*x),pc:=if ldW s.W (1+2*x)=0 then 17 else 14})
 else if p.pc=18 then(ac s (2+2*p.b) 0,h.bn,h.d,{p with pc:=0})
 else if p.pc=19 then(dO s 1 x 0,h.bn,h.d,{p with pc:=if cl s 1 x then 0 else 20})
 else if p.pc=20 then(ae s (1+2*x),h.bn,h.d,{p with a:=ldW s.W (1+2*x),pc:=if ldW s.W (1+2*x)=0 then 20 else 21})
 else if p.pc=21 then
  if ldW s.W (1+2*p.a)=0 then(ae s (1+2*p.a),h.bn,0,{p with pc:=24})
  else(ae s (1+2*p.a),bnB n h.bn 1 p.a,ldW s.W (1+2*p.a),{p with pc:=22})
 else if p.pc=22 then((bnS (maF n) s h.bn).1,(bnS (maF n) s h.bn).2.1,h.d,{p with pc:=if (bnS (maF n) s h.bn).2.2 then 23 else 22})
 else if p.pc=23 then(ac s (2+2*h.d) 0,h.bn,h.d,{p with pc:=0})
 else if p.pc=24 then(ac s (2+2*p.a) 0,h.bn,h.d,{p with pc:=0})
 else(s,h.bn,h.d,p)
def maP (n:Nat)(bud:Int)(h:Mal)(i:Nat)(p:Sp):Ar×Bn×Int×Sp:=
 if p.pc<10 then((fh h.ar (i+1) p).1,h.bn,h.d,(fh h.ar (i+1) p).2)else dw n bud h (i+1) p
def eJ (n:Nat)(bud:Int)(h:Mal)(i:Nat):Mal×Bool:=
 if (sv h.S i).pc=0\/(sv h.S i).pc=10 then(h,false)
 else let r:=maP n bud h i (sv h.S i);(⟨r.1,r.2.1,r.2.2.1,h.S.set i r.2.2.2⟩,decide (r.2.2.2.pc=0\/r.2.2.2.pc=10))
def jM (f:Int->Int)(σ:Nat->Sp)(i:Nat):Prop:=10<=(σ i).pc\/(3<=(σ i).pc/\f (4+2*(i:Int))=0)
structure MaI (n:Nat)(f:Int->Int)(b:Bn)(d:Int)(σ:Nat->Sp):Prop where
 n1:1<=n
 one:∀i j,i<n->j<n->jM f σ i->jM f σ j->i=j
 tl:f 1=0->∀i,i<n->¬jM f σ i
 vw:∀y,y≠2->0<=f y/\f y<=n
 vd:0<=d/\d<=n
 bx:0<=b.x/\b.x<=n
 vn:0<=b.n/\b.n<=n
 bg:0<=b.got/\b.got<=n
 bs:0<=b.step/\b.step<=8
 sp:∀i,i<n->(0<=(σ i).a/\(σ i).a<=n)/\(0<=(σ i).b/\(σ i).b<=n)
 pcs:∀i,i<n->(0<=(σ i).pc/\(σ i).pc<=5)\/(10<=(σ i).pc/\(σ i).pc<=24)
 a1:∀i,i<n->(σ i).pc=4\/(σ i).pc=21\/(σ i).pc=24\/(σ i).pc=22->1<=(σ i).a
 b1:∀i,i<n->14<=(σ i).pc/\(σ i).pc<=18->1<=(σ i).b
 d1:∀i,i<n->(σ i).pc=22\/(σ i).pc=23->1<=d
section
variable{n:Nat}{f f':Int->Int}{b b':Bn}{d d':Int}{σ σ':Nat->Sp}
theorem MaI.upd (h:MaI n f b d σ) {i:Nat} {p:Sp} (hi:i<n) (hs:∀j,σ' j=if j=i then p else σ j)
    (ht:∀j,j<n->jM f' σ' j->(j=i/\jM f σ i)\/(j≠i/\jM f σ j)\/(jM f σ i/\¬jM f' σ' i/\∀k,k<n->k≠i->jM f' σ' k->k=j)\/(f 1=0/\j=i))
    (htl:f' 1=0->(f 1=0/\¬jM f' σ' i)\/(jM f σ i/\∀k,k<n->¬jM f' σ' k))
    (hw:∀y,y≠2->0<=f' y/\f' y<=n) (hd:0<=d'/\d'<=n) (hbx:0<=b'.x/\b'.x<=n) (hbn:0<=b'.n/\b'.n<=n) (hbg:0<=b'.got/\b'.got<=n) (hbs:0<=b'.step/\b'.step<=8)
    (hp:(0<=p.a/\p.a<=n)/\(0<=p.b/\p.b<=n)) (hpc:(0<=p.pc/\p.pc<=5)\/(10<=p.pc/\p.pc<=24)) (ha:p.pc=4\/p.pc=21\/p.pc=24\/p.pc=22->1<=p.a)
    (hb:14<=p.pc/\p.pc<=18->1<=p.b) (hd1:p.pc=22\/p.pc=23->1<=d') (hdd:d'=d\/10<=(σ i).pc):MaI n f' b' d' σ':=by
  have hsi:σ' i=p:=by rw[hs,if_pos rfl]
  have hne:∀j,j≠i->σ' j=σ j:=λj e=>by rw[hs,if_neg e]
  refine⟨h.n1,?_,?_,hw,hd,hbx,hbn,hbg,hbs,?_,?_,?_,?_,?_⟩;· intro j k hj hk tj tk;have:=h.one;have:=h.tl;grind
  · intro e j hj tj;have:=h.tl;have:=h.one;grind
  all_goals
    intro j hj;have h1:=h.sp j hj;have h2:=h.pcs j hj;have h3:=h.a1 j hj;have h4:=h.b1 j hj;have h5:=h.d1 j hj;by_cases e:j=i;· subst e;rw[hsi];grind
    · rw[hne j e];have h6:=h.one i j hi hj;grind [jM]
structure MaS (n:Nat)(h:Mal):Prop where
 i:MaI n (ldW h.ar.W) h.bn h.d (sv h.S)
 len:h.S.length=n
 wl:h.ar.W.length=4+3*n
theorem DI{W:List Int}{n:Nat}(wl:W.length=4+3*n)(x v:Int)(h1:1<=x)(h2:x<=4+3*n)(y:Int):ldW (stW W x v) y=if y=x then v else ldW W y:=
 gf (aO.2 (by rw[wl];omega)) v y
def BnB (n:Nat)(b:Bn):Prop:=(0<=b.x/\b.x<=n)/\(0<=b.n/\b.n<=n)/\(0<=b.got/\b.got<=n)/\0<=b.step/\b.step<=8
theorem D8 {s:Ar} (hb:BnB n b) (wl:s.W.length=4+3*n) (hw:∀y,y≠2->0<=ldW s.W y/\ldW s.W y<=n):
    (∀y,y≠2->0<=ldW (bnS (maF n) s b).1.W y/\ldW (bnS (maF n) s b).1.W y<=n)/\(∀y,y<maF n->ldW (bnS (maF n) s b).1.W y=ldW s.W y)/\BnB n (bnS (maF n) s b).2.1/\(bnS (maF n) s b).1.W.length=4+3*n:=by
  have hst:=DI wl;have w1:=hw (maF n) (by unfold maF;omega);have w2:=hw (maF n+1) (by unfold maF;omega);have w3:=hw (maF n+1+b.x) (by unfold maF BnB at *;omega);unfold bnS;repeat' split
  all_goals simp only[aw,aM,bE]
  all_goals refine⟨λy hy=>?_,λy hy=>?_,?_,wl⟩
  all_goals grind [maF,BnB]
theorem MaS.go{h:Mal}(k:MaS n h)(bud:Int){i:Nat}(hi:i<n){p:Sp}(hp:p=sv h.S i)(h0:¬(p.pc=0\/p.pc=10)){r:Ar×Bn×Int×Sp}(hr:r=maP n bud h i p):MaS n ⟨r.1,r.2.1,r.2.2.1,h.S.set i r.2.2.2⟩:=by
 have I:=k.i;have hs:∀q,sv (h.S.set i q)=λj=>if j=i then q else sv h.S j:=λq=>by funext j;rw[cD];grind [k.len]
 have hst:=DI k.wl;have hB:BnB n h.bn:=⟨I.bx,I.vn,I.bg,I.bs⟩;have hbs:=D8 hB k.wl I.vw;have h1:=I.sp i hi;have h2:=I.pcs i hi;have h3:=I.a1 i hi;have h4:=I.b1 i hi;have h5:=I.d1 i hi;have vw:=I.vw;have vd:=I.vd;have tl:=I.tl;have one:=I.one;have hcas:∀y,cl h.ar 1 y=decide (ldW h.ar.W 1=y):=λy=>by unfold cl;rw[aO.2 (by rw[k.wl];omega)];rfl
 rw[<-hp]at h1 h2 h3 h4 h5;obtain⟨x,hx⟩:∃x,x=bnS (maF n) h.ar h.bn:=⟨_,rfl⟩;rw[<-hx]at hbs;obtain⟨hb1,hb2,hb3,hb4⟩:=hbs;obtain⟨pc,a,b,z⟩:=p;simp only at h1 h2 h3 h4 h5 h0;have hc:pc=1\/pc=2\/pc=3\/pc=4\/pc=5\/pc=11\/pc=12\/pc=13\/pc=14\/pc=15\/pc=16\/pc=17\/pc=18\/pc=19\/pc=20\/pc=21\/pc=22\/pc=23\/pc=24:=by omega
 rcases hc with rfl|rfl|rfl|rfl|rfl|rfl|rfl|rfl|rfl|rfl|rfl|rfl|rfl|rfl|rfl|rfl|rfl|rfl|rfl
 all_goals simp[maP,fh,dw,<-hx]at hr;clear hx;try split at hr
 all_goals subst hr;refine⟨?_,by simp[k.len],?_⟩
 all_goals simp only[aw,aM,dI,dR,gG]
 all_goals try first|(simp only[bE,k.wl,hb4];done)|(split<;>simp only[bE,k.wl];done)
 all_goals refine I.upd hi (λj=>congrFun (hs _) j) ?_ ?_ ?_ ?_ ?_ ?_ ?_ ?_ ?_ ?_ ?_ ?_ ?_ ?_
 all_goals (first|omega|grind [maF,BnB,bnB,mb]|grind [jM,maF])
theorem MaS.step{h:Mal}(k:MaS n h)(bud:Int){i:Nat}(hi:i<n):MaS n (eJ n bud h i).1:=by
 unfold eJ;split;·exact k
 ·exact k.go bud hi rfl Rk rfl
theorem MaS.beg{h:Mal}(k:MaS n h){i:Nat}{u v:Int}(hc:(sv h.S i).pc=u)(huv:(u=0/\v=1)\/(u=10/\v=11)):MaS n ⟨h.ar,h.bn,h.d,h.S.set i {sv h.S i with pc:=v}⟩:=by
 refine⟨?_,by simp[k.len],k.wl⟩;by_cases hi:i<n;·exact k.i.upd (p:={sv h.S i with pc:=v}) hi (λj=>by show sv (h.S.set i _) j=_;rw[cD];grind [k.len]) (by have:=k.i.one;grind [jM,cD,k.len]) (by have:=k.i.tl;grind [jM,cD,k.len]) k.i.vw k.i.vd k.i.bx k.i.vn k.i.bg k.i.bs (k.i.sp i hi) (by grind) (by grind) (by grind) (by grind) (.inl rfl)
 ·rw[List.set_eq_of_length_le (by rw[k.len];omega)];exact k.i
theorem MaS.one{h:Mal}(k:MaS n h){i j:Nat}(hi:i<n)(hj:j<n)(h1:(sv h.S i).pc=10)(h2:(sv h.S j).pc=10):i=j:=k.i.one i j hi hj (.inl QX) (.inl QX)
end
end
section
open Go.RowKit
structure Bx where
 k:Nat
 a:Nat
 g:Nat
 F:Nat
 n:Nat
structure BnA (w:World)(c:Bx)(s:Ar)(b:Bn):Prop where
 ar:aA w c.a c.g s
 blk:Blk w c.k 326 #[↑c.a,.int .i64 c.F,.int .i64 c.n,.int .i64 b.step,.int .i64 b.x,.int .i64 b.n,.int .i64 b.got]
 ka:c.k≠c.a/\c.k≠c.g
 bd:c.F<=5000/\c.n<=32
 ix:BnB c.n b
structure BnT (w0 w:World)(c:Bx)(s:Ar)(b:Bn):Prop where
 is:BnA w c s b
 tn:aa [c.a,c.g,c.k] w0 w
section
variable{w w' w0:World}{c:Bx}{s s':Ar}{b:Bn}
theorem BnA.ca (h:BnA w c s b):w.cell? c.k=some ↑c.a:=h.blk.cell 0
theorem BnA.cF (h:BnA w c s b):w.cell? ⟨c.k,1,none⟩=some (.int .i64 c.F):=h.blk.cell 1
theorem BnA.cn (h:BnA w c s b):w.cell? ⟨c.k,2,none⟩=some (.int .i64 c.n):=h.blk.cell 2
theorem BnA.cs (h:BnA w c s b):w.cell? ⟨c.k,3,none⟩=some (.int .i64 b.step):=h.blk.cell 3
theorem BnA.cx (h:BnA w c s b):w.cell? ⟨c.k,4,none⟩=some (.int .i64 b.x):=h.blk.cell 4
theorem BnA.cm (h:BnA w c s b):w.cell? ⟨c.k,5,none⟩=some (.int .i64 b.n):=h.blk.cell 5
theorem BnA.cg (h:BnA w c s b):w.cell? ⟨c.k,6,none⟩=some (.int .i64 b.got):=h.blk.cell 6
theorem BnA.turns{S:List Nat}(h:BnA w c s b)(t:aa S w w')(h1:c.a∉S)(h2:c.g∉S)(h3:c.k∉S):BnA w' c s b:={h with ar:=h.ar.turns t h1 h2,blk:=t.blk h.blk h3}
theorem BnA.op (h:BnA w c s b)(t:aa [c.a,c.g] w w')(ha:aA w' c.a c.g s'):BnA w' c s' b:={h with ar:=ha,blk:=t.blk h.blk (by simp[h.ka.1,h.ka.2])}
theorem BnA.put (h:BnA w c s b){b':Bn}(j:Nat){v:Value}(e:(#[↑c.a,.int .i64 c.F,.int .i64 c.n,.int .i64 b.step,.int .i64 b.x,.int .i64 b.n,.int .i64 b.got]:Array Value).setIfInBounds j v=#[↑c.a,.int .i64 c.F,.int .i64 c.n,.int .i64 b'.step,.int .i64 b'.x,.int .i64 b'.n,.int .i64 b'.got])(hb:BnB c.n b'):BnA (w.setCell ⟨c.k,j,none⟩ v) c s b':=by have t:aa [c.k] w (w.setCell ⟨c.k,j,none⟩ v):=(aa.refl _ _).setCell (.inl QY) _;have:=h.blk.set_ j v;rw[e]at this;exact {h with ar:=h.ar.turns t (by simpa using Ne.symm h.ka.1) (by simpa using Ne.symm h.ka.2),blk:=this,ix:=hb}
theorem BnT.new (h:BnA w c s b):BnT w w c s b:=⟨h,aa.refl _ _⟩
theorem BnT.drew (h:BnT w0 w c s b):BnT w0 w.drew c s b:=⟨h.is.turns (S:=[]) (aa.refl _ _).drew QY QY QY,h.tn.drew⟩
theorem BnT.below (h:BnT w0 w c s b)(t:Below w.heap.size w w'):BnT w0 w' c s b:=⟨h.is.turns (S:=[]) (aa.of_below t) QY QY QY,h.tn.trans (aa.of_below t)⟩
theorem BnT.op (h:BnT w0 w c s b)(t:aa [c.a,c.g] w w')(ha:aA w' c.a c.g s'):BnT w0 w' c s' b:=⟨h.is.op t ha,h.tn.trans (t.mono QY)⟩
theorem BnT.put (h:BnT w0 w c s b){b':Bn}(j:Nat){v:Value}(e:(#[↑c.a,.int .i64 c.F,.int .i64 c.n,.int .i64 b.step,.int .i64 b.x,.int .i64 b.n,.int .i64 b.got]:Array Value).setIfInBounds j v=#[↑c.a,.int .i64 c.F,.int .i64 c.n,.int .i64 b'.step,.int .i64 b'.x,.int .i64 b'.n,.int .i64 b'.got])(hb:BnB c.n b'):BnT w0 (w.setCell ⟨c.k,j,none⟩ v) c s b':=
 ⟨h.is.put j e hb,h.tn.trans ((aa.refl _ _).setCell (.inl QY) _)⟩
theorem jr (h:BnA w c s b)(x:Int)(hx:0<=x/\x<=32):Calls Tryz.prog 350 #[↑c.k,.int .i64 x] w λe w'=>e= .returned (.int .i64 ((c.F:Int)+1+x))/\w=w':=by have c1:=h.cF;obtain⟨h0,h1⟩:=hx;have h2:=h.bd.1;have x1:IntKind.i64.wrap ((c.F:Int)+1)=(c.F:Int)+1:=IntWalk.i64_in _ QX;have x2:IntKind.i64.wrap ((c.F:Int)+1+x)=(c.F:Int)+1+x:=IntWalk.i64_in _ QX;clear h;go_enter Tryz.func350,Tryz.ntmps350;exact gs
theorem yZ (h:BnA w c s b)(v:Bool)(hv:(b.step !=0)=v):Calls Tryz.prog 346 #[↑c.k] w λe w'=>e= .returned (.bool v)/\w=w':=by have c1:=h.cs;clear h;go_enter Tryz.func346,Tryz.ntmps346;exact gs
theorem Ht (h:BnA w c s b):Calls Tryz.prog 349 #[↑c.k] w λe w'=>e= .returned (.int .i64 b.got)/\w=w':=by have c1:=h.cg;clear h;go_enter Tryz.func349,Tryz.ntmps349;exact gs
def BOk (w:World)(c:Bx)(x:Ar×Bn×Bool)(e:Ending)(w':World):Prop:=e= .returned (.bool x.2.2)/\BnT w w' c x.1 x.2.1
theorem vZ (h:BnT w0 w c s b):Calls Tryz.prog 351 #[↑c.k] w λe w'=>e= .returned (.bool true)/\BnT w0 w' c s {b with step:=0}:=by have c1:=h.is.cs;have z1:=h.is.blk.free 3;have H:=qh (h.put (b':={b with step:=0}) (v:= .int .i64 0) 3 rfl (by have:=h.is.ix;unfold BnB at *;simp only;omega));clear h;go_enter Tryz.func351,Tryz.ntmps351;go_wp2;go_ret;exact⟨rfl,H.o⟩
theorem yT (h:BnA w c s b)(st x:Int)(hst:1<=st/\st<=8)(hx:0<=x/\x<=c.n):Calls Tryz.prog 345 #[↑c.k,.int .i64 st,.int .i64 x] w λe w'=>(∃v,e= .returned (.bool v))/\BnT w w' c s (bnB c.n b st x):=by
 have HB:=qh (λW (k:BnA W c s b) v hv=>yZ k v hv);have H0:=qh (BnT.new h);have c2:=h.cn;have hbd:=h.bd.2;have hk:=h.blk.lt;have c3:=h.cs;have c4:=h.cx;have z3:=h.blk.free 3;have z4:=h.blk.free 4;have HI:=qh h.ix;obtain⟨u,hu⟩:∃u,u=(b.step !=0):=⟨_,rfl⟩;obtain⟨x0,x1⟩:=hx;by_cases hok:b.step=0/\1<=x
 ·have e1:u=false:=by rw[hu];simp[hok.1]
  subst e1;have HU:=qh hu.symm;have HX:Kq (bnB c.n b st x={b with step:=st,x:=x}):=qh (by unfold bnB;rw[if_pos ⟨hok.1,hok.2,x1⟩]);have t1:¬x<1:=by omega
  have t2:¬(c.n:Int)<x:=by omega
  have HS:=qh (And.intro hst (And.intro x0 x1));clear hu hok h hst;go_enter Tryz.func345,Tryz.ntmps345;go_wp2_with fail;refine(HB.o _ H0.o.is false HU.o).mono ?_;rintro en w1 ⟨rfl,rfl⟩;go_wp2;go_ret;rw[HX.o];exact⟨⟨_,rfl⟩,(H0.o.put (b':={b with step:=st}) 3 rfl Sd).put 4 rfl Sd⟩
 ·have HX:Kq (bnB c.n b st x=b):=qh (by unfold bnB;rw[if_neg (λh=>hok ⟨h.1,h.2.1⟩)]);have HU:=qh hu.symm;cases u;·have t1:x<1:=(by have:b.step=0:=(by simpa using hu.symm);omega);clear hu hok h hst;go_enter Tryz.func345,Tryz.ntmps345;go_wp2_with fail;refine(HB.o _ H0.o.is false HU.o).mono ?_;exact mT
  ·clear hu hok h hst;go_enter Tryz.func345,Tryz.ntmps345;go_wp2_with fail;refine(HB.o _ H0.o.is true HU.o).mono ?_;exact mT
theorem Id (h:BnA w c s b)(x:Int)(hx:0<=x/\x<=c.n):Calls Tryz.prog 344 #[↑c.k,.int .i64 x] w λe w'=>(∃v,e= .returned (.bool v))/\BnT w w' c s (bnB c.n b 1 x):=by have H:=qh (yT h 1 x QX hx);clear h;go_enter Tryz.func344,Tryz.ntmps344;exact Eq
theorem DT (h:BnA w c s b)(h1:1<=c.n):Calls Tryz.prog 341 #[↑c.k] w λe w'=>(∃v,e= .returned (.bool v))/\BnT w w' c s (bnB c.n b 5 1):=by have H:=qh (yT h 5 1 QX QX);clear h;go_enter Tryz.func341,Tryz.ntmps341;exact Eq
theorem BZ{x m g:Int}(h:BnA w c s ⟨1,x,m,g⟩)(ho:s.ops+1<=1000000000000):Calls Tryz.prog 347 #[↑c.k] w (BOk w c (bnS c.F s ⟨1,x,m,g⟩)):=by
 have HI:=qh h.ix;have HN:=h.bd;have e0:=h.cs;have hix:(0<=x/\x<=c.n)/\(0<=m/\m<=c.n):=⟨h.ix.1,h.ix.2.1⟩;have x1:IntKind.i64.wrap ((c.F:Int)+1)=(c.F:Int)+1:=IntWalk.i64_in _ QX;have HC:=qh (λW s b (k:BnT w W c s b) (e:b=⟨1,x,m,g⟩)=>show W.cell? c.k=some ↑c.a/\W.cell? ⟨c.k,4,none⟩=some (.int .i64 x)from by subst e;exact⟨k.is.ca,k.is.cx⟩);have HO:=qh (λW (k:BnT w W c s ⟨1,x,m,g⟩)=>am k.is.ar ((c.F:Int)+1+x) 0 ho);have HF:=qh (λW (k:BnT w W c s ⟨1,x,m,g⟩)=>jr k.is x QX);have K1:=qh (BnT.new h).drew;clear h;go_enter Tryz.func347,Tryz.ntmps347;go_wp2_with fail
 go_region_held3 (λW=>W.cell? c.k=some ↑c.a/\W.cell? ⟨c.k,4,none⟩=some (.int .i64 x))
  (first|with_reducible exact HC.o _ _ _ K1.o rfl|with_reducible exact HC.o _ _ _ K2.o rfl)
  (first
   |(go_at_call 350;go_loud (refine(HF.o _ K1.o).mono ?_);rintro en w2 ⟨rfl,rfl⟩)
   |(go_at_call 177;go_loud (refine(HO.o _ K1.o).mono ?_);rintro en w3 ⟨rfl,a3,t3⟩;have K2:=qh (K1.o.op t3 a3);skip;clear a3 t3))
 have e3:=K2.o.is.cs;have z3:=K2.o.is.blk.free 3;go_wp2;go_ret;exact⟨rfl,K2.o.put (b':=⟨2,x,m,g⟩) 3 rfl RA⟩
theorem B5{x m g:Int}(h:BnA w c s ⟨2,x,m,g⟩)(ho:s.ops+1<=1000000000000)(hv0:0<=ldW s.W ((c.F:Int)+1)/\ldW s.W ((c.F:Int)+1)<=c.n):Calls Tryz.prog 347 #[↑c.k] w (BOk w c (bnS c.F s ⟨2,x,m,g⟩)):=by
 have HI:=qh h.ix;have HN:=h.bd;have e0:=h.cs;have hix:(0<=x/\x<=c.n)/\(0<=m/\m<=c.n):=⟨h.ix.1,h.ix.2.1⟩;have x1:IntKind.i64.wrap ((c.F:Int)+1)=(c.F:Int)+1:=IntWalk.i64_in _ QX;have HC:=qh (λW s m (k:BnT w W c s ⟨2,x,m,g⟩)=>show W.cell? c.k=some ↑c.a/\W.cell? ⟨c.k,1,none⟩=some (.int .i64 c.F)from by exact⟨k.is.ca,k.is.cF⟩);have HO:=qh (λW (k:BnT w W c s ⟨2,x,m,g⟩)=>aC k.is.ar ((c.F:Int)+1) ho);have HF:=qh (λW (k:BnT w W c s ⟨2,x,m,g⟩)=>jr k.is x QX);have K1:=qh (BnT.new h).drew;obtain⟨v,hv⟩:∃v,v=ldW s.W ((c.F:Int)+1):=⟨_,rfl⟩;have HX:Kq (bnS c.F s ⟨2,x,m,g⟩=(ae s ((c.F:Int)+1),⟨3,x,v,g⟩,false)):=qh (by rw[hv];rfl);rw[<-hv]at hv0 HO;have HV:=qh hv0;clear h hv hv0;go_enter Tryz.func347,Tryz.ntmps347;go_wp2_with fail
 go_region_held3 (λW=>W.cell? c.k=some ↑c.a/\W.cell? ⟨c.k,1,none⟩=some (.int .i64 c.F))
  (first|with_reducible exact HC.o _ _ _ K1.o|with_reducible exact HC.o _ _ _ K2.o|with_reducible exact HC3.o)
  (first
   |(go_at_call 173;go_loud (refine(HO.o _ K1.o).mono ?_);rintro en w3 ⟨rfl,a3,t3⟩;have K2:=qh (K1.o.op t3 a3);have K3:=qh (K2.o.put (b':=⟨2,x,v,g⟩) (v:= .int .i64 v) 5 rfl Rp);have HC3:=qh (HC.o _ _ _ K3.o);have e1:=K2.o.is.blk.cell 5;have z1:=K2.o.is.blk.free 5;clear a3 t3))
 have e3:=K3.o.is.cs;have z3:=K3.o.is.blk.free 3;go_wp2;go_ret;rw[HX.o];exact⟨rfl,K3.o.put (b':=⟨3,x,v,g⟩) 3 rfl Rp⟩
theorem yW{x m g:Int}(h:BnA w c s ⟨3,x,m,g⟩)(ho:s.ops+1<=1000000000000)(hm:m≠0):Calls Tryz.prog 347 #[↑c.k] w (BOk w c (bnS c.F s ⟨3,x,m,g⟩)):=by
 have HI:=qh h.ix;have HN:=h.bd;have e0:=h.cs;have hix:(0<=x/\x<=c.n)/\(0<=m/\m<=c.n):=⟨h.ix.1,h.ix.2.1⟩;have x1:IntKind.i64.wrap ((c.F:Int)+1)=(c.F:Int)+1:=IntWalk.i64_in _ QX;have HC:=qh (λW s b (k:BnT w W c s b) (e:b=⟨3,x,m,g⟩)=>show W.cell? c.k=some ↑c.a/\W.cell? ⟨c.k,4,none⟩=some (.int .i64 x)from by subst e;exact⟨k.is.ca,k.is.cx⟩);have HO:=qh (λW (k:BnT w W c s ⟨3,x,m,g⟩)=>am k.is.ar ((c.F:Int)+1+m) x ho);have HF:=qh (λW (k:BnT w W c s ⟨3,x,m,g⟩)=>jr k.is m QX);have K1:=qh (BnT.new h).drew;have HH:=qh h;have e4:=h.cm;have e5:=h.cF;have HX:Kq (bnS c.F s ⟨3,x,m,g⟩=(ac s ((c.F:Int)+1+m) x,⟨4,x,m,g⟩,false)):=qh (by show(ac s (if m≠0 then _ else _) x,_,_)=_;rw[if_pos hm]);have t5:(m !=0)=true:=by simp[hm]
 clear h hm;go_enter Tryz.func347,Tryz.ntmps347;go_wp2_with fail;refine(HF.o _ (BnT.new HH.o)).mono ?_;rintro en w1 ⟨rfl,rfl⟩;exact It
theorem yV{x m g:Int}(h:BnA w c s ⟨3,x,m,g⟩)(ho:s.ops+1<=1000000000000)(hm:m=0):Calls Tryz.prog 347 #[↑c.k] w (BOk w c (bnS c.F s ⟨3,x,m,g⟩)):=by
 have HI:=qh h.ix;have HN:=h.bd;have e0:=h.cs;have hix:(0<=x/\x<=c.n)/\(0<=m/\m<=c.n):=⟨h.ix.1,h.ix.2.1⟩;have x1:IntKind.i64.wrap ((c.F:Int)+1)=(c.F:Int)+1:=IntWalk.i64_in _ QX;have HC:=qh (λW s b (k:BnT w W c s b) (e:b=⟨3,x,m,g⟩)=>show W.cell? c.k=some ↑c.a/\W.cell? ⟨c.k,4,none⟩=some (.int .i64 x)from by subst e;exact⟨k.is.ca,k.is.cx⟩);have HO:=qh (λW (k:BnT w W c s ⟨3,x,m,g⟩)=>am k.is.ar (c.F) x ho);have HF:=qh (λW (k:BnT w W c s ⟨3,x,m,g⟩)=>jr k.is x QX);have K1:=qh (BnT.new h).drew;have e4:=h.cm;have e5:=h.cF;have HX:Kq (bnS c.F s ⟨3,x,m,g⟩=(ac s (c.F) x,⟨4,x,m,g⟩,false)):=qh (by show(ac s (if m≠0 then _ else _) x,_,_)=_;rw[if_neg (by simp[hm])]);have t5:(m !=0)=false:=by simp[hm]
 clear h hm;go_enter Tryz.func347,Tryz.ntmps347;exact It
theorem B9{x m g:Int}(h:BnA w c s ⟨4,x,m,g⟩)(ho:s.ops+1<=1000000000000):Calls Tryz.prog 347 #[↑c.k] w (BOk w c (bnS c.F s ⟨4,x,m,g⟩)):=by
 have HI:=qh h.ix;have HN:=h.bd;have e0:=h.cs;have hix:(0<=x/\x<=c.n)/\(0<=m/\m<=c.n):=⟨h.ix.1,h.ix.2.1⟩;have x1:IntKind.i64.wrap ((c.F:Int)+1)=(c.F:Int)+1:=IntWalk.i64_in _ QX;have HC:=qh (λW s b (k:BnT w W c s b) (e:b=⟨4,x,m,g⟩)=>show W.cell? c.k=some ↑c.a/\W.cell? ⟨c.k,1,none⟩=some (.int .i64 c.F)/\W.cell? ⟨c.k,4,none⟩=some (.int .i64 x)from by subst e;exact⟨k.is.ca,⟨k.is.cF,k.is.cx⟩⟩);have HO:=qh (λW (k:BnT w W c s ⟨4,x,m,g⟩)=>am k.is.ar ((c.F:Int)+1) x ho);have HF:=qh (λW (k:BnT w W c s ⟨4,x,m,g⟩)=>jr k.is x QX);have K1:=qh (BnT.new h).drew;clear h;go_enter Tryz.func347,Tryz.ntmps347;go_wp2_with fail
 go_region_held3 (λW=>W.cell? c.k=some ↑c.a/\W.cell? ⟨c.k,1,none⟩=some (.int .i64 c.F)/\W.cell? ⟨c.k,4,none⟩=some (.int .i64 x))
  (first|with_reducible exact HC.o _ _ _ K1.o rfl|with_reducible exact HC.o _ _ _ K2.o rfl)
  (first
   |(go_at_call 177;go_loud (refine(HO.o _ K1.o).mono ?_);rintro en w3 ⟨rfl,a3,t3⟩;have K2:=qh (K1.o.op t3 a3);skip;clear a3 t3))
 go_wp2_with fail;refine(vZ K2.o).mono ?_;exact Iu
theorem wU{x m g:Int}(h:BnA w c s ⟨5,x,m,g⟩)(ho:s.ops+1<=1000000000000)(hv0:0<=ldW s.W (c.F)/\ldW s.W (c.F)<=c.n)(h5:(ldW s.W c.F==0)=true):Calls Tryz.prog 348 #[↑c.k] w (BOk w c (bnS c.F s ⟨5,x,m,g⟩)):=by
 have HI:=qh h.ix;have HN:=h.bd;have e0:=h.cs;have hix:(0<=x/\x<=c.n)/\(0<=m/\m<=c.n):=⟨h.ix.1,h.ix.2.1⟩;have x1:IntKind.i64.wrap ((c.F:Int)+1)=(c.F:Int)+1:=IntWalk.i64_in _ QX;have HC:=qh (λW s x (k:BnT w W c s ⟨5,x,m,g⟩)=>show W.cell? c.k=some ↑c.a/\W.cell? ⟨c.k,1,none⟩=some (.int .i64 c.F)from by exact⟨k.is.ca,k.is.cF⟩);have HO:=qh (λW (k:BnT w W c s ⟨5,x,m,g⟩)=>aC k.is.ar (c.F) ho);have HF:=qh (λW (k:BnT w W c s ⟨5,x,m,g⟩)=>jr k.is x QX);have K1:=qh (BnT.new h).drew;obtain⟨v,hv⟩:∃v,v=ldW s.W (c.F):=⟨_,rfl⟩;have HX:Kq (bnS c.F s ⟨5,x,m,g⟩=(ae s c.F,⟨0,0,m,0⟩,true)):=qh (by subst hv;simp[bnS,(by simpa using h5:ldW s.W c.F=0)]);rw[<-hv]at hv0 HO h5;have HV:=qh hv0;have HZ:=qh h5;clear h hv hv0;go_enter Tryz.func348,Tryz.ntmps348;go_wp2_with fail
 go_region_held3 (λW=>W.cell? c.k=some ↑c.a/\W.cell? ⟨c.k,1,none⟩=some (.int .i64 c.F))
  (first|with_reducible exact HC.o _ _ _ K1.o|with_reducible exact HC.o _ _ _ K2.o|with_reducible exact HC3.o)
  (first
   |(go_at_call 173;go_loud (refine(HO.o _ K1.o).mono ?_);rintro en w3 ⟨rfl,a3,t3⟩;have K2:=qh (K1.o.op t3 a3);have K3:=qh (K2.o.put (b':=⟨5,v,m,g⟩) (v:= .int .i64 v) 4 rfl Rp);have HC3:=qh (HC.o _ _ _ K3.o);have e1:=K2.o.is.blk.cell 4;have z1:=K2.o.is.blk.free 4;clear a3 t3))
 have e6:=K3.o.is.cx;have e8:=K3.o.is.cg;have z6:=K3.o.is.blk.free 6;go_wp2_with fail;refine(vZ (K3.o.put (b':=⟨5,v,m,0⟩) 6 rfl Rp)).mono ?_;rintro en w4 ⟨rfl,k4⟩;have K4:=qh k4;clear k4;go_wp2;go_ret;rw[HX.o];have hz:v=0:=by simpa using HZ.o
 subst hz;exact⟨rfl,K4.o.is,K4.o.tn⟩
theorem wT{x m g:Int}(h:BnA w c s ⟨5,x,m,g⟩)(ho:s.ops+1<=1000000000000)(hv0:0<=ldW s.W (c.F)/\ldW s.W (c.F)<=c.n)(h5:(ldW s.W c.F==0)=false):Calls Tryz.prog 348 #[↑c.k] w (BOk w c (bnS c.F s ⟨5,x,m,g⟩)):=by
 have HI:=qh h.ix;have HN:=h.bd;have e0:=h.cs;have hix:(0<=x/\x<=c.n)/\(0<=m/\m<=c.n):=⟨h.ix.1,h.ix.2.1⟩;have x1:IntKind.i64.wrap ((c.F:Int)+1)=(c.F:Int)+1:=IntWalk.i64_in _ QX;have HC:=qh (λW s x (k:BnT w W c s ⟨5,x,m,g⟩)=>show W.cell? c.k=some ↑c.a/\W.cell? ⟨c.k,1,none⟩=some (.int .i64 c.F)from by exact⟨k.is.ca,k.is.cF⟩);have HO:=qh (λW (k:BnT w W c s ⟨5,x,m,g⟩)=>aC k.is.ar (c.F) ho);have HF:=qh (λW (k:BnT w W c s ⟨5,x,m,g⟩)=>jr k.is x QX);have K1:=qh (BnT.new h).drew;obtain⟨v,hv⟩:∃v,v=ldW s.W (c.F):=⟨_,rfl⟩;have HX:Kq (bnS c.F s ⟨5,x,m,g⟩=(ae s c.F,⟨6,v,m,g⟩,false)):=qh (by subst hv;simp[bnS,(by simpa using h5:¬ldW s.W c.F=0)]);rw[<-hv]at hv0 HO h5;have HV:=qh hv0;clear h hv hv0;go_enter Tryz.func348,Tryz.ntmps348;go_wp2_with fail
 go_region_held3 (λW=>W.cell? c.k=some ↑c.a/\W.cell? ⟨c.k,1,none⟩=some (.int .i64 c.F))
  (first|with_reducible exact HC.o _ _ _ K1.o|with_reducible exact HC.o _ _ _ K2.o|with_reducible exact HC3.o)
  (first
   |(go_at_call 173;go_loud (refine(HO.o _ K1.o).mono ?_);rintro en w3 ⟨rfl,a3,t3⟩;have K2:=qh (K1.o.op t3 a3);have K3:=qh (K2.o.put (b':=⟨5,v,m,g⟩) (v:= .int .i64 v) 4 rfl Rp);have HC3:=qh (HC.o _ _ _ K3.o);have e1:=K2.o.is.blk.cell 4;have z1:=K2.o.is.blk.free 4;clear a3 t3))
 have e6:=K3.o.is.cx;have e3:=K3.o.is.cs;have z3:=K3.o.is.blk.free 3;go_wp2;go_ret;rw[HX.o];exact⟨rfl,K3.o.put (b':=⟨6,v,m,g⟩) 3 rfl Rp⟩
theorem yX{x m g:Int}(h:BnA w c s ⟨6,x,m,g⟩)(ho:s.ops+1<=1000000000000)(hv0:0<=ldW s.W ((c.F:Int)+1+x)/\ldW s.W ((c.F:Int)+1+x)<=c.n):Calls Tryz.prog 348 #[↑c.k] w (BOk w c (bnS c.F s ⟨6,x,m,g⟩)):=by
 have HI:=qh h.ix;have HN:=h.bd;have e0:=h.cs;have hix:(0<=x/\x<=c.n)/\(0<=m/\m<=c.n):=⟨h.ix.1,h.ix.2.1⟩;have x1:IntKind.i64.wrap ((c.F:Int)+1)=(c.F:Int)+1:=IntWalk.i64_in _ QX;have HC:=qh (λW s m (k:BnT w W c s ⟨6,x,m,g⟩)=>show W.cell? c.k=some ↑c.a/\W.cell? ⟨c.k,4,none⟩=some (.int .i64 x)from by exact⟨k.is.ca,k.is.cx⟩);have HO:=qh (λW (k:BnT w W c s ⟨6,x,m,g⟩)=>aC k.is.ar ((c.F:Int)+1+x) ho);have HF:=qh (λW (k:BnT w W c s ⟨6,x,m,g⟩)=>jr k.is x QX);have K1:=qh (BnT.new h).drew;obtain⟨v,hv⟩:∃v,v=ldW s.W ((c.F:Int)+1+x):=⟨_,rfl⟩;have HX:Kq (bnS c.F s ⟨6,x,m,g⟩=(ae s ((c.F:Int)+1+x),⟨7,x,v,g⟩,false)):=qh (by rw[hv];rfl);rw[<-hv]at hv0 HO;have HV:=qh hv0;clear h hv hv0;go_enter Tryz.func348,Tryz.ntmps348;go_wp2_with fail
 go_region_held3 (λW=>W.cell? c.k=some ↑c.a/\W.cell? ⟨c.k,4,none⟩=some (.int .i64 x))
  (first|with_reducible exact HC.o _ _ _ K1.o|with_reducible exact HC.o _ _ _ K2.o|with_reducible exact HC3.o)
  (first
   |(go_at_call 350;go_loud (refine(HF.o _ K1.o).mono ?_);rintro en w2 ⟨rfl,rfl⟩)
   |(go_at_call 173;go_loud (refine(HO.o _ K1.o).mono ?_);rintro en w3 ⟨rfl,a3,t3⟩;have K2:=qh (K1.o.op t3 a3);have K3:=qh (K2.o.put (b':=⟨6,x,v,g⟩) (v:= .int .i64 v) 5 rfl Rp);have HC3:=qh (HC.o _ _ _ K3.o);have e1:=K2.o.is.blk.cell 5;have z1:=K2.o.is.blk.free 5;clear a3 t3))
 have e3:=K3.o.is.cs;have z3:=K3.o.is.blk.free 3;go_wp2;go_ret;rw[HX.o];exact⟨rfl,K3.o.put (b':=⟨7,x,v,g⟩) 3 rfl Rp⟩
theorem wX{x m g:Int}(h:BnA w c s ⟨7,x,m,g⟩)(ho:s.ops+1<=1000000000000)(hm:m≠0):Calls Tryz.prog 348 #[↑c.k] w (BOk w c (bnS c.F s ⟨7,x,m,g⟩)):=by
 have HI:=qh h.ix;have HN:=h.bd;have e0:=h.cs;have hix:(0<=x/\x<=c.n)/\(0<=m/\m<=c.n):=⟨h.ix.1,h.ix.2.1⟩;have x1:IntKind.i64.wrap ((c.F:Int)+1)=(c.F:Int)+1:=IntWalk.i64_in _ QX;have HC:=qh (λW s b (k:BnT w W c s b) (e:b=⟨7,x,m,g⟩)=>show W.cell? c.k=some ↑c.a/\W.cell? ⟨c.k,1,none⟩=some (.int .i64 c.F)/\W.cell? ⟨c.k,5,none⟩=some (.int .i64 m)from by subst e;exact⟨k.is.ca,⟨k.is.cF,k.is.cm⟩⟩);have HO:=qh (λW (k:BnT w W c s ⟨7,x,m,g⟩)=>am k.is.ar (c.F) m ho);have HF:=qh (λW (k:BnT w W c s ⟨7,x,m,g⟩)=>jr k.is x QX);have K1:=qh (BnT.new h).drew;have HX:Kq (bnS c.F s ⟨7,x,m,g⟩=(ac s c.F m,⟨0,x,m,x⟩,true)):=qh (by simp[bnS,hm]);have t5:(m !=0)=true:=by simp[hm]
 clear h hm;go_enter Tryz.func348,Tryz.ntmps348;go_wp2_with fail
 go_region_held3 (λW=>W.cell? c.k=some ↑c.a/\W.cell? ⟨c.k,1,none⟩=some (.int .i64 c.F)/\W.cell? ⟨c.k,5,none⟩=some (.int .i64 m))
  (first|with_reducible exact HC.o _ _ _ K1.o rfl|with_reducible exact HC.o _ _ _ K2.o rfl)
  (first
   |(go_at_call 177;go_loud (refine(HO.o _ K1.o).mono ?_);rintro en w3 ⟨rfl,a3,t3⟩;have K2:=qh (K1.o.op t3 a3);skip;clear a3 t3))
 have e6:=K2.o.is.cm;have e7:=K2.o.is.cx;have e8:=K2.o.is.cg;have z6:=K2.o.is.blk.free 6;go_wp2_with fail;refine(vZ (K2.o.put (b':=⟨7,x,m,x⟩) 6 rfl RA)).mono ?_;rintro en w4 ⟨rfl,k4⟩;have K4:=qh k4;clear k4;go_wp2;go_ret;rw[HX.o];exact⟨rfl,K4.o.is,K4.o.tn⟩
theorem wV{x m g:Int}(h:BnA w c s ⟨7,x,m,g⟩)(ho:s.ops+1<=1000000000000)(hm:m=0):Calls Tryz.prog 348 #[↑c.k] w (BOk w c (bnS c.F s ⟨7,x,m,g⟩)):=by
 have HI:=qh h.ix;have HN:=h.bd;have e0:=h.cs;have hix:(0<=x/\x<=c.n)/\(0<=m/\m<=c.n):=⟨h.ix.1,h.ix.2.1⟩;have x1:IntKind.i64.wrap ((c.F:Int)+1)=(c.F:Int)+1:=IntWalk.i64_in _ QX;have HC:=qh (λW s b (k:BnT w W c s b) (e:b=⟨7,x,m,g⟩)=>show W.cell? c.k=some ↑c.a/\W.cell? ⟨c.k,1,none⟩=some (.int .i64 c.F)/\W.cell? ⟨c.k,5,none⟩=some (.int .i64 m)from by subst e;exact⟨k.is.ca,⟨k.is.cF,k.is.cm⟩⟩);have HO:=qh (λW (k:BnT w W c s ⟨7,x,m,g⟩)=>am k.is.ar (c.F) m ho);have HF:=qh (λW (k:BnT w W c s ⟨7,x,m,g⟩)=>jr k.is x QX);have K1:=qh (BnT.new h).drew;have HX:Kq (bnS c.F s ⟨7,x,m,g⟩=(ac s c.F m,⟨8,x,m,g⟩,false)):=qh (by simp[bnS,hm]);have t5:(m !=0)=false:=by simp[hm]
 clear h hm;go_enter Tryz.func348,Tryz.ntmps348;go_wp2_with fail
 go_region_held3 (λW=>W.cell? c.k=some ↑c.a/\W.cell? ⟨c.k,1,none⟩=some (.int .i64 c.F)/\W.cell? ⟨c.k,5,none⟩=some (.int .i64 m))
  (first|with_reducible exact HC.o _ _ _ K1.o rfl|with_reducible exact HC.o _ _ _ K2.o rfl)
  (first
   |(go_at_call 177;go_loud (refine(HO.o _ K1.o).mono ?_);rintro en w3 ⟨rfl,a3,t3⟩;have K2:=qh (K1.o.op t3 a3);skip;clear a3 t3))
 have e6:=K2.o.is.cm;have e3:=K2.o.is.cs;have z3:=K2.o.is.blk.free 3;go_wp2;go_ret;rw[HX.o];exact⟨rfl,K2.o.put (b':=⟨8,x,m,g⟩) 3 rfl RA⟩
theorem yY{x m g:Int}(h:BnA w c s ⟨8,x,m,g⟩)(ho:s.ops+1<=1000000000000):Calls Tryz.prog 348 #[↑c.k] w (BOk w c (bnS c.F s ⟨8,x,m,g⟩)):=by
 have HI:=qh h.ix;have HN:=h.bd;have e0:=h.cs;have hix:(0<=x/\x<=c.n)/\(0<=m/\m<=c.n):=⟨h.ix.1,h.ix.2.1⟩;have x1:IntKind.i64.wrap ((c.F:Int)+1)=(c.F:Int)+1:=IntWalk.i64_in _ QX;have HC:=qh (λW s b (k:BnT w W c s b) (e:b=⟨8,x,m,g⟩)=>show W.cell? c.k=some ↑c.a/\W.cell? ⟨c.k,1,none⟩=some (.int .i64 c.F)from by subst e;exact⟨k.is.ca,k.is.cF⟩);have HO:=qh (λW (k:BnT w W c s ⟨8,x,m,g⟩)=>am k.is.ar ((c.F:Int)+1) 0 ho);have HF:=qh (λW (k:BnT w W c s ⟨8,x,m,g⟩)=>jr k.is x QX);have K1:=qh (BnT.new h).drew;clear h;go_enter Tryz.func348,Tryz.ntmps348;go_wp2_with fail
 go_region_held3 (λW=>W.cell? c.k=some ↑c.a/\W.cell? ⟨c.k,1,none⟩=some (.int .i64 c.F))
  (first|with_reducible exact HC.o _ _ _ K1.o rfl|with_reducible exact HC.o _ _ _ K2.o rfl)
  (first
   |(go_at_call 177;go_loud (refine(HO.o _ K1.o).mono ?_);rintro en w3 ⟨rfl,a3,t3⟩;have K2:=qh (K1.o.op t3 a3);skip;clear a3 t3))
 have e7:=K2.o.is.cx;have e8:=K2.o.is.cg;have z6:=K2.o.is.blk.free 6;go_wp2_with fail;refine(vZ (K2.o.put (b':=⟨8,x,m,x⟩) 6 rfl RA)).mono ?_;exact Iu
def BS (n:Nat)(F:Int)(W:List Int):Prop:=∀y,F<=y->0<=ldW W y/\ldW W y<=n
theorem DP (h:BnA w c s b)(hw:BS c.n c.F s.W)(ho:s.ops+1<=1000000000000):Calls Tryz.prog 342 #[↑c.k] w (BOk w c (bnS c.F s b)):=by
 obtain⟨st,x,m,g⟩:=b;have HB:=qh h;have hs:=h.ix.2.2.2;have hx:=h.ix.1;simp only at hs hx;have e0:=h.cs;by_cases h0:st=0;·subst h0;have HX:Kq (bnS c.F s ⟨0,x,m,g⟩=(s,⟨0,x,m,g⟩,false)):=qh rfl;have H:=qh (BnT.new h);clear h hw;go_enter Tryz.func342,Tryz.ntmps342;go_wp2_with fail;refine(yZ H.o.is false rfl).mono ?_;rintro en w1 ⟨rfl,rfl⟩;go_wp2;go_ret;rw[HX.o];exact⟨rfl,H.o⟩
 have hM:Calls Tryz.prog (if st<=4 then 347 else 348) #[↑c.k] w (BOk w c (bnS c.F s ⟨st,x,m,g⟩)):=by
  have hv:∀y,(c.F:Int)<=y->0<=ldW s.W y/\ldW s.W y<=c.n:=hw;have:st=1\/st=2\/st=3\/st=4\/st=5\/st=6\/st=7\/st=8:=by omega
  rcases this with rfl|rfl|rfl|rfl|rfl|rfl|rfl|rfl
  ·exact BZ h ho
  ·exact B5 h ho (hv _ QX)
  ·by_cases hm:m=0;·exact yV h ho hm
   ·exact yW h ho hm
  ·exact B9 h ho
  ·by_cases hm:ldW s.W c.F=0;·exact wU h ho (hv _ QX) (by simp[hm])
   ·exact wT h ho (hv _ QX) (by simp[hm])
  ·exact yX h ho (hv _ QX)
  ·by_cases hm:m=0;·exact wV h ho hm
   ·exact wX h ho hm
  ·exact yY h ho
 have HM:=qh hM;have t0:(st !=0)=true:=by simp[h0]
 have H:=qh (BnT.new h);clear h hw hM;obtain⟨r,hr⟩:∃r,r=bnS c.F s ⟨st,x,m,g⟩:=⟨_,rfl⟩;rw[<-hr]at HM ⊢;clear hr;have:st=1\/st=2\/st=3\/st=4\/(4<st):=by omega
 rcases this with rfl|rfl|rfl|rfl|h4
 all_goals
  try have t1:(st==1)=false:=(by simp;omega);have t2:(st==2)=false:=(by simp;omega);have t3:(st==3)=false:=(by simp;omega);have t4:(st==4)=false:=(by simp;omega);rw[if_neg QX]at HM
  go_enter Tryz.func342,Tryz.ntmps342;go_wp2_with fail;refine(yZ H.o.is true (by first|rfl|exact t0)).mono ?_;rintro en w1 ⟨rfl,rfl⟩;go_wp2_with fail;refine HM.o.mono ?_;rintro en w2 ⟨rfl,k2⟩;have K2:=qh k2;clear k2;go_wp2;go_ret;exact⟨rfl,K2.o⟩
end
end
section
open Go.RowKit
structure Mx where
 l:Nat
 q:Nat
 b:Bx
def mS (c:Mx):List Nat:=[c.l,c.q,c.b.k,c.b.a,c.b.g]
structure bI (w:World)(c:Mx)(bud:Int)(h:Mal):Prop where
 bn:BnA w c.b h.ar h.bn
 lk:Blk w c.l 269 #[↑c.b.a,.int .i64 1,.int .i64 bud,↑c.b.k,.int .i64 h.d,.slice (some ⟨c.q,0,none⟩) c.b.n c.b.n]
 sp:dq w c.q h.S
 sl:h.S.length=c.b.n
 nd:(mS c).Nodup
 bb:0<=bud/\bud<=1000
structure MaT (w0 w:World)(c:Mx)(bud:Int)(h:Mal):Prop where
 is:bI w c bud h
 tn:aa (mS c) w0 w
section
variable{w w' w0:World}{c:Mx}{bud:Int}{h:Mal}
theorem bI.ca (k:bI w c bud h):w.cell? c.l=some ↑c.b.a:=k.lk.cell 0
theorem bI.ct (k:bI w c bud h):w.cell? ⟨c.l,1,none⟩=some (.int .i64 1):=k.lk.cell 1
theorem bI.cb (k:bI w c bud h):w.cell? ⟨c.l,2,none⟩=some (.int .i64 bud):=k.lk.cell 2
theorem bI.ck (k:bI w c bud h):w.cell? ⟨c.l,3,none⟩=some ↑c.b.k:=k.lk.cell 3
theorem bI.cd (k:bI w c bud h):w.cell? ⟨c.l,4,none⟩=some (.int .i64 h.d):=k.lk.cell 4
theorem bI.cq (k:bI w c bud h):w.cell? ⟨c.l,5,none⟩=some (.slice (some ⟨c.q,0,none⟩) c.b.n c.b.n):=k.lk.cell 5
theorem bI.below (k:bI w c bud h)(t:Below w.heap.size w w'):bI w' c bud h:=
 have t0:=aa.of_below (S:=[]) t
 {k with bn:=k.bn.turns t0 QY QY QY,lk:=t0.blk k.lk QY,sp:=k.sp.turns t0 QY}
theorem bI.ne (k:bI w c bud h):(c.l≠c.q/\c.l≠c.b.k/\c.l≠c.b.a/\c.l≠c.b.g)/\c.q≠c.b.k/\c.q≠c.b.a/\c.q≠c.b.g:=by have:=k.nd;unfold mS at this;simp at this;omega
theorem MaT.new (k:bI w c bud h):MaT w w c bud h:=⟨k,aa.refl _ _⟩
theorem MaT.below (k:MaT w0 w c bud h)(t:Below w.heap.size w w'):MaT w0 w' c bud h:=⟨k.is.below t,k.tn.trans (aa.of_below t)⟩
theorem MaT.drew (k:MaT w0 w c bud h):MaT w0 w.drew c bud h:=k.below (Below.refl _ _).drew
theorem MaT.bn (k:MaT w0 w c bud h){s':Ar}{b':Bn}(t:aa [c.b.a,c.b.g,c.b.k] w w')(hb:BnA w' c.b s' b'):MaT w0 w' c bud {h with ar:=s',bn:=b'}:=by have hn:=k.is.ne;exact⟨{k.is with bn:=hb,lk:=t.blk k.is.lk Q1,sp:=k.is.sp.turns t Q1},k.tn.trans (t.mono (by unfold mS;simp))⟩
theorem MaT.op (k:MaT w0 w c bud h){s':Ar}(t:aa [c.b.a,c.b.g] w w')(ha:aA w' c.b.a c.b.g s'):MaT w0 w' c bud {h with ar:=s'}:=k.bn (t.mono QY) (k.is.bn.op t ha)
theorem wE{l:Nat}(w:World)(i:Nat)(v:Value):aa [l] w (w.setCell ⟨l,i,none⟩ v):=(aa.refl _ _).setCell (.inl QY) _
theorem MaT.sput (k:MaT w0 w c bud h){i:Nat}{p p':Sp}(hp:h.S[i]? =some p){j:Nat}{v:Value}(hj:j<4)(he:(a9 p).set j v=a9 p'):MaT w0 (w.setCell ⟨c.q,i*4+j,none⟩ v) c bud {h with S:=h.S.set i p'}:=by have hn:=k.is.ne;have t:=wE (l:=c.q) w (i*4+j) v;exact⟨{k.is with bn:=k.is.bn.turns t Q1 Q1 Q1,lk:=t.blk k.is.lk Q1,sp:=k.is.sp.put hp hj he,sl:=by simp[k.is.sl]},k.tn.trans (t.mono (by unfold mS;simp))⟩
theorem MaT.dput (k:MaT w0 w c bud h)(d':Int):MaT w0 (w.setCell ⟨c.l,4,none⟩ (.int .i64 d')) c bud {h with d:=d'}:=by have hn:=k.is.ne;have t:=wE (l:=c.l) w 4 (.int .i64 d');exact⟨{k.is with bn:=k.is.bn.turns t Q1 Q1 Q1,lk:=k.is.lk.set_ 4 _,sp:=k.is.sp.turns t Q1},k.tn.trans (t.mono (by unfold mS;simp))⟩
theorem iL (k:bI w c bud h)(x:Int)(hx:0<=x/\x<=40):Calls Tryz.prog 339 #[↑c.l,.int .i64 x] w λe w'=>e= .returned (.int .i64 (1+2*x))/\w=w':=by have c1:=k.ct;obtain⟨h0,h1⟩:=hx;have x1:IntKind.i64.wrap (2*x)=2*x:=IntWalk.i64_in _ QX;have x2:IntKind.i64.wrap (1+2*x)=1+2*x:=IntWalk.i64_in _ QX;have x3:IntKind.i64.wrap (1+2*x+1)=1+2*x+1:=IntWalk.i64_in _ QX;clear k;go_enter Tryz.func339,Tryz.ntmps339;exact Iv
theorem pX (k:bI w c bud h)(x:Int)(hx:0<=x/\x<=40):Calls Tryz.prog 340 #[↑c.l,.int .i64 x] w λe w'=>e= .returned (.int .i64 (2+2*x))/\w=w':=by have c1:=k.ct;obtain⟨h0,h1⟩:=hx;have x1:IntKind.i64.wrap (2*x)=2*x:=IntWalk.i64_in _ QX;have x2:IntKind.i64.wrap (1+2*x)=1+2*x:=IntWalk.i64_in _ QX;have x3:IntKind.i64.wrap (1+2*x+1)=1+2*x+1:=IntWalk.i64_in _ QX;clear k;go_enter Tryz.func340,Tryz.ntmps340;exact Iv
theorem oK (k:bI w c bud h):Calls Tryz.prog 334 #[↑c.l] w λe w'=>e= .returned (.int .i64 c.b.n)/\w=w':=by have c1:=k.cq;clear k;go_enter Tryz.func334,Tryz.ntmps334;exact gs
theorem qX{S:List Sp}{i n:Nat}(hl:S.length=n)(hi:i<n):S[i]? =some (sv S i):=by unfold sv;rw[List.getD_eq_getElem?_getD,List.getElem?_eq_getElem QX];rfl
theorem Bs (k:bI w c bud h)(i:Nat)(hi:i<c.b.n):Calls Tryz.prog 332 #[↑c.l,.int .i64 i] w λe w'=>e= .returned (aE (sv h.S i))/\Below w.heap.size w w':=by
 have hp:=qX k.sl hi;obtain⟨p,hpp⟩:∃p,p=sv h.S i:=⟨_,rfl⟩;rw[<-hpp]at hp ⊢;have c2:=k.cq;have a0:=k.sp.cell hp 0 _ rfl;have a1:=k.sp.cell hp 1 _ rfl;have a2:=k.sp.cell hp 2 _ rfl;have a3:=k.sp.cell hp 3 _ rfl;simp only[Nat.add_zero]at a0;have hn:=k.bn.bd.2;have hs1:=k.lk.lt;have hs2:=k.sp.lt;have t2:¬(i:Int)<0:=by omega
 have t3:¬((c.b.n:Nat):Int)<=(i:Int):=by omega
 have H:=qh (k.below ((Below.refl _ _).alloc (Nat.le_refl _) (.cells #[.int .i64 0,.int .i64 0,.int .i64 0,.int .i64 0] 113)));clear k hp hpp;go_enter Tryz.func332,Tryz.ntmps332;go_wp2_with (go_at_call 334;refine(oK H.o).mono ?_;rintro e w' ⟨rfl,rfl⟩);exact bodyPost_ret (results_cell_row Q5 _ _ w.heap.size 113 _ (0,0) _ Q5 (heap_alloc_new w _) Tryz.underlying113 rfl Q0) rfl ⟨rfl,(Below.refl _ _).alloc (Nat.le_refl _) _⟩
def ir (h:Mal)(i:Nat)(u v:Int):Mal:=if (sv h.S i).pc=u then {h with S:=h.S.set i {sv h.S i with pc:=v}} else h
def MOk (w:World)(c:Mx)(bud:Int)(x:Mal×Bool)(e:Ending)(w':World):Prop:=e= .returned (.bool x.2)/\MaT w w' c bud x.1
theorem yU (k:bI w c bud h)(i:Nat)(hi:i<c.b.n)(u v:Int):Calls Tryz.prog 335 #[↑c.l,.int .i64 i,.int .i64 u,.int .i64 v] w (MOk w c bud (ir h i u v,decide ((sv h.S i).pc=u))):=by
 have hp:=qX k.sl hi;obtain⟨p,hpp⟩:∃p,p=sv h.S i:=⟨_,rfl⟩;have HX:=qh (show ir h i u v=if p.pc=u then {h with S:=h.S.set i {p with pc:=v}} else h from by unfold ir;rw[hpp]);rw[<-hpp]at hp ⊢;have c2:=k.cq;have a0:=k.sp.cell hp 0 _ rfl;have f0:=k.sp.free (i*4);simp only[Nat.add_zero]at a0;have hn:=k.bn.bd.2;have t2:¬(i:Int)<0:=by omega
 have t3:¬((c.b.n:Nat):Int)<=(i:Int):=by omega
 have H:=qh (And.intro k hp);clear k hp hpp;cases hc:(p.pc !=u)
 ·have e:p.pc=u:=by simpa using hc
  have HE:=qh e;clear e;go_enter Tryz.func335,Tryz.ntmps335;go_wp2_with (go_at_call 334;refine(oK H.o.1).mono ?_;rintro e w' ⟨rfl,rfl⟩);go_ret;rw[HX.o,if_pos HE.o];exact⟨az (decide_eq_true HE.o).symm,(MaT.new H.o.1).sput H.o.2 (j:=0) (v:= .int .i64 v) (p':={p with pc:=v}) QZ rfl⟩
 ·have e:¬p.pc=u:=by simpa using hc
  have HE:=qh e;clear e;go_enter Tryz.func335,Tryz.ntmps335;go_wp2_with (go_at_call 334;refine(oK H.o.1).mono ?_;rintro e w' ⟨rfl,rfl⟩);go_ret;rw[HX.o,if_neg HE.o];exact⟨az (decide_eq_false HE.o).symm,MaT.new H.o.1⟩
theorem Ho (k:bI w c bud h)(i:Nat)(hi:i<c.b.n):Calls Tryz.prog 330 #[↑c.l,.int .i64 i] w (MOk w c bud (ir h i 0 1,decide ((sv h.S i).pc=0))):=by obtain⟨x,hx⟩:∃x,x=(ir h i 0 1,decide ((sv h.S i).pc=0)):=⟨_,rfl⟩;have H0:=yU k i hi 0 1;rw[<-hx]at H0 ⊢;have H:=qh H0;obtain⟨x1,x2⟩:=x;clear k hx H0;go_enter Tryz.func330,Tryz.ntmps330;exact Iw
theorem EE (k:bI w c bud h)(i:Nat)(hi:i<c.b.n):Calls Tryz.prog 331 #[↑c.l,.int .i64 i] w (MOk w c bud (ir h i 10 11,decide ((sv h.S i).pc=10))):=by obtain⟨x,hx⟩:∃x,x=(ir h i 10 11,decide ((sv h.S i).pc=10)):=⟨_,rfl⟩;have H0:=yU k i hi 10 11;rw[<-hx]at H0 ⊢;have H:=qh H0;obtain⟨x1,x2⟩:=x;clear k hx H0;go_enter Tryz.func331,Tryz.ntmps331;exact Iw
end
end
section
open Go.RowKit
theorem yP (w:World) (b o:Nat) (x y:Int) (hc:w.cell? ⟨b,o,none⟩=some (.int .i64 x)) (hz:w.frozen? ⟨b,o,none⟩=false):
    Calls Tryz.prog 274 #[.pointer (some ⟨b,o,none⟩),.int .i64 x,.int .i64 y] w λe w'=>e= .returned (.bool true)/\w'=w.setCell ⟨b,o,none⟩ (.int .i64 y):=by have hl:=run_call_cas_hit (P:=Tryz.prog) Tryz.func276 Q0 Q0 Q0 .i64 Q0 (y:=y) hc hz;go_enter Tryz.func274,Tryz.ntmps274;go_wp2;go_ret;exact⟨rfl,rfl⟩
theorem wL (w:World) (b o:Nat) (x old y:Int) (hc:w.cell? ⟨b,o,none⟩=some (.int .i64 x)) (hz:w.frozen? ⟨b,o,none⟩=false) (hne:¬x=old):
    Calls Tryz.prog 274 #[.pointer (some ⟨b,o,none⟩),.int .i64 old,.int .i64 y] w λe w'=>e= .returned (.bool false)/\w=w':=by have hl:=run_call_cas_miss (P:=Tryz.prog) Tryz.func276 Q0 Q0 Q0 .i64 Q0 (o:=old) (y:=y) hc hz hne;clear hne;go_enter Tryz.func274,Tryz.ntmps274;go_wp2;go_ret;exact⟨rfl,rfl⟩
theorem i1 {w:World} {a g:Nat} {s:Ar} (h:aA w a g s) (x old v:Int) (ho:s.ops+1<=1000000000000):
    Calls Tryz.prog 272 #[↑a,.int .i64 x,.int .i64 old,.int .i64 v] w (eU w a g (dO s x old v) (.bool (cl s x old))):=by
  have H:=qh h;cases hx:inR s.W x
  · have e:eU w a g (dO s x old v) (.bool (cl s x old)) (.returned (.bool false)) w:=⟨by unfold cl;rw[hx];rfl,by
      have hb:cl s x old=false:=by unfold cl;rw[hx];rfl
      unfold dO;rw[hb,iM s 4 x false hx];exact h,aa.refl _ _⟩
    have HX:=qh hx;clear h hx;go_enter Tryz.func272,Tryz.ntmps272;go_wp2_with fail;refine(jQ H.o x HX.o).mono ?_;rintro en w1 ⟨rfl,rfl⟩;go_wp2;go_ret;exact e
  · have HX:=qh hx;have h12:=aO.1 hx;have hil:x.toNat-1<s.W.length:=(by omega);have hc:=h.word (i:=x.toNat-1) hil;rw[<-i6 hx]at hc;by_cases heq:ldW s.W x=old;· have hb:cl s x old=true:=(by unfold cl;rw[hx,heq];simp);have hp:=h.put hx v;have HP:=qh (And.intro hp hb);rw[heq]at hc;have HC:=qh hc;clear h hx hc hp heq hb;go_enter Tryz.func272,Tryz.ntmps272;go_wp2_with fail;refine(j4 H.o x HX.o).mono ?_;rintro en w1 ⟨rfl,rfl⟩;go_wp2_with fail;refine(yP _ _ _ _ _ HC.o.1 HC.o.2).mono ?_;rintro en w2 ⟨rfl,rfl⟩;have h2:=HP.o.1.1;have t2:=HP.o.1.2;generalize (w.setCell ⟨g,x.toNat-1,none⟩ (.int .i64 v))=w2 at h2 t2 ⊢;have H2:=qh (And.intro h2 t2);clear h2 t2;go_wp2_with fail;refine(iN H2.o.1 4 x true (by unfold inR wrA;rw[bE];exact HX.o) ho).mono ?_;rintro en w3 ⟨rfl,h3,t3⟩;have H3:=qh (And.intro h3 t3);clear h3 t3;go_wp2;go_ret;refine⟨by rw[HP.o.2];rfl,?_,H2.o.2.trans (iX H3.o.2)⟩;have e:dO s x old v=fj (wrA s x v) 4 x true:=(by unfold dO;rw[HP.o.2,if_pos rfl];unfold fj;rw[if_pos HX.o,if_pos (by unfold inR wrA;rw[bE];exact HX.o)];rfl);rw[e];exact H3.o.1
    · have hb:cl s x old=false:=(by unfold cl;rw[hx];simpa using heq);have HC:=qh (And.intro hc (And.intro heq hb));clear h hx hc heq hb;go_enter Tryz.func272,Tryz.ntmps272;go_wp2_with fail;refine(j4 H.o x HX.o).mono ?_;rintro en w1 ⟨rfl,rfl⟩;go_wp2_with fail;refine(wL _ _ _ _ _ _ HC.o.1.1 HC.o.1.2 HC.o.2.1).mono ?_;rintro en w2 ⟨rfl,rfl⟩;go_wp2_with fail;refine(iN H.o 4 x false HX.o ho).mono ?_;rintro en w3 ⟨rfl,h3,t3⟩;have H3:=qh (And.intro h3 t3);clear h3 t3;go_wp2;go_ret;refine⟨by rw[HC.o.2.2];rfl,?_,iX H3.o.2⟩;unfold dO;rw[HC.o.2.2];exact H3.o.1
end
section
open Go.RowKit
theorem Hn (w:World) (b o:Nat) (x y:Int) (hc:w.cell? ⟨b,o,none⟩=some (.int .i64 x)) (hz:w.frozen? ⟨b,o,none⟩=false):
    Calls Tryz.prog 303 #[.pointer (some ⟨b,o,none⟩),.int .i64 y] w λe w'=>e= .returned (.int .i64 (IntKind.i64.wrap (x+y)))/\w'=w.setCell ⟨b,o,none⟩ (.int .i64 (IntKind.i64.wrap (x+y))):=by obtain⟨s,hs⟩:∃s,s=IntKind.i64.wrap (x+y):=⟨_,rfl⟩;rw[<-hs];have hl:=run_call_add (P:=Tryz.prog) Tryz.func305 Q0 Q0 Q0 .i64 Q0 (y:=y) (s:=s) hc hz (by rw[hs];rfl);clear hs;go_enter Tryz.func303,Tryz.ntmps303;go_wp2;go_ret;exact⟨rfl,rfl⟩
theorem gY {w:World} {a g:Nat} {s:Ar} (h:aA w a g s) (x d:Int) (ho:s.ops+1<=1000000000000):
    Calls Tryz.prog 298 #[↑a,.int .i64 x,.int .i64 d] w (eU w a g (addA s x d) (.int .i64 (if inR s.W x then IntKind.i64.wrap (ldW s.W x+d)else 0))):=by
  have H:=qh h;cases hx:inR s.W x;· have e:eU w a g (addA s x d) (.int .i64 (if false=true then IntKind.i64.wrap (ldW s.W x+d)else 0)) (.returned (.int .i64 0)) w:=⟨rfl,by unfold addA;rw[iM s _ _ _ hx,rc s _ _ hx];exact h,aa.refl _ _⟩;have HX:=qh hx;clear h hx;go_enter Tryz.func298,Tryz.ntmps298;go_wp2_with fail;refine(jQ H.o x HX.o).mono ?_;rintro en w1 ⟨rfl,rfl⟩;go_wp2;go_ret;exact e
  · have HX:=qh hx;have HE:=qh (i6 hx);have h12:=aO.1 hx;have hil:x.toNat-1<s.W.length:=(by omega);clear h hx;go_enter Tryz.func298,Tryz.ntmps298;go_wp2_with fail;refine(j4 H.o x HX.o).mono ?_;rintro en w1 ⟨rfl,rfl⟩;go_wp2_with fail;refine(iN H.o 5 x true HX.o ho).mono ?_;rintro en w1 ⟨rfl,h1,t1⟩;have hc:=h1.word (i:=x.toNat-1) (by rw[dG];exact hil);rw[dG,<-HE.o]at hc;have hp:=h1.put (x:=x) (by rw[dG];exact HX.o) (IntKind.i64.wrap (ldW s.W x+d));have H1:=qh (And.intro hp t1);have HC:=qh hc;clear h1 t1 hp hc;go_wp2_with fail;refine(Hn _ _ _ _ _ HC.o.1 HC.o.2).mono ?_;rintro en w2 ⟨rfl,rfl⟩;obtain⟨r,hr⟩:∃r,r=IntKind.i64.wrap (ldW s.W x+d):=⟨_,rfl⟩;have hr2:-9223372036854775808<=r/\r<=9223372036854775807:=(by rw[hr,IntKind.wrap_i64];omega);obtain⟨hr3,hr4⟩:=hr2;rw[<-hr];have HR:=qh hr;clear hr;go_wp2;go_ret;exact⟨by rw[HR.o];rfl,by rw[HR.o];exact H1.o.1.1,by rw[HR.o];exact(iX H1.o.2).trans H1.o.1.2⟩
end
section
open Go
def mNx (t x:Int):Int:=t+2*x-1
def mWt (t x:Int):Int:=t+2*x
def pPl (t m k:Int):Int:=t+1+k%m
def uT (t m:Int)(s:Ar)(i:Int)(p:Sp):Ar×Sp:=
 if p.pc=1 then(dO s t 0 (i+1),if cl s t 0 then {p with pc:=10} else {p with pc:=2,b:=p.a,a:=min (2*p.a) m})
 else if p.pc=2 then(s,{p with b:=p.b-1,pc:=if p.b-1=0 then 1 else 2})
 else if p.pc=11 then(ac s t 0,{p with pc:=0})
 else(s,p)
def oM (t:Int)(s:Ar)(p:Sp):Ar×Sp:=
 if p.pc=1 then(addA s t 1,{p with a:=ldW s.W t,pc:=2})
 else if p.pc=2 then(ae s (t+1),{p with pc:=if ldW s.W (t+1)=p.a then 10 else 2})
 else if p.pc=11 then(ac s (t+1) (p.a+1),{p with pc:=0})
 else(s,p)
def oj (t m:Int)(s:Ar)(p:Sp):Ar×Sp:=
 if p.pc=1 then(addA s t 1,{p with a:=ldW s.W t,pc:=2})
 else if p.pc=2 then(ae s (pPl t m p.a),{p with pc:=if ldW s.W (pPl t m p.a)=p.a+1 then 10 else 2})
 else if p.pc=11 then(ac s (pPl t m (p.a+1)) (p.a+2),{p with pc:=0})
 else(s,p)
def eB (t:Int)(s:Ar)(x:Int)(p:Sp):Ar×Sp:=
 if p.pc=1 then(ac s (mNx t x) 0,{p with pc:=2})
 else if p.pc=2 then(ac s (mWt t x) 1,{p with pc:=3})
 else if p.pc=3 then(bY s t x,{p with a:=ldW s.W t,pc:=if ldW s.W t=0 then 10 else 4})
 else if p.pc=4 then(ac s (mNx t p.a) x,{p with pc:=5})
 else(ae s (mWt t x),{p with pc:=if ldW s.W (mWt t x)=0 then 10 else 5})
def dF (t:Int)(s:Ar)(x:Int)(p:Sp):Ar×Sp:=
 if p.pc=12 then(dO s t x 0,{p with pc:=if cl s t x then 0 else 13})
 else if p.pc=14 then(ac s (mWt t p.a) 0,{p with pc:=0})
 else(ae s (mNx t x),{p with a:=ldW s.W (mNx t x),pc:=if ldW s.W (mNx t x)≠0 then 14 else if p.pc=11 then 12 else 13})
def lM (t:Int)(s:Ar)(i:Int)(p:Sp):Ar×Sp:=
 if 0<p.pc/\p.pc<10 then eB t s (i+1) p else if 10<p.pc then dF t s (i+1) p else(s,p)
def tL (t:Int)(s:Ar)(p:Sp):Ar×Sp:=
 if p.pc=1 then(ac s (t+p.a) 1,{p with pc:=2})
 else if p.pc=2 then(bY s t p.a,{p with b:=ldW s.W t,pc:=3})
 else if p.pc=3 then(ae s (t+p.b),{p with pc:=if ldW s.W (t+p.b)=0 then 10 else 3})
 else if p.pc=11 then(ac s (t+p.a) 0,{p with a:=p.b,pc:=0})
 else(s,p)
def bG (k:Nat)(t m:Int)(s:Ar)(i:Int)(p:Sp):Ar×Sp:=
 if k=1 then uT t m s i p else if k=2 then oM t s p else if k=3 then oj t m s p else if k=4 then lM t s i p else tL t s p
def bf (p p':Sp):Bool:=decide ((p'.pc=10\/p'.pc=0)/\p.pc≠0/\p.pc≠10)
def askK (k:Nat)(p:Sp):Sp:=if p.pc=0 then(if k=1 then {p with pc:=1,a:=1} else {p with pc:=1})else p
def be (p:Sp):Sp:=if p.pc=10 then {p with pc:=11} else p
def ch (k:Nat)(t:Int)(s:Ar)(i:Int)(p:Sp):Ar×Bool:=
 if p.pc=10 then
  if k=1 then(s,true)else if k=2\/k=3 then(ae s t,decide (ldW s.W t=p.a+1))
  else if k=4 then(ae s (mNx t (i+1)),decide (ldW s.W (mNx t (i+1))=0))else(ae s t,decide (ldW s.W t=p.a))
 else(s,false)
end
section
open Go.RowKit
def SpR (w:World)(q:Nat)(S:List Sp):Prop:=∃Z:List Value,Blk w q 113 (S.flatMap a9++Z).toArray
section
variable{w w':World}{q:Nat}{S:List Sp}
theorem xy (S:List Sp):(S.flatMap a9).length=S.length*4:=by
 induction S with
 |nil=>rfl
 |cons a l ih=>rw[List.flatMap_cons,List.length_append,ih,iu,List.length_cons];omega
theorem SpR.cell (h:SpR w q S){i:Nat}{p:Sp}(hp:S[i]? =some p)(j:Nat)(u:Value)(hu:(a9 p)[j]? =some u):w.cell? ⟨q,i*4+j,none⟩=some u:=by obtain⟨Z,h⟩:=h;rw[Blk.cell h];have h1:=dt a9 4 iu S i p j u hp hu;have h2:i*4+j<(S.flatMap a9).length:=(List.getElem?_eq_some_iff.1 h1).1;simp only[List.getElem?_toArray];rw[List.getElem?_append_left h2,h1]
theorem SpR.put (h:SpR w q S){i:Nat}{p p':Sp}(hp:S[i]? =some p){j:Nat}{u:Value}(hj:j<4)(he:(a9 p).set j u=a9 p'):SpR (w.setCell ⟨q,i*4+j,none⟩ u) q (S.set i p'):=by obtain⟨Z,h⟩:=h;have h1:=Blk.set_ h (i*4+j) u;have hi:=(List.getElem?_eq_some_iff.1 hp).1;refine⟨Z,?_⟩;rw[List.setIfInBounds_toArray,List.set_append_left _ _ (by rw[xy];omega),vD a9 4 iu S i p p' j u hp hj he]at h1;exact h1
theorem SpR.lt (h:SpR w q S):q<w.heap.size:=by obtain⟨Z,h⟩:=h;exact Blk.lt h
theorem SpR.free (h:SpR w q S)(i:Nat):w.frozen? ⟨q,i,none⟩=false:=by obtain⟨Z,h⟩:=h;exact Blk.free h i
theorem SpR.turns{T:List Nat}(h:SpR w q S)(k:aa T w w')(hq:q∉T):SpR w' q S:=by obtain⟨Z,h⟩:=h;exact⟨Z,k.blk h hq⟩
end
structure Fx where
 p:Nat
 l:Nat
 q:Nat
 k:Nat
 t:Nat
 m:Nat
 n:Nat
 cap:Nat
def lkT:Nat->TypeId
 |1=>339
 |2=>343
 |3=>345
 |4=>348
 |_=>350
def lkC (k a:Nat)(x:Fx):Array Value:=
 match k with
 |1=>#[↑a,.int .i64 x.t,.int .i64 x.m,.slice (some ⟨x.q,0,none⟩) x.n x.cap]
 |2=>#[.slice (some ⟨x.q,0,none⟩) x.n x.cap,↑a,.int .i64 x.t]
 |3=>#[↑a,.int .i64 x.t,.int .i64 x.m,.slice (some ⟨x.q,0,none⟩) x.n x.cap]
 |_=>#[↑a,.int .i64 x.t,.slice (some ⟨x.q,0,none⟩) x.n x.cap]
structure KIs (w:World)(a g k:Nat)(x:Fx)(s:Ar)(S:List Sp):Prop where
 ar:aA w a g s
 lk:Blk w x.l (lkT k) (lkC k a x)
 sp:SpR w x.q S
 n:S.length=x.n
 la:x.l≠a
 lg:x.l≠g
 lq:x.l≠x.q
 qa:x.q≠a
 qg:x.q≠g
 n32:x.n<=32
 t0:1<=x.t
 t1:x.t<=5000
 m0:1<=x.m
 m1:x.m<=4
 cap:x.n<=x.cap
section
variable{w w':World}{a g k:Nat}{x:Fx}{s s':Ar}{S S':List Sp}{T:List Nat}
theorem KIs.turns (h:KIs w a g k x s S)(t:aa T w w')(h1:x.l∉T)(h2:a∉T)(h3:g∉T)(h4:x.q∉T):KIs w' a g k x s S:=
 {h with ar:=h.ar.turns t h2 h3,lk:=t.blk h.lk h1,sp:=h.sp.turns t h4}
theorem KIs.below (h:KIs w a g k x s S)(t:Below w.heap.size w w'):KIs w' a g k x s S:=
 h.turns (T:=[]) (aa.of_below t) QY QY QY QY
theorem KIs.op (h:KIs w a g k x s S)(t:aa [a,g] w w')(ha:aA w' a g s'):KIs w' a g k x s' S:=
 {h with ar:=ha,lk:=t.blk h.lk (by simp[h.la,h.lg]),sp:=h.sp.turns t (by simp[h.qa,h.qg])}
theorem KIs.spt (h:KIs w a g k x s S)(t:aa [x.q] w w')(hs:SpR w' x.q S')(hn:S'.length=S.length):KIs w' a g k x s S':=
 {h with ar:=h.ar.turns t (by simpa using λe=>h.qa e.symm) (by simpa using λe=>h.qg e.symm),lk:=t.blk h.lk (by simpa using h.lq),sp:=hs,n:=hn.trans h.n}
theorem aU (q i:Nat)(u:Value):aa [q] w (w.setCell ⟨q,i,none⟩ u):=(aa.refl _ _).setCell (.inl QY) _
theorem KIs.put (h:KIs w a g k x s S){i:Nat}{p p':Sp}(hp:S[i]? =some p){j:Nat}{u:Value}(hj:j<4)(he:(a9 p).set j u=a9 p'):KIs (w.setCell ⟨x.q,i*4+j,none⟩ u) a g k x s (S.set i p'):=
 h.spt (aU _ _ _) (h.sp.put hp hj he) QY
theorem KIs.put0 (h:KIs w a g k x s S){i:Nat}{p p':Sp}(hp:S[i]? =some p){u:Value}(he:(a9 p).set 0 u=a9 p'):KIs (w.setCell ⟨x.q,i*4,none⟩ u) a g k x s (S.set i p'):=
 h.put hp (j:=0) QZ he
theorem dT (S:List Sp)(i:Nat)(p q:Sp):(S.set i p).set i q=S.set i q:=by simp
theorem au{S:List Sp}{i:Nat}{p:Sp}(h:S[i]? =some p)(q:Sp):(S.set i q)[i]? =some q:=by have:=(List.getElem?_eq_some_iff.1 h).1;simp[this]
theorem bX{S:List Sp}{i:Nat}{p:Sp}(hp:S[i]? =some p):S.set i p=S:=by exact Ix
end
end
end Go.Proofs.YtglokdbiggbkjaaGreat
