/- Joined texts. -/
import Derived.StillTailTactics
import Derived.Deep.RegionHeld3
import Derived.IntWalk
import Derived.Test.YtglokdbiggbkjaaGreatMgWholeRefuses0
import Derived.Test.YtglokdbiggbkjaaGreatMgWholeRefuses1
import Derived.Test.YtglokdbiggbkjaaGreatMgWholeRefuses3
set_option linter.unusedVariables false
set_option linter.unusedSimpArgs false
set_option linter.defProp false
set_option maxRecDepth 100000
set_option maxHeartbeats 16000000
open Go.Proofs.Tryz
namespace Go.Proofs.YtglokdbiggbkjaaGreat
open Go.IntKind(i64)
open Go.Value(int bool slice agg tuple pointer)
open Go.Ending(returned)
open Go.Obj(cells)
variable{d' bud:Int}{j:Nat}{v:Value}{w w' w0:World}
section
open Go
structure Bn where
 step:Int
 x:Int
 n:Int
 got:Int
def bnS(F:Int)(s:Ar)(b:Bn):Ar×Bn×Bool:=
 if b.step=1 then(ae s (F+1+b.x) 0,{b with step:=2},false)
 else if b.step=2 then(af s (F+1),{b with n:=ldW s.W (F+1),step:=3},false)
 else if b.step=3 then(ae s (if b.n≠0 then F+1+b.n else F) b.x,{b with step:=4},false)
 else if b.step=4 then(ae s (F+1) b.x,{b with step:=0},true)
 else if b.step=5 then(af s F,if ldW s.W F=0 then⟨0,0,b.n,0⟩else {b with x:=ldW s.W F,step:=6},decide (ldW s.W F=0))
 else if b.step=6 then(af s (F+1+b.x),{b with n:=ldW s.W (F+1+b.x),step:=7},false)
 else if b.step=7 then(ae s F b.n,if b.n≠0 then {b with got:=b.x,step:=0} else {b with step:=8},decide (b.n≠0))
 else if b.step=8 then(ae s (F+1) 0,{b with got:=b.x,step:=0},true)
 else(s,b,false)
def bnB(n:Nat)(b:Bn)(st x:Int):Bn:=if b.step=0/\1<=x/\x<=n then {b with step:=st,x:=x} else b
structure Mal where
 ar:Ar
 bn:Bn
 d:Int
 S:List Sp
def maF(n:Nat):Int:=3+2*(n:Int)
def fi(s:Ar)(x:Int)(p:Sp):Ar×Sp:=
 if p.pc=1 then(ae s (1+2*x) 0,{p with pc:=2})
 else if p.pc=2 then(ae s (2+2*x) 1,{p with pc:=3})
 else if p.pc=3 then(ch s 1 x,{p with a:=ldW s.W 1,pc:=if ldW s.W 1=0 then 10 else 4})
 else if p.pc=4 then(ae s (1+2*p.a) x,{p with pc:=5})
 else(af s (2+2*x),{p with pc:=if ldW s.W (2+2*x)=0 then 10 else p.pc})
def kF(a b:Int):Int:=if b=0 then(if a=0 then 19 else 21)else if a=0 then 15 else 14
def dw(n:Nat)(bud:Int)(h:Mal)(x:Int)(p:Sp):Ar×Bn×Int×Sp:=
 let s:=h.ar
 if p.pc=11 then(addA s 2 1,h.bn,h.d,{p with c:=(if inR s.W 2 then IntKind.i64.wrap (ldW s.W 2+1)else 0),pc:=12})
 else if p.pc=12 then
  if ldW s.W (1+2*x)≠0/\p.c.tmod (bud+1)≠0 then(af s (1+2*x),h.bn,h.d,{p with a:=ldW s.W (1+2*x),pc:=21})
  else(af s (1+2*x),bnB n h.bn 5 1,h.d,{p with a:=ldW s.W (1+2*x),pc:=13})
 else if p.pc=13 then
  if (bnS (maF n) s h.bn).2.2 then((bnS (maF n) s h.bn).1,(bnS (maF n) s h.bn).2.1,h.d,{p with b:=(bnS (maF n) s h.bn).2.1.got,pc:=kF p.a (bnS (maF n) s h.bn).2.1.got})
  else((bnS (maF n) s h.bn).1,(bnS (maF n) s h.bn).2.1,h.d,p)
 else if p.pc=14 then(ae s (1+2*p.b) p.a,h.bn,h.d,{p with pc:=18})
 else if p.pc=15 then(ae s (1+2*p.b) 0,h.bn,h.d,{p with pc:=16})
 else if p.pc=16 then(dR s 1 x p.b,h.bn,h.d,{p with pc:=if cG s 1 x then 18 else 17})
 else if p.pc=17 then(af s (1+2*x),h.bn,h.d,{p with a:=ldW s.W (1+2*x),pc:=if ldW s.W (1+2*x)=0 then 17 else 14})
 else if p.pc=18 then(ae s (2+2*p.b) 0,h.bn,h.d,{p with pc:=0})
 else if p.pc=19 then(dR s 1 x 0,h.bn,h.d,{p with pc:=if cG s 1 x then 0 else 20})
 else if p.pc=20 then(af s (1+2*x),h.bn,h.d,{p with a:=ldW s.W (1+2*x),pc:=if ldW s.W (1+2*x)=0 then 20 else 21})
 else if p.pc=21 then
  if ldW s.W (1+2*p.a)=0 then(af s (1+2*p.a),h.bn,0,{p with pc:=24})
  else(af s (1+2*p.a),bnB n h.bn 1 p.a,ldW s.W (1+2*p.a),{p with pc:=22})
 else if p.pc=22 then((bnS (maF n) s h.bn).1,(bnS (maF n) s h.bn).2.1,h.d,{p with pc:=if (bnS (maF n) s h.bn).2.2 then 23 else 22})
 else if p.pc=23 then(ae s (2+2*h.d) 0,h.bn,h.d,{p with pc:=0})
 else if p.pc=24 then(ae s (2+2*p.a) 0,h.bn,h.d,{p with pc:=0})
 else(s,h.bn,h.d,p)
def maP(n:Nat)(bud:Int)(h:Mal)(i:Nat)(p:Sp):Ar×Bn×Int×Sp:=
 if p.pc<10 then((fi h.ar (i+1) p).1,h.bn,h.d,(fi h.ar (i+1) p).2)else dw n bud h (i+1) p
def dO(n:Nat)(bud:Int)(h:Mal)(i:Nat):Mal×Bool:=
 if (sv h.S i).pc=0\/(sv h.S i).pc=10 then(h,false)
 else let r:=maP n bud h i (sv h.S i);(⟨r.1,r.2.1,r.2.2.1,h.S.set i r.2.2.2⟩,decide (r.2.2.2.pc=0\/r.2.2.2.pc=10))
def jV(f:Int->Int)(σ:Nat->Sp)(i:Nat):Prop:=10<=(σ i).pc\/(3<=(σ i).pc/\f (4+2*(i:Int))=0)
structure MaI(n:Nat)(f:Int->Int)(b:Bn)(d:Int)(σ:Nat->Sp):Prop where
 n1:1<=n
 one:∀i j,i<n->j<n->jV f σ i->jV f σ j->i=j
 tl:f 1=0->∀i,i<n->¬jV f σ i
 vw:∀y,y≠2->0<=f y/\f y<=n
 vd:0<=d/\d<=n
 bx:0<=b.x/\b.x<=n
 vn:0<=b.n/\b.n<=n
 bg:0<=b.got/\b.got<=n
 bs:0<=b.step/\b.step<=8
 sp:∀i,i<n->(0<=(σ i).a/\(σ i).a<=n)/\(0<=(σ i).b/\(σ i).b<=n)
 pcs:∀i,i<n->(0<=(σ i).pc/\(σ i).pc<=5)\/(10<=(σ i).pc/\(σ i).pc<=24)
 a1:∀i,i<n->(σ i).pc=4\/(σ i).pc=21\/(σ i).pc=24\/(σ i).pc=22->1<=(σ i).a
 b1:∀i,i<n->14<=(σ i).pc/\(σ i).pc<=18->1<=(σ i).b
 d1:∀i,i<n->(σ i).pc=22\/(σ i).pc=23->1<=d
section
variable{n:Nat}{f f':Int->Int}{b b':Bn}{d:Int}{σ σ':Nat->Sp}
theorem MaI.upd(h:MaI n f b d σ){i:Nat}{p:Sp}(hi:i<n)(hs:∀j,σ' j=if j=i then p else σ j)(ht:∀j,j<n->jV f' σ' j->(j=i/\jV f σ i)\/(j≠i/\jV f σ j)\/(jV f σ i/\¬jV f' σ' i/\∀k,k<n->k≠i->jV f' σ' k->k=j)\/(f 1=0/\j=i))(Ty:f' 1=0->(f 1=0/\¬jV f' σ' i)\/(jV f σ i/\∀k,k<n->¬jV f' σ' k))(hw:∀y,y≠2->0<=f' y/\f' y<=n)(hd:0<=d'/\d'<=n)(Y:0<=b'.x/\b'.x<=n)(M7:0<=b'.n/\b'.n<=n)(XW:0<=b'.got/\b'.got<=n)(Q7:0<=b'.step/\b'.step<=8)(hp:(0<=p.a/\p.a<=n)/\(0<=p.b/\p.b<=n))(H':(0<=p.pc/\p.pc<=5)\/(10<=p.pc/\p.pc<=24))(ha:p.pc=4\/p.pc=21\/p.pc=24\/p.pc=22->1<=p.a)(I:14<=p.pc/\p.pc<=18->1<=p.b)(hd1:p.pc=22\/p.pc=23->1<=d')(Rb:d'=d\/10<=(σ i).pc):MaI n f' b' d' σ':=by
  have Nf:σ' i=p:=by rw[hs,if_pos rfl]
  have O:∀j,j≠i->σ' j=σ j:=λj e=>by rw[hs,if_neg e]
  refine⟨h.n1,?_,?_,hw,hd,Y,M7,XW,Q7,?_,?_,?_,?_,?_⟩;. intro j k H hk tj tk;have:=h.one;have:=h.tl;grind
  . intro e j H tj;have:=h.tl;have:=h.one;grind
  all_goals
    intro j H;have h1:=h.sp j H;have h2:=h.pcs j H;have h3:=h.a1 j H;have h4:=h.b1 j H;have h5:=h.d1 j H;by_cases e:j=i;. subst e;rw[Nf];grind
    . rw[O j e];have h6:=h.one i j hi H;grind [jV]
structure MaS(n:Nat)(h:Mal):Prop where
 i:MaI n (ldW h.ar.W) h.bn h.d (sv h.S)
 len:h.S.length=n
 wl:h.ar.W.length=4+3*n
def Et{W:List Int}{n:Nat}(wl:W.length=4+3*n)(x v:Int)(h1:1<=x)(h:x<=4+3*n)(y:Int):ldW (stW W x v) y=if y=x then v else ldW W y:=
 gu (aR.2 (by rw[wl];omega)) v y
def BnB(n:Nat)(b:Bn):Prop:=(0<=b.x/\b.x<=n)/\(0<=b.n/\b.n<=n)/\(0<=b.got/\b.got<=n)/\0<=b.step/\b.step<=8
theorem ET{s:Ar}(I:BnB n b)(wl:s.W.length=4+3*n)(hw:∀y,y≠2->0<=ldW s.W y/\ldW s.W y<=n):(∀y,y≠2->0<=ldW (bnS (maF n) s b).1.W y/\ldW (bnS (maF n) s b).1.W y<=n)/\(∀y,y<maF n->ldW (bnS (maF n) s b).1.W y=ldW s.W y)/\BnB n (bnS (maF n) s b).2.1/\(bnS (maF n) s b).1.W.length=4+3*n:=by
  have H:=Et wl;have w1:=hw (maF n) (by unfold maF;omega);have w2:=hw (maF n+1) (by unfold maF;omega);have w3:=hw (maF n+1+b.x) (by unfold maF BnB at *;omega);unfold bnS;repeat' split
  all_goals simp only[aw,aP,bI]
  all_goals refine⟨λy h=>?_,λy h=>?_,?_,wl⟩
  all_goals grind [maF,BnB]
theorem MaS.go{h:Mal}(k:MaS n h)(bud:Int){i:Nat}(hi:i<n){p:Sp}(hp:p=sv h.S i)(h0:¬(p.pc=0\/p.pc=10)){r:Ar×Bn×Int×Sp}(V:r=maP n bud h i p):MaS n ⟨r.1,r.2.1,r.2.2.1,h.S.set i r.2.2.2⟩:=by
 have H:=k.i;have hs:∀q,sv (h.S.set i q)=λj=>if j=i then q else sv h.S j:=λq=>by funext j;rw[ba];grind [k.len]
 have JA:=Et k.wl;have hB:BnB n h.bn:=⟨H.bx,H.vn,H.bg,H.bs⟩;have O:=ET hB k.wl H.vw;have h1:=H.sp i hi;have Y:=H.pcs i hi;have h3:=H.a1 i hi;have h4:=H.b1 i hi;have h5:=H.d1 i hi;have vw:=H.vw;have vd:=H.vd;have tl:=H.tl;have one:=H.one;have LD:∀y,cG h.ar 1 y=decide (ldW h.ar.W 1=y):=λy=>by unfold cG;rw[aR.2 (by rw[k.wl];omega)];rfl
 rw[<-hp]at h1 Y h3 h4 h5;obtain⟨x,I⟩:=LE (bnS (maF n) h.ar h.bn);rw[<-I]at O;obtain⟨JY,Ma,Mr,P0⟩:=O;obtain⟨pc,a,b,z⟩:=p;simp only at h1 Y h3 h4 h5 h0;have hc:pc=1\/pc=2\/pc=3\/pc=4\/pc=5\/pc=11\/pc=12\/pc=13\/pc=14\/pc=15\/pc=16\/pc=17\/pc=18\/pc=19\/pc=20\/pc=21\/pc=22\/pc=23\/pc=24:=by omega
 rcases hc with rfl|rfl|rfl|rfl|rfl|rfl|rfl|rfl|rfl|rfl|rfl|rfl|rfl|rfl|rfl|rfl|rfl|rfl|rfl
 all_goals simp[maP,fi,dw,<-I]at V;clear I;try split at V
 all_goals subst V;refine⟨?_,by simp[k.len],?_⟩
 all_goals simp only[aw,aP,dK,dT,gL]
 all_goals try first|(simp only[bI,k.wl,P0];done)|(split<;>simp only[bI,k.wl];done)
 all_goals refine H.upd hi (λj=>congrFun (hs _) j) ?_ ?_ ?_ ?_ ?_ ?_ ?_ ?_ ?_ ?_ ?_ ?_ ?_ ?_
 all_goals (first|omega|grind [maF,BnB,bnB,kF]|grind [jV,maF])
def MaS.step{h:Mal}(k:MaS n h)(bud:Int){i:Nat}(hi:i<n):MaS n (dO n bud h i).1:=by
 unfold dO;split;.exact k
 .exact k.go bud hi rfl ahW rfl
theorem MaS.beg{h:Mal}(k:MaS n h){i:Nat}{u v:Int}(hc:(sv h.S i).pc=u)(H:(u=0/\v=1)\/(u=10/\v=11)):MaS n ⟨h.ar,h.bn,h.d,h.S.set i {sv h.S i with pc:=v}⟩:=by
 refine⟨?_,by simp[k.len],k.wl⟩;by_cases hi:i<n;.exact k.i.upd (p:={sv h.S i with pc:=v}) hi (λj=>by show sv (h.S.set i _) j=_;rw[ba];grind [k.len]) (by have:=k.i.one;grind [jV,ba,k.len]) (by have:=k.i.tl;grind [jV,ba,k.len]) k.i.vw k.i.vd k.i.bx k.i.vn k.i.bg k.i.bs (k.i.sp i hi) (by grind) (by grind) (by grind) (by grind) (.inl rfl)
 .rw[List.set_eq_of_length_le (by rw[k.len];omega)];exact k.i
def MaS.one{h:Mal}(k:MaS n h){i:Nat}(hi:i<n)(H:j<n)(h1:(sv h.S i).pc=10)(I:(sv h.S j).pc=10):i=j:=k.i.one i j hi H (.inl ahE) (.inl ahE)
end
end
section
open Go.RowKit
variable{x m:Int}
structure Bx where
 k:Nat
 a:Nat
 g:Nat
 F:Nat
 n:Nat
structure BnA(w:World)(c:Bx)(s:Ar)(b:Bn):Prop where
 ar:aB w c.a c.g s
 blk:Blk w c.k 326 #[↑c.a,int i64 c.F,int i64 c.n,int i64 b.step,int i64 b.x,int i64 b.n,int i64 b.got]
 ka:c.k≠c.a/\c.k≠c.g
 bd:c.F<=5000/\c.n<=32
 ix:BnB c.n b
structure BnT(w0 w:World)(c:Bx)(s:Ar)(b:Bn):Prop where
 is:BnA w c s b
 tn:aa [c.a,c.g,c.k] w0 w
section
variable{c:Bx}{s s':Ar}{b:Bn}
def BnA.ca(h:BnA w c s b):w.cell? c.k=some ↑c.a:=h.blk.cell 0
def BnA.cF(h:BnA w c s b):Z w c.k 1 (J c.F):=h.blk.cell 1
def BnA.cn(h:BnA w c s b):Z w c.k 2 (J c.n):=h.blk.cell 2
def BnA.cs(h:BnA w c s b):Z w c.k 3 (J b.step):=h.blk.cell 3
def BnA.cx(h:BnA w c s b):Z w c.k 4 (J b.x):=h.blk.cell 4
def BnA.cm(h:BnA w c s b):Z w c.k 5 (J b.n):=h.blk.cell 5
def BnA.cg(h:BnA w c s b):Z w c.k 6 (J b.got):=h.blk.cell 6
def BnA.turns{S:List Nat}(h:BnA w c s b)(t:aa S w w')(h1:c.a∉S)(H:c.g∉S)(I:c.k∉S):BnA w' c s b:={h with ar:=h.ar.turns t h1 H,blk:=t.blk h.blk I}
def BnA.op(h:BnA w c s b)(t:aa [c.a,c.g] w w')(H:aB w' c.a c.g s'):BnA w' c s' b:={h with ar:=H,blk:=t.blk h.blk (by simp[h.ka.1,h.ka.2])}
def BnA.put(h:BnA w c s b){b':Bn}(j:Nat)(e:(#[↑c.a,J c.F,J c.n,J b.step,J b.x,J b.n,J b.got]:Array Value).setIfInBounds j v=#[↑c.a,J c.F,J c.n,J b'.step,J b'.x,J b'.n,J b'.got])(I:BnB c.n b'):BnA (w.setCell ⟨c.k,j,none⟩ v) c s b':=by have t:aa [c.k] w (w.setCell ⟨c.k,j,none⟩ v):=(aa.refl _ _).setCell (.inl ahF) _;have:=h.blk.set_ j v;rw[e]at this;exact {h with ar:=h.ar.turns t (by simpa using Ne.symm h.ka.1) (by simpa using Ne.symm h.ka.2),blk:=this,ix:=I}
def BnT.new(h:BnA w c s b):BnT w w c s b:=⟨h,aa.refl _ _⟩
def BnT.drew(h:BnT w0 w c s b):BnT w0 w.drew c s b:=⟨h.is.turns (S:=[]) (aa.refl _ _).drew ahF ahF ahF,h.tn.drew⟩
def BnT.op(h:BnT w0 w c s b)(t:aa [c.a,c.g] w w')(H:aB w' c.a c.g s'):BnT w0 w' c s' b:=⟨h.is.op t H,h.tn.trans (t.mono ahF)⟩
def BnT.put(h:BnT w0 w c s b){b':Bn}(j:Nat)(e:(#[↑c.a,J c.F,J c.n,J b.step,J b.x,J b.n,J b.got]:Array Value).setIfInBounds j v=#[↑c.a,J c.F,J c.n,J b'.step,J b'.x,J b'.n,J b'.got])(I:BnB c.n b'):BnT w0 (w.setCell ⟨c.k,j,none⟩ v) c s b':=
 ⟨h.is.put j e I,h.tn.trans ((aa.refl _ _).setCell (.inl ahF) _)⟩
def jD(h:BnA w c s b)(x:Int)(H:0<=x/\x<=32):E 350 #[↑c.k,J x] w λe w'=>e= returned (J ((c.F:Int)+1+x))/\w=w':=by have c1:=h.cF;obtain⟨I,h1⟩:=H;have O:=h.bd.1;have V:IntKind.i64.wrap ((c.F:Int)+1)=(c.F:Int)+1:=IntWalk.i64_in _ ahE;have Y:IntKind.i64.wrap ((c.F:Int)+1+x)=(c.F:Int)+1+x:=IntWalk.i64_in _ ahE;clear h;go_enter func350,ntmps350;exact aaa
def zG(h:BnA w c s b)(v:Bool)(O:(b.step !=0)=v):E 346 #[↑c.k] w λe w'=>e= returned (.bool v)/\w=w':=by have c1:=h.cs;clear h;go_enter func346,ntmps346;exact aaa
def I5(h:BnA w c s b):E 349 #[↑c.k] w λe w'=>e= returned (J b.got)/\w=w':=by have c1:=h.cg;clear h;go_enter func349,ntmps349;exact aaa
def BOk(w:World)(c:Bx)(x:Ar×Bn×Bool)(e:Ending)(w':World):Prop:=e= returned (.bool x.2.2)/\BnT w w' c x.1 x.2.1
theorem wU(h:BnT w0 w c s b):E 351 #[↑c.k] w λe w'=>e= returned (bool true)/\BnT w0 w' c s {b with step:=0}:=by have c1:=h.is.cs;have I:=h.is.blk.free 3;have H:=qh (h.put (b':={b with step:=0}) (v:= J 0) 3 rfl (by have:=h.is.ix;unfold BnB at *;simp only;omega));clear h;go_enter func351,ntmps351;go_wp2;go_ret;exact⟨rfl,H.o⟩
def zy(h:BnA w c s b)(st x:Int)(JA:1<=st/\st<=8)(hx:0<=x/\x<=c.n):E 345 #[↑c.k,J st,J x] w λe w'=>(∃v,e= returned (.bool v))/\BnT w w' c s (bnB c.n b st x):=by
 have HB:=qh (λW (k:BnA W c s b) v O=>zG k v O);have V:=qh (BnT.new h);have c2:=h.cn;have SQ:=h.bd.2;have hk:=h.blk.lt;have c3:=h.cs;have c4:=h.cx;have z3:=h.blk.free 3;have z4:=h.blk.free 4;have HI:=qh h.ix;obtain⟨u,H⟩:=LE ((b.step !=0));obtain⟨x0,x1⟩:=hx;by_cases I:b.step=0/\1<=x
 .have e1:u=false:=by rw[H];simp[I.1]
  subst e1;have Y:=qh H.symm;have HX:Kq (bnB c.n b st x={b with step:=st,x:=x}):=qh (by unfold bnB;rw[if_pos ⟨I.1,I.2,x1⟩]);have t1:¬x<1:=by omega
  have t2:¬(c.n:Int)<x:=by omega
  have HS:=qh (And.intro JA (And.intro x0 x1));clear H I h JA;go_enter func345,ntmps345;go_wp2_with fail;refine LT (HB.o _ V.o.is false Y.o) ?_;go_wp2;go_ret;rw[HX.o];exact⟨⟨_,rfl⟩,(V.o.put (b':={b with step:=st}) 3 rfl aiJ).put 4 rfl aiJ⟩
 .have HX:Kq (bnB c.n b st x=b):=qh (by unfold bnB;rw[if_neg (λh=>I ⟨h.1,h.2.1⟩)]);have Y:=qh H.symm;cases u;.have t1:x<1:=(by have:b.step=0:=(by simpa using H.symm);omega);clear H I h JA;go_enter func345,ntmps345;go_wp2_with fail;refine LT (HB.o _ V.o.is false Y.o) ?_;go_wp2;go_ret;rw[HX.o];exact⟨⟨_,rfl⟩,V.o⟩
  .clear H I h JA;go_enter func345,ntmps345;go_wp2_with fail;refine LT (HB.o _ V.o.is true Y.o) ?_;go_wp2;go_ret;rw[HX.o];exact⟨⟨_,rfl⟩,V.o⟩
def Jd(h:BnA w c s b)(x:Int)(I:0<=x/\x<=c.n):E 344 #[↑c.k,J x] w λe w'=>(∃v,e= returned (.bool v))/\BnT w w' c s (bnB c.n b 1 x):=by have H:=qh (zy h 1 x ahE I);clear h;go_enter func344,ntmps344;exact aae
def ED(h:BnA w c s b)(h1:1<=c.n):E 341 #[↑c.k] w λe w'=>(∃v,e= returned (.bool v))/\BnT w w' c s (bnB c.n b 5 1):=by have H:=qh (zy h 5 1 ahE ahE);clear h;go_enter func341,ntmps341;exact aae
def CJ{g:Int}(h:BnA w c s ⟨1,x,m,g⟩)(Y:s.ops+1<=1000000000000):E 347 #[↑c.k] w (BOk w c (bnS c.F s ⟨1,x,m,g⟩)):=by
 refine aiW ?_;intro HI HN e0 Nb x1;have O:=qh (λW s b (k:BnT w W c s b) (e:b=⟨1,x,m,g⟩)=>show W.cell? c.k=some ↑c.a/\W.cell? ⟨c.k,4,none⟩=some (J x)from by subst e;exact⟨k.is.ca,k.is.cx⟩);have HO:=qh (λW (k:BnT w W c s ⟨1,x,m,g⟩)=>am k.is.ar ((c.F:Int)+1+x) 0 Y);have HF:=qh (λW (k:BnT w W c s ⟨1,x,m,g⟩)=>jD k.is x ahE);have H:=qh (BnT.new h).drew;clear h;go_enter func347,ntmps347;go_wp2_with fail
 go_region_held3 (λW=>W.cell? c.k=some ↑c.a/\Z W c.k 4 (J x))
  (first|with_reducible exact O.o _ _ _ H.o rfl|with_reducible exact O.o _ _ _ I.o rfl)
  (first
   |(go_at_call 350;go_loud (refine LT (HF.o _ H.o) ?_))
   |(go_at_call 177;go_loud (refine(HO.o _ H.o).mono ?_);rintro en w3 ⟨rfl,V,t3⟩;have I:=qh (H.o.op t3 V);skip;clear V t3))
 have e3:=I.o.is.cs;have z3:=I.o.is.blk.free 3;go_wp2;go_ret;exact⟨rfl,I.o.put (b':=⟨2,x,m,g⟩) 3 rfl aib⟩
def CK{g:Int}(h:BnA w c s ⟨2,x,m,g⟩)(Y:s.ops+1<=1000000000000)(JO:0<=ldW s.W ((c.F:Int)+1)/\ldW s.W ((c.F:Int)+1)<=c.n):E 347 #[↑c.k] w (BOk w c (bnS c.F s ⟨2,x,m,g⟩)):=by
 refine aiW ?_;intro HI HN e0 Nb x1;have V:=qh (λW s m (k:BnT w W c s ⟨2,x,m,g⟩)=>show W.cell? c.k=some ↑c.a/\W.cell? ⟨c.k,1,none⟩=some (J c.F)from by exact⟨k.is.ca,k.is.cF⟩);have HO:=qh (λW (k:BnT w W c s ⟨2,x,m,g⟩)=>aD k.is.ar ((c.F:Int)+1) Y);have HF:=qh (λW (k:BnT w W c s ⟨2,x,m,g⟩)=>jD k.is x ahE);have K1:=qh (BnT.new h).drew;obtain⟨v,O⟩:=LE (ldW s.W ((c.F:Int)+1));have HX:Kq (bnS c.F s ⟨2,x,m,g⟩=(af s ((c.F:Int)+1),⟨3,x,v,g⟩,false)):=qh (by rw[O];rfl);rw[<-O]at JO HO;have HV:=qh JO;clear h O JO;go_enter func347,ntmps347;go_wp2_with fail
 go_region_held3 (λW=>W.cell? c.k=some ↑c.a/\Z W c.k 1 (J c.F))
  (first|with_reducible exact V.o _ _ _ K1.o|with_reducible exact V.o _ _ _ H.o|with_reducible exact Kk.o)
  (first
   |(go_at_call 173;go_loud (refine(HO.o _ K1.o).mono ?_);rintro en w3 ⟨rfl,a3,t3⟩;have H:=qh (K1.o.op t3 a3);have I:=qh (H.o.put (b':=⟨2,x,v,g⟩) (v:= J v) 5 rfl ah1);have Kk:=qh (V.o _ _ _ I.o);have e1:=H.o.is.blk.cell 5;have z1:=H.o.is.blk.free 5;clear a3 t3))
 have e3:=I.o.is.cs;have z3:=I.o.is.blk.free 3;go_wp2;go_ret;rw[HX.o];exact⟨rfl,I.o.put (b':=⟨3,x,v,g⟩) 3 rfl ah1⟩
def zC{g:Int}(h:BnA w c s ⟨3,x,m,g⟩)(Y:s.ops+1<=1000000000000)(hm:m≠0):E 347 #[↑c.k] w (BOk w c (bnS c.F s ⟨3,x,m,g⟩)):=by
 refine aiW ?_;intro HI HN e0 Nb x1;refine akd ?_;intro HC;have HO:=qh (λW (k:BnT w W c s ⟨3,x,m,g⟩)=>am k.is.ar ((c.F:Int)+1+m) x Y);have H:=qh (λW (k:BnT w W c s ⟨3,x,m,g⟩)=>jD k.is m ahE);have K1:=qh (BnT.new h).drew;have I:=qh h;have e4:=h.cm;have e5:=h.cF;have HX:Kq (bnS c.F s ⟨3,x,m,g⟩=(ae s ((c.F:Int)+1+m) x,⟨4,x,m,g⟩,false)):=qh (by show(ae s (if m≠0 then _ else _) x,_,_)=_;rw[if_pos hm]);have O:(m !=0)=true:=by simp[hm]
 clear h hm;go_enter func347,ntmps347;go_wp2_with fail;refine LT (H.o _ (BnT.new I.o)) ?_;exact aaf
def zB{g:Int}(h:BnA w c s ⟨3,x,m,g⟩)(Y:s.ops+1<=1000000000000)(hm:m=0):E 347 #[↑c.k] w (BOk w c (bnS c.F s ⟨3,x,m,g⟩)):=by
 refine aiW ?_;intro HI HN e0 Nb x1;refine akd ?_;intro HC;have HO:=qh (λW (k:BnT w W c s ⟨3,x,m,g⟩)=>am k.is.ar (c.F) x Y);have H:=qh (λW (k:BnT w W c s ⟨3,x,m,g⟩)=>jD k.is x ahE);have K1:=qh (BnT.new h).drew;have e4:=h.cm;have e5:=h.cF;have HX:Kq (bnS c.F s ⟨3,x,m,g⟩=(ae s (c.F) x,⟨4,x,m,g⟩,false)):=qh (by show(ae s (if m≠0 then _ else _) x,_,_)=_;rw[if_neg (by simp[hm])]);have I:(m !=0)=false:=by simp[hm]
 clear h hm;go_enter func347,ntmps347;exact aaf
def CL{g:Int}(h:BnA w c s ⟨4,x,m,g⟩)(Y:s.ops+1<=1000000000000):E 347 #[↑c.k] w (BOk w c (bnS c.F s ⟨4,x,m,g⟩)):=by
 refine aiW ?_;intro HI HN e0 Nb x1;have I:=qh (λW s b (k:BnT w W c s b) (e:b=⟨4,x,m,g⟩)=>show W.cell? c.k=some ↑c.a/\Z W c.k 1 (J c.F)/\W.cell? ⟨c.k,4,none⟩=some (J x)from by subst e;exact⟨k.is.ca,⟨k.is.cF,k.is.cx⟩⟩);have HO:=qh (λW (k:BnT w W c s ⟨4,x,m,g⟩)=>am k.is.ar ((c.F:Int)+1) x Y);have HF:=qh (λW (k:BnT w W c s ⟨4,x,m,g⟩)=>jD k.is x ahE);have H:=qh (BnT.new h).drew;clear h;go_enter func347,ntmps347;go_wp2_with fail
 go_region_held3 (λW=>W.cell? c.k=some ↑c.a/\Z W c.k 1 (J c.F)/\Z W c.k 4 (J x))
  (first|with_reducible exact I.o _ _ _ H.o rfl|with_reducible exact I.o _ _ _ O.o rfl)
  (first
   |(go_at_call 177;go_loud (refine(HO.o _ H.o).mono ?_);rintro en w3 ⟨rfl,a3,t3⟩;have O:=qh (H.o.op t3 a3);skip;clear a3 t3))
 go_wp2_with fail;refine Op (wU O.o) λw4 V=>?_;go_wp2;go_ret;exact⟨rfl,V.o.is,V.o.tn⟩
def xF{g:Int}(h:BnA w c s ⟨5,x,m,g⟩)(Y:s.ops+1<=1000000000000)(V:0<=ldW s.W (c.F)/\ldW s.W (c.F)<=c.n)(h5:(ldW s.W c.F==0)=true):E 348 #[↑c.k] w (BOk w c (bnS c.F s ⟨5,x,m,g⟩)):=by
 refine aiW ?_;intro HI HN e0 Nb x1;refine ajq ?_;intro HC HO HF K1 v O;have HX:Kq (bnS c.F s ⟨5,x,m,g⟩=(af s c.F,⟨0,0,m,0⟩,true)):=qh (by subst O;simp[bnS,(by simpa using h5:ldW s.W c.F=0)]);rw[<-O]at V HO h5;have HV:=qh V;have HZ:=qh h5;clear h O V;go_enter func348,ntmps348;go_wp2_with fail
 go_region_held3 (λW=>W.cell? c.k=some ↑c.a/\Z W c.k 1 (J c.F))
  (first|with_reducible exact HC.o _ _ _ K1.o|with_reducible exact HC.o _ _ _ I.o|with_reducible exact Kk.o)
  (first
   |(go_at_call 173;go_loud (refine(HO.o _ K1.o).mono ?_);rintro en w3 ⟨rfl,a3,t3⟩;have I:=qh (K1.o.op t3 a3);have H:=qh (I.o.put (b':=⟨5,v,m,g⟩) (v:= J v) 4 rfl ah1);have Kk:=qh (HC.o _ _ _ H.o);have e1:=I.o.is.blk.cell 4;have z1:=I.o.is.blk.free 4;clear a3 t3))
 have e6:=H.o.is.cx;have e8:=H.o.is.cg;have z6:=H.o.is.blk.free 6;go_wp2_with fail;refine Op (wU (H.o.put (b':=⟨5,v,m,0⟩) 6 rfl ah1)) λw4 K4=>?_;go_wp2;go_ret;rw[HX.o];have hz:v=0:=by simpa using HZ.o
 subst hz;exact⟨rfl,K4.o.is,K4.o.tn⟩
def xE{g:Int}(h:BnA w c s ⟨5,x,m,g⟩)(Y:s.ops+1<=1000000000000)(V:0<=ldW s.W (c.F)/\ldW s.W (c.F)<=c.n)(h5:(ldW s.W c.F==0)=false):E 348 #[↑c.k] w (BOk w c (bnS c.F s ⟨5,x,m,g⟩)):=by
 refine aiW ?_;intro HI HN e0 Nb x1;refine ajq ?_;intro HC HO HF K1 v O;have HX:Kq (bnS c.F s ⟨5,x,m,g⟩=(af s c.F,⟨6,v,m,g⟩,false)):=qh (by subst O;simp[bnS,(by simpa using h5:¬ldW s.W c.F=0)]);rw[<-O]at V HO h5;have HV:=qh V;clear h O V;go_enter func348,ntmps348;go_wp2_with fail
 go_region_held3 (λW=>W.cell? c.k=some ↑c.a/\Z W c.k 1 (J c.F))
  (first|with_reducible exact HC.o _ _ _ K1.o|with_reducible exact HC.o _ _ _ I.o|with_reducible exact Kk.o)
  (first
   |(go_at_call 173;go_loud (refine(HO.o _ K1.o).mono ?_);rintro en w3 ⟨rfl,a3,t3⟩;have I:=qh (K1.o.op t3 a3);have H:=qh (I.o.put (b':=⟨5,v,m,g⟩) (v:= J v) 4 rfl ah1);have Kk:=qh (HC.o _ _ _ H.o);have e1:=I.o.is.blk.cell 4;have z1:=I.o.is.blk.free 4;clear a3 t3))
 have e6:=H.o.is.cx;have e3:=H.o.is.cs;have z3:=H.o.is.blk.free 3;go_wp2;go_ret;rw[HX.o];exact⟨rfl,H.o.put (b':=⟨6,v,m,g⟩) 3 rfl ah1⟩
def zD{g:Int}(h:BnA w c s ⟨6,x,m,g⟩)(Y:s.ops+1<=1000000000000)(JO:0<=ldW s.W ((c.F:Int)+1+x)/\ldW s.W ((c.F:Int)+1+x)<=c.n):E 348 #[↑c.k] w (BOk w c (bnS c.F s ⟨6,x,m,g⟩)):=by
 refine aiW ?_;intro HI HN e0 Nb x1;have HC:=qh (λW s m (k:BnT w W c s ⟨6,x,m,g⟩)=>show W.cell? c.k=some ↑c.a/\W.cell? ⟨c.k,4,none⟩=some (J x)from by exact⟨k.is.ca,k.is.cx⟩);have HO:=qh (λW (k:BnT w W c s ⟨6,x,m,g⟩)=>aD k.is.ar ((c.F:Int)+1+x) Y);have HF:=qh (λW (k:BnT w W c s ⟨6,x,m,g⟩)=>jD k.is x ahE);have H:=qh (BnT.new h).drew;obtain⟨v,O⟩:=LE (ldW s.W ((c.F:Int)+1+x));have HX:Kq (bnS c.F s ⟨6,x,m,g⟩=(af s ((c.F:Int)+1+x),⟨7,x,v,g⟩,false)):=qh (by rw[O];rfl);rw[<-O]at JO HO;have HV:=qh JO;clear h O JO;go_enter func348,ntmps348;go_wp2_with fail
 go_region_held3 (λW=>W.cell? c.k=some ↑c.a/\Z W c.k 4 (J x))
  (first|with_reducible exact HC.o _ _ _ H.o|with_reducible exact HC.o _ _ _ I.o|with_reducible exact Kk.o)
  (first
   |(go_at_call 350;go_loud (refine LT (HF.o _ H.o) ?_))
   |(go_at_call 173;go_loud (refine(HO.o _ H.o).mono ?_);rintro en w3 ⟨rfl,a3,t3⟩;have I:=qh (H.o.op t3 a3);have V:=qh (I.o.put (b':=⟨6,x,v,g⟩) (v:= J v) 5 rfl ah1);have Kk:=qh (HC.o _ _ _ V.o);have e1:=I.o.is.blk.cell 5;have z1:=I.o.is.blk.free 5;clear a3 t3))
 have e3:=V.o.is.cs;have z3:=V.o.is.blk.free 3;go_wp2;go_ret;rw[HX.o];exact⟨rfl,V.o.put (b':=⟨7,x,v,g⟩) 3 rfl ah1⟩
def xH{g:Int}(h:BnA w c s ⟨7,x,m,g⟩)(Y:s.ops+1<=1000000000000)(hm:m≠0):E 348 #[↑c.k] w (BOk w c (bnS c.F s ⟨7,x,m,g⟩)):=by
 refine aiW ?_;intro HI HN e0 Nb x1;refine ajl ?_;intro HC HO HF K1;have HX:Kq (bnS c.F s ⟨7,x,m,g⟩=(ae s c.F m,⟨0,x,m,x⟩,true)):=qh (by simp[bnS,hm]);have t5:(m !=0)=true:=by simp[hm]
 clear h hm;go_enter func348,ntmps348;go_wp2_with fail
 go_region_held3 (λW=>W.cell? c.k=some ↑c.a/\Z W c.k 1 (J c.F)/\Z W c.k 5 (J m))
  (first|with_reducible exact HC.o _ _ _ K1.o rfl|with_reducible exact HC.o _ _ _ H.o rfl)
  (first
   |(go_at_call 177;go_loud (refine(HO.o _ K1.o).mono ?_);rintro en w3 ⟨rfl,O,V⟩;have H:=qh (K1.o.op V O);skip;clear O V))
 have e6:=H.o.is.cm;have e7:=H.o.is.cx;have e8:=H.o.is.cg;have z6:=H.o.is.blk.free 6;go_wp2_with fail;refine Op (wU (H.o.put (b':=⟨7,x,m,x⟩) 6 rfl aib)) λw4 I=>?_;go_wp2;go_ret;rw[HX.o];exact⟨rfl,I.o.is,I.o.tn⟩
def xG{g:Int}(h:BnA w c s ⟨7,x,m,g⟩)(Y:s.ops+1<=1000000000000)(hm:m=0):E 348 #[↑c.k] w (BOk w c (bnS c.F s ⟨7,x,m,g⟩)):=by
 refine aiW ?_;intro HI HN e0 Nb x1;refine ajl ?_;intro HC HO HF K1;have HX:Kq (bnS c.F s ⟨7,x,m,g⟩=(ae s c.F m,⟨8,x,m,g⟩,false)):=qh (by simp[bnS,hm]);have t5:(m !=0)=false:=by simp[hm]
 clear h hm;go_enter func348,ntmps348;go_wp2_with fail
 go_region_held3 (λW=>W.cell? c.k=some ↑c.a/\Z W c.k 1 (J c.F)/\Z W c.k 5 (J m))
  (first|with_reducible exact HC.o _ _ _ K1.o rfl|with_reducible exact HC.o _ _ _ H.o rfl)
  (first
   |(go_at_call 177;go_loud (refine(HO.o _ K1.o).mono ?_);rintro en w3 ⟨rfl,I,O⟩;have H:=qh (K1.o.op O I);skip;clear I O))
 have V:=H.o.is.cm;have e3:=H.o.is.cs;have z3:=H.o.is.blk.free 3;go_wp2;go_ret;rw[HX.o];exact⟨rfl,H.o.put (b':=⟨8,x,m,g⟩) 3 rfl aib⟩
def zE{g:Int}(h:BnA w c s ⟨8,x,m,g⟩)(Y:s.ops+1<=1000000000000):E 348 #[↑c.k] w (BOk w c (bnS c.F s ⟨8,x,m,g⟩)):=by
 refine aiW ?_;intro HI HN e0 Nb x1;have O:=qh (λW s b (k:BnT w W c s b) (e:b=⟨8,x,m,g⟩)=>show W.cell? c.k=some ↑c.a/\W.cell? ⟨c.k,1,none⟩=some (J c.F)from by subst e;exact⟨k.is.ca,k.is.cF⟩);have HO:=qh (λW (k:BnT w W c s ⟨8,x,m,g⟩)=>am k.is.ar ((c.F:Int)+1) 0 Y);have HF:=qh (λW (k:BnT w W c s ⟨8,x,m,g⟩)=>jD k.is x ahE);have I:=qh (BnT.new h).drew;clear h;go_enter func348,ntmps348;go_wp2_with fail
 go_region_held3 (λW=>W.cell? c.k=some ↑c.a/\Z W c.k 1 (J c.F))
  (first|with_reducible exact O.o _ _ _ I.o rfl|with_reducible exact O.o _ _ _ H.o rfl)
  (first
   |(go_at_call 177;go_loud (refine(HO.o _ I.o).mono ?_);rintro en w3 ⟨rfl,a3,t3⟩;have H:=qh (I.o.op t3 a3);skip;clear a3 t3))
 have e7:=H.o.is.cx;have e8:=H.o.is.cg;have z6:=H.o.is.blk.free 6;go_wp2_with fail;refine Op (wU (H.o.put (b':=⟨8,x,m,x⟩) 6 rfl aib)) λw4 V=>?_;go_wp2;go_ret;exact⟨rfl,V.o.is,V.o.tn⟩
def CC(n:Nat)(F:Int)(W:List Int):Prop:=∀y,F<=y->0<=ldW W y/\ldW W y<=n
def Ez(h:BnA w c s b)(hw:CC c.n c.F s.W)(Y:s.ops+1<=1000000000000):E 342 #[↑c.k] w (BOk w c (bnS c.F s b)):=by
 obtain⟨st,x,m,g⟩:=b;have HB:=qh h;have hs:=h.ix.2.2.2;have hx:=h.ix.1;simp only at hs hx;have e0:=h.cs;by_cases h0:st=0;.subst h0;have HX:Kq (bnS c.F s ⟨0,x,m,g⟩=(s,⟨0,x,m,g⟩,false)):=qh rfl;have H:=qh (BnT.new h);clear h hw;go_enter func342,ntmps342;go_wp2_with fail;refine LT (zG H.o.is false rfl) ?_;go_wp2;go_ret;rw[HX.o];exact⟨rfl,H.o⟩
 have hM:Calls prog (if st<=4 then 347 else 348) #[↑c.k] w (BOk w c (bnS c.F s ⟨st,x,m,g⟩)):=by
  have O:∀y,(c.F:Int)<=y->0<=ldW s.W y/\ldW s.W y<=c.n:=hw;have:st=1\/st=2\/st=3\/st=4\/st=5\/st=6\/st=7\/st=8:=by omega
  rcases this with rfl|rfl|rfl|rfl|rfl|rfl|rfl|rfl
  .exact CJ h Y
  .exact CK h Y (O _ ahE)
  .by_cases hm:m=0;.exact zB h Y hm
   .exact zC h Y hm
  .exact CL h Y
  .by_cases hm:ldW s.W c.F=0;.exact xF h Y (O _ ahE) (by simp[hm])
   .exact xE h Y (O _ ahE) (by simp[hm])
  .exact zD h Y (O _ ahE)
  .by_cases hm:m=0;.exact xG h Y hm
   .exact xH h Y hm
  .exact zE h Y
 have I:=qh hM;have t0:(st !=0)=true:=by simp[h0]
 have H:=qh (BnT.new h);clear h hw hM;obtain⟨r,V⟩:=LE (bnS c.F s ⟨st,x,m,g⟩);rw[<-V]at I ⊢;clear V;have:st=1\/st=2\/st=3\/st=4\/(4<st):=by omega
 rcases this with rfl|rfl|rfl|rfl|h4
 all_goals
  try have t1:(st==1)=false:=(by simp;omega);have t2:(st==2)=false:=(by simp;omega);have t3:(st==3)=false:=(by simp;omega);have t4:(st==4)=false:=(by simp;omega);rw[if_neg ahE]at I
  go_enter func342,ntmps342;go_wp2_with fail;refine LT (zG H.o.is true (by first|rfl|exact t0)) ?_;go_wp2_with fail;refine Op I.o λw2 K2=>?_;go_wp2;go_ret;exact⟨rfl,K2.o⟩
end
end
section
open Go.RowKit
structure Mx where
 l:Nat
 q:Nat
 b:Bx
def mS(c:Mx):List Nat:=[c.l,c.q,c.b.k,c.b.a,c.b.g]
structure bM(w:World)(c:Mx)(bud:Int)(h:Mal):Prop where
 bn:BnA w c.b h.ar h.bn
 lk:Blk w c.l 269 #[↑c.b.a,int i64 1,int i64 bud,↑c.b.k,int i64 h.d,slice (some ⟨c.q,0,none⟩) c.b.n c.b.n]
 sp:dy w c.q h.S
 sl:h.S.length=c.b.n
 nd:(mS c).Nodup
 bb:0<=bud/\bud<=1000
structure MaT(w0 w:World)(c:Mx)(bud:Int)(h:Mal):Prop where
 is:bM w c bud h
 tn:aa (mS c) w0 w
section
variable{c:Mx}{h:Mal}
def bM.ca(k:bM w c bud h):w.cell? c.l=some ↑c.b.a:=k.lk.cell 0
def bM.ct(k:bM w c bud h):Z w c.l 1 (J 1):=k.lk.cell 1
def bM.cb(k:bM w c bud h):Z w c.l 2 (J bud):=k.lk.cell 2
def bM.ck(k:bM w c bud h):Z w c.l 3 ↑c.b.k:=k.lk.cell 3
def bM.cd(k:bM w c bud h):Z w c.l 4 (J h.d):=k.lk.cell 4
def bM.cq(k:bM w c bud h):Z w c.l 5 (slice (some ⟨c.q,0,none⟩) c.b.n c.b.n):=k.lk.cell 5
def bM.below(k:bM w c bud h)(t:Below w.heap.size w w'):bM w' c bud h:=
 have t0:=aa.of_below (S:=[]) t
 {k with bn:=k.bn.turns t0 ahF ahF ahF,lk:=t0.blk k.lk ahF,sp:=k.sp.turns t0 ahF}
def bM.ne(k:bM w c bud h):(c.l≠c.q/\c.l≠c.b.k/\c.l≠c.b.a/\c.l≠c.b.g)/\c.q≠c.b.k/\c.q≠c.b.a/\c.q≠c.b.g:=by have:=k.nd;unfold mS at this;simp at this;omega
def MaT.new(k:bM w c bud h):MaT w w c bud h:=⟨k,aa.refl _ _⟩
def MaT.below(k:MaT w0 w c bud h)(t:Below w.heap.size w w'):MaT w0 w' c bud h:=⟨k.is.below t,k.tn.trans (aa.of_below t)⟩
def MaT.drew(k:MaT w0 w c bud h):MaT w0 w.drew c bud h:=k.below (Below.refl _ _).drew
def MaT.bn(k:MaT w0 w c bud h){s':Ar}{b':Bn}(t:aa [c.b.a,c.b.g,c.b.k] w w')(I:BnA w' c.b s' b'):MaT w0 w' c bud {h with ar:=s',bn:=b'}:=by have H:=k.is.ne;exact⟨{k.is with bn:=I,lk:=t.blk k.is.lk ahJ,sp:=k.is.sp.turns t ahJ},k.tn.trans (t.mono (by unfold mS;simp))⟩
def MaT.op(k:MaT w0 w c bud h){s':Ar}(t:aa [c.b.a,c.b.g] w w')(H:aB w' c.b.a c.b.g s'):MaT w0 w' c bud {h with ar:=s'}:=k.bn (t.mono ahF) (k.is.bn.op t H)
def xk{l:Nat}(w:World)(i:Nat)(v:Value):aa [l] w (w.setCell ⟨l,i,none⟩ v):=(aa.refl _ _).setCell (.inl ahF) _
def MaT.sput(k:MaT w0 w c bud h){i:Nat}{p p':Sp}(O:h.S[i]? =some p)(I:j<4)(H:(bf p).set j v=bf p'):MaT w0 (w.setCell ⟨c.q,i*4+j,none⟩ v) c bud {h with S:=h.S.set i p'}:=by have V:=k.is.ne;have t:=xk (l:=c.q) w (i*4+j) v;exact⟨{k.is with bn:=k.is.bn.turns t ahJ ahJ ahJ,lk:=t.blk k.is.lk ahJ,sp:=k.is.sp.put O I H,sl:=by simp[k.is.sl]},k.tn.trans (t.mono (by unfold mS;simp))⟩
def MaT.dput(k:MaT w0 w c bud h)(d':Int):MaT w0 (w.setCell ⟨c.l,4,none⟩ (J d')) c bud {h with d:=d'}:=by have H:=k.is.ne;have t:=xk (l:=c.l) w 4 (J d');exact⟨{k.is with bn:=k.is.bn.turns t ahJ ahJ ahJ,lk:=k.is.lk.set_ 4 _,sp:=k.is.sp.turns t ahJ},k.tn.trans (t.mono (by unfold mS;simp))⟩
def iT(k:bM w c bud h)(x:Int)(H:0<=x/\x<=40):E 339 #[↑c.l,J x] w λe w'=>e= returned (J (1+2*x))/\w=w':=by have c1:=k.ct;obtain⟨I,h1⟩:=H;refine akk ?_;intro x1 x2 x3;clear k;go_enter func339,ntmps339;exact aag
def qp(k:bM w c bud h)(x:Int)(H:0<=x/\x<=40):E 340 #[↑c.l,J x] w λe w'=>e= returned (J (2+2*x))/\w=w':=by have c1:=k.ct;obtain⟨I,h1⟩:=H;refine akk ?_;intro x1 x2 x3;clear k;go_enter func340,ntmps340;exact aag
def pf(k:bM w c bud h):E 334 #[↑c.l] w λe w'=>e= returned (J c.b.n)/\w=w':=by have c1:=k.cq;clear k;go_enter func334,ntmps334;exact aaa
def rv{S:List Sp}{i n:Nat}(H:S.length=n)(hi:i<n):S[i]? =some (sv S i):=by unfold sv;rw[List.getD_eq_getElem?_getD,List.getElem?_eq_getElem ahE];rfl
def Cb(k:bM w c bud h)(i:Nat)(hi:i<c.b.n):E 332 #[↑c.l,J i] w λe w'=>e= returned (aF (sv h.S i))/\Below w.heap.size w w':=by
 have hp:=rv k.sl hi;obtain⟨p,I⟩:=LE (sv h.S i);rw[<-I]at hp ⊢;have c2:=k.cq;refine aj5 ?_;intro a0 a1 a2 a3;have Y:=k.bn.bd.2;have O:=k.lk.lt;have V:=k.sp.lt;have t2:¬(i:Int)<0:=by omega
 have t3:¬((c.b.n:Nat):Int)<=(i:Int):=by omega
 have H:=qh (k.below ((Below.refl _ _).alloc (Nat.le_refl _) (cells #[J 0,J 0,J 0,J 0] 113)));clear k hp I;go_enter func332,ntmps332;go_wp2_with (go_at_call 334;refine(pf H.o).mono ?_;rintro e w' ⟨rfl,rfl⟩);exact bodyPost_ret (results_cell_row ahI _ _ w.heap.size 113 _ (0,0) _ ahI (heap_alloc_new w _) Tryz.underlying113 rfl ahH) rfl ⟨rfl,(Below.refl _ _).alloc (Nat.le_refl _) _⟩
def ia(h:Mal)(i:Nat)(u v:Int):Mal:=if (sv h.S i).pc=u then {h with S:=h.S.set i {sv h.S i with pc:=v}} else h
def MOk(w:World)(c:Mx)(bud:Int)(x:Mal×Bool)(e:Ending)(w':World):Prop:=e= returned (.bool x.2)/\MaT w w' c bud x.1
def zA(k:bM w c bud h)(i:Nat)(hi:i<c.b.n)(u v:Int):E 335 #[↑c.l,J i,J u,J v] w (MOk w c bud (ia h i u v,decide ((sv h.S i).pc=u))):=by
 have O:=rv k.sl hi;obtain⟨p,V⟩:=LE (sv h.S i);have HX:=qh (show ia h i u v=if p.pc=u then {h with S:=h.S.set i {p with pc:=v}} else h from by unfold ia;rw[V]);rw[<-V]at O ⊢;have c2:=k.cq;have a0:=ST (k.sp.cell O 0 _ rfl);have f0:=k.sp.free (i*4);have Y:=k.bn.bd.2;have t2:¬(i:Int)<0:=by omega
 have t3:¬((c.b.n:Nat):Int)<=(i:Int):=by omega
 have H:=qh (And.intro k O);clear k O V;cases hc:(p.pc !=u)
 .have e:p.pc=u:=by simpa using hc
  have I:=qh e;clear e;go_enter func335,ntmps335;go_wp2_with (go_at_call 334;refine(pf H.o.1).mono ?_;rintro e w' ⟨rfl,rfl⟩);go_ret;rw[HX.o,if_pos I.o];exact⟨aA (decide_eq_true I.o).symm,(MaT.new H.o.1).sput H.o.2 (j:=0) (v:= J v) (p':={p with pc:=v}) ahG rfl⟩
 .have e:¬p.pc=u:=by simpa using hc
  have I:=qh e;clear e;go_enter func335,ntmps335;go_wp2_with (go_at_call 334;refine(pf H.o.1).mono ?_;rintro e w' ⟨rfl,rfl⟩);go_ret;rw[HX.o,if_neg I.o];exact⟨aA (decide_eq_false I.o).symm,MaT.new H.o.1⟩
def IY(k:bM w c bud h)(i:Nat)(hi:i<c.b.n):E 330 #[↑c.l,J i] w (MOk w c bud (ia h i 0 1,decide ((sv h.S i).pc=0))):=by obtain⟨x,O⟩:=LE ((ia h i 0 1,decide ((sv h.S i).pc=0)));have I:=zA k i hi 0 1;rw[<-O]at I ⊢;have H:=qh I;obtain⟨V,Y⟩:=x;clear k O I;go_enter func330,ntmps330;exact aah
def Fk(k:bM w c bud h)(i:Nat)(hi:i<c.b.n):E 331 #[↑c.l,J i] w (MOk w c bud (ia h i 10 11,decide ((sv h.S i).pc=10))):=by obtain⟨x,O⟩:=LE ((ia h i 10 11,decide ((sv h.S i).pc=10)));have I:=zA k i hi 10 11;rw[<-O]at I ⊢;have H:=qh I;obtain⟨V,Y⟩:=x;clear k O I;go_enter func331,ntmps331;exact aah
end
end
section
open Go.RowKit
variable{i:Nat}{p:Sp}{Q:Prop}
section
variable{c:Mx}{h:Mal}
def fE(w:World)(c:Mx)(bud:Int)(h:Mal)(i:Nat)(p:Sp)(r:Ar×Bn×Int×Sp)(e:Ending)(w':World):Prop:=
 e= returned (J r.2.2.2.pc)/\MaT w w' c bud ⟨r.1,r.2.1,r.2.2.1,h.S.set i {r.2.2.2 with pc:=p.pc}⟩
def MaT.samS{H:Ar}{b':Bn}(k:MaT w0 w c bud ⟨H,b',d',h.S⟩)(I:h.S[i]? =some p):MaT w0 w c bud ⟨H,b',d',h.S.set i p⟩:=by rw[b9 I];exact k
def bM.cs(k:bM w c bud h)(H:h.S[i]? =some p):w.cell? c.l=some ↑c.b.a/\Z w c.l 1 (J 1)/\Z w c.l 2 (J bud)/\Z w c.l 4 (J h.d)/\Z w c.q (i*4+1) (J p.a)/\Z w c.q (i*4+2) (J p.b)/\Z w c.q (i*4+3) (J p.c):=⟨k.ca,k.ct,k.cb,k.cd,k.sp.cell H 1 _ rfl,k.sp.cell H 2 _ rfl,k.sp.cell H 3 _ rfl⟩
def maN(h_:Q:=by
    have e0:=ST (k.sp.cell hp 0 _ rfl)
    have HP:=qh hp
    have K1:=qh (MaT.new k).drew
    clear k hp
    first
      | go_enter func336,ntmps336
      | go_enter func337,ntmps337
      | go_enter func338,ntmps338
    go_wp2_with fail
    go_region_held3 (λW=>W.cell? c.l=some ↑c.b.a/\Z W c.l 1 (J 1)/\Z W c.l 2 (J bud)/\Z W c.l 4 (J h.d)/\Z W c.q (i*4+1) (J a)/\Z W c.q (i*4+2) (J b)/\Z W c.q (i*4+3) (J z))
      (first|(have q:=K1.o.is.cs HP.o;exact⟨q.1,q.2.1,q.2.2.1,q.2.2.2.1,q.2.2.2.2.1,q.2.2.2.2.2.1,q.2.2.2.2.2.2⟩)|(have q:=K2.o.is.cs HP.o;exact⟨q.1,q.2.1,q.2.2.1,q.2.2.2.1,q.2.2.2.2.1,q.2.2.2.2.2.1,q.2.2.2.2.2.2⟩))
      (first
        | (go_at_call 339;go_loud (refine LT (HF.o _ K1.o) ?_))
        | (go_at_call 340;go_loud (refine LT (HF.o _ K1.o) ?_))
        | (go_at_call 177;go_loud (refine Op (HO.o _ K1.o) λw3 a3=>?_);have K2:=qh (K1.o.op a3.o.2 a3.o.1))
        | (go_at_call 173;go_loud (refine Op (HO.o _ K1.o) λw3 a3=>?_);have K2:=qh (K1.o.op a3.o.2 a3.o.1))
        | (go_at_call 272;go_loud (refine Op (HO.o _ K1.o) λw3 a3=>?_);have K2:=qh (K1.o.op a3.o.2 a3.o.1)))
    have e3:=ST (K2.o.is.sp.cell HP.o 0 _ rfl)
    go_wp2
    go_ret
    rw[HX.o]
    exact⟨rfl,K2.o.samS HP.o⟩):Q:=h_
def maA(h_:Q:=by
    have e0:=ST (k.sp.cell hp 0 _ rfl)
    have HP:=qh hp
    have K1:=qh (MaT.new k).drew
    clear k hp
    first
      | go_enter func336,ntmps336
      | go_enter func337,ntmps337
      | go_enter func338,ntmps338
    go_wp2_with fail
    go_region_held3 (λW=>W.cell? c.l=some ↑c.b.a/\Z W c.l 1 (J 1)/\Z W c.l 2 (J bud)/\Z W c.l 4 (J h.d)/\Z W c.q (i*4+2) (J b)/\Z W c.q (i*4+3) (J z))
      (first|(have q:=K1.o.is.cs HP.o;exact⟨q.1,q.2.1,q.2.2.1,q.2.2.2.1,q.2.2.2.2.2.1,q.2.2.2.2.2.2⟩)|(have q:=K2.o.is.cs HP.o;exact⟨q.1,q.2.1,q.2.2.1,q.2.2.2.1,q.2.2.2.2.2.1,q.2.2.2.2.2.2⟩)|(have q:=K3.o.is.cs (Jp HP.o _);exact⟨q.1,q.2.1,q.2.2.1,q.2.2.2.1,q.2.2.2.2.2.1,q.2.2.2.2.2.2⟩))
      (first
        | (go_at_call 339;go_loud (refine LT (HF.o _ K1.o) ?_))
        | (go_at_call 340;go_loud (refine LT (HF.o _ K1.o) ?_))
        | (go_at_call 271;go_loud (refine Op (HO.o _ K1.o) λw3 a3=>?_);have K2:=qh (K1.o.op a3.o.2 a3.o.1);have K3:=qh (HJ.o _ _ K2.o);have e1:=K2.o.is.sp.cell HP.o 1 _ rfl;have z1:=K2.o.is.sp.free (i*4+1))
        | (go_at_call 173;go_loud (refine Op (HO.o _ K1.o) λw3 a3=>?_);have K2:=qh (K1.o.op a3.o.2 a3.o.1);have K3:=qh (HJ.o _ _ K2.o);have e1:=K2.o.is.sp.cell HP.o 1 _ rfl;have z1:=K2.o.is.sp.free (i*4+1))
        | (go_at_call 298;go_loud (refine Op (HO.o _ K1.o) λw3 a3=>?_);have K2:=qh (K1.o.op a3.o.2 a3.o.1);have K3:=qh (HJ.o _ _ K2.o);have e1:=K2.o.is.sp.cell HP.o 1 _ rfl;have z1:=K2.o.is.sp.free (i*4+1)))
    have e3:=ST (K3.o.is.sp.cell (Jp HP.o _) 0 _ rfl)
    go_wp2
    go_ret
    rw[HX.o]
    exact⟨rfl,K3.o⟩):Q:=h_
def maZ(h_:Q:=by
    have e0:=ST (k.sp.cell hp 0 _ rfl)
    have HP:=qh hp
    have K1:=qh (MaT.new k).drew
    clear k hp
    first
      | go_enter func336,ntmps336
      | go_enter func337,ntmps337
      | go_enter func338,ntmps338
    go_wp2_with fail
    go_region_held3 (λW=>W.cell? c.l=some ↑c.b.a/\Z W c.l 1 (J 1)/\Z W c.l 2 (J bud)/\Z W c.l 4 (J h.d)/\Z W c.q (i*4+1) (J a)/\Z W c.q (i*4+2) (J b))
      (first|(have q:=K1.o.is.cs HP.o;exact⟨q.1,q.2.1,q.2.2.1,q.2.2.2.1,q.2.2.2.2.1,q.2.2.2.2.2.1⟩)|(have q:=K2.o.is.cs HP.o;exact⟨q.1,q.2.1,q.2.2.1,q.2.2.2.1,q.2.2.2.2.1,q.2.2.2.2.2.1⟩)|(have q:=K3.o.is.cs (Jp HP.o _);exact⟨q.1,q.2.1,q.2.2.1,q.2.2.2.1,q.2.2.2.2.1,q.2.2.2.2.2.1⟩))
      (first
        | (go_at_call 339;go_loud (refine LT (HF.o _ K1.o) ?_))
        | (go_at_call 340;go_loud (refine LT (HF.o _ K1.o) ?_))
        | (go_at_call 271;go_loud (refine Op (HO.o _ K1.o) λw3 a3=>?_);have K2:=qh (K1.o.op a3.o.2 a3.o.1);have K3:=qh (HJ.o _ _ K2.o);have e1:=K2.o.is.sp.cell HP.o 3 _ rfl;have z1:=K2.o.is.sp.free (i*4+3))
        | (go_at_call 173;go_loud (refine Op (HO.o _ K1.o) λw3 a3=>?_);have K2:=qh (K1.o.op a3.o.2 a3.o.1);have K3:=qh (HJ.o _ _ K2.o);have e1:=K2.o.is.sp.cell HP.o 3 _ rfl;have z1:=K2.o.is.sp.free (i*4+3))
        | (go_at_call 298;go_loud (refine Op (HO.o _ K1.o) λw3 a3=>?_);have K2:=qh (K1.o.op a3.o.2 a3.o.1);have K3:=qh (HJ.o _ _ K2.o);have e1:=K2.o.is.sp.cell HP.o 3 _ rfl;have z1:=K2.o.is.sp.free (i*4+3)))
    have e3:=ST (K3.o.is.sp.cell (Jp HP.o _) 0 _ rfl)
    go_wp2
    go_ret
    rw[HX.o]
    exact⟨rfl,K3.o⟩):Q:=h_
def DF(k:bM w c bud h)(i:Nat)(hi:i<c.b.n)(a b z:Int)(hp:h.S[i]? =some (⟨1,a,b,z⟩:Sp))(Y:h.ar.ops+1<=1000000000000):E 336 #[↑c.l,pointer (some ⟨c.q,i*4,none⟩),J ((i:Int)+1)] w (fE w c bud h i (⟨1,a,b,z⟩:Sp) (maP c.b.n bud h i (⟨1,a,b,z⟩:Sp))):=by have H:=k.bn.bd.2;have HX:Kq (maP c.b.n bud h i (⟨1,a,b,z⟩:Sp)=(ae h.ar (1+2*((i:Int)+1)) 0,h.bn,h.d,(⟨2,a,b,z⟩:Sp))):=qh ah2;have HO:=λW (k:MaT w W c bud h)=>am k.is.bn.ar (1+2*((i:Int)+1)) 0 Y;replace HO:=qh HO;have HF:=qh (λW (k:MaT w W c bud h)=>iT k.is ((i:Int)+1) ahE);exact maN
def DG(k:bM w c bud h)(i:Nat)(hi:i<c.b.n)(a b z:Int)(hp:h.S[i]? =some (⟨2,a,b,z⟩:Sp))(Y:h.ar.ops+1<=1000000000000):E 336 #[↑c.l,pointer (some ⟨c.q,i*4,none⟩),J ((i:Int)+1)] w (fE w c bud h i (⟨2,a,b,z⟩:Sp) (maP c.b.n bud h i (⟨2,a,b,z⟩:Sp))):=by have H:=k.bn.bd.2;have HX:Kq (maP c.b.n bud h i (⟨2,a,b,z⟩:Sp)=(ae h.ar (2+2*((i:Int)+1)) 1,h.bn,h.d,(⟨3,a,b,z⟩:Sp))):=qh ah2;have HO:=λW (k:MaT w W c bud h)=>am k.is.bn.ar (2+2*((i:Int)+1)) 1 Y;replace HO:=qh HO;have HF:=qh (λW (k:MaT w W c bud h)=>qp k.is ((i:Int)+1) ahE);exact maN
def Bq(k:bM w c bud h)(i:Nat)(hi:i<c.b.n)(a b z:Int)(hp:h.S[i]? =some (⟨3,a,b,z⟩:Sp))(Y:h.ar.ops+1<=1000000000000)(H:(ldW h.ar.W 1==0)=true):E 336 #[↑c.l,pointer (some ⟨c.q,i*4,none⟩),J ((i:Int)+1)] w (fE w c bud h i (⟨3,a,b,z⟩:Sp) (maP c.b.n bud h i (⟨3,a,b,z⟩:Sp))):=by have I:=k.bn.bd.2;obtain⟨v,O⟩:=LE (ldW h.ar.W 1);have HX:Kq (maP c.b.n bud h i (⟨3,a,b,z⟩:Sp)=(ch h.ar (1) ((i:Int)+1),h.bn,h.d,(⟨10,v,b,z⟩:Sp))):=qh (by rw[O];simp[maP,fi,(by simpa using H:ldW h.ar.W 1=0)]);have HO:=λW (k:MaT w W c bud h)=>fu k.is.bn.ar (1) ((i:Int)+1) Y;rw[<-O]at HO H;replace HO:=qh HO;have HJ:=qh (λW ar' (k:MaT w W c bud {h with ar:=ar'})=>k.sput (p':=(⟨3,v,b,z⟩:Sp)) hp (j:=1) (v:= J v) ahG rfl);clear O;exact maA
def Bp(k:bM w c bud h)(i:Nat)(hi:i<c.b.n)(a b z:Int)(hp:h.S[i]? =some (⟨3,a,b,z⟩:Sp))(Y:h.ar.ops+1<=1000000000000)(H:(ldW h.ar.W 1==0)=false):E 336 #[↑c.l,pointer (some ⟨c.q,i*4,none⟩),J ((i:Int)+1)] w (fE w c bud h i (⟨3,a,b,z⟩:Sp) (maP c.b.n bud h i (⟨3,a,b,z⟩:Sp))):=by have I:=k.bn.bd.2;obtain⟨v,O⟩:=LE (ldW h.ar.W 1);have HX:Kq (maP c.b.n bud h i (⟨3,a,b,z⟩:Sp)=(ch h.ar (1) ((i:Int)+1),h.bn,h.d,(⟨4,v,b,z⟩:Sp))):=qh (by rw[O];simp[maP,fi,(by simpa using H:¬ldW h.ar.W 1=0)]);have HO:=λW (k:MaT w W c bud h)=>fu k.is.bn.ar (1) ((i:Int)+1) Y;rw[<-O]at HO H;replace HO:=qh HO;have HJ:=qh (λW ar' (k:MaT w W c bud {h with ar:=ar'})=>k.sput (p':=(⟨3,v,b,z⟩:Sp)) hp (j:=1) (v:= J v) ahG rfl);clear O;exact maA
def DH(k:bM w c bud h)(i:Nat)(hi:i<c.b.n)(a b z:Int)(hp:h.S[i]? =some (⟨4,a,b,z⟩:Sp))(Y:h.ar.ops+1<=1000000000000)(H:0<=a/\a<=c.b.n):E 336 #[↑c.l,pointer (some ⟨c.q,i*4,none⟩),J ((i:Int)+1)] w (fE w c bud h i (⟨4,a,b,z⟩:Sp) (maP c.b.n bud h i (⟨4,a,b,z⟩:Sp))):=by have I:=k.bn.bd.2;have HX:Kq (maP c.b.n bud h i (⟨4,a,b,z⟩:Sp)=(ae h.ar (1+2*a) ((i:Int)+1),h.bn,h.d,(⟨5,a,b,z⟩:Sp))):=qh ah2;have HO:=λW (k:MaT w W c bud h)=>am k.is.bn.ar (1+2*a) ((i:Int)+1) Y;replace HO:=qh HO;have HF:=qh (λW (k:MaT w W c bud h)=>iT k.is (a) ahE);exact maN
def Bs(k:bM w c bud h)(i:Nat)(hi:i<c.b.n)(a b z:Int)(hp:h.S[i]? =some (⟨5,a,b,z⟩:Sp))(Y:h.ar.ops+1<=1000000000000)(H:(ldW h.ar.W (2+2*((i:Int)+1))==0)=true):E 336 #[↑c.l,pointer (some ⟨c.q,i*4,none⟩),J ((i:Int)+1)] w (fE w c bud h i (⟨5,a,b,z⟩:Sp) (maP c.b.n bud h i (⟨5,a,b,z⟩:Sp))):=by have I:=k.bn.bd.2;obtain⟨v,O⟩:=LE (ldW h.ar.W (2+2*((i:Int)+1)));have HX:Kq (maP c.b.n bud h i (⟨5,a,b,z⟩:Sp)=(af h.ar (2+2*((i:Int)+1)),h.bn,h.d,(⟨10,a,b,z⟩:Sp))):=qh (by simp[maP,fi,(by simpa using H:ldW h.ar.W (2+2*((i:Int)+1))=0)]);have HO:=λW (k:MaT w W c bud h)=>aD k.is.bn.ar (2+2*((i:Int)+1)) Y;rw[<-O]at HO H;replace HO:=qh HO;have HF:=qh (λW (k:MaT w W c bud h)=>qp k.is ((i:Int)+1) ahE);clear O;exact maN
def Br(k:bM w c bud h)(i:Nat)(hi:i<c.b.n)(a b z:Int)(hp:h.S[i]? =some (⟨5,a,b,z⟩:Sp))(Y:h.ar.ops+1<=1000000000000)(H:(ldW h.ar.W (2+2*((i:Int)+1))==0)=false):E 336 #[↑c.l,pointer (some ⟨c.q,i*4,none⟩),J ((i:Int)+1)] w (fE w c bud h i (⟨5,a,b,z⟩:Sp) (maP c.b.n bud h i (⟨5,a,b,z⟩:Sp))):=by have I:=k.bn.bd.2;obtain⟨v,O⟩:=LE (ldW h.ar.W (2+2*((i:Int)+1)));have HX:Kq (maP c.b.n bud h i (⟨5,a,b,z⟩:Sp)=(af h.ar (2+2*((i:Int)+1)),h.bn,h.d,(⟨5,a,b,z⟩:Sp))):=qh (by simp[maP,fi,(by simpa using H:¬ldW h.ar.W (2+2*((i:Int)+1))=0)]);have HO:=λW (k:MaT w W c bud h)=>aD k.is.bn.ar (2+2*((i:Int)+1)) Y;rw[<-O]at HO H;replace HO:=qh HO;have HF:=qh (λW (k:MaT w W c bud h)=>qp k.is ((i:Int)+1) ahE);clear O;exact maN
end
end
section
open Go.RowKit
section
variable{c:Mx}{h:Mal}
def sM(k:bM w c bud h)(i:Nat)(hi:i<c.b.n)(a b z:Int)(hp:h.S[i]? =some (⟨11,a,b,z⟩:Sp))(Y:h.ar.ops+1<=1000000000000):E 337 #[↑c.l,pointer (some ⟨c.q,i*4,none⟩),J ((i:Int)+1)] w (fE w c bud h i (⟨11,a,b,z⟩:Sp) (maP c.b.n bud h i (⟨11,a,b,z⟩:Sp))):=by have H:=k.bn.bd.2;obtain⟨v,O⟩:=LE ((if inR h.ar.W 2 then IntKind.i64.wrap (ldW h.ar.W 2+1)else 0));have HX:Kq (maP c.b.n bud h i (⟨11,a,b,z⟩:Sp)=(addA h.ar (2) 1,h.bn,h.d,(⟨12,a,b,v⟩:Sp))):=qh (by simp[maP,fi,dw,O]);have HO:=λW (k:MaT w W c bud h)=>ii k.is.bn.ar (2) 1 Y;rw[<-O]at HO;replace HO:=qh HO;have HJ:=qh (λW ar' (k:MaT w W c bud {h with ar:=ar'})=>k.sput (p':=(⟨11,a,b,v⟩:Sp)) hp (j:=3) (v:= J v) ahG rfl);clear O;exact maZ
def qV(k:bM w c bud h)(i:Nat)(hi:i<c.b.n)(a b z:Int)(hp:h.S[i]? =some (⟨12,a,b,z⟩:Sp))(Y:h.ar.ops+1<=1000000000000)(h0:(ldW h.ar.W (1+2*((i:Int)+1)) !=0)=true)(h1:(z.tmod (bud+1) !=0)=true):E 337 #[↑c.l,pointer (some ⟨c.q,i*4,none⟩),J ((i:Int)+1)] w (fE w c bud h i (⟨12,a,b,z⟩:Sp) (maP c.b.n bud h i (⟨12,a,b,z⟩:Sp))):=by
  refine ajd ?_;intro hn e0 Jt JY x5 x6 HN ar' hv v O;have HX:Kq (maP c.b.n bud h i (⟨12,a,b,z⟩:Sp)=(ar',h.bn,h.d,(⟨21,v,b,z⟩:Sp))):=qh (by simp[maP,fi,dw,hv,O,(by simpa using h0:¬ldW h.ar.W (1+2*((i:Int)+1))=0),(by simpa using h1:¬z.tmod (bud+1)=0)]);have hr:=λW (k:MaT w W c bud h)=>aD k.is.bn.ar (1+2*((i:Int)+1)) Y;rw[<-hv,<-O]at hr;rw[<-O]at h0;refine ajf ?_;intro HO HF HC HP K1;clear hr k hp hv O;go_enter func337,ntmps337;go_wp2_with fail
  go_region_held3 (λW=>W.cell? c.l=some ↑c.b.a)
    (first|with_reducible exact HC.o _ _ _ K1.o HP.o|with_reducible exact HC.o _ _ _ H.o HP.o|with_reducible exact Kk.o)
    (first
      | (go_at_call 339;go_loud (refine LT (HF.o _ K1.o) ?_))
      | (go_at_call 173;go_loud (refine Op (HO.o _ K1.o) λw3 V=>?_);have H:=qh (K1.o.op V.o.2 V.o.1);have I:=qh (H.o.sput (p':=(⟨12,v,b,z⟩:Sp)) HP.o (j:=1) (v:= J v) ahG rfl);have Kk:=qh (HC.o _ _ v I.o (Jp HP.o _));have e1:=H.o.is.sp.cell HP.o 1 _ rfl;have z1:=H.o.is.sp.free (i*4+1)))
  have e4:=I.o.is.sp.cell (Jp HP.o _) 3 _ rfl;have e5:=I.o.is.cb;go_wp2;go_quiet (fail);go_wp2;go_ret;rw[HX.o];exact⟨rfl,I.o.below (Qt.below ⟨_,rfl⟩ _)⟩
def qU(k:bM w c bud h)(i:Nat)(hi:i<c.b.n)(a b z:Int)(hp:h.S[i]? =some (⟨12,a,b,z⟩:Sp))(Y:h.ar.ops+1<=1000000000000)(h0:(ldW h.ar.W (1+2*((i:Int)+1)) !=0)=true)(h1:(z.tmod (bud+1) !=0)=false):E 337 #[↑c.l,pointer (some ⟨c.q,i*4,none⟩),J ((i:Int)+1)] w (fE w c bud h i (⟨12,a,b,z⟩:Sp) (maP c.b.n bud h i (⟨12,a,b,z⟩:Sp))):=by
  refine ajd ?_;intro hn e0 Jt JY x5 x6 HN ar' hv v O;have HX:Kq (maP c.b.n bud h i (⟨12,a,b,z⟩:Sp)=(ar',bnB c.b.n h.bn 5 1,h.d,(⟨13,v,b,z⟩:Sp))):=qh (by simp[maP,fi,dw,hv,O,(by simpa using h1:z.tmod (bud+1)=0)]);have hr:=λW (k:MaT w W c bud h)=>aD k.is.bn.ar (1+2*((i:Int)+1)) Y;rw[<-hv,<-O]at hr;rw[<-O]at h0;refine ajf ?_;intro HO HF HC HP K1;clear hr k hp hv O;go_enter func337,ntmps337;go_wp2_with fail
  go_region_held3 (λW=>W.cell? c.l=some ↑c.b.a)
    (first|with_reducible exact HC.o _ _ _ K1.o HP.o|with_reducible exact HC.o _ _ _ I.o HP.o|with_reducible exact Kk.o)
    (first
      | (go_at_call 339;go_loud (refine LT (HF.o _ K1.o) ?_))
      | (go_at_call 173;go_loud (refine Op (HO.o _ K1.o) λw3 a3=>?_);have I:=qh (K1.o.op a3.o.2 a3.o.1);have H:=qh (I.o.sput (p':=(⟨12,v,b,z⟩:Sp)) HP.o (j:=1) (v:= J v) ahG rfl);have Kk:=qh (HC.o _ _ v H.o (Jp HP.o _));have e1:=I.o.is.sp.cell HP.o 1 _ rfl;have z1:=I.o.is.sp.free (i*4+1)))
  have e4:=H.o.is.sp.cell (Jp HP.o _) 3 _ rfl;have e5:=H.o.is.cb;go_wp2;go_quiet (fail);have Py:=qh (λm=>H.o.below (Qt.below ⟨m,rfl⟩ _));have e6:=H.o.is.ck;go_wp2_with fail;refine(ED (Py.o _).is.bn HN.o).mono ?_;rintro en w6 ⟨⟨vb,rfl⟩,V⟩;have K6:=qh ((Py.o _).bn V.tn V.is);clear V;go_wp2;go_ret;rw[HX.o];exact⟨rfl,K6.o⟩
def qW(k:bM w c bud h)(i:Nat)(hi:i<c.b.n)(a b z:Int)(hp:h.S[i]? =some (⟨12,a,b,z⟩:Sp))(Y:h.ar.ops+1<=1000000000000)(h0:(ldW h.ar.W (1+2*((i:Int)+1)) !=0)=false):E 337 #[↑c.l,pointer (some ⟨c.q,i*4,none⟩),J ((i:Int)+1)] w (fE w c bud h i (⟨12,a,b,z⟩:Sp) (maP c.b.n bud h i (⟨12,a,b,z⟩:Sp))):=by
  refine ajd ?_;intro hn e0 Jt JY x5 x6 HN ar' hv v O;have HX:Kq (maP c.b.n bud h i (⟨12,a,b,z⟩:Sp)=(ar',bnB c.b.n h.bn 5 1,h.d,(⟨13,v,b,z⟩:Sp))):=qh (by simp[maP,fi,dw,hv,O,(by simpa using h0:ldW h.ar.W (1+2*((i:Int)+1))=0)]);have hr:=λW (k:MaT w W c bud h)=>aD k.is.bn.ar (1+2*((i:Int)+1)) Y;rw[<-hv,<-O]at hr;rw[<-O]at h0;refine ajf ?_;intro HO HF HC HP K1;clear hr k hp hv O;go_enter func337,ntmps337;go_wp2_with fail
  go_region_held3 (λW=>W.cell? c.l=some ↑c.b.a)
    (first|with_reducible exact HC.o _ _ _ K1.o HP.o|with_reducible exact HC.o _ _ _ I.o HP.o|with_reducible exact Kk.o)
    (first
      | (go_at_call 339;go_loud (refine LT (HF.o _ K1.o) ?_))
      | (go_at_call 173;go_loud (refine Op (HO.o _ K1.o) λw3 a3=>?_);have I:=qh (K1.o.op a3.o.2 a3.o.1);have H:=qh (I.o.sput (p':=(⟨12,v,b,z⟩:Sp)) HP.o (j:=1) (v:= J v) ahG rfl);have Kk:=qh (HC.o _ _ v H.o (Jp HP.o _));have e1:=I.o.is.sp.cell HP.o 1 _ rfl;have z1:=I.o.is.sp.free (i*4+1)))
  have e4:=H.o.is.sp.cell (Jp HP.o _) 3 _ rfl;have e5:=H.o.is.cb;go_wp2;go_quiet (fail);have Py:=qh (λm=>H.o.below (Qt.below ⟨m,rfl⟩ _));have e6:=H.o.is.ck;go_wp2_with fail;refine(ED (Py.o _).is.bn HN.o).mono ?_;rintro en w6 ⟨⟨vb,rfl⟩,V⟩;have K6:=qh ((Py.o _).bn V.tn V.is);clear V;go_wp2;go_ret;rw[HX.o];exact⟨rfl,K6.o⟩
def sP(k:bM w c bud h)(i:Nat)(hi:i<c.b.n)(a b z:Int)(hp:h.S[i]? =some (⟨14,a,b,z⟩:Sp))(Y:h.ar.ops+1<=1000000000000)(I:0<=b/\b<=c.b.n):E 337 #[↑c.l,pointer (some ⟨c.q,i*4,none⟩),J ((i:Int)+1)] w (fE w c bud h i (⟨14,a,b,z⟩:Sp) (maP c.b.n bud h i (⟨14,a,b,z⟩:Sp))):=by have H:=k.bn.bd.2;have HX:Kq (maP c.b.n bud h i (⟨14,a,b,z⟩:Sp)=(ae h.ar (1+2*b) a,h.bn,h.d,(⟨18,a,b,z⟩:Sp))):=qh ah2;have HO:=λW (k:MaT w W c bud h)=>am k.is.bn.ar (1+2*b) a Y;replace HO:=qh HO;have HF:=qh (λW (k:MaT w W c bud h)=>iT k.is (b) ahE);exact maN
def sQ(k:bM w c bud h)(i:Nat)(hi:i<c.b.n)(a b z:Int)(hp:h.S[i]? =some (⟨15,a,b,z⟩:Sp))(Y:h.ar.ops+1<=1000000000000)(I:0<=b/\b<=c.b.n):E 337 #[↑c.l,pointer (some ⟨c.q,i*4,none⟩),J ((i:Int)+1)] w (fE w c bud h i (⟨15,a,b,z⟩:Sp) (maP c.b.n bud h i (⟨15,a,b,z⟩:Sp))):=by have H:=k.bn.bd.2;have HX:Kq (maP c.b.n bud h i (⟨15,a,b,z⟩:Sp)=(ae h.ar (1+2*b) 0,h.bn,h.d,(⟨16,a,b,z⟩:Sp))):=qh ah2;have HO:=λW (k:MaT w W c bud h)=>am k.is.bn.ar (1+2*b) 0 Y;replace HO:=qh HO;have HF:=qh (λW (k:MaT w W c bud h)=>iT k.is (b) ahE);exact maN
def sR(k:bM w c bud h)(i:Nat)(hi:i<c.b.n)(a b z:Int)(hp:h.S[i]? =some (⟨16,a,b,z⟩:Sp))(Y:h.ar.ops+1<=1000000000000):E 337 #[↑c.l,pointer (some ⟨c.q,i*4,none⟩),J ((i:Int)+1)] w (fE w c bud h i (⟨16,a,b,z⟩:Sp) (maP c.b.n bud h i (⟨16,a,b,z⟩:Sp))):=by have H:=k.bn.bd.2;obtain⟨v,O⟩:=LE (cG h.ar 1 ((i:Int)+1));have HX:Kq (maP c.b.n bud h i (⟨16,a,b,z⟩:Sp)=(dR h.ar (1) ((i:Int)+1) b,h.bn,h.d,(⟨if v then 18 else 17,a,b,z⟩:Sp))):=qh (by rw[O];simp[maP,fi,dw]);have HO:=λW (k:MaT w W c bud h)=>jb k.is.bn.ar (1) ((i:Int)+1) b Y;rw[<-O]at HO;replace HO:=qh HO;clear O;cases v<;>exact maN
def D9(k:MaT w0 w c bud h){i:Nat}{a b z:Int}(H:h.S[i]? =some (⟨13,a,b,z⟩:Sp)):E 343 #[↑c.l,pointer (some ⟨c.q,i*4,none⟩)] w λe w'=>e= returned (J (kF a h.bn.got))/\MaT w0 w' c bud {h with S:=h.S.set i (⟨13,a,h.bn.got,z⟩:Sp)}:=by
 have c3:=k.is.ck;have e1:=k.is.sp.cell H 1 _ rfl;have e2:=k.is.sp.cell H 2 _ rfl;have z2:=k.is.sp.free (i*4+2);have hk:=k.is.sp.lt;obtain⟨g,hg⟩:=LE h.bn.got;have I:=I5 k.is.bn;rw[<-hg]at I ⊢;have Y:=qh I;have K:=qh (k.sput (p':=(⟨13,a,g,z⟩:Sp)) H (j:=2) (v:= J g) ahG rfl);clear k H hg I;cases V:(g==0);all_goals cases a0:(a==0)
 all_goals
  have O:Kq (kF a g=if g==0 then(if a==0 then 19 else 21)else if a==0 then 15 else 14):=qh (by unfold kF;simp);go_enter func343,ntmps343;go_wp2_with fail;refine LT Y.o ?_;go_wp2;try go_quiet (fail)
  go_wp2;go_ret;first|exact⟨by rw[O.o];simp[V,a0],K.o⟩|exact⟨by rw[O.o];simp[V,a0],K.o.below (Qt.below ⟨_,rfl⟩ _)⟩
end
end
section
open Go.RowKit
section
variable{c:Mx}{h:Mal}
def qY(k:bM w c bud h)(i:Nat)(hi:i<c.b.n)(a b z:Int)(hp:h.S[i]? =some (⟨17,a,b,z⟩:Sp))(Y:h.ar.ops+1<=1000000000000)(h0:(ldW h.ar.W (1+2*((i:Int)+1))==0)=false):E 338 #[↑c.l,pointer (some ⟨c.q,i*4,none⟩),J ((i:Int)+1)] w (fE w c bud h i (⟨17,a,b,z⟩:Sp) (maP c.b.n bud h i (⟨17,a,b,z⟩:Sp))):=by have H:=k.bn.bd.2;obtain⟨v,O⟩:=LE (ldW h.ar.W (1+2*((i:Int)+1)));have HX:Kq (maP c.b.n bud h i (⟨17,a,b,z⟩:Sp)=(af h.ar (1+2*((i:Int)+1)),h.bn,h.d,(⟨14,v,b,z⟩:Sp))):=qh aiK;have HO:=λW (k:MaT w W c bud h)=>aD k.is.bn.ar (1+2*((i:Int)+1)) Y;rw[<-O]at HO h0;replace HO:=qh HO;refine aj7 ?_;intro HF HJ;clear O;exact maA
def qX(k:bM w c bud h)(i:Nat)(hi:i<c.b.n)(a b z:Int)(hp:h.S[i]? =some (⟨17,a,b,z⟩:Sp))(Y:h.ar.ops+1<=1000000000000)(h0:(ldW h.ar.W (1+2*((i:Int)+1))==0)=true):E 338 #[↑c.l,pointer (some ⟨c.q,i*4,none⟩),J ((i:Int)+1)] w (fE w c bud h i (⟨17,a,b,z⟩:Sp) (maP c.b.n bud h i (⟨17,a,b,z⟩:Sp))):=by have H:=k.bn.bd.2;obtain⟨v,O⟩:=LE (ldW h.ar.W (1+2*((i:Int)+1)));have HX:Kq (maP c.b.n bud h i (⟨17,a,b,z⟩:Sp)=(af h.ar (1+2*((i:Int)+1)),h.bn,h.d,(⟨17,v,b,z⟩:Sp))):=qh aiL;have HO:=λW (k:MaT w W c bud h)=>aD k.is.bn.ar (1+2*((i:Int)+1)) Y;rw[<-O]at HO h0;replace HO:=qh HO;refine aj7 ?_;intro HF HJ;clear O;exact maA
def q7(k:bM w c bud h)(i:Nat)(hi:i<c.b.n)(a b z:Int)(hp:h.S[i]? =some (⟨20,a,b,z⟩:Sp))(Y:h.ar.ops+1<=1000000000000)(h0:(ldW h.ar.W (1+2*((i:Int)+1))==0)=false):E 338 #[↑c.l,pointer (some ⟨c.q,i*4,none⟩),J ((i:Int)+1)] w (fE w c bud h i (⟨20,a,b,z⟩:Sp) (maP c.b.n bud h i (⟨20,a,b,z⟩:Sp))):=by have H:=k.bn.bd.2;obtain⟨v,O⟩:=LE (ldW h.ar.W (1+2*((i:Int)+1)));have HX:Kq (maP c.b.n bud h i (⟨20,a,b,z⟩:Sp)=(af h.ar (1+2*((i:Int)+1)),h.bn,h.d,(⟨21,v,b,z⟩:Sp))):=qh aiK;have HO:=λW (k:MaT w W c bud h)=>aD k.is.bn.ar (1+2*((i:Int)+1)) Y;rw[<-O]at HO h0;replace HO:=qh HO;refine aj8 ?_;intro HF HJ;clear O;exact maA
def qZ(k:bM w c bud h)(i:Nat)(hi:i<c.b.n)(a b z:Int)(hp:h.S[i]? =some (⟨20,a,b,z⟩:Sp))(Y:h.ar.ops+1<=1000000000000)(h0:(ldW h.ar.W (1+2*((i:Int)+1))==0)=true):E 338 #[↑c.l,pointer (some ⟨c.q,i*4,none⟩),J ((i:Int)+1)] w (fE w c bud h i (⟨20,a,b,z⟩:Sp) (maP c.b.n bud h i (⟨20,a,b,z⟩:Sp))):=by have H:=k.bn.bd.2;obtain⟨v,O⟩:=LE (ldW h.ar.W (1+2*((i:Int)+1)));have HX:Kq (maP c.b.n bud h i (⟨20,a,b,z⟩:Sp)=(af h.ar (1+2*((i:Int)+1)),h.bn,h.d,(⟨20,v,b,z⟩:Sp))):=qh aiL;have HO:=λW (k:MaT w W c bud h)=>aD k.is.bn.ar (1+2*((i:Int)+1)) Y;rw[<-O]at HO h0;replace HO:=qh HO;refine aj8 ?_;intro HF HJ;clear O;exact maA
def sS(k:bM w c bud h)(i:Nat)(hi:i<c.b.n)(a b z:Int)(hp:h.S[i]? =some (⟨18,a,b,z⟩:Sp))(Y:h.ar.ops+1<=1000000000000)(I:0<=b/\b<=c.b.n):E 338 #[↑c.l,pointer (some ⟨c.q,i*4,none⟩),J ((i:Int)+1)] w (fE w c bud h i (⟨18,a,b,z⟩:Sp) (maP c.b.n bud h i (⟨18,a,b,z⟩:Sp))):=by have H:=k.bn.bd.2;have HX:Kq (maP c.b.n bud h i (⟨18,a,b,z⟩:Sp)=(ae h.ar (2+2*b) 0,h.bn,h.d,(⟨0,a,b,z⟩:Sp))):=qh ah2;have HO:=λW (k:MaT w W c bud h)=>am k.is.bn.ar (2+2*b) 0 Y;replace HO:=qh HO;have HF:=qh (λW (k:MaT w W c bud h)=>qp k.is (b) ahE);exact maN
def sW(k:bM w c bud h)(i:Nat)(hi:i<c.b.n)(a b z:Int)(hp:h.S[i]? =some (⟨24,a,b,z⟩:Sp))(Y:h.ar.ops+1<=1000000000000)(H:0<=a/\a<=c.b.n):E 338 #[↑c.l,pointer (some ⟨c.q,i*4,none⟩),J ((i:Int)+1)] w (fE w c bud h i (⟨24,a,b,z⟩:Sp) (maP c.b.n bud h i (⟨24,a,b,z⟩:Sp))):=by have I:=k.bn.bd.2;have HX:Kq (maP c.b.n bud h i (⟨24,a,b,z⟩:Sp)=(ae h.ar (2+2*a) 0,h.bn,h.d,(⟨0,a,b,z⟩:Sp))):=qh ah2;have HO:=λW (k:MaT w W c bud h)=>am k.is.bn.ar (2+2*a) 0 Y;replace HO:=qh HO;have HF:=qh (λW (k:MaT w W c bud h)=>qp k.is (a) ahE);exact maN
def sV(k:bM w c bud h)(i:Nat)(hi:i<c.b.n)(a b z:Int)(hp:h.S[i]? =some (⟨23,a,b,z⟩:Sp))(Y:h.ar.ops+1<=1000000000000)(H:0<=h.d/\h.d<=c.b.n):E 338 #[↑c.l,pointer (some ⟨c.q,i*4,none⟩),J ((i:Int)+1)] w (fE w c bud h i (⟨23,a,b,z⟩:Sp) (maP c.b.n bud h i (⟨23,a,b,z⟩:Sp))):=by have I:=k.bn.bd.2;have HX:Kq (maP c.b.n bud h i (⟨23,a,b,z⟩:Sp)=(ae h.ar (2+2*h.d) 0,h.bn,h.d,(⟨0,a,b,z⟩:Sp))):=qh ah2;have HO:=λW (k:MaT w W c bud h)=>am k.is.bn.ar (2+2*h.d) 0 Y;replace HO:=qh HO;have HF:=qh (λW (k:MaT w W c bud h)=>qp k.is (h.d) ahE);exact maN
def sT(k:bM w c bud h)(i:Nat)(hi:i<c.b.n)(a b z:Int)(hp:h.S[i]? =some (⟨19,a,b,z⟩:Sp))(Y:h.ar.ops+1<=1000000000000):E 338 #[↑c.l,pointer (some ⟨c.q,i*4,none⟩),J ((i:Int)+1)] w (fE w c bud h i (⟨19,a,b,z⟩:Sp) (maP c.b.n bud h i (⟨19,a,b,z⟩:Sp))):=by have H:=k.bn.bd.2;obtain⟨v,O⟩:=LE (cG h.ar 1 ((i:Int)+1));have HX:Kq (maP c.b.n bud h i (⟨19,a,b,z⟩:Sp)=(dR h.ar (1) ((i:Int)+1) 0,h.bn,h.d,(⟨if v then 0 else 20,a,b,z⟩:Sp))):=qh (by rw[O];simp[maP,fi,dw]);have HO:=λW (k:MaT w W c bud h)=>jb k.is.bn.ar (1) ((i:Int)+1) 0 Y;rw[<-O]at HO;replace HO:=qh HO;clear O;cases v<;>exact maN
def ra(k:bM w c bud h)(i:Nat)(hi:i<c.b.n)(a b z:Int)(hp:h.S[i]? =some (⟨21,a,b,z⟩:Sp))(Y:h.ar.ops+1<=1000000000000)(ha:0<=a/\a<=c.b.n)(h0:(ldW h.ar.W (1+2*a)==0)=true):E 338 #[↑c.l,pointer (some ⟨c.q,i*4,none⟩),J ((i:Int)+1)] w (fE w c bud h i (⟨21,a,b,z⟩:Sp) (maP c.b.n bud h i (⟨21,a,b,z⟩:Sp))):=by
  have hn:=k.bn.bd.2;have e0:=ST (k.sp.cell hp 0 _ rfl);obtain⟨ab,V⟩:=LE (af h.ar (1+2*a));obtain⟨v,O⟩:=LE (ldW h.ar.W (1+2*a));have HX:Kq (maP c.b.n bud h i (⟨21,a,b,z⟩:Sp)=(ab,h.bn,0,(⟨24,a,b,z⟩:Sp))):=qh (by simp[maP,fi,dw,V,(by simpa using h0:ldW h.ar.W (1+2*a)=0)]);have hr:=λW (k:MaT w W c bud h)=>aD k.is.bn.ar (1+2*a) Y;rw[<-V,<-O]at hr;rw[<-O]at h0;refine ajx ?_;intro HZ HA HO HF HC HP K1;clear hr k hp V O;go_enter func338,ntmps338;go_wp2_with fail
  go_region_held3 (λW=>W.cell? c.l=some ↑c.b.a/\Z W c.q (i*4+1) (J a))
    (first|with_reducible exact HC.o _ _ K1.o HP.o|with_reducible exact HC.o _ _ H.o HP.o|with_reducible exact Kk.o)
    (first
      | (go_at_call 339;go_loud (refine LT (HF.o _ K1.o) ?_))
      | (go_at_call 173;go_loud (refine Op (HO.o _ K1.o) λw3 a3=>?_);have H:=qh (K1.o.op a3.o.2 a3.o.1);have I:=qh (H.o.dput v);have Kk:=qh (HC.o _ _ I.o HP.o);have e1:=H.o.is.cd;have z1:=H.o.is.lk.free 4))
  go_wp2;go_ret;rw[HX.o];have hz:v=0:=by simpa using HZ.o
  have K4:=I.o;rw[hz]at K4;exact⟨rfl,hz ▸ I.o.samS HP.o⟩
def q8(k:bM w c bud h)(i:Nat)(hi:i<c.b.n)(a b z:Int)(hp:h.S[i]? =some (⟨21,a,b,z⟩:Sp))(Y:h.ar.ops+1<=1000000000000)(ha:0<=a/\a<=c.b.n)(h0:(ldW h.ar.W (1+2*a)==0)=false):E 338 #[↑c.l,pointer (some ⟨c.q,i*4,none⟩),J ((i:Int)+1)] w (fE w c bud h i (⟨21,a,b,z⟩:Sp) (maP c.b.n bud h i (⟨21,a,b,z⟩:Sp))):=by
  have hn:=k.bn.bd.2;have e0:=ST (k.sp.cell hp 0 _ rfl);obtain⟨H,hv⟩:=LE (af h.ar (1+2*a));obtain⟨v,O⟩:=LE (ldW h.ar.W (1+2*a));have HX:Kq (maP c.b.n bud h i (⟨21,a,b,z⟩:Sp)=(H,bnB c.b.n h.bn 1 a,v,(⟨22,a,b,z⟩:Sp))):=qh (by rw[O];simp[maP,fi,dw,hv,(by simpa using h0:¬ldW h.ar.W (1+2*a)=0)]);have hr:=λW (k:MaT w W c bud h)=>aD k.is.bn.ar (1+2*a) Y;rw[<-hv,<-O]at hr;rw[<-O]at h0;refine ajx ?_;intro HZ HA HO HF HC HP K1;clear hr k hp hv O;go_enter func338,ntmps338;go_wp2_with fail
  go_region_held3 (λW=>W.cell? c.l=some ↑c.b.a/\Z W c.q (i*4+1) (J a))
    (first|with_reducible exact HC.o _ _ K1.o HP.o|with_reducible exact HC.o _ _ I.o HP.o|with_reducible exact Kk.o)
    (first
      | (go_at_call 339;go_loud (refine LT (HF.o _ K1.o) ?_))
      | (go_at_call 173;go_loud (refine Op (HO.o _ K1.o) λw3 a3=>?_);have I:=qh (K1.o.op a3.o.2 a3.o.1);have V:=qh (I.o.dput v);have Kk:=qh (HC.o _ _ V.o HP.o);have e1:=I.o.is.cd;have z1:=I.o.is.lk.free 4))
  have e5:=V.o.is.ck;have e6:=V.o.is.sp.cell HP.o 1 _ rfl;go_wp2_with fail;have QT:=qh V.o.drew;have WT:=qh (λW (k:MaT w W c bud {h with ar:=H,d:=v})=>Jd k.is.bn a HA.o)
  go_region_held3 (λW=>Z W c.l 3 ↑c.b.k/\Z W c.q (i*4+1) (J a))
    (first|with_reducible exact⟨QT.o.is.ck,QT.o.is.sp.cell HP.o 1 _ rfl⟩|with_reducible exact⟨K6.o.is.ck,K6.o.is.sp.cell HP.o 1 _ rfl⟩)
    (first
      | (go_at_call 344;go_loud (refine(WT.o _ QT.o).mono ?_);rintro en w6 ⟨⟨vb,rfl⟩,k6⟩;have K6:=qh (QT.o.bn k6.tn k6.is);clear k6))
  go_wp2;go_ret;rw[HX.o];exact⟨rfl,K6.o.samS HP.o⟩
def sN(k:bM w c bud h)(i:Nat)(hi:i<c.b.n)(a b z:Int)(hp:h.S[i]? =some (⟨13,a,b,z⟩:Sp))(Y:h.ar.ops+1<=1000000000000)(hw:CC c.b.n c.b.F h.ar.W)(hF:(c.b.F:Int)=maF c.b.n):E 337 #[↑c.l,pointer (some ⟨c.q,i*4,none⟩),J ((i:Int)+1)] w (fE w c bud h i (⟨13,a,b,z⟩:Sp) (maP c.b.n bud h i (⟨13,a,b,z⟩:Sp))):=by
  have e0:=ST (k.sp.cell hp 0 _ rfl);have e3:=k.ck;have O:=Ez k.bn hw Y;obtain⟨r,V⟩:=LE (bnS c.b.F h.ar h.bn);obtain⟨r1,I,r3⟩:=r;rw[<-V]at O;have HS:=qh O;have HR:=qh V;have HF:=qh hF;have K:=qh (And.intro (MaT.new k) hp);clear k hp hw O V hF;cases r3;. have HX:Kq (maP c.b.n bud h i (⟨13,a,b,z⟩:Sp)=(r1,I,h.d,(⟨13,a,b,z⟩:Sp))):=qh aig;go_enter func337,ntmps337;go_wp2_with fail;refine Op HS.o λw1 H=>?_;have K1:=qh ((K.o.1.bn H.o.tn H.o.is).samS K.o.2);go_wp2;go_ret;rw[HX.o];exact⟨rfl,K1.o⟩
  . have HX:Kq (maP c.b.n bud h i (⟨13,a,b,z⟩:Sp)=(r1,I,h.d,⟨kF a I.got,a,I.got,z⟩)):=qh aig;go_enter func337,ntmps337;go_wp2_with fail;refine Op HS.o λw1 H=>?_;have K1:=qh (K.o.1.bn H.o.tn H.o.is);go_wp2_with fail;refine Op (D9 K1.o K.o.2) λw2 K2=>?_;go_wp2;go_ret;rw[HX.o];exact⟨rfl,K2.o⟩
def sU(k:bM w c bud h)(i:Nat)(hi:i<c.b.n)(a b z:Int)(hp:h.S[i]? =some (⟨22,a,b,z⟩:Sp))(Y:h.ar.ops+1<=1000000000000)(hw:CC c.b.n c.b.F h.ar.W)(hF:(c.b.F:Int)=maF c.b.n):E 338 #[↑c.l,pointer (some ⟨c.q,i*4,none⟩),J ((i:Int)+1)] w (fE w c bud h i (⟨22,a,b,z⟩:Sp) (maP c.b.n bud h i (⟨22,a,b,z⟩:Sp))):=by
  have e0:=ST (k.sp.cell hp 0 _ rfl);have e3:=k.ck;have I:=Ez k.bn hw Y;obtain⟨r,V⟩:=LE (bnS c.b.F h.ar h.bn);obtain⟨r1,r2,r3⟩:=r;rw[<-V]at I;have HS:=qh I;have HR:=qh V;have HF:=qh hF;have K:=qh (And.intro (MaT.new k) hp);clear k hp hw I V hF;cases r3;. have HX:Kq (maP c.b.n bud h i (⟨22,a,b,z⟩:Sp)=(r1,r2,h.d,(⟨22,a,b,z⟩:Sp))):=qh aig;go_enter func338,ntmps338;go_wp2_with fail;refine Op HS.o λw1 H=>?_;have O:=qh ((K.o.1.bn H.o.tn H.o.is).samS K.o.2);go_wp2;go_ret;rw[HX.o];exact⟨rfl,O.o⟩
  . have HX:Kq (maP c.b.n bud h i (⟨22,a,b,z⟩:Sp)=(r1,r2,h.d,(⟨23,a,b,z⟩:Sp))):=qh aig;go_enter func338,ntmps338;go_wp2_with fail;refine Op HS.o λw1 H=>?_;have O:=qh ((K.o.1.bn H.o.tn H.o.is).samS K.o.2);go_wp2;go_ret;rw[HX.o];exact⟨rfl,O.o⟩
end
end
section
open Go.RowKit
section
variable{c:Mx}{h:Mal}
def MaS.vals{n:Nat}{h:Mal}(k:MaS n h){i:Nat}(hi:i<n):((0<=(sv h.S i).a/\(sv h.S i).a<=n)/\(0<=(sv h.S i).b/\(sv h.S i).b<=n))/\(0<=h.d/\h.d<=n)/\(∀F:Nat,(F:Int)=maF n->CC n F h.ar.W)/\((0<=(sv h.S i).pc/\(sv h.S i).pc<=5)\/(10<=(sv h.S i).pc/\(sv h.S i).pc<=24)):=
 ⟨k.i.sp i hi,k.i.vd,λF H y I=>k.i.vw y (by unfold maF at H;omega),k.i.pcs i hi⟩
def I6(k:bM w c bud h)(ho:MaS c.b.n h)(V:(c.b.F:Int)=maF c.b.n)(Y:h.ar.ops+1<=1000000000000){i:Nat}(hi:i<c.b.n){p:Sp}(H:h.S[i]? =some p)(h0:¬(p.pc=0\/p.pc=10)):Calls prog (if p.pc<10 then 336 else if p.pc<17 then 337 else 338) #[↑c.l,pointer (some ⟨c.q,i*4,none⟩),J ((i:Int)+1)] w (fE w c bud h i p (maP c.b.n bud h i p)):=by
  obtain⟨O,hd,hw,hc⟩:=ho.vals hi;have I:=rv k.sl hi;rw[H]at I;injection I with I;rw[<-I]at O hc;have La:=hw _ V;clear I hw ho;obtain⟨pc,a,b,z⟩:=p;simp only at O hc h0 ⊢;have:pc=1\/pc=2\/pc=3\/pc=4\/pc=5\/pc=11\/pc=12\/pc=13\/pc=14\/pc=15\/pc=16\/pc=17\/pc=18\/pc=19\/pc=20\/pc=21\/pc=22\/pc=23\/pc=24:=by omega
  rcases this with rfl|rfl|rfl|rfl|rfl|rfl|rfl|rfl|rfl|rfl|rfl|rfl|rfl|rfl|rfl|rfl|rfl|rfl|rfl
  . exact DF k i hi a b z H Y
  . exact DG k i hi a b z H Y
  . by_cases e:(ldW h.ar.W 1==0)=true;. exact Bq k i hi a b z H Y e
    . exact Bp k i hi a b z H Y ahT
  . exact DH k i hi a b z H Y O.1
  . by_cases e:(ldW h.ar.W (2+2*((i:Int)+1))==0)=true;. exact Bs k i hi a b z H Y e
    . exact Br k i hi a b z H Y ahT
  . exact sM k i hi a b z H Y
  . by_cases e:(ldW h.ar.W (1+2*((i:Int)+1)) !=0)=true
    . by_cases e2:(z.tmod (bud+1) !=0)=true;. exact qV k i hi a b z H Y e e2
      . exact qU k i hi a b z H Y e (by simpa using e2)
    . exact qW k i hi a b z H Y ahT
  . exact sN k i hi a b z H Y La V
  . exact sP k i hi a b z H Y O.2
  . exact sQ k i hi a b z H Y O.2
  . exact sR k i hi a b z H Y
  . by_cases e:(ldW h.ar.W (1+2*((i:Int)+1))==0)=false;. exact qY k i hi a b z H Y e
    . exact qX k i hi a b z H Y ahT
  . exact sS k i hi a b z H Y O.2
  . exact sT k i hi a b z H Y
  . by_cases e:(ldW h.ar.W (1+2*((i:Int)+1))==0)=false;. exact q7 k i hi a b z H Y e
    . exact qZ k i hi a b z H Y ahT
  . by_cases e:(ldW h.ar.W (1+2*a)==0)=true;. exact ra k i hi a b z H Y O.1 e
    . exact q8 k i hi a b z H Y O.1 ahT
  . exact sU k i hi a b z H Y La V
  . exact sV k i hi a b z H Y hd
  . exact sW k i hi a b z H Y O.1
def In(k:bM w c bud h)(ho:MaS c.b.n h)(hF:(c.b.F:Int)=maF c.b.n)(Y:h.ar.ops+1<=1000000000000)(i:Nat)(hi:i<c.b.n):E 333 #[↑c.l,J i] w (MOk w c bud (dO c.b.n bud h i)):=by
 have KE:=aM;have hn:=k.bn.bd.2;obtain⟨p,I⟩:=LE (sv h.S i);have hp:=rv k.sl hi;rw[<-I]at hp;have O:=Cb k i hi;rw[<-I]at O;unfold aF at O;have Ll:=qh O;have RA:=k.sp.lt;have HK:=qh (And.intro (MaT.new k) hp);by_cases h0:p.pc=0\/p.pc=10
 .have HX:=qh (show dO c.b.n bud h i=(h,false)from by unfold dO;rw[<-I,if_pos h0]);clear k ho I hp O;by_cases e0:p.pc=0;.have u0:(p.pc==0)=true:=(by simpa using e0);exact aaj
  .have u0:(p.pc==0)=false:=(by simpa using e0);have u10:(p.pc==10)=true:=(by simp;omega);exact aaj
 .have u0:(p.pc==0)=false:=by simp;omega
  have u10:(p.pc==10)=false:=by simp;omega
  have x7:IntKind.i64.wrap ((i:Int)+1)=(i:Int)+1:=IntWalk.i64_in _ ahE;have H:=λW (k:bM W c bud h)=>I6 k ho hF Y hi hp h0;obtain⟨r,V⟩:=LE (maP c.b.n bud h i p);have HX:=qh (show dO c.b.n bud h i=(⟨r.1,r.2.1,r.2.2.1,h.S.set i r.2.2.2⟩,decide (r.2.2.2.pc=0\/r.2.2.2.pc=10))from by unfold dO;rw[<-I,if_neg h0,<-V]);rw[<-V]at H;have Mt:p.pc<10\/(10<p.pc/\p.pc<17)\/17<=p.pc:=by omega
  clear k ho I hp O V h0;rcases Mt with e|e|e
  all_goals
   first|rw[if_pos e]at H|rw[if_neg ahE,if_pos e.2]at H|rw[if_neg ahE,if_neg ahE]at H
   have HM:=qh H;first|(have u1:decide (p.pc<10)=true:=decide_eq_true ahE)|(have u1:decide (p.pc<10)=false:=decide_eq_false ahE)
   first|(have u2:decide (p.pc<17)=true:=decide_eq_true ahE)|(have u2:decide (p.pc<17)=false:=decide_eq_false ahE)
   clear H e;go_enter func333,ntmps333;go_wp2_with fail;refine Op Ll.o λw1 b1=>?_;have K1:=qh ((HK.o.1.below b1.o).below ((Below.refl _ w1).alloc (Nat.le_refl _) (cells #[J 0,J 0,J 0,J 0] 113)));have c5:=(HK.o.1.below b1.o).is.cq;have Ko:=(HK.o.1.below b1.o).is.lk.lt;have Rz:=(HK.o.1.below b1.o).is.sp.lt;go_wp2_with fail;refine Op (HM.o _ K1.o.is) λw2 K2=>?_;have KM:(h.S.set i {r.2.2.2 with pc:=p.pc})[i]? =some {r.2.2.2 with pc:=p.pc}:=Jp HK.o.2 _;have d0:=ST (K2.o.is.sp.cell KM 0 _ rfl);have f0:=K2.o.is.sp.free (i*4);have hq:=K2.o.is.sp.lt;have K3:=K2.o.sput KM (j:=0) (v:= J r.2.2.2.pc) (p':=r.2.2.2) ahG rfl;simp only[Nat.add_zero,List.set_set]at K3;have H2:=qh (show MaT w _ c bud _ from⟨K3.is,K1.o.tn.trans K3.tn⟩);clear KM K3 c5;cases z0:(r.2.2.2.pc==0)
   .cases z1:(r.2.2.2.pc==10);.have HD:Kq (decide (r.2.2.2.pc=0\/r.2.2.2.pc=10)=false):=qh aih;exact aak
    .have HD:Kq (decide (r.2.2.2.pc=0\/r.2.2.2.pc=10)=true):=qh aii;exact aak
   .have HD:Kq (decide (r.2.2.2.pc=0\/r.2.2.2.pc=10)=true):=qh aij;exact aak
end
end
end Go.Proofs.YtglokdbiggbkjaaGreat
