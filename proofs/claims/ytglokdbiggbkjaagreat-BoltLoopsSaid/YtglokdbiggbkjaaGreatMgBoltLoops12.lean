/- Joined texts. -/
import Derived.Test.YtglokdbiggbkjaaGreatMgBoltLoops0
import Derived.Test.YtglokdbiggbkjaaGreatMgBoltLoops2
set_option linter.unusedVariables false
set_option linter.unusedSimpArgs false
set_option linter.defProp false
set_option maxRecDepth 100000
set_option maxHeartbeats 16000000
open Go.Proofs.Tryz
namespace Go.Proofs.YtglokdbiggbkjaaGreat
open Go.IntKind(i64)
open Go.Value(int bool slice agg tuple pointer)
open Go.Ending(returned)
open Go.Obj(cells)
section
open Go
structure Bn where
 step:Int
 x:Int
 n:Int
 got:Int
def bnS(F:Int)(s:Ar)(b:Bn):Ar×Bn×Bool:=
 if b.step=1 then(ae s (F+1+b.x) 0,{b with step:=2},false)
 else if b.step=2 then(af s (F+1),{b with n:=ldW s.W (F+1),step:=3},false)
 else if b.step=3 then(ae s (if b.n≠0 then F+1+b.n else F) b.x,{b with step:=4},false)
 else if b.step=4 then(ae s (F+1) b.x,{b with step:=0},true)
 else if b.step=5 then(af s F,if ldW s.W F=0 then⟨0,0,b.n,0⟩else {b with x:=ldW s.W F,step:=6},decide (ldW s.W F=0))
 else if b.step=6 then(af s (F+1+b.x),{b with n:=ldW s.W (F+1+b.x),step:=7},false)
 else if b.step=7 then(ae s F b.n,if b.n≠0 then {b with got:=b.x,step:=0} else {b with step:=8},decide (b.n≠0))
 else if b.step=8 then(ae s (F+1) 0,{b with got:=b.x,step:=0},true)
 else(s,b,false)
def bnB(n:Nat)(b:Bn)(st x:Int):Bn:=if b.step=0/\1<=x/\x<=n then {b with step:=st,x:=x} else b
structure Mal where
 ar:Ar
 bn:Bn
 d:Int
 S:List Sp
def maF(n:Nat):Int:=3+2*(n:Int)
def fo(s:Ar)(x:Int)(p:Sp):Ar×Sp:=
 if p.pc=1 then(ae s (1+2*x) 0,{p with pc:=2})
 else if p.pc=2 then(ae s (2+2*x) 1,{p with pc:=3})
 else if p.pc=3 then(cr s 1 x,{p with a:=ldW s.W 1,pc:=if ldW s.W 1=0 then 10 else 4})
 else if p.pc=4 then(ae s (1+2*p.a) x,{p with pc:=5})
 else(af s (2+2*x),{p with pc:=if ldW s.W (2+2*x)=0 then 10 else p.pc})
def kY(a b:Int):Int:=if b=0 then(if a=0 then 19 else 21)else if a=0 then 15 else 14
def dA(n:Nat)(bud:Int)(h:Mal)(x:Int)(p:Sp):Ar×Bn×Int×Sp:=
 let s:=h.ar
 if p.pc=11 then(addA s 2 1,h.bn,h.d,{p with c:=(if inR s.W 2 then IntKind.i64.wrap (ldW s.W 2+1)else 0),pc:=12})
 else if p.pc=12 then
  if ldW s.W (1+2*x)≠0/\p.c.tmod (bud+1)≠0 then(af s (1+2*x),h.bn,h.d,{p with a:=ldW s.W (1+2*x),pc:=21})
  else(af s (1+2*x),bnB n h.bn 5 1,h.d,{p with a:=ldW s.W (1+2*x),pc:=13})
 else if p.pc=13 then
  if (bnS (maF n) s h.bn).2.2 then((bnS (maF n) s h.bn).1,(bnS (maF n) s h.bn).2.1,h.d,{p with b:=(bnS (maF n) s h.bn).2.1.got,pc:=kY p.a (bnS (maF n) s h.bn).2.1.got})
  else((bnS (maF n) s h.bn).1,(bnS (maF n) s h.bn).2.1,h.d,p)
 else if p.pc=14 then(ae s (1+2*p.b) p.a,h.bn,h.d,{p with pc:=18})
 else if p.pc=15 then(ae s (1+2*p.b) 0,h.bn,h.d,{p with pc:=16})
 else if p.pc=16 then(dX s 1 x p.b,h.bn,h.d,{p with pc:=if cJ s 1 x then 18 else 17})
 else if p.pc=17 then(af s (1+2*x),h.bn,h.d,{p with a:=ldW s.W (1+2*x),pc:=if ldW s.W (1+2*x)=0 then 17 else 14})
 else if p.pc=18 then(ae s (2+2*p.b) 0,h.bn,h.d,{p with pc:=0})
 else if p.pc=19 then(dX s 1 x 0,h.bn,h.d,{p with pc:=if cJ s 1 x then 0 else 20})
 else if p.pc=20 then(af s (1+2*x),h.bn,h.d,{p with a:=ldW s.W (1+2*x),pc:=if ldW s.W (1+2*x)=0 then 20 else 21})
 else if p.pc=21 then
  if ldW s.W (1+2*p.a)=0 then(af s (1+2*p.a),h.bn,0,{p with pc:=24})
  else(af s (1+2*p.a),bnB n h.bn 1 p.a,ldW s.W (1+2*p.a),{p with pc:=22})
 else if p.pc=22 then((bnS (maF n) s h.bn).1,(bnS (maF n) s h.bn).2.1,h.d,{p with pc:=if (bnS (maF n) s h.bn).2.2 then 23 else 22})
 else if p.pc=23 then(ae s (2+2*h.d) 0,h.bn,h.d,{p with pc:=0})
 else if p.pc=24 then(ae s (2+2*p.a) 0,h.bn,h.d,{p with pc:=0})
 else(s,h.bn,h.d,p)
def maP(n:Nat)(bud:Int)(h:Mal)(i:Nat)(p:Sp):Ar×Bn×Int×Sp:=
 if p.pc<10 then((fo h.ar (i+1) p).1,h.bn,h.d,(fo h.ar (i+1) p).2)else dA n bud h (i+1) p
def dT(n:Nat)(bud:Int)(h:Mal)(i:Nat):Mal×Bool:=
 if (sv h.S i).pc=0\/(sv h.S i).pc=10 then(h,false)
 else let r:=maP n bud h i (sv h.S i);(⟨r.1,r.2.1,r.2.2.1,h.S.set i r.2.2.2⟩,decide (r.2.2.2.pc=0\/r.2.2.2.pc=10))
def km(f:Int->Int)(σ:Nat->Sp)(i:Nat):Prop:=10<=(σ i).pc\/(3<=(σ i).pc/\f (4+2*(i:Int))=0)
structure MaI(n:Nat)(f:Int->Int)(b:Bn)(d:Int)(σ:Nat->Sp):Prop where
 n1:1<=n
 one:∀i j,i<n->j<n->km f σ i->km f σ j->i=j
 tl:f 1=0->∀i,i<n->¬km f σ i
 vw:∀y,y≠2->0<=f y/\f y<=n
 vd:0<=d/\d<=n
 bx:0<=b.x/\b.x<=n
 vn:0<=b.n/\b.n<=n
 bg:0<=b.got/\b.got<=n
 bs:0<=b.step/\b.step<=8
 sp:∀i,i<n->(0<=(σ i).a/\(σ i).a<=n)/\(0<=(σ i).b/\(σ i).b<=n)
 pcs:∀i,i<n->(0<=(σ i).pc/\(σ i).pc<=5)\/(10<=(σ i).pc/\(σ i).pc<=24)
 a1:∀i,i<n->(σ i).pc=4\/(σ i).pc=21\/(σ i).pc=24\/(σ i).pc=22->1<=(σ i).a
 b1:∀i,i<n->14<=(σ i).pc/\(σ i).pc<=18->1<=(σ i).b
 d1:∀i,i<n->(σ i).pc=22\/(σ i).pc=23->1<=d
section
variable{n:Nat}{f f':Int->Int}{b b':Bn}{d d':Int}{σ σ':Nat->Sp}
theorem MaI.upd(h:MaI n f b d σ){i:Nat}{p:Sp}(hi:i<n)(hs:∀j,σ' j=if j=i then p else σ j)(ht:∀j,j<n->km f' σ' j->(j=i/\km f σ i)\/(j≠i/\km f σ j)\/(km f σ i/\¬km f' σ' i/\∀k,k<n->k≠i->km f' σ' k->k=j)\/(f 1=0/\j=i))(UK:f' 1=0->(f 1=0/\¬km f' σ' i)\/(km f σ i/\∀k,k<n->¬km f' σ' k))(hw:∀y,y≠2->0<=f' y/\f' y<=n)(hd:0<=d'/\d'<=n)(V:0<=b'.x/\b'.x<=n)(Y:0<=b'.n/\b'.n<=n)(TV:0<=b'.got/\b'.got<=n)(Q1:0<=b'.step/\b'.step<=8)(hp:(0<=p.a/\p.a<=n)/\(0<=p.b/\p.b<=n))(Ki:(0<=p.pc/\p.pc<=5)\/(10<=p.pc/\p.pc<=24))(ha:p.pc=4\/p.pc=21\/p.pc=24\/p.pc=22->1<=p.a)(hb:14<=p.pc/\p.pc<=18->1<=p.b)(hd1:p.pc=22\/p.pc=23->1<=d')(Sk:d'=d\/10<=(σ i).pc):MaI n f' b' d' σ':=by
  have Oz:σ' i=p:=by rw[hs,if_pos rfl]
  have O:∀j,j≠i->σ' j=σ j:=λj e=>by rw[hs,if_neg e]
  refine⟨h.n1,?_,?_,hw,hd,V,Y,TV,Q1,?_,?_,?_,?_,?_⟩;. intro j k H hk tj tk;have:=h.one;have:=h.tl;grind
  . intro e j H tj;have:=h.tl;have:=h.one;grind
  all_goals
    intro j H;have h1:=h.sp j H;have h2:=h.pcs j H;have h3:=h.a1 j H;have h4:=h.b1 j H;have h5:=h.d1 j H;by_cases e:j=i;. subst e;rw[Oz];grind
    . rw[O j e];have h6:=h.one i j hi H;grind [km]
structure MaS(n:Nat)(h:Mal):Prop where
 i:MaI n (ldW h.ar.W) h.bn h.d (sv h.S)
 len:h.S.length=n
 wl:h.ar.W.length=4+3*n
def Fe{W:List Int}{n:Nat}(wl:W.length=4+3*n)(x v:Int)(h1:1<=x)(h:x<=4+3*n)(y:Int):ldW (stW W x v) y=if y=x then v else ldW W y:=
 gC (aT.2 (by rw[wl];omega)) v y
def BnB(n:Nat)(b:Bn):Prop:=(0<=b.x/\b.x<=n)/\(0<=b.n/\b.n<=n)/\(0<=b.got/\b.got<=n)/\0<=b.step/\b.step<=8
theorem FK{s:Ar}(hb:BnB n b)(wl:s.W.length=4+3*n)(hw:∀y,y≠2->0<=ldW s.W y/\ldW s.W y<=n):(∀y,y≠2->0<=ldW (bnS (maF n) s b).1.W y/\ldW (bnS (maF n) s b).1.W y<=n)/\(∀y,y<maF n->ldW (bnS (maF n) s b).1.W y=ldW s.W y)/\BnB n (bnS (maF n) s b).2.1/\(bnS (maF n) s b).1.W.length=4+3*n:=by
  have H:=Fe wl;have w1:=hw (maF n) (by unfold maF;omega);have w2:=hw (maF n+1) (by unfold maF;omega);have w3:=hw (maF n+1+b.x) (by unfold maF BnB at *;omega);unfold bnS;repeat' split
  all_goals simp only[ay,aQ,bM]
  all_goals refine⟨λy h=>?_,λy h=>?_,?_,wl⟩
  all_goals grind [maF,BnB]
theorem MaS.go{h:Mal}(k:MaS n h)(bud:Int){i:Nat}(hi:i<n){p:Sp}(hp:p=sv h.S i)(h0:¬(p.pc=0\/p.pc=10)){r:Ar×Bn×Int×Sp}(I:r=maP n bud h i p):MaS n ⟨r.1,r.2.1,r.2.2.1,h.S.set i r.2.2.2⟩:=by
 have H:=k.i;have hs:∀q,sv (h.S.set i q)=λj=>if j=i then q else sv h.S j:=λq=>by funext j;rw[be];grind [k.len]
 have Kh:=Fe k.wl;have hB:BnB n h.bn:=⟨H.bx,H.vn,H.bg,H.bs⟩;have V:=FK hB k.wl H.vw;have h1:=H.sp i hi;have Y:=H.pcs i hi;have h3:=H.a1 i hi;have h4:=H.b1 i hi;have h5:=H.d1 i hi;have vw:=H.vw;have vd:=H.vd;have tl:=H.tl;have one:=H.one;have MI:∀y,cJ h.ar 1 y=decide (ldW h.ar.W 1=y):=λy=>by unfold cJ;rw[aT.2 (by rw[k.wl];omega)];rfl
 rw[<-hp]at h1 Y h3 h4 h5;obtain⟨x,O⟩:=LE (bnS (maF n) h.ar h.bn);rw[<-O]at V;obtain⟨KP,Nw,MU,Pd⟩:=V;obtain⟨pc,a,b,z⟩:=p;simp only at h1 Y h3 h4 h5 h0;have hc:pc=1\/pc=2\/pc=3\/pc=4\/pc=5\/pc=11\/pc=12\/pc=13\/pc=14\/pc=15\/pc=16\/pc=17\/pc=18\/pc=19\/pc=20\/pc=21\/pc=22\/pc=23\/pc=24:=by omega
 rcases hc with rfl|rfl|rfl|rfl|rfl|rfl|rfl|rfl|rfl|rfl|rfl|rfl|rfl|rfl|rfl|rfl|rfl|rfl|rfl
 all_goals simp[maP,fo,dA,<-O]at I;clear O;try split at I
 all_goals subst I;refine⟨?_,by simp[k.len],?_⟩
 all_goals simp only[ay,aQ,dP,d9,gW]
 all_goals try first|(simp only[bM,k.wl,Pd];done)|(split<;>simp only[bM,k.wl];done)
 all_goals refine H.upd hi (λj=>congrFun (hs _) j) ?_ ?_ ?_ ?_ ?_ ?_ ?_ ?_ ?_ ?_ ?_ ?_ ?_ ?_
 all_goals (first|omega|grind [maF,BnB,bnB,kY]|grind [km,maF])
def MaS.step{h:Mal}(k:MaS n h)(bud:Int){i:Nat}(hi:i<n):MaS n (dT n bud h i).1:=by
 unfold dT;split;.exact k
 .exact k.go bud hi rfl ahU rfl
theorem MaS.beg{h:Mal}(k:MaS n h){i:Nat}{u v:Int}(hc:(sv h.S i).pc=u)(H:(u=0/\v=1)\/(u=10/\v=11)):MaS n ⟨h.ar,h.bn,h.d,h.S.set i {sv h.S i with pc:=v}⟩:=by
 refine⟨?_,by simp[k.len],k.wl⟩;by_cases hi:i<n;.exact k.i.upd (p:={sv h.S i with pc:=v}) hi (λj=>by show sv (h.S.set i _) j=_;rw[be];grind [k.len]) (by have:=k.i.one;grind [km,be,k.len]) (by have:=k.i.tl;grind [km,be,k.len]) k.i.vw k.i.vd k.i.bx k.i.vn k.i.bg k.i.bs (k.i.sp i hi) (by grind) (by grind) (by grind) (by grind) (.inl rfl)
 .rw[List.set_eq_of_length_le (by rw[k.len];omega)];exact k.i
def MaS.one{h:Mal}(k:MaS n h){i j:Nat}(hi:i<n)(H:j<n)(h1:(sv h.S i).pc=10)(I:(sv h.S j).pc=10):i=j:=k.i.one i j hi H (.inl ahB) (.inl ahB)
end
end
end Go.Proofs.YtglokdbiggbkjaaGreat
