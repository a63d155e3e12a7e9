/- Joined texts. -/
import Derived.StillTailTactics
import Derived.IntWalk
import Derived.Deep.RegionHeld3
import Derived.ScopeJumps
import Derived.WalkMore
import Derived.Test.YtglokdbiggbkjaaGreatMgBoltLoops0
import Derived.Test.YtglokdbiggbkjaaGreatMgBoltLoops2
import Derived.Test.YtglokdbiggbkjaaGreatMgBoltLoops3
import Derived.Test.YtglokdbiggbkjaaGreatMgBoltLoops6
import Derived.Test.YtglokdbiggbkjaaGreatMgBoltLoops8
set_option linter.unusedVariables false
set_option linter.unusedSimpArgs false
set_option linter.defProp false
set_option maxRecDepth 100000
set_option maxHeartbeats 16000000
open Go.Proofs.Tryz
namespace Go.Proofs.YtglokdbiggbkjaaGreat
open Go.IntKind(i64)
open Go.Value(int bool slice agg tuple pointer)
open Go.Ending(returned)
open Go.Obj(cells)
variable{n i h cap:Nat}{w w':World}{nd:List Int}{v:Value}{bud:Int}{A R:List Nat}{Q:Exit->Act->World->Prop}
section
open Go
structure Wk where
 node:Int
 way:Bool
 passed:Int
 last:Int
 found:Int
structure Cn where
 ar:Ar
 wk:Wk
 S:List Sp
def dR(n:Nat)(node:Nat->Int)(w:Wk)(x:Int):Wk:=
 if ¬(1<=x/\x<=n)\/w.passed=n then {w with way:=false}
 else if node (x-1).toNat=w.node then {w with way:=false,found:=x}
 else {w with way:=true,last:=x,passed:=w.passed+1}
def gV(n:Nat)(node:Nat->Int)(w:Wk)(x v:Int):Wk:=dR n node {w with node:=v,passed:=0,last:=0,found:=0} x
def cN(x:Int):Int:=3*x
def cS(x:Int):Int:=3*x+1
def cL(x:Int):Int:=3*x+2
def inC(s:Ar)(x:Int)(p:Sp):Ar×Sp:=
 if p.pc=1 then(ae s (cN x) 0,{p with pc:=2})
 else if p.pc=2 then(ae s (cS x) 0,{p with pc:=3})
 else if p.pc=3 then(cr s 1 x,{p with a:=ldW s.W 1,pc:=if ldW s.W 1=0 then 6 else 4})
 else if p.pc=4 then(ae s (cN p.a) x,{p with pc:=5})
 else if p.pc=5 then(af s (cS x),{p with a:=ldW s.W (cS x),pc:=if ldW s.W (cS x)≠0 then 10 else 5})
 else(ae s (cS x) (-1),{p with pc:=10})
def jM(s:Ar)(x:Int)(p:Sp):Ar×Sp:=
 if p.pc=11 then(af s (cS x),{p with b:=ldW s.W (cS x),pc:=12})
 else if p.pc=12 then(af s (cN x),{p with a:=ldW s.W (cN x),pc:=if ldW s.W (cN x)≠0 then 17 else if 0<p.b then 14 else 13})
 else if p.pc=13 then(dX s 1 x 0,{p with pc:=if cJ s 1 x then 0 else 16})
 else if p.pc=14 then(af s (cL p.b),{p with c:=ldW s.W (cL p.b),pc:=15})
 else if p.pc=15 then(dX s 1 x p.c,{p with pc:=if cJ s 1 x then 28 else 16})
 else(af s (cN x),{p with a:=ldW s.W (cN x),pc:=if ldW s.W (cN x)≠0 then 17 else 16})
def eI(p:Sp):Sp:={p with pc:=if 0<p.b then 25 else 29}
def mD(n:Nat)(node:Nat->Int)(bud:Int)(s:Ar)(w:Wk)(i:Nat)(p:Sp):Ar×Wk×Sp:=
 if p.pc=18 then
  if w.way then
   (af s (cN w.last),dR n node w (ldW s.W (cN w.last)),
    if (dR n node w (ldW s.W (cN w.last))).way then {p with pc:=18} else if (dR n node w (ldW s.W (cN w.last))).found≠0 then {p with pc:=19} else eI p)
  else(s,w,{p with pc:=18})
 else if bud<=ldW s.W 2 then(af s 2,w,eI {p with c:=ldW s.W 2})
 else(af s 2,gV n node w p.a (node i),{p with c:=ldW s.W 2,pc:=if (gV n node w p.a (node i)).way then 18 else 23})
def eb(s:Ar)(w:Wk)(p:Sp):Ar×Sp:=
 if p.pc=19 then(ae s (cN w.last) 0,if 0<p.b then {p with pc:=20} else {p with b:=p.a,pc:=22})
 else if p.pc=20 then(af s (cL p.b),{p with c:=ldW s.W (cL p.b),pc:=21})
 else if p.pc=25 then(af s (cL p.b),{p with c:=ldW s.W (cL p.b),pc:=26})
 else if p.pc=21 then(ae s (cN p.c) p.a,{p with pc:=22})
 else if p.pc=26 then(ae s (cN p.c) p.a,{p with pc:=27})
 else if p.pc=22 then(ae s (cL p.b) w.last,{p with a:=w.found,pc:=23})
 else if p.pc=23 then(addA s 2 1,{p with pc:=24})
 else if p.pc=24 then(ae s (cS p.a) p.b,{p with pc:=0})
 else if p.pc=27 then(ae s 2 0,{p with pc:=28})
 else if p.pc=29 then(ae s 2 0,{p with pc:=30})
 else if p.pc=28 then(ae s (cS p.b) (-1),{p with pc:=0})
 else(ae s (cS p.a) (-1),{p with pc:=0})
def ah(n:Nat)(node:Nat->Int)(bud:Int)(h:Cn)(i:Nat)(p:Sp):Ar×Wk×Sp:=
 if p.pc<10 then((inC h.ar (i+1) p).1,h.wk,(inC h.ar (i+1) p).2)
 else if p.pc<=16 then((jM h.ar (i+1) p).1,h.wk,(jM h.ar (i+1) p).2)
 else if p.pc<=18 then mD n node bud h.ar h.wk i p
 else((eb h.ar h.wk p).1,h.wk,(eb h.ar h.wk p).2)
def fK(n:Nat)(node:Nat->Int)(bud:Int)(h:Cn)(i:Int):Cn×Bool:=
 if okI h.S i/\(getS h.S i).pc≠0/\(getS h.S i).pc≠10 then
  (⟨(ah n node bud h i.toNat (getS h.S i)).1,(ah n node bud h i.toNat (getS h.S i)).2.1,h.S.set i.toNat (ah n node bud h i.toNat (getS h.S i)).2.2⟩,
   decide ((ah n node bud h i.toNat (getS h.S i)).2.2.pc=0\/(ah n node bud h i.toNat (getS h.S i)).2.2.pc=10))
 else(h,false)
def bS(h:Cn)(i KK Kn:Int):Cn×Bool:=
 if okI h.S i/\(getS h.S i).pc=KK then(⟨h.ar,h.wk,h.S.set i.toNat {getS h.S i with pc:=Kn}⟩,true)else(h,false)
def num(t:Nat):Int:=(t:Int)+1
section
variable{W:List Int}{t:Nat}
end
section
variable{P:Nat->Nat->Prop}{l m:List Nat}
end
end
section
open Go.RowKit
def wkC(K7:Value)(n1 n:Nat)(x:Wk):Array Value:=#[K7,slice (some ⟨n1,0,none⟩) n n,J x.node,.bool x.way,J x.passed,J x.last,J x.found]
structure cW(w:World)(k n1:Nat)(K7:Value)(nd:List Int)(x:Wk):Prop where
 blk:Blk w k 324 (wkC K7 n1 nd.length x)
 row:Blk w n1 3 (nd.map (Value.int .i64)).toArray
 ne:k≠n1
 n32:nd.length<=32
def ndf(nd:List Int)(t:Nat):Int:=nd.getD t 0
section
variable{k n1:Nat}{K7:Value}{x:Wk}
def cW.c0(h:cW w k n1 K7 nd x):w.cell? k=some K7:=h.blk.cell 0
def cW.c1(h:cW w k n1 K7 nd x):Z w k 1 (slice (some ⟨n1,0,none⟩) nd.length nd.length):=h.blk.cell 1
def cW.c2(h:cW w k n1 K7 nd x):Z w k 2 (J x.node):=h.blk.cell 2
def cW.c3(h:cW w k n1 K7 nd x):Z w k 3 (.bool x.way):=h.blk.cell 3
def cW.c4(h:cW w k n1 K7 nd x):Z w k 4 (J x.passed):=h.blk.cell 4
def cW.c5(h:cW w k n1 K7 nd x):Z w k 5 (J x.last):=h.blk.cell 5
def cW.c6(h:cW w k n1 K7 nd x):Z w k 6 (J x.found):=h.blk.cell 6
def cW.nat(h:cW w k n1 K7 nd x){m:Nat}(hm:m<nd.length):Z w n1 m (J (ndf nd m)):=by rw[h.row.cell m];unfold ndf;simp[List.getD_eq_getElem?_getD,List.getElem?_eq_getElem hm]
def cW.turns{S:List Nat}(h:cW w k n1 K7 nd x)(t:aa S w w')(h1:k∉S)(H:n1∉S):cW w' k n1 K7 nd x:=⟨t.blk h.blk h1,t.blk h.row H,h.ne,h.n32⟩
def cW.below(h:cW w k n1 K7 nd x)(t:Below w.heap.size w w'):cW w' k n1 K7 nd x:=h.turns (aa.of_below (S:=[]) t) ahC ahC
def cW.put(h:cW w k n1 K7 nd x){x':Wk}(e:(wkC K7 n1 nd.length x).setIfInBounds i v=wkC K7 n1 nd.length x'):cW (w.setCell ⟨k,i,none⟩ v) k n1 K7 nd x':=by refine⟨?_,h.row.far (λe=>h.ne e.symm) _,h.ne,h.n32⟩;have:=h.blk.set_ i v;exact aa5
def fE{k:Nat}(w:World)(i:Nat)(v:Value):aa [k] w (w.setCell ⟨k,i,none⟩ v):=(aa.refl _ _).setCell (.inl ahC) _
def isW(h:cW w k n1 K7 nd x)(y:Int)(b:Bool)(hb:decide (1<=y/\y<=nd.length)=b):E 329 #[↑k,J y] w λe w'=>e= returned (.bool b)/\w=w':=by
 have c1:=h.c1;have HB:=qh hb;clear h hb;by_cases h1:1<=y;.go_enter func329,ntmps329;go_wp2;go_ret;exact⟨az (by rw[<-HB.o];simp[h1]),rfl⟩
 .go_enter func329,ntmps329;exact aax
def E4(w:World)(k n1:Nat)(K7:Value)(nd:List Int)(x':Wk)(e:Ending)(w':World):Prop:=e= returned (bool (!x'.way))/\cW w' k n1 K7 nd x'/\aa [k] w w'
def C7(h:cW w k n1 K7 nd x)(V:0<=x.passed/\x.passed<=32)(y:Int):E 327 #[↑k,J y] w (E4 w k n1 K7 nd (dR nd.length (ndf nd) x y)):=by
 have hd:=qh (λm=>h.below (Qt.below ⟨m,rfl⟩ _));obtain⟨KF,al⟩:=V;have hk:=h.blk.lt;have hn:=h.n32;by_cases h1:1<=y/\y<=nd.length
 .have HI:=qh (λW (h:cW W k n1 K7 nd x)=>isW h y true (decide_eq_true h1));have c1:=h.c1;have c3:=h.c3;have c4:=h.c4;have c5:=h.c5;have c6:=h.c6;have z3:=h.blk.free 3;by_cases H:x.passed=nd.length;.have Y:(x.passed==(nd.length:Int))=true:=(by simpa using H);have HT:Kq (dR nd.length (ndf nd) x y={x with way:=false}):=qh (by unfold dR;rw[if_pos (.inr H)]);clear h H;exact abh
  .have Y:(x.passed==(nd.length:Int))=false:=(by simpa using H);obtain⟨ab,ad⟩:=h1;obtain⟨m,rfl⟩:∃m:Nat,y=(m:Int)+1:=⟨(y-1).toNat,by omega⟩;have hm:m<nd.length:=(by omega);have Ss:(m:Int)<(nd.length:Int):=(by omega);have c2:=h.c2;have cn:=h.nat hm;have z4:=h.blk.free 4;have z5:=h.blk.free 5;have z6:=h.blk.free 6;have kn:=h.ne;have x1:IntKind.i64.wrap (x.passed+1)=x.passed+1:=IntWalk.i64_in _ ahB;by_cases I:ndf nd m=x.node;.have t5:(ndf nd m==x.node)=true:=(by simpa using I);have HT:Kq (dR nd.length (ndf nd) x ((m:Int)+1)={x with way:=false,found:=(m:Int)+1}):=qh (by unfold dR;rw[if_neg ahB,if_pos (by rw[show((m:Int)+1-1).toNat=m by omega];exact I)]);have O:=qh h;clear h H I;go_enter func327,ntmps327;go_wp2_with fail;go_quiet ((go_at_call 329;exact bK (HI.o _ (hd.o _))));go_wp2;go_quiet (fail);go_wp2;go_ret;rw[HT.o];refine⟨rfl,?_,((aa.of_qt ⟨_,rfl⟩).trans (fE _ _ _)).trans (fE _ _ _)⟩;exact(cW.put (x':={x with way:=false}) (hd.o _) rfl).put rfl
   .have t5:(ndf nd m==x.node)=false:=(by simpa using I);have HT:Kq (dR nd.length (ndf nd) x ((m:Int)+1)={x with way:=true,last:=(m:Int)+1,passed:=x.passed+1}):=qh (by unfold dR;rw[if_neg ahB,if_neg (by rw[show((m:Int)+1-1).toNat=m by omega];exact I)]);have O:=qh h;clear h H I;go_enter func327,ntmps327;go_wp2_with fail;go_quiet ((go_at_call 329;exact bK (HI.o _ (hd.o _))));go_wp2;go_quiet (fail);go_wp2;go_ret;rw[HT.o];refine⟨rfl,?_,(((aa.of_qt ⟨_,rfl⟩).trans (fE _ _ _)).trans (fE _ _ _)).trans (fE _ _ _)⟩;exact(cW.put (x':={x with way:=true,last:=(m:Int)+1}) (cW.put (x':={x with way:=true}) (hd.o _) rfl) rfl).put rfl
 .have HI:=qh (λW (h:cW W k n1 K7 nd x)=>isW h y false (decide_eq_false h1));have c3:=h.c3;have z3:=h.blk.free 3;have HT:Kq (dR nd.length (ndf nd) x y={x with way:=false}):=qh (by unfold dR;rw[if_pos (.inl h1)]);clear h h1;exact abh
def Dt(h:cW w k n1 K7 nd x)(y v:Int):E 323 #[↑k,J y,J v] w (E4 w k n1 K7 nd (gV nd.length (ndf nd) x y v)):=by have H:cW (w.setCell ⟨k,2,none⟩ (J v)) k n1 K7 nd {x with node:=v}:=h.put rfl;have I:cW _ k n1 K7 nd {x with node:=v,passed:=0}:=H.put (i:=4) (v:= J 0) rfl;have O:cW _ k n1 K7 nd {x with node:=v,passed:=0,last:=0}:=I.put (i:=5) (v:= J 0) rfl;have V:cW _ k n1 K7 nd {x with node:=v,passed:=0,last:=0,found:=0}:=O.put (i:=6) (v:= J 0) rfl;have Y:=qh V;have z2:=h.blk.free 2;have z4:=h.blk.free 4;have z5:=h.blk.free 5;have z6:=h.blk.free 6;have hk:=h.blk.lt;have c2:=h.c2;have c4:=h.c4;have c5:=h.c5;have c6:=h.c6;clear h H I O V;go_enter func323,ntmps323;go_wp2_with fail;refine Op (C7 Y.o ⟨Int.le_refl _,by show(0:Int)<=32;decide⟩ y) λw1 h1=>?_;have H1:=qh (And.intro h1.o.1 ((((fE (k:=k) w 2 (J v)).trans (fE _ 4 (J 0))).trans (fE _ 5 (J 0))).trans (fE _ 6 (J 0)) |>.trans h1.o.2));exact abi
def I1(h:cW w k n1 K7 nd x):E 328 #[↑k] w λe w'=>e= returned (bool (!x.way))/\w=w':=by have c3:=h.c3;clear h;go_enter func328,ntmps328;exact aaa
def q8(h:cW w k n1 K7 nd x):E 325 #[↑k] w λe w'=>e= returned (J x.found)/\w=w':=by have c3:=h.c6;clear h;go_enter func325,ntmps325;exact aaa
def vJ(h:cW w k n1 K7 nd x):E 326 #[↑k] w λe w'=>e= returned (J x.last)/\w=w':=by have c3:=h.c5;clear h;go_enter func326,ntmps326;exact aaa
end
end
section
open Go
section
variable{node:Nat->Int}{s:Cn}{p:Sp}
def J4(e:p.pc=1):ah n node bud s i p=(ae s.ar (cN (num i)) 0,s.wk,{p with pc:=2}):=by simp[ah,inC,e,num]
def J5(e:p.pc=2):ah n node bud s i p=(ae s.ar (cS (num i)) 0,s.wk,{p with pc:=3}):=by simp[ah,inC,e,num]
def J6(e:p.pc=3):ah n node bud s i p=(cr s.ar 1 (num i),s.wk,{p with a:=ldW s.ar.W 1,pc:=if ldW s.ar.W 1=0 then 6 else 4}):=by simp[ah,inC,e,num]
def J7(e:p.pc=4):ah n node bud s i p=(ae s.ar (cN p.a) (num i),s.wk,{p with pc:=5}):=by simp[ah,inC,e,num]
def J8(e:p.pc=5):ah n node bud s i p=(af s.ar (cS (num i)),s.wk,{p with a:=ldW s.ar.W (cS (num i)),pc:=if ldW s.ar.W (cS (num i))≠0 then 10 else 5}):=by simp[ah,inC,e,num];by_cases hc:ldW s.ar.W (cS ((i:Int)+1))=0<;>simp[hc]
def J9(e:p.pc=6):ah n node bud s i p=(ae s.ar (cS (num i)) (-1),s.wk,{p with pc:=10}):=by simp[ah,inC,e,num]
end
end
section
open Go
section
variable{node:Nat->Int}{s:Cn}{A' R':List Nat}{p:Sp}
def Jh(e:p.pc=11):ah n node bud s i p=(af s.ar (cS (num i)),s.wk,{p with b:=ldW s.ar.W (cS (num i)),pc:=12}):=by simp[ah,jM,e,num]
def Ji(e:p.pc=12):ah n node bud s i p=(af s.ar (cN (num i)),s.wk,{p with a:=ldW s.ar.W (cN (num i)),pc:=if ldW s.ar.W (cN (num i))≠0 then 17 else if 0<p.b then 14 else 13}):=by by_cases hc:ldW s.ar.W (cN ((i:Int)+1))=0<;>simp[ah,jM,e,num,hc]
def Jj(e:p.pc=13):ah n node bud s i p=(dX s.ar 1 (num i) 0,s.wk,{p with pc:=if cJ s.ar 1 (num i)then 0 else 16}):=by cases hc:cJ s.ar 1 ((i:Int)+1)<;>simp[ah,jM,e,num,hc]
def Jk(e:p.pc=14):ah n node bud s i p=(af s.ar (cL p.b),s.wk,{p with c:=ldW s.ar.W (cL p.b),pc:=15}):=by simp[ah,jM,e]
def Jl(e:p.pc=15):ah n node bud s i p=(dX s.ar 1 (num i) p.c,s.wk,{p with pc:=if cJ s.ar 1 (num i)then 28 else 16}):=by cases hc:cJ s.ar 1 ((i:Int)+1)<;>simp[ah,jM,e,num,hc]
def Jm(e:p.pc=16):ah n node bud s i p=(af s.ar (cN (num i)),s.wk,{p with a:=ldW s.ar.W (cN (num i)),pc:=if ldW s.ar.W (cN (num i))≠0 then 17 else 16}):=by by_cases hc:ldW s.ar.W (cN ((i:Int)+1))=0<;>simp[ah,jM,e,num,hc]
def Jn(e:p.pc=17):ah n node bud s i p=if bud<=ldW s.ar.W 2 then(af s.ar 2,s.wk,eI {p with c:=ldW s.ar.W 2})else(af s.ar 2,gV n node s.wk p.a (node i),{p with c:=ldW s.ar.W 2,pc:=if (gV n node s.wk p.a (node i)).way then 18 else 23}):=by simp[ah,mD,e]
def Jo(e:p.pc=18)(hw:s.wk.way=true):ah n node bud s i p=(af s.ar (cN s.wk.last),dR n node s.wk (ldW s.ar.W (cN s.wk.last)),
        if (dR n node s.wk (ldW s.ar.W (cN s.wk.last))).way then {p with pc:=18} else if (dR n node s.wk (ldW s.ar.W (cN s.wk.last))).found≠0 then {p with pc:=19} else eI p):=by simp[ah,mD,e,hw]
def Fo(e:p.pc=19):ah n node bud s i p=(ae s.ar (cN s.wk.last) 0,s.wk,if 0<p.b then {p with pc:=20} else {p with b:=p.a,pc:=22}):=by simp[ah,eb,e]
def Jp(e:p.pc=20):ah n node bud s i p=(af s.ar (cL p.b),s.wk,{p with c:=ldW s.ar.W (cL p.b),pc:=21}):=by simp[ah,eb,e]
def Jq(e:p.pc=21):ah n node bud s i p=(ae s.ar (cN p.c) p.a,s.wk,{p with pc:=22}):=by simp[ah,eb,e]
def Jr(e:p.pc=22):ah n node bud s i p=(ae s.ar (cL p.b) s.wk.last,s.wk,{p with a:=s.wk.found,pc:=23}):=by simp[ah,eb,e]
def Js(e:p.pc=23):ah n node bud s i p=(addA s.ar 2 1,s.wk,{p with pc:=24}):=by simp[ah,eb,e]
def Jt(e:p.pc=24):ah n node bud s i p=(ae s.ar (cS p.a) p.b,s.wk,{p with pc:=0}):=by simp[ah,eb,e]
def Ju(e:p.pc=25):ah n node bud s i p=(af s.ar (cL p.b),s.wk,{p with c:=ldW s.ar.W (cL p.b),pc:=26}):=by simp[ah,eb,e]
def Jv(e:p.pc=26):ah n node bud s i p=(ae s.ar (cN p.c) p.a,s.wk,{p with pc:=27}):=by simp[ah,eb,e]
def Jw(e:p.pc=27):ah n node bud s i p=(ae s.ar 2 0,s.wk,{p with pc:=28}):=by simp[ah,eb,e]
def Jx(e:p.pc=28):ah n node bud s i p=(ae s.ar (cS p.b) (-1),s.wk,{p with pc:=0}):=by simp[ah,eb,e]
def Jy(e:p.pc=29):ah n node bud s i p=(ae s.ar 2 0,s.wk,{p with pc:=30}):=by simp[ah,eb,e]
def Jz(e:p.pc=30):ah n node bud s i p=(ae s.ar (cS p.a) (-1),s.wk,{p with pc:=0}):=by simp[ah,eb,e]
end
end
section
open Go.RowKit
variable{ar':Ar}{LM:Wk}
structure Cx where
 l:Nat
 a:Nat
 g:Nat
 q:Nat
 k:Nat
 n1:Nat
 nb:Nat
 b0:Nat
 b1:Nat
 b2:Nat
def Ir(c:Cx)(cap:Nat)(bud:Int)(n:Nat):Array Value:=#[↑c.a,J 1,J bud,slice (some ⟨c.nb,0,none⟩) n cap,↑c.k,slice (some ⟨c.q,0,none⟩) n n]
def vc(c:Cx):Value:= .func (.func 172) #[] #[↑c.b0,↑c.b1,↑c.b2]
structure ao(w:World)(c:Cx)(cap:Nat)(bud:Int)(nd:List Int)(h:Cn):Prop where
 ar:aB w c.a c.g h.ar
 lk:Blk w c.l 263 (Ir c cap bud nd.length)
 sp:dD w c.q h.S
 wk:cW w c.k c.n1 (vc c) nd h.wk
 row:∀m,m<nd.length->w.cell? ⟨c.nb,m,none⟩=some (int i64 (ndf nd m))
 p0:Blk w c.b0 29 #[↑c.a]
 p1:Blk w c.b1 3 #[int i64 3]
 p2:Blk w c.b2 3 #[int i64 3]
 sl:h.S.length=nd.length
 n32:1<=nd.length/\nd.length<=32
 nd4:[c.a,c.g,c.q,c.k].Nodup
 st:∀x∈[c.l,c.n1,c.nb,c.b0,c.b1,c.b2],x∉[c.a,c.g,c.q,c.k]
section
variable{c:Cx}{h:Cn}
def ao.next(k:ao w c cap bud nd h){H:List Sp}(t:aa [c.a,c.g,c.q,c.k] w w')(h1:aB w' c.a c.g ar')(I:dD w' c.q H)(O:cW w' c.k c.n1 (vc c) nd LM)(V:H.length=nd.length):ao w' c cap bud nd ⟨ar',LM,H⟩:=by refine⟨h1,t.blk k.lk (k.st _ ahC),I,O,λm hm=>?_,t.blk k.p0 (k.st _ ahC),t.blk k.p1 (k.st _ ahC),t.blk k.p2 (k.st _ ahC),V,k.n32,k.nd4,k.st⟩;rw[t.cellC (aI (k.row m hm)) (k.st _ ahC)];exact k.row m hm
def ao.below(k:ao w c cap bud nd h)(t:Below w.heap.size w w'):ao w' c cap bud nd h:=by have t0:=aa.of_below (S:=[]) t;exact k.next (t0.mono ahC) (k.ar.turns t0 ahC ahC) (k.sp.turns t0 ahC) (k.wk.below t) k.sl
def ao.n1k(k:ao w c cap bud nd h):c.n1∉[c.a,c.g,c.q,c.k]:=k.st _ ahC
def ao.op(k:ao w c cap bud nd h)(t:aa [c.a,c.g] w w')(h1:aB w' c.a c.g ar'):ao w' c cap bud nd ⟨ar',h.wk,h.S⟩:=by have I:=k.nd4;have H:=k.n1k;simp at I H;exact k.next (t.mono ahC) h1 (k.sp.turns t ahG) (k.wk.turns t ahG ahG) k.sl
def ao.spot(k:ao w c cap bud nd h){H:List Sp}(hs:dD w' c.q H)(V:H.length=nd.length)(t:aa [c.q] w w'):ao w' c cap bud nd ⟨h.ar,h.wk,H⟩:=by have O:=k.nd4;have I:=k.n1k;simp at O I;exact k.next (t.mono ahC) (k.ar.turns t ahG ahG) hs (k.wk.turns t ahG ahG) V
def ao.walk(k:ao w c cap bud nd h)(I:cW w' c.k c.n1 (vc c) nd LM)(t:aa [c.k] w w'):ao w' c cap bud nd ⟨h.ar,LM,h.S⟩:=by have H:=k.nd4;simp at H;exact k.next (t.mono ahC) (k.ar.turns t ahG ahG) (k.sp.turns t ahG) I k.sl
def ao.putS(k:ao w c cap bud nd h){p p':Sp}(O:h.S[i]? =some p){j:Nat}(I:j<4)(H:(bi p).set j v=bi p'):ao (w.setCell ⟨c.q,i*4+j,none⟩ v) c cap bud nd ⟨h.ar,h.wk,h.S.set i p'⟩:=
 k.spot (k.sp.put O I H) (by simp[k.sl]) ((aa.refl _ _).setCell (.inl ahC) _)
def dw{c:Cx}(p:Addr)(v:Value)(H:p.block=c.q):aa [c.a,c.g,c.q,c.k] w (w.setCell p v):=(aa.refl _ _).setCell (.inl (by simp[H])) _
def ao.l0(k:ao w c cap bud nd h):w.cell? c.l=some ↑c.a:=k.lk.cell 0
def ao.l1(k:ao w c cap bud nd h):Z w c.l 1 (J 1):=k.lk.cell 1
def ao.l2(k:ao w c cap bud nd h):Z w c.l 2 (J bud):=k.lk.cell 2
def ao.l3(k:ao w c cap bud nd h):Z w c.l 3 (slice (some ⟨c.nb,0,none⟩) nd.length cap):=k.lk.cell 3
def ao.l4(k:ao w c cap bud nd h):Z w c.l 4 ↑c.k:=k.lk.cell 4
def ao.l5(k:ao w c cap bud nd h):Z w c.l 5 (slice (some ⟨c.q,0,none⟩) nd.length nd.length):=k.lk.cell 5
def kf(k:ao w c cap bud nd h):E 313 #[↑c.l] w λe w'=>e= returned (J nd.length)/\w=w':=by have c5:=k.l5;clear k;go_enter func313,ntmps313;exact aaa
def uE(k:ao w c cap bud nd h)(i:Int):E 311 #[↑c.l,J i] w λe w'=>e= returned (aF (getS h.S i))/\Below w.heap.size w w':=by
  obtain⟨_,HN⟩:=k.n32;have O:=k.sl;by_cases I:okI h.S i;. have hp:=dL I;obtain⟨p,mP⟩:=LE (getS h.S i);rw[<-mP]at hp ⊢;have c2:=k.l5;refine aj5 ?_;intro a0 a1 a2 a3;obtain⟨V,h1⟩:=I;rw[O]at h1;obtain⟨n,rfl⟩:=Int.eq_ofNat_of_zero_le V;simp only[Int.toNat_natCast]at a0 a1 a2 a3;have Kl:=k.lk.lt;have Kp:=k.sp.lt;have t2:¬(n:Int)<0:=(by omega);have Y:¬((nd.length:Nat):Int)<=(n:Int):=(by omega);have t4:n<nd.length:=(by omega);have H:Kq (ao (w.alloc (cells #[J 0,J 0,J 0,J 0] 113)) c cap bud nd h):=qh (k.below ((Below.refl _ _).alloc (Nat.le_refl _) _));clear k hp mP V h1 O;go_enter func311,ntmps311;go_wp2_with (go_at_call 313;refine(kf H.o).mono ?_;rintro e w' ⟨rfl,rfl⟩);exact bodyPost_ret (results_cell_row ahF _ _ w.heap.size 113 _ (0,0) _ ahF (heap_alloc_new w _) Tryz.underlying113 rfl ahE) rfl ⟨rfl,(Below.refl _ _).alloc (Nat.le_refl _) _⟩
  . have H:Kq (ao (w.alloc (cells #[J 0,J 0,J 0,J 0] 113)) c cap bud nd h):=qh (k.below ((Below.refl _ _).alloc (Nat.le_refl _) _));rw[dE I];unfold okI at I;rw[O]at I;clear k O;by_cases V:i<0;. go_enter func311,ntmps311;go_wp2;exact bodyPost_ret (results_cell_row ahF _ _ w.heap.size 113 _ (0,0) _ ahF (heap_alloc_new w _) Tryz.underlying113 rfl ahE) rfl ⟨rfl,(Below.refl _ _).alloc (Nat.le_refl _) _⟩
    . have Y:((nd.length:Nat):Int)<=i:=(by omega);clear I;go_enter func311,ntmps311;go_wp2_with (go_at_call 313;refine(kf H.o).mono ?_;rintro e w' ⟨rfl,rfl⟩);exact bodyPost_ret (results_cell_row ahF _ _ w.heap.size 113 _ (0,0) _ ahF (heap_alloc_new w _) Tryz.underlying113 rfl ahE) rfl ⟨rfl,(Below.refl _ _).alloc (Nat.le_refl _) _⟩
def COp(w:World)(c:Cx)(cap:Nat)(bud:Int)(nd:List Int)(x:Cn×Bool)(e:Ending)(w':World):Prop:=e= returned (.bool x.2)/\ao w' c cap bud nd x.1/\aa [c.a,c.g,c.q,c.k] w w'
def xj(k:ao w c cap bud nd h)(i I O:Int):E 314 #[↑c.l,J i,J I,J O] w (COp w c cap bud nd (bS h i I O)):=by
  have H:=qh k;obtain⟨_,KW⟩:=k.n32;have Ks:=k.sl;by_cases hi:okI h.S i
  . have V:=dL hi;obtain⟨p,mP⟩:=LE (getS h.S i);rw[<-mP]at V;have c2:=k.l5;have a0:=ST (k.sp.cell V 0 _ rfl);have f0:=k.sp.free (i.toNat*4);obtain⟨h0,h1⟩:=id hi;rw[Ks]at h1;obtain⟨n,rfl⟩:=Int.eq_ofNat_of_zero_le h0;simp only[Int.toNat_natCast]at a0 f0 V;have t2:¬(n:Int)<0:=(by omega);have Y:¬((nd.length:Nat):Int)<=(n:Int):=(by omega);have t4:n<nd.length:=(by omega);have HP:=qh (And.intro hi (And.intro mP V));clear k V mP h0 h1 hi Ks;cases hc:(p.pc !=I)
    . have hb:Kq (bS h n I O=(⟨h.ar,h.wk,h.S.set n {p with pc:=O}⟩,true)):=qh (by
        unfold bS;have e:p.pc=I:=by simpa using hc
        rw[<-HP.o.2.1,if_pos ⟨HP.o.1,e⟩];simp)
      go_enter func314,ntmps314;go_wp2_with (go_at_call 313;refine(kf H.o).mono ?_;rintro e w' ⟨rfl,rfl⟩);go_ret;rw[hb.o];have ht:aa [c.q] w (w.setCell ⟨c.q,n*4,none⟩ (J O)):=(aa.refl _ _).setCell (.inl ahC) _;exact⟨rfl,H.o.spot (H.o.sp.put HP.o.2.2 (j:=0) ahD rfl) (by simp[H.o.sl]) ht,ht.mono ahC⟩
    . have hb:Kq (bS h n I O=(h,false)):=qh (by
        unfold bS;have e:¬p.pc=I:=by simpa using hc
        rw[<-HP.o.2.1,if_neg (λh=>e h.2)])
      go_enter func314,ntmps314;go_wp2_with (go_at_call 313;refine(kf H.o).mono ?_;rintro e w' ⟨rfl,rfl⟩);go_ret;rw[hb.o];exact⟨rfl,H.o,aa.refl _ _⟩
  . have hb:Kq (bS h i I O=(h,false)):=qh (by
      unfold bS
      rw[if_neg (λh=>hi h.1)])
    unfold okI at hi;rw[Ks]at hi;clear k Ks;by_cases h0:i<0;. go_enter func314,ntmps314;go_wp2;go_ret;rw[hb.o];exact⟨rfl,H.o,aa.refl _ _⟩
    . have Y:((nd.length:Nat):Int)<=i:=(by omega);clear hi;go_enter func314,ntmps314;go_wp2_with (go_at_call 313;refine(kf H.o).mono ?_;rintro e w' ⟨rfl,rfl⟩);go_ret;rw[hb.o];exact⟨rfl,H.o,aa.refl _ _⟩
def He(k:ao w c cap bud nd h)(i:Int):E 309 #[↑c.l,J i] w (COp w c cap bud nd (bS h i 0 1)):=by obtain⟨x,I⟩:=LE (bS h i 0 1);have H:=qh (xj k i 0 1);rw[<-I]at H ⊢;obtain⟨O,V⟩:=x;clear k I;go_enter func309,ntmps309;go_wp2_with fail;refine Op H.o λw1 H1=>?_;go_wp2;go_ret;exact⟨rfl,H1.o⟩
def Eb(k:ao w c cap bud nd h)(i:Int):E 310 #[↑c.l,J i] w (COp w c cap bud nd (bS h i 10 11)):=by obtain⟨x,I⟩:=LE (bS h i 10 11);have H:=qh (xj k i 10 11);rw[<-I]at H ⊢;obtain⟨O,V⟩:=x;clear k I;go_enter func310,ntmps310;go_wp2_with fail;refine Op H.o λw1 H1=>?_;go_wp2;go_ret;exact⟨rfl,H1.o⟩
def mV(k:ao w c cap bud nd h)(x:Int)(H:-5<=x/\x<=100000):E 146 #[↑c.l,J x] w λe w'=>e= returned (J (cN x))/\w=w':=by
 have c1:=k.l1;obtain⟨I,h1⟩:=H;refine ajX ?_;intro x1 x2;have O:IntKind.i64.wrap (1+3*x-1)=3*x:=by rw[show 1+3*x-1=3*x by omega];exact x1
 clear k;unfold cN;go_enter func146,ntmps146;exact aao
def pv(k:ao w c cap bud nd h)(x:Int)(H:-5<=x/\x<=100000):E 319 #[↑c.l,J x] w λe w'=>e= returned (J (cS x))/\w=w':=by have c1:=k.l1;obtain⟨I,h1⟩:=H;refine ajX ?_;intro x1 x2;clear k;unfold cS;go_enter func319,ntmps319;exact aao
def xG(k:ao w c cap bud nd h)(x:Int)(H:-5<=x/\x<=100000):E 321 #[↑c.l,J x] w λe w'=>e= returned (J (cL x))/\w=w':=by have c1:=k.l1;obtain⟨I,h1⟩:=H;refine ajX ?_;intro x1 x2;have O:IntKind.i64.wrap (1+3*x+1)=1+3*x+1:=IntWalk.i64_in _ ahB;clear k;unfold cL;go_enter func321,ntmps321;exact aao
def qY(k:ao w c cap bud nd h):E 322 #[↑c.l] w λe w'=>e= returned (J 2)/\w=w':=by have c1:=k.l1;clear k;go_enter func322,ntmps322;exact aaa
def qy(w:World)(b:Bool)(x y v:Int)(O:v=if b then x else y):E 320 #[.bool b,J x,J y] w λe w'=>e= returned (J v)/\w=w':=by
 cases b;.exact abj
 .exact abj
def Du(k:ao w c cap bud nd h)(y:Int)(Y:-5<=y/\y<=100000)(V:h.ar.ops+1<=1000000000000):E 172 #[J y,↑c.b0,↑c.b1,↑c.b2] w (fk w c.a c.g (af h.ar (cN y)) (J (ldW h.ar.W (cN y)))):=by
 have d0:w.cell? c.b0=_:=k.p0.cell 0;have d1:w.cell? c.b1=_:=k.p1.cell 0;have d2:w.cell? c.b2=_:=k.p2.cell 0;simp at d0 d1 d2;obtain⟨h0,h1⟩:=Y;have x0:IntKind.i64.wrap (y-1)=y-1:=IntWalk.i64_in _ ahB;have x1:IntKind.i64.wrap (3*(y-1))=3*(y-1):=IntWalk.i64_in _ ahB;have x2:IntKind.i64.wrap (3+3*(y-1))=cN y:=by unfold cN;rw[show 3+3*(y-1)=3*y by omega];exact IntWalk.i64_in _ ahB
 have H:=qh (aD k.ar (cN y) V);obtain⟨v,O⟩:=LE (ldW h.ar.W (cN y));rw[<-O]at H ⊢;obtain⟨z,I⟩:=LE (cN y);rw[<-I]at H ⊢ x2;clear k O I;go_enter func172,ntmps172;go_wp2_with fail;refine Op H.o λw1 H1=>?_;go_wp2;go_ret;exact⟨rfl,H1.o⟩
end
end
section
open Go.RowKit
variable{p:Sp}{Q:Prop}
section
variable{c:Cx}{h:Cn}
def eU(w:World)(c:Cx)(cap:Nat)(bud:Int)(nd:List Int)(h:Cn)(i:Nat)(p:Sp)(x:Ar×Wk×Sp)(e:Ending)(w':World):Prop:=
 e= returned (J x.2.2.pc)/\ao w' c cap bud nd ⟨x.1,x.2.1,h.S.set i {x.2.2 with pc:=p.pc}⟩/\aa [c.a,c.g,c.q,c.k] w w'
def zB{S:List Sp}(hp:S[i]? =some p):S.set i p=S:=by exact aaq
def ao.samS{H:Ar}{I:Wk}(k:ao w c cap bud nd ⟨H,I,h.S⟩)(O:h.S[i]? =some p):ao w c cap bud nd ⟨H,I,h.S.set i p⟩:=by rw[zB O];exact k
def ao.cs(k:ao w c cap bud nd h)(H:h.S[i]? =some p):w.cell? c.l=some ↑c.a/\Z w c.l 1 (J 1)/\Z w c.l 4 ↑c.k/\Z w c.q (i*4+1) (J p.a)/\Z w c.q (i*4+2) (J p.b)/\Z w c.q (i*4+3) (J p.c):=⟨k.l0,k.l1,k.l4,k.sp.cell H 1 _ rfl,k.sp.cell H 2 _ rfl,k.sp.cell H 3 _ rfl⟩
def cyN(h_:Q:=by
    obtain⟨_,hn⟩:=k.n32
    have e0:=ST (k.sp.cell hp 0 _ rfl)
    have HP:=qh hp
    have HL:=qh (show i<h.S.length by rw[k.sl];exact hin)
    have K1:=qh (k.below ((Below.refl _ w).drew))
    clear k hp
    first
      | go_enter func315,ntmps315
      | go_enter func316,ntmps316
      | go_enter func318,ntmps318
    go_wp2_with fail
    go_region_held3 (λW=>W.cell? c.l=some ↑c.a/\Z W c.l 1 (J 1)/\Z W c.l 4 ↑c.k/\Z W c.q (i*4+1) (J a)/\Z W c.q (i*4+2) (J b)/\Z W c.q (i*4+3) (J z))
      (first|(have q:=K1.o.cs HP.o;exact⟨q.1,q.2.1,q.2.2.1,q.2.2.2.1,q.2.2.2.2.1,q.2.2.2.2.2⟩)|(have q:=K2.o.cs HP.o;exact⟨q.1,q.2.1,q.2.2.1,q.2.2.2.1,q.2.2.2.2.1,q.2.2.2.2.2⟩))
      (first
        | (go_at_call 146;go_loud (refine LT (HF.o _ K1.o) ?_))
        | (go_at_call 319;go_loud (refine LT (HF.o _ K1.o) ?_))
        | (go_at_call 321;go_loud (refine LT (HF.o _ K1.o) ?_))
        | (go_at_call 322;go_loud (refine LT (HF.o _ K1.o) ?_))
        | (go_at_call 177;go_loud (refine Op (HO.o _ K1.o) λw3 a3=>?_);have K2:=qh (K1.o.op a3.o.2 a3.o.1);have T2:=qh (((aa.refl [c.a,c.g,c.q,c.k] w).drew).trans (a3.o.2.mono (T:=[c.a,c.g,c.q,c.k]) ahC)))
        | (go_at_call 298;go_loud (refine Op (HO.o _ K1.o) λw3 a3=>?_);have K2:=qh (K1.o.op a3.o.2 a3.o.1);have T2:=qh (((aa.refl [c.a,c.g,c.q,c.k] w).drew).trans (a3.o.2.mono (T:=[c.a,c.g,c.q,c.k]) ahC))))
    all_goals
      have e3:=by simpa using K2.o.sp.cell HP.o 0 _ rfl
      go_wp2
      go_ret
      rw[HX.o]
      exact⟨rfl,K2.o.samS HP.o,T2.o⟩):Q:=h_
def cwB(h_:Q:=by
    obtain⟨_,hn⟩:=k.n32
    have e0:=ST (k.sp.cell hp 0 _ rfl)
    have HP:=qh hp
    have HL:=qh (show i<h.S.length by rw[k.sl];exact hin)
    have QE:=qh (HPN HL.o)
    have K1:=qh (k.below ((Below.refl _ w).drew))
    clear k hp
    first
      | go_enter func315,ntmps315
      | go_enter func316,ntmps316
      | go_enter func318,ntmps318
    go_wp2_with fail
    go_region_held3 (λW=>W.cell? c.l=some ↑c.a/\Z W c.l 1 (J 1)/\Z W c.l 4 ↑c.k/\Z W c.q (i*4+1) (J a)/\Z W c.q (i*4+3) (J z))
      (first|(have q:=K1.o.cs HP.o;exact⟨q.1,q.2.1,q.2.2.1,q.2.2.2.1,q.2.2.2.2.2⟩)|(have q:=K2.o.cs HP.o;exact⟨q.1,q.2.1,q.2.2.1,q.2.2.2.1,q.2.2.2.2.2⟩)|(have q:=K3.o.cs QE.o;exact⟨q.1,q.2.1,q.2.2.1,q.2.2.2.1,q.2.2.2.2.2⟩))
      (first
        | (go_at_call 146;go_loud (refine LT (HF.o _ K1.o) ?_))
        | (go_at_call 319;go_loud (refine LT (HF.o _ K1.o) ?_))
        | (go_at_call 321;go_loud (refine LT (HF.o _ K1.o) ?_))
        | (go_at_call 322;go_loud (refine LT (HF.o _ K1.o) ?_))
        | (go_at_call 173;go_loud (refine Op (HO.o _ K1.o) λw3 a3=>?_);have K2:=qh (K1.o.op a3.o.2 a3.o.1);have T2:=qh (((aa.refl [c.a,c.g,c.q,c.k] w).drew).trans (a3.o.2.mono (T:=[c.a,c.g,c.q,c.k]) ahC));have K3:=qh (HJ.o _ _ K2.o);have e1:=K2.o.sp.cell HP.o 2 _ rfl;have z1:=K2.o.sp.free (i*4+2))
        | (go_at_call 271;go_loud (refine Op (HO.o _ K1.o) λw3 a3=>?_);have K2:=qh (K1.o.op a3.o.2 a3.o.1);have T2:=qh (((aa.refl [c.a,c.g,c.q,c.k] w).drew).trans (a3.o.2.mono (T:=[c.a,c.g,c.q,c.k]) ahC));have K3:=qh (HJ.o _ _ K2.o);have e1:=K2.o.sp.cell HP.o 2 _ rfl;have z1:=K2.o.sp.free (i*4+2)))
    all_goals
      have e3:=by simpa using K3.o.sp.cell QE.o 0 _ rfl
      go_wp2
      go_ret
      rw[HX.o]
      exact⟨rfl,K3.o,T2.o.trans (dw ⟨c.q,i*4+2,none⟩ _ rfl)⟩):Q:=h_
def cwZ(h_:Q:=by
    obtain⟨_,hn⟩:=k.n32
    have e0:=ST (k.sp.cell hp 0 _ rfl)
    have HP:=qh hp
    have HL:=qh (show i<h.S.length by rw[k.sl];exact hin)
    have QE:=qh (HPN HL.o)
    have K1:=qh (k.below ((Below.refl _ w).drew))
    clear k hp
    first
      | go_enter func315,ntmps315
      | go_enter func316,ntmps316
      | go_enter func318,ntmps318
    go_wp2_with fail
    go_region_held3 (λW=>W.cell? c.l=some ↑c.a/\Z W c.l 1 (J 1)/\Z W c.l 4 ↑c.k/\Z W c.q (i*4+1) (J a)/\Z W c.q (i*4+2) (J b))
      (first|(have q:=K1.o.cs HP.o;exact⟨q.1,q.2.1,q.2.2.1,q.2.2.2.1,q.2.2.2.2.1⟩)|(have q:=K2.o.cs HP.o;exact⟨q.1,q.2.1,q.2.2.1,q.2.2.2.1,q.2.2.2.2.1⟩)|(have q:=K3.o.cs QE.o;exact⟨q.1,q.2.1,q.2.2.1,q.2.2.2.1,q.2.2.2.2.1⟩))
      (first
        | (go_at_call 146;go_loud (refine LT (HF.o _ K1.o) ?_))
        | (go_at_call 319;go_loud (refine LT (HF.o _ K1.o) ?_))
        | (go_at_call 321;go_loud (refine LT (HF.o _ K1.o) ?_))
        | (go_at_call 322;go_loud (refine LT (HF.o _ K1.o) ?_))
        | (go_at_call 173;go_loud (refine Op (HO.o _ K1.o) λw3 a3=>?_);have K2:=qh (K1.o.op a3.o.2 a3.o.1);have T2:=qh (((aa.refl [c.a,c.g,c.q,c.k] w).drew).trans (a3.o.2.mono (T:=[c.a,c.g,c.q,c.k]) ahC));have K3:=qh (HJ.o _ _ K2.o);have e1:=K2.o.sp.cell HP.o 3 _ rfl;have z1:=K2.o.sp.free (i*4+3))
        | (go_at_call 271;go_loud (refine Op (HO.o _ K1.o) λw3 a3=>?_);have K2:=qh (K1.o.op a3.o.2 a3.o.1);have T2:=qh (((aa.refl [c.a,c.g,c.q,c.k] w).drew).trans (a3.o.2.mono (T:=[c.a,c.g,c.q,c.k]) ahC));have K3:=qh (HJ.o _ _ K2.o);have e1:=K2.o.sp.cell HP.o 3 _ rfl;have z1:=K2.o.sp.free (i*4+3)))
    all_goals
      have e3:=by simpa using K3.o.sp.cell QE.o 0 _ rfl
      go_wp2
      go_ret
      rw[HX.o]
      exact⟨rfl,K3.o,T2.o.trans (dw ⟨c.q,i*4+3,none⟩ _ rfl)⟩):Q:=h_
def Hl(k:ao w c cap bud nd h)(i:Nat)(hin:i<nd.length)(a b z:Int)(hp:h.S[i]? =some (⟨1,a,b,z⟩:Sp))(V:h.ar.ops+1<=1000000000000):E 315 #[↑c.l,pointer (some ⟨c.q,i*4,none⟩),J ((i:Int)+1)] w (eU w c cap bud nd h i (⟨1,a,b,z⟩:Sp) (ah nd.length (ndf nd) bud h i (⟨1,a,b,z⟩:Sp))):=by have hn:=k.n32.2;have HX:Kq (ah nd.length (ndf nd) bud h i (⟨1,a,b,z⟩:Sp)=(ae h.ar (cN ((i:Int)+1)) 0,h.wk,⟨2,a,b,z⟩)):=qh (by rw[J4 rfl]<;>rfl);have HF:=qh (λW (k:ao W c cap bud nd h)=>mV k ((i:Int)+1) ahB);have HO:=qh (λW (k:ao W c cap bud nd h)=>an k.ar (cN ((i:Int)+1)) 0 V);exact cyN
def Hn(k:ao w c cap bud nd h)(i:Nat)(hin:i<nd.length)(a b z:Int)(hp:h.S[i]? =some (⟨2,a,b,z⟩:Sp))(V:h.ar.ops+1<=1000000000000):E 315 #[↑c.l,pointer (some ⟨c.q,i*4,none⟩),J ((i:Int)+1)] w (eU w c cap bud nd h i (⟨2,a,b,z⟩:Sp) (ah nd.length (ndf nd) bud h i (⟨2,a,b,z⟩:Sp))):=by have hn:=k.n32.2;have HX:Kq (ah nd.length (ndf nd) bud h i (⟨2,a,b,z⟩:Sp)=(ae h.ar (cS ((i:Int)+1)) 0,h.wk,⟨3,a,b,z⟩)):=qh (by rw[J5 rfl]<;>rfl);have HF:=qh (λW (k:ao W c cap bud nd h)=>pv k ((i:Int)+1) ahB);have HO:=qh (λW (k:ao W c cap bud nd h)=>an k.ar (cS ((i:Int)+1)) 0 V);exact cyN
def Hp(k:ao w c cap bud nd h)(i:Nat)(hin:i<nd.length)(a b z:Int)(hp:h.S[i]? =some (⟨4,a,b,z⟩:Sp))(V:h.ar.ops+1<=1000000000000)(H:-5<=a/\a<=100000):E 315 #[↑c.l,pointer (some ⟨c.q,i*4,none⟩),J ((i:Int)+1)] w (eU w c cap bud nd h i (⟨4,a,b,z⟩:Sp) (ah nd.length (ndf nd) bud h i (⟨4,a,b,z⟩:Sp))):=by have HX:Kq (ah nd.length (ndf nd) bud h i (⟨4,a,b,z⟩:Sp)=(ae h.ar (cN a) ((i:Int)+1),h.wk,⟨5,a,b,z⟩)):=qh (by rw[J7 rfl]<;>rfl);have HF:=qh (λW (k:ao W c cap bud nd h)=>mV k a (by exact H));have HO:=qh (λW (k:ao W c cap bud nd h)=>an k.ar (cN a) ((i:Int)+1) V);exact cyN
def Hr(k:ao w c cap bud nd h)(i:Nat)(hin:i<nd.length)(a b z:Int)(hp:h.S[i]? =some (⟨6,a,b,z⟩:Sp))(V:h.ar.ops+1<=1000000000000):E 315 #[↑c.l,pointer (some ⟨c.q,i*4,none⟩),J ((i:Int)+1)] w (eU w c cap bud nd h i (⟨6,a,b,z⟩:Sp) (ah nd.length (ndf nd) bud h i (⟨6,a,b,z⟩:Sp))):=by have hn:=k.n32.2;have HX:Kq (ah nd.length (ndf nd) bud h i (⟨6,a,b,z⟩:Sp)=(ae h.ar (cS ((i:Int)+1)) (-1),h.wk,⟨10,a,b,z⟩)):=qh (by rw[J9 rfl]<;>rfl);have HF:=qh (λW (k:ao W c cap bud nd h)=>pv k ((i:Int)+1) ahB);have HO:=qh (λW (k:ao W c cap bud nd h)=>an k.ar (cS ((i:Int)+1)) (-1) V);exact cyN
def Ho(k:ao w c cap bud nd h)(i:Nat)(hin:i<nd.length)(a b z:Int)(hp:h.S[i]? =some (⟨3,a,b,z⟩:Sp))(V:h.ar.ops+1<=1000000000000):E 315 #[↑c.l,pointer (some ⟨c.q,i*4,none⟩),J ((i:Int)+1)] w (eU w c cap bud nd h i (⟨3,a,b,z⟩:Sp) (ah nd.length (ndf nd) bud h i (⟨3,a,b,z⟩:Sp))):=by
  refine ajC ?_;intro hn e0;obtain⟨ab,mb⟩:=LE (cr h.ar 1 ((i:Int)+1));obtain⟨v,O⟩:=LE (ldW h.ar.W 1);have HX:Kq (ah nd.length (ndf nd) bud h i (⟨3,a,b,z⟩:Sp)=(ab,h.wk,(⟨if v=0 then 6 else 4,v,b,z⟩:Sp))):=qh (by rw[J6 rfl,mb,O]<;>rfl);have i':=(λW (k:ao W c cap bud nd h)=>fD k.ar 1 ((i:Int)+1) V);rw[<-mb,<-O]at i';have HO:=qh i';have Y:=qh (λW (h:Cn) (u:Int) (k:ao W c cap bud nd h) (hp:h.S[i]? =some (⟨3,u,b,z⟩:Sp))=>And.intro k.l0 k.l1);refine ai3 ?_;intro HP HL K1;clear i' k hp mb O;have Mm:=qh (λw b x y v O=>qy w b x y v O);by_cases I:v=0
  all_goals
    have t0:(v==0)=decide (v=0):=(by by_cases h:v=0<;>simp[h]);first| rw[decide_eq_true I]at t0| rw[decide_eq_false I]at t0
    have HV:=qh I;clear I;go_enter func315,ntmps315;go_wp2_with fail
    go_region_held3 (λW=>W.cell? c.l=some ↑c.a/\Z W c.l 1 (J 1))
      (first|with_reducible exact Y.o _ _ _ K1.o HP.o|with_reducible exact Y.o _ _ _ H.o HP.o|with_reducible exact Lf.o)
      (first
        | (go_at_call 271;go_loud (refine Op (HO.o _ K1.o) λw3 a3=>?_);have H:=qh (K1.o.op a3.o.2 a3.o.1);have T2:=qh (((aa.refl [c.a,c.g,c.q,c.k] w).drew).trans (a3.o.2.mono (T:=[c.a,c.g,c.q,c.k]) ahC));have K3:=qh (H.o.putS (p':=(⟨3,v,b,z⟩:Sp)) HP.o (j:=1) (v:= J v) ahD rfl);have Lf:=qh (Y.o _ _ v K3.o ah7);have e1:=H.o.sp.cell HP.o 1 _ rfl;have z1:=H.o.sp.free (i*4+1)))
    all_goals
      go_wp2_with fail;first| refine(Mm.o _ true 6 4 6 rfl).mono ?_| refine(Mm.o _ false 6 4 4 rfl).mono ?_
      rintro en w5 ⟨rfl,rfl⟩;go_wp2;go_ret;rw[HX.o];first| exact⟨by rw[if_pos HV.o];rfl,K3.o,T2.o.trans (dw ⟨c.q,i*4+1,none⟩ _ rfl)⟩| exact⟨by rw[if_neg HV.o];rfl,K3.o,T2.o.trans (dw ⟨c.q,i*4+1,none⟩ _ rfl)⟩
def Hq(k:ao w c cap bud nd h)(i:Nat)(hin:i<nd.length)(a b z:Int)(hp:h.S[i]? =some (⟨5,a,b,z⟩:Sp))(V:h.ar.ops+1<=1000000000000):E 315 #[↑c.l,pointer (some ⟨c.q,i*4,none⟩),J ((i:Int)+1)] w (eU w c cap bud nd h i (⟨5,a,b,z⟩:Sp) (ah nd.length (ndf nd) bud h i (⟨5,a,b,z⟩:Sp))):=by
  refine ajC ?_;intro hn e0;obtain⟨ab,mb⟩:=LE (af h.ar (cS ((i:Int)+1)));obtain⟨v,O⟩:=LE (ldW h.ar.W (cS ((i:Int)+1)));have HX:Kq (ah nd.length (ndf nd) bud h i (⟨5,a,b,z⟩:Sp)=(ab,h.wk,(⟨if v≠0 then 10 else 5,v,b,z⟩:Sp))):=qh (by rw[J8 rfl,mb,O]<;>rfl);have HF:=qh (λW (k:ao W c cap bud nd h)=>pv k ((i:Int)+1) ahB);have i':=(λW (k:ao W c cap bud nd h)=>aD k.ar (cS ((i:Int)+1)) V);rw[<-mb,<-O]at i';have HO:=qh i';have Y:=qh (λW (h:Cn) (u:Int) (k:ao W c cap bud nd h) (hp:h.S[i]? =some (⟨5,u,b,z⟩:Sp))=>k.l0);refine ai3 ?_;intro HP HL K1;clear i' k hp mb O;have Mm:=qh (λw b x y v O=>qy w b x y v O);by_cases I:v≠0
  all_goals
    have t0:(v !=0)=decide (v≠0):=(by by_cases h:v=0<;>simp[h]);first| rw[decide_eq_true I]at t0| rw[decide_eq_false I]at t0
    have HV:=qh I;clear I;go_enter func315,ntmps315;go_wp2_with fail
    go_region_held3 (λW=>W.cell? c.l=some ↑c.a)
      (first|with_reducible exact Y.o _ _ _ K1.o HP.o|with_reducible exact Y.o _ _ _ H.o HP.o|with_reducible exact Lf.o)
      (first
        | (go_at_call 319;go_loud (refine LT (HF.o _ K1.o) ?_))
        | (go_at_call 173;go_loud (refine Op (HO.o _ K1.o) λw3 a3=>?_);have H:=qh (K1.o.op a3.o.2 a3.o.1);have T2:=qh (((aa.refl [c.a,c.g,c.q,c.k] w).drew).trans (a3.o.2.mono (T:=[c.a,c.g,c.q,c.k]) ahC));have K3:=qh (H.o.putS (p':=(⟨5,v,b,z⟩:Sp)) HP.o (j:=1) (v:= J v) ahD rfl);have Lf:=qh (Y.o _ _ v K3.o ah7);have e1:=H.o.sp.cell HP.o 1 _ rfl;have z1:=H.o.sp.free (i*4+1)))
    all_goals
      go_wp2_with fail;first| refine(Mm.o _ true 10 5 10 rfl).mono ?_| refine(Mm.o _ false 10 5 5 rfl).mono ?_
      rintro en w5 ⟨rfl,rfl⟩;go_wp2;go_ret;rw[HX.o];first| exact⟨by rw[if_pos HV.o];rfl,K3.o,T2.o.trans (dw ⟨c.q,i*4+1,none⟩ _ rfl)⟩| exact⟨by rw[if_neg HV.o];rfl,K3.o,T2.o.trans (dw ⟨c.q,i*4+1,none⟩ _ rfl)⟩
end
end
section
open Go.RowKit
section
variable{c:Cx}{h:Cn}
def AD(k:ao w c cap bud nd h)(i:Nat)(hin:i<nd.length)(a b z:Int)(hp:h.S[i]? =some (⟨11,a,b,z⟩:Sp))(V:h.ar.ops+1<=1000000000000):E 316 #[↑c.l,pointer (some ⟨c.q,i*4,none⟩),J ((i:Int)+1)] w (eU w c cap bud nd h i (⟨11,a,b,z⟩:Sp) (ah nd.length (ndf nd) bud h i (⟨11,a,b,z⟩:Sp))):=by
  have hn:=k.n32.2;obtain⟨v,O⟩:=LE (ldW h.ar.W (cS ((i:Int)+1)));have HX:Kq (ah nd.length (ndf nd) bud h i (⟨11,a,b,z⟩:Sp)=(af h.ar (cS ((i:Int)+1)),h.wk,(⟨12,a,v,z⟩:Sp))):=qh (by rw[Jh rfl,O]<;>rfl);have HF:=qh (λW (k:ao W c cap bud nd h)=>pv k ((i:Int)+1) ahB);have HO:=λW (k:ao W c cap bud nd h)=>aD k.ar (cS ((i:Int)+1)) V;rw[<-O]at HO;replace HO:=qh HO;clear O;have HJ:=qh (λW H (k:ao W c cap bud nd ⟨H,h.wk,h.S⟩)=>k.putS (p':=(⟨11,a,v,z⟩:Sp)) hp (j:=2) (v:= J v) ahD rfl);have HPN:=fun(q:i<h.S.length)=>show(h.S.set i (⟨11,a,v,z⟩:Sp))[i]? =some (⟨11,a,v,z⟩:Sp)by simp[q]
  exact cwB
def AE(k:ao w c cap bud nd h)(i:Nat)(hin:i<nd.length)(a b z:Int)(hp:h.S[i]? =some (⟨12,a,b,z⟩:Sp))(V:h.ar.ops+1<=1000000000000):E 316 #[↑c.l,pointer (some ⟨c.q,i*4,none⟩),J ((i:Int)+1)] w (eU w c cap bud nd h i (⟨12,a,b,z⟩:Sp) (ah nd.length (ndf nd) bud h i (⟨12,a,b,z⟩:Sp))):=by
  refine ajC ?_;intro hn e0;obtain⟨ab,mb⟩:=LE (af h.ar (cN ((i:Int)+1)));obtain⟨v,O⟩:=LE (ldW h.ar.W (cN ((i:Int)+1)));have HX:Kq (ah nd.length (ndf nd) bud h i (⟨12,a,b,z⟩:Sp)=(ab,h.wk,(⟨if v≠0 then 17 else if 0<b then 14 else 13,v,b,z⟩:Sp))):=qh (by rw[Ji rfl,mb,O]<;>rfl);have HF:=qh (λW (k:ao W c cap bud nd h)=>mV k ((i:Int)+1) ahB);have i':=(λW (k:ao W c cap bud nd h)=>aD k.ar (cN ((i:Int)+1)) V);rw[<-mb,<-O]at i';have HO:=qh i';have HC:=qh (λW (h:Cn) (u:Int) (k:ao W c cap bud nd h) (hp:h.S[i]? =some (⟨12,u,b,z⟩:Sp))=>k.l0);refine ai3 ?_;intro HP HL K1;clear i' k hp mb O;have Mm:=qh (λw b x y v O=>qy w b x y v O);obtain⟨t,ht⟩:=LE (decide (0<b));obtain⟨r,I⟩:=LE ((v !=0));obtain⟨q1,Qe⟩:∃x:Int,x=if t then 14 else 13:=⟨_,rfl⟩
  obtain⟨q2,PJ⟩:∃x:Int,x=if r then 17 else q1:=⟨_,rfl⟩
  have HQ:Kq ((if v≠0 then 17 else if 0<b then 14 else 13:Int)=q2):=qh (by
    rw[PJ,Qe,I,ht];by_cases Y:v=0
    . by_cases e2:0<b;. simp[Y,e2]
      . simp[Y,e2]
    . simp[Y])
  have Ye:=qh Qe;have Yf:=qh PJ;have HR:=qh I;have HT:=qh ht;clear Qe PJ I ht;go_enter func316,ntmps316;go_wp2_with fail
  go_region_held3 (λW=>W.cell? c.l=some ↑c.a)
    (first|with_reducible exact HC.o _ _ _ K1.o HP.o|with_reducible exact HC.o _ _ _ H.o HP.o|with_reducible exact Lf.o)
    (first
      | (go_at_call 146;go_loud (refine LT (HF.o _ K1.o) ?_))
      | (go_at_call 173;go_loud (refine Op (HO.o _ K1.o) λw3 a3=>?_);have H:=qh (K1.o.op a3.o.2 a3.o.1);have T2:=qh (((aa.refl [c.a,c.g,c.q,c.k] w).drew).trans (a3.o.2.mono (T:=[c.a,c.g,c.q,c.k]) ahC));have K3:=qh (H.o.putS (p':=(⟨12,v,b,z⟩:Sp)) HP.o (j:=1) (v:= J v) ahD rfl);have Lf:=qh (HC.o _ _ v K3.o ah7);have Y:=H.o.sp.cell HP.o 1 _ rfl;have z1:=H.o.sp.free (i*4+1)))
  all_goals
    have e3:=K3.o.sp.cell (i:=i) (p:=⟨12,v,b,z⟩) ah7 2 _ rfl;have g1:=HT.o.symm;have g2:=HR.o.symm;go_wp2
    go_quiet ((first
      | (go_at_call 320;exact bK (Mm.o _ _ _ _ _ Ye.o))
      | (go_at_call 320;exact bK (Mm.o _ _ _ _ _ Yf.o))))
    go_wp2;go_ret;rw[HX.o];exact⟨aU HQ.o.symm,K3.o.below (Qt.below ⟨_,rfl⟩ _),(T2.o.trans (dw ⟨c.q,i*4+1,none⟩ _ rfl)).trans (aa.of_qt ⟨_,rfl⟩)⟩
def AF(k:ao w c cap bud nd h)(i:Nat)(hin:i<nd.length)(a b z:Int)(hp:h.S[i]? =some (⟨13,a,b,z⟩:Sp))(V:h.ar.ops+1<=1000000000000):E 316 #[↑c.l,pointer (some ⟨c.q,i*4,none⟩),J ((i:Int)+1)] w (eU w c cap bud nd h i (⟨13,a,b,z⟩:Sp) (ah nd.length (ndf nd) bud h i (⟨13,a,b,z⟩:Sp))):=by
  refine ajC ?_;intro hn e0;obtain⟨ab,mb⟩:=LE (dX h.ar 1 ((i:Int)+1) 0);obtain⟨v,O⟩:=LE (cJ h.ar 1 ((i:Int)+1));have HX:Kq (ah nd.length (ndf nd) bud h i (⟨13,a,b,z⟩:Sp)=(ab,h.wk,(⟨if v then 0 else 16,a,b,z⟩:Sp))):=qh (by rw[Jj rfl,mb,O]<;>rfl);have i':=(λW (k:ao W c cap bud nd h)=>jn k.ar 1 ((i:Int)+1) 0 V);rw[<-mb,<-O]at i';have HO:=qh i';have Y:=qh (λW (h:Cn) (k:ao W c cap bud nd h) (hp:h.S[i]? =some (⟨13,a,b,z⟩:Sp))=>And.intro k.l0 k.l1);refine ai3 ?_;intro HP HL K1;clear i' k hp mb O;have Mm:=qh (λw b x y v O=>qy w b x y v O);cases v
  . go_enter func316,ntmps316;go_wp2_with fail
    go_region_held3 (λW=>W.cell? c.l=some ↑c.a/\Z W c.l 1 (J 1))
      (first|with_reducible exact Y.o _ _ K1.o HP.o|with_reducible exact Y.o _ _ I.o HP.o)
      (first
        | (go_at_call 320;go_loud (refine LT (Mm.o _ false 0 16 16 rfl) ?_))
        | (go_at_call 272;go_loud (refine Op (HO.o _ K1.o) λw3 H=>?_);have I:=qh (K1.o.op H.o.2 H.o.1);have T2:=qh (((aa.refl [c.a,c.g,c.q,c.k] w).drew).trans (H.o.2.mono (T:=[c.a,c.g,c.q,c.k]) ahC))))
    all_goals go_wp2;go_ret;rw[HX.o];exact⟨rfl,I.o.samS HP.o,T2.o⟩
  . go_enter func316,ntmps316;go_wp2_with fail
    go_region_held3 (λW=>W.cell? c.l=some ↑c.a/\Z W c.l 1 (J 1))
      (first|with_reducible exact Y.o _ _ K1.o HP.o|with_reducible exact Y.o _ _ I.o HP.o)
      (first
        | (go_at_call 320;go_loud (refine LT (Mm.o _ true 0 16 0 rfl) ?_))
        | (go_at_call 272;go_loud (refine Op (HO.o _ K1.o) λw3 H=>?_);have I:=qh (K1.o.op H.o.2 H.o.1);have T2:=qh (((aa.refl [c.a,c.g,c.q,c.k] w).drew).trans (H.o.2.mono (T:=[c.a,c.g,c.q,c.k]) ahC))))
    all_goals go_wp2;go_ret;rw[HX.o];exact⟨rfl,I.o.samS HP.o,T2.o⟩
def AG(k:ao w c cap bud nd h)(i:Nat)(hin:i<nd.length)(a b z:Int)(hp:h.S[i]? =some (⟨14,a,b,z⟩:Sp))(V:h.ar.ops+1<=1000000000000)(hb:-5<=b/\b<=100000):E 316 #[↑c.l,pointer (some ⟨c.q,i*4,none⟩),J ((i:Int)+1)] w (eU w c cap bud nd h i (⟨14,a,b,z⟩:Sp) (ah nd.length (ndf nd) bud h i (⟨14,a,b,z⟩:Sp))):=by
  obtain⟨v,O⟩:=LE (ldW h.ar.W (cL b));have HX:Kq (ah nd.length (ndf nd) bud h i (⟨14,a,b,z⟩:Sp)=(af h.ar (cL b),h.wk,(⟨15,a,b,v⟩:Sp))):=qh (by rw[Jk rfl,O]<;>rfl);refine ajW ?_;intro HF HO;rw[<-O]at HO;replace HO:=qh HO;clear O;have HJ:=qh (λW H (k:ao W c cap bud nd ⟨H,h.wk,h.S⟩)=>k.putS (p':=(⟨14,a,b,v⟩:Sp)) hp (j:=3) (v:= J v) ahD rfl);have HPN:=fun(q:i<h.S.length)=>show(h.S.set i (⟨14,a,b,v⟩:Sp))[i]? =some (⟨14,a,b,v⟩:Sp)by simp[q]
  exact cwZ
def AH(k:ao w c cap bud nd h)(i:Nat)(hin:i<nd.length)(a b z:Int)(hp:h.S[i]? =some (⟨15,a,b,z⟩:Sp))(V:h.ar.ops+1<=1000000000000):E 316 #[↑c.l,pointer (some ⟨c.q,i*4,none⟩),J ((i:Int)+1)] w (eU w c cap bud nd h i (⟨15,a,b,z⟩:Sp) (ah nd.length (ndf nd) bud h i (⟨15,a,b,z⟩:Sp))):=by
  refine ajC ?_;intro hn e0;obtain⟨ab,mb⟩:=LE (dX h.ar 1 ((i:Int)+1) z);obtain⟨v,O⟩:=LE (cJ h.ar 1 ((i:Int)+1));have HX:Kq (ah nd.length (ndf nd) bud h i (⟨15,a,b,z⟩:Sp)=(ab,h.wk,(⟨if v then 28 else 16,a,b,z⟩:Sp))):=qh (by rw[Jl rfl,mb,O]<;>rfl);have i':=(λW (k:ao W c cap bud nd h)=>jn k.ar 1 ((i:Int)+1) z V);rw[<-mb,<-O]at i';have HO:=qh i';have Y:=qh (λW (h:Cn) (k:ao W c cap bud nd h) (hp:h.S[i]? =some (⟨15,a,b,z⟩:Sp))=>And.intro k.l0 (And.intro k.l1 (k.sp.cell hp 3 _ rfl)));refine ai3 ?_;intro HP HL K1;clear i' k hp mb O;have Mm:=qh (λw b x y v O=>qy w b x y v O);cases v
  . go_enter func316,ntmps316;go_wp2_with fail
    go_region_held3 (λW=>W.cell? c.l=some ↑c.a/\Z W c.l 1 (J 1)/\Z W c.q (i*4+3) (J z))
      (first|with_reducible exact Y.o _ _ K1.o HP.o|with_reducible exact Y.o _ _ I.o HP.o)
      (first
        | (go_at_call 320;go_loud (refine LT (Mm.o _ false 28 16 16 rfl) ?_))
        | (go_at_call 272;go_loud (refine Op (HO.o _ K1.o) λw3 H=>?_);have I:=qh (K1.o.op H.o.2 H.o.1);have T2:=qh (((aa.refl [c.a,c.g,c.q,c.k] w).drew).trans (H.o.2.mono (T:=[c.a,c.g,c.q,c.k]) ahC))))
    all_goals go_wp2;go_ret;rw[HX.o];exact⟨rfl,I.o.samS HP.o,T2.o⟩
  . go_enter func316,ntmps316;go_wp2_with fail
    go_region_held3 (λW=>W.cell? c.l=some ↑c.a/\Z W c.l 1 (J 1)/\Z W c.q (i*4+3) (J z))
      (first|with_reducible exact Y.o _ _ K1.o HP.o|with_reducible exact Y.o _ _ I.o HP.o)
      (first
        | (go_at_call 320;go_loud (refine LT (Mm.o _ true 28 16 28 rfl) ?_))
        | (go_at_call 272;go_loud (refine Op (HO.o _ K1.o) λw3 H=>?_);have I:=qh (K1.o.op H.o.2 H.o.1);have T2:=qh (((aa.refl [c.a,c.g,c.q,c.k] w).drew).trans (H.o.2.mono (T:=[c.a,c.g,c.q,c.k]) ahC))))
    all_goals go_wp2;go_ret;rw[HX.o];exact⟨rfl,I.o.samS HP.o,T2.o⟩
def AI(k:ao w c cap bud nd h)(i:Nat)(hin:i<nd.length)(a b z:Int)(hp:h.S[i]? =some (⟨16,a,b,z⟩:Sp))(V:h.ar.ops+1<=1000000000000):E 316 #[↑c.l,pointer (some ⟨c.q,i*4,none⟩),J ((i:Int)+1)] w (eU w c cap bud nd h i (⟨16,a,b,z⟩:Sp) (ah nd.length (ndf nd) bud h i (⟨16,a,b,z⟩:Sp))):=by
  refine ajC ?_;intro hn e0;obtain⟨ab,mb⟩:=LE (af h.ar (cN ((i:Int)+1)));obtain⟨v,O⟩:=LE (ldW h.ar.W (cN ((i:Int)+1)));have HX:Kq (ah nd.length (ndf nd) bud h i (⟨16,a,b,z⟩:Sp)=(ab,h.wk,(⟨if v≠0 then 17 else 16,v,b,z⟩:Sp))):=qh (by rw[Jm rfl,mb,O]<;>rfl);have HF:=qh (λW (k:ao W c cap bud nd h)=>mV k ((i:Int)+1) ahB);have i':=(λW (k:ao W c cap bud nd h)=>aD k.ar (cN ((i:Int)+1)) V);rw[<-mb,<-O]at i';have HO:=qh i';have Y:=qh (λW (h:Cn) (u:Int) (k:ao W c cap bud nd h) (hp:h.S[i]? =some (⟨16,u,b,z⟩:Sp))=>k.l0);refine ai3 ?_;intro HP HL K1;clear i' k hp mb O;have Mm:=qh (λw b x y v O=>qy w b x y v O);by_cases I:v≠0
  all_goals
    have t0:(v !=0)=decide (v≠0):=(by by_cases h:v=0<;>simp[h]);first| rw[decide_eq_true I]at t0| rw[decide_eq_false I]at t0
    have HV:=qh I;clear I;go_enter func316,ntmps316;go_wp2_with fail
    go_region_held3 (λW=>W.cell? c.l=some ↑c.a)
      (first|with_reducible exact Y.o _ _ _ K1.o HP.o|with_reducible exact Y.o _ _ _ H.o HP.o|with_reducible exact Lf.o)
      (first
        | (go_at_call 146;go_loud (refine LT (HF.o _ K1.o) ?_))
        | (go_at_call 173;go_loud (refine Op (HO.o _ K1.o) λw3 a3=>?_);have H:=qh (K1.o.op a3.o.2 a3.o.1);have T2:=qh (((aa.refl [c.a,c.g,c.q,c.k] w).drew).trans (a3.o.2.mono (T:=[c.a,c.g,c.q,c.k]) ahC));have K3:=qh (H.o.putS (p':=(⟨16,v,b,z⟩:Sp)) HP.o (j:=1) (v:= J v) ahD rfl);have Lf:=qh (Y.o _ _ v K3.o ah7);have e1:=H.o.sp.cell HP.o 1 _ rfl;have z1:=H.o.sp.free (i*4+1)))
    all_goals
      go_wp2_with fail;first| refine(Mm.o _ true 17 16 17 rfl).mono ?_| refine(Mm.o _ false 17 16 16 rfl).mono ?_
      rintro en w5 ⟨rfl,rfl⟩;go_wp2;go_ret;rw[HX.o];first| exact⟨by rw[if_pos HV.o];rfl,K3.o,T2.o.trans (dw ⟨c.q,i*4+1,none⟩ _ rfl)⟩| exact⟨by rw[if_neg HV.o];rfl,K3.o,T2.o.trans (dw ⟨c.q,i*4+1,none⟩ _ rfl)⟩
end
end
section
open Go.RowKit
section
variable{c:Cx}{h:Cn}
def FA(w:World)(c:Cx)(cap:Nat)(bud:Int)(nd:List Int)(ar':Ar)(LM:Wk)(S:List Sp)(e:Ending)(w':World):Prop:=
 e= returned (bool (!LM.way))/\ao w' c cap bud nd ⟨ar',LM,S⟩/\aa [c.a,c.g,c.q,c.k] w w'
def GY(k:ao w c cap bud nd h)(V:h.ar.ops+1<=1000000000000)(Ql:h.wk.way=true)(hp:0<=h.wk.passed/\h.wk.passed<=32)(hl:-5<=h.wk.last/\h.wk.last<=100000):E 324 #[↑c.k] w (FA w c cap bud nd (af h.ar (cN h.wk.last)) (dR nd.length (ndf nd) h.wk (ldW h.ar.W (cN h.wk.last))) h.S):=by
  obtain⟨v,O⟩:=LE (ldW h.ar.W (cN h.wk.last));obtain⟨al,mb⟩:=LE (af h.ar (cN h.wk.last));obtain⟨LM,Nj⟩:=LE (dR nd.length (ndf nd) h.wk v);have HO:=qh (I1 k.wk);rw[Ql]at HO;have KZ:=λW (k:ao W c cap bud nd h)=>Du k h.wk.last hl V;rw[<-O,<-mb]at KZ;have HB:=qh KZ;have No:=λW (k:cW W c.k c.n1 (vc c) nd h.wk)=>C7 k hp v;rw[<-Nj]at No;have HT:=qh No;have H:=qh (λW (k:cW W c.k c.n1 (vc c) nd h.wk)=>And.intro k.c0 k.c5);rw[<-O,<-mb,<-Nj];have K0:=qh k;have I:=qh (k.below ((Below.refl _ w).drew));obtain⟨ab,Y⟩:=LE h.wk.last;have ad:=qh Y;rw[<-Y]at HB;have U6:=H;have H:=qh (show ∀W,cW W c.k c.n1 (vc c) nd h.wk->W.cell? c.k=some (.func (.func 172) #[] #[↑c.b0,↑c.b1,↑c.b2])/\W.cell? ⟨c.k,5,none⟩=some (J ab)from λW k=>by rw[Y];exact U6.o W k);clear KZ No U6 O mb Nj hp hl k Ql Y;go_enter func324,ntmps324;go_wp2_with fail;refine LT HO.o ?_;go_wp2_with fail;have k0:=(H.o _ I.o.wk).1;have k5:=(H.o _ I.o.wk).2
  go_region_with
    (first
      | (go_at_call 172;go_loud (refine Op (HB.o _ I.o) λw2 a2=>?_);have K2:=qh (I.o.op a2.o.2 a2.o.1);have T2:=qh (((aa.refl [c.a,c.g,c.q,c.k] w).drew).trans (a2.o.2.mono (T:=[c.a,c.g,c.q,c.k]) ahC)))
      | (go_at_call 327;go_loud (refine Op (HT.o _ K2.o.wk) λw3 k3=>?_);have K3:=qh (And.intro (K2.o.walk k3.o.1 k3.o.2) (T2.o.trans (k3.o.2.mono (T:=[c.a,c.g,c.q,c.k]) ahC)))))
  all_goals go_wp2;go_ret;exact⟨rfl,K3.o.1,K3.o.2⟩
end
end
section
open Go.RowKit
def iH{P:Program}{a:Act}{c rest:Code}(l:Nat)(hf:findLabel c l=some rest)(first:c.wp P (Exit.jump l (λa' w'=>rest.wp P (Exit.noGoto Q) a' w') Q) a w):(Code.scope c).wp P Q a w:=by exact abk
def tD{h:Act->World->Prop}{l:Nat}{a:Act}:Exit.jump l h Q .ret a w=Q .ret a w:=rfl
section
variable{c:Cx}{h:Cn}
def yH(k:ao w c cap bud nd h)(i:Nat)(a b z:Int)(hp:h.S[i]? =some (⟨18,a,b,z⟩:Sp))(V:h.ar.ops+1<=1000000000000)(Ql:h.wk.way=true)(WT:0<=h.wk.passed/\h.wk.passed<=32)(hl:-5<=h.wk.last/\h.wk.last<=100000):E 317 #[↑c.l,pointer (some ⟨c.q,i*4,none⟩),J ((i:Int)+1)] w (eU w c cap bud nd h i (⟨18,a,b,z⟩:Sp) (ah nd.length (ndf nd) bud h i (⟨18,a,b,z⟩:Sp))):=by
  have e0:=ST (k.sp.cell hp 0 _ rfl);have l4:=k.l4;obtain⟨ab,mb⟩:=LE (af h.ar (cN h.wk.last));obtain⟨I,Nj⟩:=LE (dR nd.length (ndf nd) h.wk (ldW h.ar.W (cN h.wk.last)));have HX:Kq (ah nd.length (ndf nd) bud h i (⟨18,a,b,z⟩:Sp)=(ab,I,if I.way then(⟨18,a,b,z⟩:Sp)else if I.found≠0 then⟨19,a,b,z⟩else eI ⟨18,a,b,z⟩)):=qh (by rw[Jo rfl Ql,mb,Nj]);have Lh:=GY k V Ql WT hl;rw[<-mb,<-Nj]at Lh;have HW:=qh Lh;have HP:=qh hp;clear Lh k hp mb Nj Ql WT hl V;go_enter func317,ntmps317;go_wp2;refine iH 0 rfl ?_;go_wp2;go_step3;refine⟨rfl,?_⟩;go_wp2_with fail;refine Op HW.o λw1 k1=>?_;have H:=qh (And.intro k1.o.1 k1.o.2);have KS:=qh (k1.o.1.samS HP.o);have d4:=k1.o.1.l4;have d2:=k1.o.1.sp.cell HP.o 2 _ rfl;clear e0 l4;cases Nk:I.way
  . have Y:=qh Nk;by_cases O:I.found=0
    . have t0:(I.found !=0)=false:=(by simpa using O);have HF:=qh O;clear O Nk;by_cases hb:0<b;. have HB:=qh hb;go_wp2_with fail;refine LT (q8 H.o.1.wk) ?_;go_wp2;go_step3;go_wp2;rw[Exit.noGoto_ret];go_ret;rw[HX.o,Y.o,if_neg ahD,if_neg (λh=>h HF.o)];exact⟨by unfold eI;rw[if_pos HB.o];rfl,by unfold eI;exact KS.o,H.o.2⟩
      . have HB:=qh hb;go_wp2_with fail;refine LT (q8 H.o.1.wk) ?_;go_wp2;go_step3;go_wp2;rw[Exit.noGoto_ret];go_ret;rw[HX.o,Y.o,if_neg ahD,if_neg (λh=>h HF.o)];exact⟨by unfold eI;rw[if_neg (show ¬0<b by have:=HB.o;omega)];rfl,by unfold eI;exact KS.o,H.o.2⟩
    . have t0:(I.found !=0)=true:=(by simpa using O);have HF:=qh O;clear O Nk;go_wp2_with fail;refine LT (q8 H.o.1.wk) ?_;go_wp2;rw[Exit.noGoto_ret];go_ret;rw[HX.o,Y.o,if_neg ahD,if_pos HF.o];exact⟨rfl,KS.o,H.o.2⟩
  . have Y:=qh Nk;clear Nk;go_wp2;rw[Exit.noGoto_ret];go_ret;rw[HX.o,Y.o,if_pos rfl];exact⟨rfl,KS.o,H.o.2⟩
def yG(k:ao w c cap bud nd h)(i:Nat)(hin:i<nd.length)(a b z:Int)(hp:h.S[i]? =some (⟨17,a,b,z⟩:Sp))(V:h.ar.ops+1<=1000000000000):E 317 #[↑c.l,pointer (some ⟨c.q,i*4,none⟩),J ((i:Int)+1)] w (eU w c cap bud nd h i (⟨17,a,b,z⟩:Sp) (ah nd.length (ndf nd) bud h i (⟨17,a,b,z⟩:Sp))):=by
  obtain⟨_,hn⟩:=k.n32;have MK:(i:Int)<nd.length:=by omega
  have Ul:i<nd.length:=hin;have x7:IntKind.i64.wrap (i:Int)=(i:Int):=IntWalk.i64_in _ ahB;have e0:=ST (k.sp.cell hp 0 _ rfl);obtain⟨ab,mb⟩:=LE (af h.ar 2);obtain⟨v,O⟩:=LE (ldW h.ar.W 2);obtain⟨LM,Nj⟩:=LE (gV nd.length (ndf nd) h.wk a (ndf nd i));have HX:Kq (ah nd.length (ndf nd) bud h i (⟨17,a,b,z⟩:Sp)=if bud<=v then(ab,h.wk,eI ⟨17,a,b,v⟩)else(ab,LM,(⟨if LM.way then 18 else 23,a,b,v⟩:Sp))):=qh (by rw[Jn rfl,mb,O,Nj]);have HF:=qh (λW (k:ao W c cap bud nd h)=>qY k);have i':=(λW (k:ao W c cap bud nd h)=>aD k.ar 2 V);rw[<-mb,<-O]at i';have HO:=qh i';have HC:=qh (λW (h:Cn) (k:ao W c cap bud nd h)=>k.l0);refine ai3 ?_;intro HP HL K1;obtain⟨nv,OS⟩:=LE (ndf nd i);have TA:=λW (k:cW W c.k c.n1 (vc c) nd h.wk)=>Dt k a (ndf nd i);rw[<-Nj,<-OS]at TA;have YD:=qh TA
  have RN:=qh (show ∀W (ar:Ar) (wk:Wk),ao W c cap bud nd ⟨ar,wk,h.S.set i ⟨17,a,b,v⟩⟩->Z W c.l 3 (slice (some ⟨c.nb,0,none⟩) nd.length cap)/\Z W c.l 4 ↑c.k/\Z W c.q (i*4+1) (J a)/\W.cell? ⟨c.nb,i,none⟩=some (J nv)from λW ar wk k=>
    ⟨k.l3,k.l4,k.sp.cell (i:=i) (p:=⟨17,a,b,v⟩) ah7 1 _ rfl,by rw[OS];exact k.row i hin⟩)
  clear i' TA k hp mb O Nj OS;by_cases Wc:bud<=v
  . have Qv:=qh Wc;go_enter func317,ntmps317;go_wp2;refine iH 1 rfl ?_;go_wp2_with fail
    go_region_held3 (λW=>W.cell? c.l=some ↑c.a)
      (first|with_reducible exact HC.o _ _ K1.o|with_reducible exact HC.o _ _ I.o|with_reducible exact HC.o _ _ H.o)
      (first
        | (go_at_call 322;go_loud (refine LT (HF.o _ K1.o) ?_))
        | (go_at_call 173;go_loud (refine Op (HO.o _ K1.o) λw3 Y=>?_);have I:=qh (K1.o.op Y.o.2 Y.o.1);have T2:=qh (((aa.refl [c.a,c.g,c.q,c.k] w).drew).trans (Y.o.2.mono (T:=[c.a,c.g,c.q,c.k]) ahC));have H:=qh (I.o.putS (p':=(⟨17,a,b,v⟩:Sp)) HP.o (j:=3) (v:= J v) ahD rfl);have e1:=I.o.sp.cell HP.o 3 _ rfl;have z1:=I.o.sp.free (i*4+3)))
    all_goals
      have T3:=qh (T2.o.trans (dw ⟨c.q,i*4+3,none⟩ (J v) rfl));have Qb:(h.S.set i (⟨17,a,b,v⟩:Sp))[i]? =some (⟨17,a,b,v⟩:Sp):=(by simp[HL.o]);have l2:=H.o.l2;have s2:=H.o.sp.cell Qb 2 _ rfl;have s3:=H.o.sp.cell Qb 3 _ rfl;clear Qb e1 z1 e0;go_wp2_with fail;go_quiet (fail);go_wp2;go_step3;refine⟨rfl,?_⟩;by_cases Pe:0<b;. have HB:=qh Pe;go_wp2;rw[Exit.noGoto_ret];go_ret;rw[HX.o,if_pos Qv.o];exact⟨by unfold eI;rw[if_pos HB.o];rfl,by unfold eI;exact H.o.below (Qt.below ⟨_,rfl⟩ _),T3.o.trans (aa.of_qt ⟨_,rfl⟩)⟩
      . have HB:=qh Pe;go_wp2;rw[Exit.noGoto_ret];go_ret;rw[HX.o,if_pos Qv.o];exact⟨by unfold eI;rw[if_neg (show ¬0<b by have:=HB.o;omega)];rfl,by unfold eI;exact H.o.below (Qt.below ⟨_,rfl⟩ _),T3.o.trans (aa.of_qt ⟨_,rfl⟩)⟩
  . have Qv:=qh Wc;go_enter func317,ntmps317;go_wp2;refine iH 1 rfl ?_;go_wp2_with fail
    go_region_held3 (λW=>W.cell? c.l=some ↑c.a)
      (first|with_reducible exact HC.o _ _ K1.o|with_reducible exact HC.o _ _ I.o|with_reducible exact HC.o _ _ H.o)
      (first
        | (go_at_call 322;go_loud (refine LT (HF.o _ K1.o) ?_))
        | (go_at_call 173;go_loud (refine Op (HO.o _ K1.o) λw3 Y=>?_);have I:=qh (K1.o.op Y.o.2 Y.o.1);have T2:=qh (((aa.refl [c.a,c.g,c.q,c.k] w).drew).trans (Y.o.2.mono (T:=[c.a,c.g,c.q,c.k]) ahC));have H:=qh (I.o.putS (p':=(⟨17,a,b,v⟩:Sp)) HP.o (j:=3) (v:= J v) ahD rfl);have e1:=I.o.sp.cell HP.o 3 _ rfl;have z1:=I.o.sp.free (i*4+3)))
    all_goals
      have T3:=qh (T2.o.trans (dw ⟨c.q,i*4+3,none⟩ (J v) rfl));have Qb:(h.S.set i (⟨17,a,b,v⟩:Sp))[i]? =some (⟨17,a,b,v⟩:Sp):=(by simp[HL.o]);have l2:=H.o.l2;have s3:=H.o.sp.cell Qb 3 _ rfl;obtain⟨wm,Xd⟩:=LE (w3.setCell ⟨c.q,i*4+3,none⟩ (J v));rw[<-Xd]at H T3 l2 s3 ⊢;clear Qb e1 z1 e0 Xd;go_wp2_with fail;go_quiet (fail);go_wp2_with fail;have K4:=qh ((H.o.below (Qt.below (w':=wm.drewN nq) ⟨_,rfl⟩ _)).below ((Below.refl _ _).drew));have T4:=qh ((T3.o.trans (aa.of_qt (b:=wm.drewN nq) ⟨_,rfl⟩)).drew)
      go_region_held3 (λW=>Z W c.l 3 (slice (some ⟨c.nb,0,none⟩) nd.length cap)/\Z W c.l 4 ↑c.k/\Z W c.q (i*4+1) (J a)/\Z W c.nb i (J nv))
        (first|with_reducible exact RN.o _ _ _ K4.o|with_reducible exact RN.o _ _ _ K5.o)
        (first
          | (go_at_call 323;go_loud (refine Op (YD.o _ K4.o.wk) λw5 k5=>?_);have K5:=qh (K4.o.walk k5.o.1 k5.o.2);have T5:=qh (T4.o.trans (k5.o.2.mono (T:=[c.a,c.g,c.q,c.k]) ahC))))
      all_goals
        cases Nk:LM.way;. have HY:=qh Nk;clear Nk;go_wp2;rw[tD];go_ret;rw[HX.o,if_neg (show ¬bud<=v by have:=Qv.o;omega),HY.o,if_neg ahD];exact⟨rfl,K5.o,T5.o⟩
        . have HY:=qh Nk;clear Nk;go_wp2;rw[tD];go_ret;rw[HX.o,if_neg (show ¬bud<=v by have:=Qv.o;omega),HY.o,if_pos rfl];exact⟨rfl,K5.o,T5.o⟩
end
end
section
open Go.RowKit
section
variable{c:Cx}{h:Cn}
def vi(k:ao w c cap bud nd h)(i:Nat)(hin:i<nd.length)(a b z:Int)(hp:h.S[i]? =some (⟨19,a,b,z⟩:Sp))(V:h.ar.ops+1<=1000000000000)(hl:-5<=h.wk.last/\h.wk.last<=100000)(Kk:decide (0<b)=true):E 318 #[↑c.l,pointer (some ⟨c.q,i*4,none⟩)] w (eU w c cap bud nd h i (⟨19,a,b,z⟩:Sp) (ah nd.length (ndf nd) bud h i (⟨19,a,b,z⟩:Sp))):=by
  refine ajC ?_;intro hn e0;obtain⟨ab,Y⟩:=LE (ae h.ar (cN h.wk.last) 0);have HX:Kq (ah nd.length (ndf nd) bud h i (⟨19,a,b,z⟩:Sp)=(ab,h.wk,(⟨20,a,b,z⟩:Sp))):=qh (by rw[Fo rfl,Y];simp at Kk;simp[Kk]);have HF:=qh (λW (k:ao W c cap bud nd h)=>mV k h.wk.last (by exact hl));have O:=(λW (k:ao W c cap bud nd h)=>an k.ar (cN h.wk.last) 0 V);rw[<-Y]at O;have HO:=qh O;have HC:=qh (λW (h:Cn) (k:ao W c cap bud nd h) (hp:h.S[i]? =some (⟨19,a,b,z⟩:Sp))=>And.intro k.l0 k.l4);refine ai3 ?_;intro HP HL K1;have HW:=qh (λW (k:ao W c cap bud nd h)=>vJ k.wk);clear O k hp Y;go_enter func318,ntmps318;go_wp2_with fail
  go_region_held3 (λW=>W.cell? c.l=some ↑c.a/\Z W c.l 4 ↑c.k)
    (first|with_reducible exact HC.o _ _ K1.o HP.o|with_reducible exact HC.o _ _ H.o HP.o)
    (first
      | (go_at_call 146;go_loud (refine LT (HF.o _ K1.o) ?_))
      | (go_at_call 326;go_loud (refine LT (HW.o _ K1.o) ?_))
      | (go_at_call 177;go_loud (refine Op (HO.o _ K1.o) λw3 I=>?_);have H:=qh (K1.o.op I.o.2 I.o.1);have T2:=qh (((aa.refl [c.a,c.g,c.q,c.k] w).drew).trans (I.o.2.mono (T:=[c.a,c.g,c.q,c.k]) ahC))))
  all_goals have e3:=H.o.sp.cell HP.o 2 _ rfl;have e4:=H.o.sp.cell HP.o 1 _ rfl;have z3:=H.o.sp.free (i*4+2);go_wp2;go_ret;rw[HX.o];exact⟨rfl,H.o.samS HP.o,T2.o⟩
def vh(k:ao w c cap bud nd h)(i:Nat)(hin:i<nd.length)(a b z:Int)(hp:h.S[i]? =some (⟨19,a,b,z⟩:Sp))(V:h.ar.ops+1<=1000000000000)(hl:-5<=h.wk.last/\h.wk.last<=100000)(Kk:decide (0<b)=false):E 318 #[↑c.l,pointer (some ⟨c.q,i*4,none⟩)] w (eU w c cap bud nd h i (⟨19,a,b,z⟩:Sp) (ah nd.length (ndf nd) bud h i (⟨19,a,b,z⟩:Sp))):=by
  refine ajC ?_;intro hn e0;obtain⟨ab,Y⟩:=LE (ae h.ar (cN h.wk.last) 0);have HX:Kq (ah nd.length (ndf nd) bud h i (⟨19,a,b,z⟩:Sp)=(ab,h.wk,(⟨22,a,a,z⟩:Sp))):=qh (by rw[Fo rfl,Y];simp at Kk;simp[Kk]);have HF:=qh (λW (k:ao W c cap bud nd h)=>mV k h.wk.last (by exact hl));have O:=(λW (k:ao W c cap bud nd h)=>an k.ar (cN h.wk.last) 0 V);rw[<-Y]at O;have HO:=qh O;have HC:=qh (λW (h:Cn) (k:ao W c cap bud nd h) (hp:h.S[i]? =some (⟨19,a,b,z⟩:Sp))=>And.intro k.l0 k.l4);refine ai3 ?_;intro HP HL K1;have HW:=qh (λW (k:ao W c cap bud nd h)=>vJ k.wk);clear O k hp Y;go_enter func318,ntmps318;go_wp2_with fail
  go_region_held3 (λW=>W.cell? c.l=some ↑c.a/\Z W c.l 4 ↑c.k)
    (first|with_reducible exact HC.o _ _ K1.o HP.o|with_reducible exact HC.o _ _ H.o HP.o)
    (first
      | (go_at_call 146;go_loud (refine LT (HF.o _ K1.o) ?_))
      | (go_at_call 326;go_loud (refine LT (HW.o _ K1.o) ?_))
      | (go_at_call 177;go_loud (refine Op (HO.o _ K1.o) λw3 I=>?_);have H:=qh (K1.o.op I.o.2 I.o.1);have T2:=qh (((aa.refl [c.a,c.g,c.q,c.k] w).drew).trans (I.o.2.mono (T:=[c.a,c.g,c.q,c.k]) ahC))))
  all_goals have e3:=H.o.sp.cell HP.o 2 _ rfl;have e4:=H.o.sp.cell HP.o 1 _ rfl;have z3:=H.o.sp.free (i*4+2);go_wp2;go_ret;rw[HX.o];exact⟨rfl,H.o.putS (p':=(⟨19,a,a,z⟩:Sp)) HP.o (j:=2) (v:= J a) ahD rfl,T2.o.trans (dw ⟨c.q,i*4+2,none⟩ _ rfl)⟩
def yv(k:ao w c cap bud nd h)(i:Nat)(hin:i<nd.length)(a b z:Int)(hp:h.S[i]? =some (⟨20,a,b,z⟩:Sp))(V:h.ar.ops+1<=1000000000000)(hb:-5<=b/\b<=100000):E 318 #[↑c.l,pointer (some ⟨c.q,i*4,none⟩)] w (eU w c cap bud nd h i (⟨20,a,b,z⟩:Sp) (ah nd.length (ndf nd) bud h i (⟨20,a,b,z⟩:Sp))):=by
  obtain⟨v,O⟩:=LE (ldW h.ar.W (cL b));have HX:Kq (ah nd.length (ndf nd) bud h i (⟨20,a,b,z⟩:Sp)=(af h.ar (cL b),h.wk,(⟨21,a,b,v⟩:Sp))):=qh (by rw[Jp rfl,O]<;>rfl);refine ajW ?_;intro HF HO;rw[<-O]at HO;replace HO:=qh HO;clear O;have HJ:=qh (λW H (k:ao W c cap bud nd ⟨H,h.wk,h.S⟩)=>k.putS (p':=(⟨20,a,b,v⟩:Sp)) hp (j:=3) (v:= J v) ahD rfl);have HPN:=fun(q:i<h.S.length)=>show(h.S.set i (⟨20,a,b,v⟩:Sp))[i]? =some (⟨20,a,b,v⟩:Sp)by simp[q]
  exact cwZ
def yA(k:ao w c cap bud nd h)(i:Nat)(hin:i<nd.length)(a b z:Int)(hp:h.S[i]? =some (⟨25,a,b,z⟩:Sp))(V:h.ar.ops+1<=1000000000000)(hb:-5<=b/\b<=100000):E 318 #[↑c.l,pointer (some ⟨c.q,i*4,none⟩)] w (eU w c cap bud nd h i (⟨25,a,b,z⟩:Sp) (ah nd.length (ndf nd) bud h i (⟨25,a,b,z⟩:Sp))):=by
  obtain⟨v,O⟩:=LE (ldW h.ar.W (cL b));have HX:Kq (ah nd.length (ndf nd) bud h i (⟨25,a,b,z⟩:Sp)=(af h.ar (cL b),h.wk,(⟨26,a,b,v⟩:Sp))):=qh (by rw[Ju rfl,O]<;>rfl);refine ajW ?_;intro HF HO;rw[<-O]at HO;replace HO:=qh HO;clear O;have HJ:=qh (λW H (k:ao W c cap bud nd ⟨H,h.wk,h.S⟩)=>k.putS (p':=(⟨25,a,b,v⟩:Sp)) hp (j:=3) (v:= J v) ahD rfl);have HPN:=fun(q:i<h.S.length)=>show(h.S.set i (⟨25,a,b,v⟩:Sp))[i]? =some (⟨25,a,b,v⟩:Sp)by simp[q]
  exact cwZ
def yw(k:ao w c cap bud nd h)(i:Nat)(hin:i<nd.length)(a b z:Int)(hp:h.S[i]? =some (⟨21,a,b,z⟩:Sp))(V:h.ar.ops+1<=1000000000000)(H:-5<=z/\z<=100000):E 318 #[↑c.l,pointer (some ⟨c.q,i*4,none⟩)] w (eU w c cap bud nd h i (⟨21,a,b,z⟩:Sp) (ah nd.length (ndf nd) bud h i (⟨21,a,b,z⟩:Sp))):=by have HX:Kq (ah nd.length (ndf nd) bud h i (⟨21,a,b,z⟩:Sp)=(ae h.ar (cN z) a,h.wk,(⟨22,a,b,z⟩:Sp))):=qh (by rw[Jq rfl]<;>rfl);have HF:=qh (λW (k:ao W c cap bud nd h)=>mV k z (by exact H));have HO:=qh (λW (k:ao W c cap bud nd h)=>an k.ar (cN z) a V);exact cyN
def yB(k:ao w c cap bud nd h)(i:Nat)(hin:i<nd.length)(a b z:Int)(hp:h.S[i]? =some (⟨26,a,b,z⟩:Sp))(V:h.ar.ops+1<=1000000000000)(H:-5<=z/\z<=100000):E 318 #[↑c.l,pointer (some ⟨c.q,i*4,none⟩)] w (eU w c cap bud nd h i (⟨26,a,b,z⟩:Sp) (ah nd.length (ndf nd) bud h i (⟨26,a,b,z⟩:Sp))):=by have HX:Kq (ah nd.length (ndf nd) bud h i (⟨26,a,b,z⟩:Sp)=(ae h.ar (cN z) a,h.wk,(⟨27,a,b,z⟩:Sp))):=qh (by rw[Jv rfl]<;>rfl);have HF:=qh (λW (k:ao W c cap bud nd h)=>mV k z (by exact H));have HO:=qh (λW (k:ao W c cap bud nd h)=>an k.ar (cN z) a V);exact cyN
def yx(k:ao w c cap bud nd h)(i:Nat)(hin:i<nd.length)(a b z:Int)(hp:h.S[i]? =some (⟨22,a,b,z⟩:Sp))(V:h.ar.ops+1<=1000000000000)(hb:-5<=b/\b<=100000):E 318 #[↑c.l,pointer (some ⟨c.q,i*4,none⟩)] w (eU w c cap bud nd h i (⟨22,a,b,z⟩:Sp) (ah nd.length (ndf nd) bud h i (⟨22,a,b,z⟩:Sp))):=by
  refine ajC ?_;intro hn e0;obtain⟨ab,Y⟩:=LE (ae h.ar (cL b) h.wk.last);have HX:Kq (ah nd.length (ndf nd) bud h i (⟨22,a,b,z⟩:Sp)=(ab,h.wk,(⟨23,h.wk.found,b,z⟩:Sp))):=qh (by rw[Jr rfl,Y]<;>rfl);have HF:=qh (λW (k:ao W c cap bud nd h)=>xG k b (by exact hb));have O:=(λW (k:ao W c cap bud nd h)=>an k.ar (cL b) h.wk.last V);rw[<-Y]at O;have HO:=qh O;have HC:=qh (λW (h:Cn) (k:ao W c cap bud nd h) (hp:h.S[i]? =some (⟨22,a,b,z⟩:Sp))=>And.intro k.l0 (And.intro k.l4 (k.sp.cell hp 2 _ rfl)));refine ai3 ?_;intro HP HL K1;have HW:=qh (λW (k:ao W c cap bud nd h)=>vJ k.wk);clear O k hp Y;go_enter func318,ntmps318;go_wp2_with fail
  go_region_held3 (λW=>W.cell? c.l=some ↑c.a/\Z W c.l 4 ↑c.k/\Z W c.q (i*4+2) (J b))
    (first|with_reducible exact HC.o _ _ K1.o HP.o|with_reducible exact HC.o _ _ H.o HP.o)
    (first
      | (go_at_call 321;go_loud (refine LT (HF.o _ K1.o) ?_))
      | (go_at_call 326;go_loud (refine LT (HW.o _ K1.o) ?_))
      | (go_at_call 177;go_loud (refine Op (HO.o _ K1.o) λw3 I=>?_);have H:=qh (K1.o.op I.o.2 I.o.1);have T2:=qh (((aa.refl [c.a,c.g,c.q,c.k] w).drew).trans (I.o.2.mono (T:=[c.a,c.g,c.q,c.k]) ahC))))
  all_goals have l4:=H.o.l4;have e4:=H.o.sp.cell HP.o 1 _ rfl;have z4:=H.o.sp.free (i*4+1);have e3:Z w3 c.q (i*4) (J 22):=(by simpa using H.o.sp.cell HP.o 0 _ rfl);go_wp2_with fail;refine LT (q8 H.o.wk) ?_;go_wp2;go_ret;rw[HX.o];exact⟨rfl,H.o.putS (p':=(⟨22,h.wk.found,b,z⟩:Sp)) HP.o (j:=1) (v:= J h.wk.found) ahD rfl,T2.o.trans (dw ⟨c.q,i*4+1,none⟩ _ rfl)⟩
def yy(k:ao w c cap bud nd h)(i:Nat)(hin:i<nd.length)(a b z:Int)(hp:h.S[i]? =some (⟨23,a,b,z⟩:Sp))(V:h.ar.ops+1<=1000000000000):E 318 #[↑c.l,pointer (some ⟨c.q,i*4,none⟩)] w (eU w c cap bud nd h i (⟨23,a,b,z⟩:Sp) (ah nd.length (ndf nd) bud h i (⟨23,a,b,z⟩:Sp))):=by obtain⟨v,O⟩:=LE ((if inR h.ar.W 2 then IntKind.i64.wrap (ldW h.ar.W 2+1)else 0));have HX:Kq (ah nd.length (ndf nd) bud h i (⟨23,a,b,z⟩:Sp)=(addA h.ar 2 1,h.wk,(⟨24,a,b,z⟩:Sp))):=qh (by rw[Js rfl]<;>rfl);have HF:=qh (λW (k:ao W c cap bud nd h)=>qY k);have HO:=λW (k:ao W c cap bud nd h)=>ir k.ar 2 1 V;rw[<-O]at HO;replace HO:=qh HO;clear O;exact cyN
def yz(k:ao w c cap bud nd h)(i:Nat)(hin:i<nd.length)(a b z:Int)(hp:h.S[i]? =some (⟨24,a,b,z⟩:Sp))(V:h.ar.ops+1<=1000000000000)(H:-5<=a/\a<=100000):E 318 #[↑c.l,pointer (some ⟨c.q,i*4,none⟩)] w (eU w c cap bud nd h i (⟨24,a,b,z⟩:Sp) (ah nd.length (ndf nd) bud h i (⟨24,a,b,z⟩:Sp))):=by have HX:Kq (ah nd.length (ndf nd) bud h i (⟨24,a,b,z⟩:Sp)=(ae h.ar (cS a) b,h.wk,(⟨0,a,b,z⟩:Sp))):=qh (by rw[Jt rfl]<;>rfl);have HF:=qh (λW (k:ao W c cap bud nd h)=>pv k a (by exact H));have HO:=qh (λW (k:ao W c cap bud nd h)=>an k.ar (cS a) b V);exact cyN
def yC(k:ao w c cap bud nd h)(i:Nat)(hin:i<nd.length)(a b z:Int)(hp:h.S[i]? =some (⟨27,a,b,z⟩:Sp))(V:h.ar.ops+1<=1000000000000):E 318 #[↑c.l,pointer (some ⟨c.q,i*4,none⟩)] w (eU w c cap bud nd h i (⟨27,a,b,z⟩:Sp) (ah nd.length (ndf nd) bud h i (⟨27,a,b,z⟩:Sp))):=by have HX:Kq (ah nd.length (ndf nd) bud h i (⟨27,a,b,z⟩:Sp)=(ae h.ar 2 0,h.wk,(⟨28,a,b,z⟩:Sp))):=qh (by rw[Jw rfl]<;>rfl);have HF:=qh (λW (k:ao W c cap bud nd h)=>qY k);have HO:=qh (λW (k:ao W c cap bud nd h)=>an k.ar 2 0 V);exact cyN
def yE(k:ao w c cap bud nd h)(i:Nat)(hin:i<nd.length)(a b z:Int)(hp:h.S[i]? =some (⟨29,a,b,z⟩:Sp))(V:h.ar.ops+1<=1000000000000):E 318 #[↑c.l,pointer (some ⟨c.q,i*4,none⟩)] w (eU w c cap bud nd h i (⟨29,a,b,z⟩:Sp) (ah nd.length (ndf nd) bud h i (⟨29,a,b,z⟩:Sp))):=by have HX:Kq (ah nd.length (ndf nd) bud h i (⟨29,a,b,z⟩:Sp)=(ae h.ar 2 0,h.wk,(⟨30,a,b,z⟩:Sp))):=qh (by rw[Jy rfl]<;>rfl);have HF:=qh (λW (k:ao W c cap bud nd h)=>qY k);have HO:=qh (λW (k:ao W c cap bud nd h)=>an k.ar 2 0 V);exact cyN
def yD(k:ao w c cap bud nd h)(i:Nat)(hin:i<nd.length)(a b z:Int)(hp:h.S[i]? =some (⟨28,a,b,z⟩:Sp))(V:h.ar.ops+1<=1000000000000)(hb:-5<=b/\b<=100000):E 318 #[↑c.l,pointer (some ⟨c.q,i*4,none⟩)] w (eU w c cap bud nd h i (⟨28,a,b,z⟩:Sp) (ah nd.length (ndf nd) bud h i (⟨28,a,b,z⟩:Sp))):=by have HX:Kq (ah nd.length (ndf nd) bud h i (⟨28,a,b,z⟩:Sp)=(ae h.ar (cS b) (-1),h.wk,(⟨0,a,b,z⟩:Sp))):=qh (by rw[Jx rfl]<;>rfl);have HF:=qh (λW (k:ao W c cap bud nd h)=>pv k b (by exact hb));have HO:=qh (λW (k:ao W c cap bud nd h)=>an k.ar (cS b) (-1) V);exact cyN
def yF(k:ao w c cap bud nd h)(i:Nat)(hin:i<nd.length)(a b z:Int)(hp:h.S[i]? =some (⟨30,a,b,z⟩:Sp))(V:h.ar.ops+1<=1000000000000)(H:-5<=a/\a<=100000):E 318 #[↑c.l,pointer (some ⟨c.q,i*4,none⟩)] w (eU w c cap bud nd h i (⟨30,a,b,z⟩:Sp) (ah nd.length (ndf nd) bud h i (⟨30,a,b,z⟩:Sp))):=by have HX:Kq (ah nd.length (ndf nd) bud h i (⟨30,a,b,z⟩:Sp)=(ae h.ar (cS a) (-1),h.wk,(⟨0,a,b,z⟩:Sp))):=qh (by rw[Jz rfl]<;>rfl);have HF:=qh (λW (k:ao W c cap bud nd h)=>pv k a (by exact H));have HO:=qh (λW (k:ao W c cap bud nd h)=>an k.ar (cS a) (-1) V);exact cyN
end
end
end Go.Proofs.YtglokdbiggbkjaaGreat
