/- Joined texts. -/
import Derived.Test.YtglokdbiggbkjaaGreatRows
import Derived.Deep.AppendLies
import Derived.Deep.RegionHeld3
import Derived.Laws.MakeOwn
import Derived.Deep.DeepCutAuto
import Derived.Test.YtglokdbiggbkjaaGreatMgBoltLoops0
import Derived.Test.YtglokdbiggbkjaaGreatMgBoltLoops2
import Derived.Test.YtglokdbiggbkjaaGreatMgBoltLoops3
import Derived.Test.YtglokdbiggbkjaaGreatMgBoltLoops8
set_option linter.unusedVariables false
set_option linter.unusedSimpArgs false
set_option linter.defProp false
set_option maxRecDepth 100000
set_option maxHeartbeats 16000000
open Go.Proofs.Tryz
namespace Go.Proofs.YtglokdbiggbkjaaGreat
open Go.IntKind(i64)
open Go.Value(int bool slice agg tuple pointer)
open Go.Ending(returned)
open Go.Obj(cells)
variable{w:World}{a g base n:Nat}
section
open Go.RowKit
def bz(s:Ar)(n:Nat):Ar:={s with W:=s.W++List.replicate n 0}
def mZ{s:Ar}(h:aB w a g s)(n:Nat)(O:s.W.length+n<=s.room):E 139 #[↑a,J n] w λe w'=>e= returned (tuple #[J ((s.W.length:Int)+1),J 0])/\aB w' a g (bz s n)/\aa [a] w w':=by
  refine(gz h n).mono ?_;have e:eh s n=(bz s n,(s.W.length:Int)+1,(0:Int)):=by unfold eh;rw[if_neg ahB,if_neg ahB,Int.toNat_natCast];rfl
  rw[e];rintro en w' ⟨h1,H,I⟩;exact⟨h1,H,I⟩
def nZ(w:World)(xs:List Value)(t:TypeId):∀j u,xs[j]? =some u->(w.alloc (.cells xs.toArray t)).cell? ((⟨w.heap.size,0,none⟩:Addr).add j)=some u:=by
 intro j u H;have k:=Blk.new w t xs.toArray;have c:=k.cell j;have e:(⟨w.heap.size,0,none⟩:Addr).add j=⟨w.heap.size,j,none⟩:=by simp[Addr.add];exact λh=>h.symm
 rw[e,c];simpa using H
theorem Tryz.infoSpF:(prog.info? 113).map (λi=>(i.zero,i.size,i.bytes))=some (some (agg #[J 0,J 0,J 0,J 0]),4,32):=by kernel_rfl
def GH{l:Nat}{va H:Value}(nx:Nat)(m:Nat)(hm:1<=m)(I:nx<=100000)(h:Blk w l 345 #[va,J nx,J m,H]):E 178 #[↑l,J 0] w λe w'=>e= returned (J ((nx:Int)+1))/\Below w.heap.size w w':=by
  have c1:Z w l 1 (J nx):=h.cell 1;have c2:Z w l 2 (J m):=h.cell 2;have t1:¬(m:Int)=0:=by omega
  have t2:((m:Int)==0)=false:=by simpa using t1
  have O:IntKind.i64.wrap ((nx:Int)+1)=(nx:Int)+1:=IntWalk.i64_in _ ahB;clear h;go_enter func178,ntmps178;go_wp2_with fail;go_quiet (fail);go_wp2;go_ret;exact⟨rfl,ce (Below.refl _ _) _⟩
def IA(w:World)(n:Nat)(h1:1<=n)(h:n<=32):E 176 #[J n] w λe w'=>e= returned (bool true)/\w=w':=by
 have t1:(1:Int)<=n:=by omega
 have t2:(n:Int)<=32:=by omega
 go_enter func176,ntmps176;exact aaa
end
section
open Go.RowKit
variable{s:Ar}
def q7(u:Value)(n:Nat):(madeCells #[u,u,u,u] n).toList=List.replicate n u:=by exact aaA
def vy(n:Nat):(List.replicate n Sp.zero).flatMap bi=List.replicate (n*4) (J 0):=by exact aaB
def j4{q:Nat}(h:w.ownsRow base 113 4 (slice (some ⟨q,0,none⟩) n n) n (madeCells #[Value.int .i64 0,J 0,J 0,J 0] (n*4)).toList):SpR w q (List.replicate n Sp.zero):=by have:=gc h;refine⟨[],?_⟩;rw[List.append_nil,vy];have e:(madeCells #[Value.int .i64 0,J 0,J 0,J 0] (n*4)).toList=List.replicate (n*4) (J 0):=q7 _ _;exact aa5
def szK(k n m:Nat):Nat:=if k=1 then 1 else if k=2 then 2 else if k=3 then 1+m else if k=4 then 1+2*n else n+2
def aG(k:Nat)(s:Ar)(n m:Nat):Ar:=
 if k=3 then ae (bz s (szK k n m)) ((s.W.length:Int)+2) 1 else if k=5 then ae (bz s (szK k n m)) ((s.W.length:Int)+1) ((n:Int)+1)else bz s (szK k n m)
def a9(k n:Nat):List Sp:=if k=5 then(List.range n).map fun(i:Nat)=>(⟨0,(i:Int)+1,0,0⟩:Sp)else List.replicate n Sp.zero
def Aj(w:World)(a g k:Nat)(s:Ar)(n m:Nat)(e:Ending)(w':World):Prop:=
 ∃x:Fx,e= returned (tuple #[↑x.l,J 0])/\KIs w' a g k x (aG k s n m) (a9 k n)/\(w.heap.size<=x.l/\w.heap.size<=x.q/\x.n=n/\x.m=m/\x.t=s.W.length+1/\x.k=k)/\aa [a,g] w w'
def pM(h:aB w a g s)(n:Nat)(h1:1<=n)(h2:n<=32)(m:Nat)(H:1<=m)(O:m<=4)(I:s.W.length+(2)<=s.room):E 152 #[↑a,J n] w (Aj w a g 2 s n m):=by
  obtain⟨i0,hi,Kr,Ku,V⟩:=info_parts Tryz.infoSpF;have HT:=qh (mZ h (2) I);refine ajR ?_;intro t1 t2 HR HG;clear h I;go_enter func152,ntmps152;go_wp2_with fail;refine Op HT.o λw1 H1=>?_;clear HT;go_wp2_with (refine wpList_make_full _ rfl _ _ 237 rfl w1.heap.size 113 i0 (agg #[J 0,J 0,J 0,J 0]) 4 Tryz.underlying237 hi Kr Ku .i64 .i64 n n n rfl rfl rfl rfl ?b2 ?b3 (Nat.le_refl _) ?_);case b2=>rw[V];omega
  case b3=>unfold maxLen;omega
  intro w2 t3 hg;refine ajr ?_;intro Le H2;have Y:=qh (j4 t3);clear t3 hg Le;go_wp2;go_ret2;have k2:=H1.o.1.turns H2.o ahC ahC;have s1:=H1.o.2.size;have s2:=H2.o.size;have hq:=Y.o.lt;have PH:=HG.o;have MY:=HR.o;have tA:aa [] w2 (w2.alloc (.cells (lkC 2 a ⟨0,w2.heap.size,w1.heap.size,2,s.W.length+1,m,n,n⟩) (lkT 2))):=(aa.refl _ _).alloc _;have hb:=Blk.new w2 (lkT 2) (lkC 2 a ⟨0,w2.heap.size,w1.heap.size,2,s.W.length+1,m,n,n⟩);refine⟨⟨0,w2.heap.size,w1.heap.size,2,s.W.length+1,m,n,n⟩,rfl,?_,⟨by show w.heap.size<=w2.heap.size;omega,by show w.heap.size<=w1.heap.size;omega,rfl,rfl,rfl,rfl⟩,((H1.o.2.mono ahC).trans (H2.o.mono ahC)).alloc _⟩;exact⟨k2.turns tA ahC ahC,hb,Y.o.turns tA ahC,by show(List.replicate n Sp.zero).length=n;simp,by show w2.heap.size≠a;omega,by show w2.heap.size≠g;omega,by show w2.heap.size≠w1.heap.size;omega,by show w1.heap.size≠a;omega,by show w1.heap.size≠g;omega,h2,by show 1<=s.W.length+1;omega,by show s.W.length+1<=5000;omega,H,O,Nat.le_refl _⟩
def Eu(h:aB w a g s)(n:Nat)(h1:1<=n)(h2:n<=32)(m:Nat)(H:1<=m)(O:m<=4)(I:s.W.length+(1+2*n)<=s.room):E 154 #[↑a,J n] w (Aj w a g 4 s n m):=by
  obtain⟨i0,hi,Kr,Ku,V⟩:=info_parts Tryz.infoSpF;have HT:=qh (mZ h (1+2*n) I);refine ajR ?_;intro t1 t2 HR HG;have x1:IntKind.i64.wrap (2*(n:Int))=2*(n:Int):=IntWalk.i64_in _ ahB;have x2:IntKind.i64.wrap (1+2*(n:Int))=((1+2*n:Nat):Int):=by rw[IntWalk.i64_in _ ahB];omega
  clear h I;go_enter func154,ntmps154;go_wp2_with fail;refine Op HT.o λw1 H1=>?_;clear HT;go_wp2_with (refine wpList_make_full _ rfl _ _ 237 rfl w1.heap.size 113 i0 (agg #[J 0,J 0,J 0,J 0]) 4 Tryz.underlying237 hi Kr Ku .i64 .i64 n n n rfl rfl rfl rfl ?b2 ?b3 (Nat.le_refl _) ?_);case b2=>rw[V];omega
  case b3=>unfold maxLen;omega
  intro w2 t3 hg;refine ajr ?_;intro Le H2;have Y:=qh (j4 t3);clear t3 hg Le;go_wp2;go_ret2;have k2:=H1.o.1.turns H2.o ahC ahC;have s1:=H1.o.2.size;have s2:=H2.o.size;have hq:=Y.o.lt;have PH:=HG.o;have MY:=HR.o;have tA:aa [] w2 (w2.alloc (.cells (lkC 4 a ⟨0,w2.heap.size,w1.heap.size,4,s.W.length+1,m,n,n⟩) (lkT 4))):=(aa.refl _ _).alloc _;have hb:=Blk.new w2 (lkT 4) (lkC 4 a ⟨0,w2.heap.size,w1.heap.size,4,s.W.length+1,m,n,n⟩);refine⟨⟨0,w2.heap.size,w1.heap.size,4,s.W.length+1,m,n,n⟩,rfl,?_,⟨by show w.heap.size<=w2.heap.size;omega,by show w.heap.size<=w1.heap.size;omega,rfl,rfl,rfl,rfl⟩,((H1.o.2.mono ahC).trans (H2.o.mono ahC)).alloc _⟩;exact⟨k2.turns tA ahC ahC,hb,Y.o.turns tA ahC,by show(List.replicate n Sp.zero).length=n;simp,by show w2.heap.size≠a;omega,by show w2.heap.size≠g;omega,by show w2.heap.size≠w1.heap.size;omega,by show w1.heap.size≠a;omega,by show w1.heap.size≠g;omega,h2,by show 1<=s.W.length+1;omega,by show s.W.length+1<=5000;omega,H,O,Nat.le_refl _⟩
def EX(h:aB w a g s)(n:Nat)(h1:1<=n)(h2:n<=32)(m:Nat)(H:1<=m)(O:m<=4)(I:s.W.length+(1)<=s.room):E 151 #[↑a,J n,J m] w (Aj w a g 1 s n m):=by
  obtain⟨i0,hi,Kr,Ku,V⟩:=info_parts Tryz.infoSpF;have HT:=qh (mZ h (1) I);refine ajR ?_;intro t1 t2 HR HG;have Y:¬(m:Int)<1:=by omega
  have t4:¬1024<(m:Int):=by omega
  clear h I;go_enter func151,ntmps151;go_wp2_with fail;refine Op HT.o λw1 H1=>?_;clear HT;go_wp2_with (refine wpList_make_full _ rfl _ _ 237 rfl w1.heap.size 113 i0 (agg #[J 0,J 0,J 0,J 0]) 4 Tryz.underlying237 hi Kr Ku .i64 .i64 n n n rfl rfl rfl rfl ?b2 ?b3 (Nat.le_refl _) ?_);case b2=>rw[V];omega
  case b3=>unfold maxLen;omega
  intro w2 t3 hg;refine ajr ?_;intro Le H2;have HS:=qh (j4 t3);clear t3 hg Le;go_wp2;go_ret2;have k2:=H1.o.1.turns H2.o ahC ahC;have s1:=H1.o.2.size;have s2:=H2.o.size;have hq:=HS.o.lt;have PH:=HG.o;have MY:=HR.o;have tA:aa [] w2 (w2.alloc (.cells (lkC 1 a ⟨0,w2.heap.size,w1.heap.size,1,s.W.length+1,m,n,n⟩) (lkT 1))):=(aa.refl _ _).alloc _;have hb:=Blk.new w2 (lkT 1) (lkC 1 a ⟨0,w2.heap.size,w1.heap.size,1,s.W.length+1,m,n,n⟩);refine⟨⟨0,w2.heap.size,w1.heap.size,1,s.W.length+1,m,n,n⟩,rfl,?_,⟨by show w.heap.size<=w2.heap.size;omega,by show w.heap.size<=w1.heap.size;omega,rfl,rfl,rfl,rfl⟩,((H1.o.2.mono ahC).trans (H2.o.mono ahC)).alloc _⟩;exact⟨k2.turns tA ahC ahC,hb,HS.o.turns tA ahC,by show(List.replicate n Sp.zero).length=n;simp,by show w2.heap.size≠a;omega,by show w2.heap.size≠g;omega,by show w2.heap.size≠w1.heap.size;omega,by show w1.heap.size≠a;omega,by show w1.heap.size≠g;omega,h2,by show 1<=s.W.length+1;omega,by show s.W.length+1<=5000;omega,H,O,Nat.le_refl _⟩
end
section
open Go.RowKit
variable{s:Ar}
def ui{e:TypeId}{sz:Nat}{v:Value}{xs:List Value}(h:w.ownsRow base e sz v n xs)(hn:1<=n):∃q cap,v= slice (some ⟨q,0,none⟩) n cap/\n<=cap/\base<=q/\∃O:List Value,Blk w q e (xs++O).toArray:=by
 rcases h.2 with⟨_,h0⟩|⟨q,cap,H,rfl,hb,V,I,Q8,KJ,Y⟩
 .omega
 .refine⟨q,cap,rfl,I,hb,H.toList.drop (n*sz),?_⟩;rw[<-Y,List.take_append_drop,Array.toArray_toList];exact V
def wj(k:Nat):(a9 5 k).length=k:=by unfold a9;simp
def AX(k:Nat):(a9 5 (k+1)).flatMap bi=(a9 5 k).flatMap bi++[J 0,J ((k:Int)+1),J 0,J 0]:=by unfold a9;rw[if_pos rfl,if_pos rfl,List.range_succ,List.map_append,List.flatMap_append];rfl
def ww(h:aB w a g s)(n:Nat)(h1:1<=n)(h2:n<=32)(m:Nat)(H:1<=m)(ab:m<=4)(I:s.W.length+(1+m)<=s.room)(V:s.ops+1<=1000000000000):E 153 #[↑a,J n,J m] w (Aj w a g 3 s n m):=by
  obtain⟨i0,hi,Kr,Ku,ad⟩:=info_parts Tryz.infoSpF;have HT:=qh (mZ h (1+m) I);have x1:IntKind.i64.wrap (1+(m:Int))=((1+m:Nat):Int):=by rw[IntWalk.i64_in _ ahB];omega
  have KW:s.W.length<=4096:=by have:=h.le;have:=h.room;omega
  have LP:=h.blk.lt;have L9:=h.wds.lt;have HO:=qh V;clear h I V;go_enter func153,ntmps153;go_wp2_with fail;refine LT (IA _ n h1 h2) ?_;go_wp2_with fail;refine(IA _ m H ahB).mono ?_;rintro en w0 ⟨rfl,rfl⟩;go_wp2_with fail;refine Op HT.o λw1 H1=>?_;clear HT;go_wp2_with (refine wpList_make_full _ rfl _ _ 237 rfl w1.heap.size 113 i0 (agg #[J 0,J 0,J 0,J 0]) 4 Tryz.underlying237 hi Kr Ku .i64 .i64 n n n rfl rfl rfl rfl ?b2 ?b3 (Nat.le_refl _) ?_);case b2=>rw[ad];omega
  case b3=>unfold maxLen;omega
  intro w2 t3 hg;refine ajr ?_;intro Le H2;have Mn:=qh (j4 t3);clear t3 hg Le;go_upto_region 7 with fail;obtain⟨l,hl⟩:=LE w2.heap.size;obtain⟨nx,Kz⟩:∃x:Nat,x=s.W.length+1:=⟨_,rfl⟩;have Rn:((s.W.length:Int)+1)=(nx:Int):=by omega
  obtain⟨w3,O⟩:=LE (w2.alloc (cells #[↑a,J nx,J m,slice (some ⟨w1.heap.size,0,none⟩) n n] 345));rw[Rn,<-O,<-hl];have HB:=qh (show Blk w3 l 345 #[↑a,J nx,J m,slice (some ⟨w1.heap.size,0,none⟩) n n]from by rw[O,hl];exact Blk.new _ _ _);have QG:=qh (show aa [a] w w3 from by rw[O];exact(H1.o.2.trans (H2.o.mono ahC)).alloc _);have S4:=qh (show aB w3 a g (bz s (1+m))from by rw[O];exact(H1.o.1.turns H2.o ahC ahC).turns (S:=[]) ((aa.refl _ _).alloc _) ahC ahC);have Yn:=qh (show SpR w3 w1.heap.size (List.replicate n Sp.zero)from by rw[O];exact Mn.o.turns ((aa.refl [] _).alloc _) ahC);have HL:=qh (show w.heap.size<=l/\nx=s.W.length+1/\w1.heap.size<l/\w.heap.size<=w1.heap.size from by have:=H1.o.2.size;have:=H2.o.size;have:=Mn.o.lt;omega);clear hl O Kz Rn;go_wp2_with fail;refine Op (GH nx m H (by have:=HL.o.2.1;omega) HB.o) λw4 b4=>?_;have Qu:=qh (And.intro (S4.o.turns (aa.of_below (S:=[]) b4.o) ahC ahC) b4.o);go_wp2_with fail;refine(an Qu.o.1 ((nx:Int)+1) 1 (by show s.ops+1<=_;have:=HO.o;omega)).mono ?_;rintro en w5 ⟨rfl,k5,t5⟩;have Y:=qh (And.intro k5 t5);clear k5 t5;go_wp2;go_ret2;have s3:=QG.o.size;have s4:=Qu.o.2.size;have s5:=Y.o.2.size;have hb:=HB.o.lt;have hL:=HL.o;have e3:((nx:Int)+1)=(s.W.length:Int)+2:=by omega
  have tt:aa [a,g] w3 w5:=(aa.of_below Qu.o.2).trans Y.o.2;have ka:=Y.o.1;rw[e3]at ka;refine⟨⟨0,l,w1.heap.size,3,nx,m,n,n⟩,rfl,?_,⟨by show w.heap.size<=l;omega,by show w.heap.size<=w1.heap.size;omega,rfl,rfl,hL.2.1,rfl⟩,(QG.o.mono ahC).trans tt⟩;exact⟨ka,tt.blk HB.o ahG,Yn.o.turns tt ahG,by show(List.replicate n Sp.zero).length=n;simp,by show l≠a;omega,by show l≠g;omega,by show l≠w1.heap.size;omega,by show w1.heap.size≠a;omega,by show w1.heap.size≠g;omega,h2,by show 1<=nx;omega,by show nx<=5000;omega,H,ab,Nat.le_refl _⟩
def DB(h:aB w a g s)(n:Nat)(h1:1<=n)(h2:n<=32)(m:Nat)(ab:1<=m)(ad:m<=4)(I:s.W.length+(n+2)<=s.room)(V:s.ops+1<=1000000000000):E 155 #[↑a,J n] w (Aj w a g 5 s n m):=by
  obtain⟨i0,hi,Kr,Ku,hz2⟩:=info_parts Tryz.infoSpF;refine ajB ?_;intro HI;have HT:=qh (mZ h (n+2) I);have t1:¬(n:Int)<1:=by omega
  have t2:¬32<(n:Int):=by omega
  have x1:IntKind.i64.wrap ((n:Int)+2)=((n+2:Nat):Int):=by rw[IntWalk.i64_in _ ahB];omega
  have x2:IntKind.i64.wrap ((n:Int)+1)=((n+1:Nat):Int):=by rw[IntWalk.i64_in _ ahB];omega
  have KW:s.W.length<=4096:=by have:=h.le;have:=h.room;omega
  have HG:=qh (And.intro h.blk.lt h.wds.lt);have HO:=qh V;clear h I V hi Kr Ku hz2;go_enter func155,ntmps155;go_wp2_with fail;refine Op HT.o λw1 H1=>?_;clear HT;go_upto_region 7 with fail;obtain⟨l,hl⟩:=LE w1.heap.size;obtain⟨nx,Kz⟩:∃x:Nat,x=s.W.length+1:=⟨_,rfl⟩;have Rn:((s.W.length:Int)+1)=(nx:Int):=by omega
  obtain⟨w3,Mb⟩:=LE (w1.alloc (cells #[↑a,J nx,.slice none 0 0] 350));rw[Rn,<-Mb,<-hl];have HB:=qh (show Blk w3 l 350 #[↑a,J nx,.slice none 0 0]from by rw[Mb,hl];exact Blk.new _ _ _);have QG:=qh (show aa [a] w w3 from by rw[Mb];exact H1.o.2.alloc _);have S4:=qh (show aB w3 a g (bz s (n+2))from by rw[Mb];exact H1.o.1.turns (S:=[]) ((aa.refl _ _).alloc _) ahC ahC);have HL:=qh (show w.heap.size<=l/\nx=s.W.length+1/\w3.heap.size=l+1 from by have:=H1.o.2.size;rw[Mb];simp;omega);clear hl Mb Kz Rn;go_wp2;go_loopw [31] (λi wr=>∃(k:Nat) (v:Value),i= J k/\k<=n/\Blk wr l 350 #[↑a,J nx,v]/\wr.ownsRow w3.heap.size 113 4 v k ((a9 5 k).flatMap bi)/\aa [l] w3 wr) (λi _=>n-(intOf i).toNat);case atStart=>exact⟨0,_,rfl,by omega,HB.o,World.ownsRow_nil _ _ _ _,aa.refl _ _⟩
  case round=>
    obtain⟨k,v,rfl,hk,hb,t3,ht⟩:=hrel;have QK:=qh (AX k);obtain⟨xs,PN⟩:=LE ((a9 5 k).flatMap bi);rw[<-PN]at t3 QK;have YG:=qh PN;clear PN;obtain⟨wo,rfl⟩:∃wo:World,wo=wr:=⟨_,rfl⟩;by_cases I':k<n
    . obtain⟨A,cap,rfl⟩:=bE t3;have c2:Z wo l 2 (.slice A k cap):=hb.cell 2;have Lz:=hb.lt;have Li:=ht.size;have H:=qh (And.intro hb (And.intro t3 ht));have MN:(Value.slice A k cap).ownBlock≠some l:=λe=>by have:=(t3.lt l e).1;have:=HL.o.2.2;omega
      clear hb t3 ht;go_wp2_with (at_builtin;refine wpList_append_lies _ rfl _ _ 237 rfl w3.heap.size 113 i0 (agg #[J 0,J 0,J 0,J 0]) 4 32 Tryz.underlying237 HI.o.1 HI.o.2.1 HI.o.2.2.1 HI.o.2.2.2 rfl ahD _ _ _ rfl (H.o.2.1.alloc _) ⟨wo.heap.size,0,none⟩ 1 1 [J 0,J ((k:Int)+1),J 0,J 0] rfl rfl (nZ _ _ _) ah4 ahD ?c3 ?c4 ?c5 _ rfl ?_);case c3=>unfold maxLen;omega
      case c4=>omega
      case c5=>simp;omega
      intro Y Lq w7 h3 O NS Up;have M8:=(H.o.1.alloc (cells #[J 0,J ((k:Int)+1),J 0,J 0] 113)).grown O (λe=>MN e.symm);have bc:Z w7 l 2 (.slice A k cap):=M8.cell 2;have bw:=M8.free 2;have ts:aa [l] w7 (w7.setCell ⟨l,2,none⟩ (slice (some ⟨Y,0,none⟩) (k+1) Lq)):=(aa.refl _ _).setCell (.inl ahC) _
      have Oc:=qh (show Blk (w7.setCell ⟨l,2,none⟩ (slice (some ⟨Y,0,none⟩) (k+1) Lq)) l 350 #[↑a,J nx,slice (some ⟨Y,0,none⟩) (k+1) Lq]/\(w7.setCell ⟨l,2,none⟩ (slice (some ⟨Y,0,none⟩) (k+1) Lq)).ownsRow w3.heap.size 113 4 (slice (some ⟨Y,0,none⟩) (k+1) Lq) (k+1) (xs++[J 0,J ((k:Int)+1),J 0,J 0])/\aa [l] w3 (w7.setCell ⟨l,2,none⟩ (slice (some ⟨Y,0,none⟩) (k+1) Lq))from by
        have Wo:=(h3.lt Y rfl).1;have ax:=HL.o.2.2;refine⟨M8.set_ 2 _,aa.own h3 ts (λx hx=>by injection hx with hx;subst hx;simp;omega),?_⟩
        have al:aa [l] w3 w7:=⟨O.os.trans H.o.2.2.os,O.tape.trans H.o.2.2.tape,O.output.trans H.o.2.2.output,by have:=O.size;simp at this;omega,λi hi hn=>by
          have h9:=O.block i ahG (λe=>by have:=(H.o.2.1.lt i e.symm).1;omega);rw[h9];have h8:=((aa.refl [l] wo).alloc (cells #[J 0,J ((k:Int)+1),J 0,J 0] 113)).block i ahB hn;rw[h8]
          exact H.o.2.2.block i hi hn⟩
        exact al.trans ts)
      clear h3 O NS M8 H;go_wp2;go_roundw;case rel=>exact⟨k+1,_,by go_num,by omega,Oc.o.1,by rw[QK.o];exact Oc.o.2.1,Oc.o.2.2⟩
      case measure=>simp[intOf];omega
    . obtain rfl:k=n:=by omega
      obtain⟨q,cap,rfl,OL,SI,Zz,hZ⟩:=ui t3 h1;have H:=qh (And.intro hb ht);have HZ:=qh (show SpR wo q (a9 5 k)from⟨Zz,by rw[<-YG.o];exact hZ⟩);clear hb t3 ht hZ;have Qu:=qh (S4.o.turns H.o.2 (by have:=HG.o;have:=HL.o;simp;omega) (by have:=HG.o;have:=HL.o;simp;omega));go_wp2_with fail;refine(an Qu.o (nx:Int) ((k+1:Nat):Int) (by show s.ops+1<=_;have:=HO.o;omega)).mono ?_;rintro en w5 ⟨rfl,k5,t5⟩;have H5:=qh (And.intro k5 t5);clear k5 t5;go_wp2;go_ret2;have s3:=QG.o.size;have s5:=H5.o.2.size;have hb:=H.o.1.lt;have s6:=H.o.2.size;have hL:=HL.o;have hG:=HG.o;have e3:(nx:Int)=(s.W.length:Int)+1:=(by omega);have ka:=H5.o.1;rw[e3,show(((k+1:Nat):Nat):Int)=(k:Int)+1 by omega]at ka;have t9:aa [a,g,l] w w5:=((QG.o.mono ahC).trans (H.o.2.mono ahC)).trans (H5.o.2.mono ahC);refine⟨⟨0,l,q,5,nx,m,k,cap⟩,rfl,?_,⟨by show w.heap.size<=l;omega,by show w.heap.size<=q;omega,rfl,rfl,hL.2.1,rfl⟩,t9.fresh λi hi=>by simp at hi ⊢;omega⟩;exact⟨ka,H5.o.2.blk H.o.1 ahG,HZ.o.turns H5.o.2 ahG,wj k,by show l≠a;omega,by show l≠g;omega,by show l≠q;omega,by show q≠a;omega,by show q≠g;omega,h2,by show 1<=nx;omega,by show nx<=5000;omega,ab,ad,OL⟩
end
section
open Go.RowKit
def gaC(a N:Nat):Array Value:=#[↑a,J 1,J N]
def BP{s:Ar}(h:aB w a g s)(N:Nat)(h1:1<=N)(V:N<=32)(hs:s.W=[])(I:s.room=4096):E 174 #[↑a,J N] w λe w'=>∃gg,e= returned (tuple #[pointer (some ⟨gg,0,none⟩),J 0])/\w.heap.size<=gg/\Blk w' gg 365 (gaC a N)/\aB w' a g (bz s (2*N))/\aa [a] w w':=by
  have H:=mZ h (2*N) (by rw[hs,I];simp;omega);rw[hs]at H;have O:=qh H;have Y:IntKind.i64.wrap (2*(N:Int))=((2*N:Nat):Int):=by rw[IntWalk.i64_in _ ahB];omega
  have t1:¬(N:Int)<1:=by omega
  have t2:¬32<(N:Int):=by omega
  clear h hs I H;go_enter func174,ntmps174;go_wp2_with fail;refine Op O.o λw1 H1=>?_;clear O;go_wp2;go_ret2;have s1:=H1.o.2.size;refine⟨w1.heap.size,by simp,s1,?_,H1.o.1.turns (S:=[]) ((aa.refl _ _).alloc _) ahC ahC,H1.o.2.alloc _⟩;have:=Blk.new w1 365 (gaC a N);simpa[gaC]using this
section
variable{gg N:Nat}{s:Ar}
def D5(h:Blk w gg 365 (gaC a N)):E 383 #[↑gg] w λe w'=>e= returned (J N)/\w=w':=by have c2:Z w gg 2 (J N):=h.cell 2;clear h;go_enter func383,ntmps383;exact aaa
def BO(h:Blk w gg 365 (gaC a N))(nd:Nat)(I:nd<N)(hN:N<=32):E 380 #[↑gg,J nd] w λe w'=>e= returned (J (2*(nd:Int)+1))/\w=w':=by
 have c1:Z w gg 1 (J 1):=h.cell 1;have H:=qh (D5 h);have t1:¬(nd:Int)<0:=by omega
 have t2:¬(N:Int)<=(nd:Int):=by omega
 have O:IntKind.i64.wrap (2*(nd:Int))=2*(nd:Int):=IntWalk.i64_in _ ahB;have V:IntKind.i64.wrap (1+2*(nd:Int))=2*(nd:Int)+1:=by rw[IntWalk.i64_in _ ahB];omega
 clear h;go_enter func380,ntmps380;go_wp2_with fail;refine LT H.o ?_;exact aaa
def Fb(h:Blk w gg 365 (gaC a N))(Y:aB w a g s)(nd:Nat)(hn:nd<N)(hN:N<=32)(k:Nat)(hk:k<=1)(V:s.ops+1<=1000000000000):E 375 #[↑gg,J nd,J k] w λe w'=>e= returned (tuple #[])/\aB w' a g (addA s (2*(nd:Int)+1+k) 1)/\aa [a,g] w w':=by
 have c0:w.cell? gg=some ↑a:=h.cell 0;have I:=qh (BO h nd hn hN);have t1:(0:Int)<2*(nd:Int)+1:=by omega
 have x1:IntKind.i64.wrap (2*(nd:Int)+1+(k:Int))=2*(nd:Int)+1+(k:Int):=IntWalk.i64_in _ ahB;obtain⟨o,O⟩:∃o:Int,o=2*(nd:Int)+1:=⟨_,rfl⟩;rw[<-O]at I t1 x1 ⊢;have H:=qh (ir Y (o+(k:Int)) 1 V);clear h Y O;go_enter func375,ntmps375;go_wp2_with fail;refine LT I.o ?_;go_wp2_with fail;refine Op H.o λw1 H1=>?_;clear H;go_wp2;all_goals go_end0;exact⟨rfl,H1.o.1,H1.o.2⟩
def ra(h:Blk w gg 365 (gaC a N))(I:aB w a g s)(nd:Nat)(O:nd<N)(hN:N<=32)(V:s.ops+1<=1000000000000):E 371 #[↑gg,J nd] w λe w'=>e= returned (tuple #[])/\aB w' a g (addA s (2*(nd:Int)+1) 1)/\aa [a,g] w w':=by have H:=Fb h I nd O hN 0 ahB V;rw[show 2*(nd:Int)+1+((0:Nat):Int)=2*(nd:Int)+1 by omega]at H;have HA:=qh H;clear h I H;go_enter func371,ntmps371;exact abK
def rb(h:Blk w gg 365 (gaC a N))(I:aB w a g s)(nd:Nat)(O:nd<N)(hN:N<=32)(V:s.ops+1<=1000000000000):E 372 #[↑gg,J nd] w λe w'=>e= returned (tuple #[])/\aB w' a g (addA s (2*(nd:Int)+1+1) 1)/\aa [a,g] w w':=by have H:=Fb h I nd O hN 1 ahB V;rw[show 2*(nd:Int)+1+((1:Nat):Int)=2*(nd:Int)+1+1 by omega]at H;have HA:=qh H;clear h I H;go_enter func372,ntmps372;exact abK
end
end
end Go.Proofs.YtglokdbiggbkjaaGreat
