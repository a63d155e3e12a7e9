/- Joined texts. -/
import Derived.Test.YtglokdbiggbkjaaGreatMgWorldTrace0
import Derived.Test.YtglokdbiggbkjaaGreatMgWorldTrace3
import Derived.Test.YtglokdbiggbkjaaGreatMgWorldTrace4
import Derived.Test.YtglokdbiggbkjaaGreatMgWorldTrace14
import Derived.Test.YtglokdbiggbkjaaGreatMgWorldTrace17
set_option linter.unusedVariables false
set_option linter.unusedSimpArgs false
set_option linter.defProp false
set_option maxRecDepth 100000
set_option maxHeartbeats 16000000
open Go.Proofs.Tryz
namespace Go.Proofs.YtglokdbiggbkjaaGreat
open Go.IntKind(i64)
open Go.Value(int bool slice agg tuple pointer)
open Go.Ending(returned)
open Go.Obj(cells)
variable{w w' w0:World}{a i j k:Nat}{u:Value}{B:Nat->Prop}{P T:List Int}{BB:Int}
section
open Go.RowKit
variable{g:Nat}{s:Ar}
def ud{base:Nat}{e:TypeId}{sz n:Nat}{v:Value}{xs:List Value}(h:w.ownsRow base e sz v n xs)(hn:1<=n):∃q cap,v= slice (some ⟨q,0,none⟩) n cap/\n<=cap/\base<=q/\∃V:List Value,Blk w q e (xs++V).toArray:=by
 rcases h.2 with⟨_,h0⟩|⟨q,cap,H,rfl,I,Y,O,Rl,KM,ht⟩
 .omega
 .refine⟨q,cap,rfl,O,I,H.toList.drop (n*sz),?_⟩;rw[<-ht,List.take_append_drop,Array.toArray_toList];exact Y
def vQ(k:Nat):(be 5 k).length=k:=by unfold be;simp
def AH(k:Nat):(be 5 (k+1)).flatMap bm=(be 5 k).flatMap bm++[J 0,J ((k:Int)+1),J 0,J 0]:=by unfold be;rw[if_pos rfl,if_pos rfl,List.range_succ,List.map_append,List.flatMap_append];rfl
def vZ(h:aB w a g s)(n:Nat)(h1:1<=n)(h2:n<=32)(m:Nat)(H:1<=m)(ab:m<=4)(V:s.W.length+(1+m)<=s.room)(Y:s.ops+1<=1000000000000):E 153 #[↑a,J n,J m] w (Ad w a g 3 s n m):=by
  obtain⟨i0,hi,Kt,Kv,ad⟩:=info_parts Tryz.infoSpF;have HT:=qh (ni h (1+m) V);have x1:IntKind.i64.wrap (1+(m:Int))=((1+m:Nat):Int):=by rw[IntWalk.i64_in _ ahy];omega
  have KX:s.W.length<=4096:=by have:=h.le;have:=h.room;omega
  have LV:=h.blk.lt;have Me:=h.wds.lt;have HO:=qh Y;clear h V Y;go_enter func153,ntmps153;go_wp2_with fail;refine LT (Ix _ n h1 h2) ?_;go_wp2_with fail;refine(Ix _ m H ahy).mono ?_;rintro en w0 ⟨rfl,rfl⟩;go_wp2_with fail;refine Pi HT.o λw1 H1=>?_;clear HT;go_wp2_with (refine wpList_make_full _ rfl _ _ 237 rfl w1.heap.size 113 i0 (agg #[J 0,J 0,J 0,J 0]) 4 Tryz.underlying237 hi Kt Kv .i64 .i64 n n n rfl rfl rfl rfl ?b2 ?b3 (Nat.le_refl _) ?_);case b2=>rw[ad];omega
  case b3=>unfold maxLen;omega
  intro w2 r' hg;refine ajq ?_;intro Lj H2;have L3:=qh (j8 r');clear r' hg Lj;go_upto_region 7 with fail;obtain⟨l,hl⟩:=LE w2.heap.size;obtain⟨nx,Kz⟩:∃x:Nat,x=s.W.length+1:=⟨_,rfl⟩;have RB:((s.W.length:Int)+1)=(nx:Int):=by omega
  obtain⟨w3,O⟩:=LE (w2.alloc (cells #[↑a,J nx,J m,slice (some ⟨w1.heap.size,0,none⟩) n n] 345));rw[RB,<-O,<-hl];have HB:=qh (show Blk w3 l 345 #[↑a,J nx,J m,slice (some ⟨w1.heap.size,0,none⟩) n n]from by rw[O,hl];exact Blk.new _ _ _);have QO:=qh (show aa [a] w w3 from by rw[O];exact(H1.o.2.trans (H2.o.mono ahz)).alloc _);have Th:=qh (show aB w3 a g (bD s (1+m))from by rw[O];exact(H1.o.1.turns H2.o ahz ahz).turns (S:=[]) ((aa.refl _ _).alloc _) ahz ahz);have Yq:=qh (show SpR w3 w1.heap.size (List.replicate n Sp.zero)from by rw[O];exact L3.o.turns ((aa.refl [] _).alloc _) ahz);have HL:=qh (show w.heap.size<=l/\nx=s.W.length+1/\w1.heap.size<l/\w.heap.size<=w1.heap.size from by have:=H1.o.2.size;have:=H2.o.size;have:=L3.o.lt;omega);clear hl O Kz RB;go_wp2_with fail;refine Pi (Gz nx m H (by have:=HL.o.2.1;omega) HB.o) λw4 b4=>?_;have QD:=qh (And.intro (Th.o.turns (aa.of_below (S:=[]) b4.o) ahz ahz) b4.o);go_wp2_with fail;refine(an QD.o.1 ((nx:Int)+1) 1 (by show s.ops+1<=_;have:=HO.o;omega)).mono ?_;rintro en w5 ⟨rfl,k5,t5⟩;have H5:=qh (And.intro k5 t5);clear k5 t5;go_wp2;go_ret2;have s3:=QO.o.size;have s4:=QD.o.2.size;have s5:=H5.o.2.size;have I:=HB.o.lt;have hL:=HL.o;have e3:((nx:Int)+1)=(s.W.length:Int)+2:=by omega
  have tt:aa [a,g] w3 w5:=(aa.of_below QD.o.2).trans H5.o.2;have ka:=H5.o.1;rw[e3]at ka;refine⟨⟨0,l,w1.heap.size,3,nx,m,n,n⟩,rfl,?_,⟨by show w.heap.size<=l;omega,by show w.heap.size<=w1.heap.size;omega,rfl,rfl,hL.2.1,rfl⟩,(QO.o.mono ahz).trans tt⟩;exact⟨ka,tt.blk HB.o ahD,Yq.o.turns tt ahD,by show(List.replicate n Sp.zero).length=n;simp,by show l≠a;omega,by show l≠g;omega,by show l≠w1.heap.size;omega,by show w1.heap.size≠a;omega,by show w1.heap.size≠g;omega,h2,by show 1<=nx;omega,by show nx<=5000;omega,H,ab,Nat.le_refl _⟩
def Dx(h:aB w a g s)(n:Nat)(h1:1<=n)(h2:n<=32)(m:Nat)(ad:1<=m)(al:m<=4)(V:s.W.length+(n+2)<=s.room)(Y:s.ops+1<=1000000000000):E 155 #[↑a,J n] w (Ad w a g 5 s n m):=by
  obtain⟨i0,hi,Kt,Kv,ab⟩:=info_parts Tryz.infoSpF;have HI:=qh (And.intro hi (And.intro Kt (And.intro Kv ab)));have HT:=qh (ni h (n+2) V);have t1:¬(n:Int)<1:=by omega
  have t2:¬32<(n:Int):=by omega
  have x1:IntKind.i64.wrap ((n:Int)+2)=((n+2:Nat):Int):=by rw[IntWalk.i64_in _ ahy];omega
  have x2:IntKind.i64.wrap ((n:Int)+1)=((n+1:Nat):Int):=by rw[IntWalk.i64_in _ ahy];omega
  have KX:s.W.length<=4096:=by have:=h.le;have:=h.room;omega
  have HG:=qh (And.intro h.blk.lt h.wds.lt);have HO:=qh Y;clear h V Y hi Kt Kv ab;go_enter func155,ntmps155;go_wp2_with fail;refine Pi HT.o λw1 H1=>?_;clear HT;go_upto_region 7 with fail;obtain⟨l,hl⟩:=LE w1.heap.size;obtain⟨nx,Kz⟩:∃x:Nat,x=s.W.length+1:=⟨_,rfl⟩;have RB:((s.W.length:Int)+1)=(nx:Int):=by omega
  obtain⟨w3,MZ⟩:=LE (w1.alloc (cells #[↑a,J nx,.slice none 0 0] 350));rw[RB,<-MZ,<-hl];have HB:=qh (show Blk w3 l 350 #[↑a,J nx,.slice none 0 0]from by rw[MZ,hl];exact Blk.new _ _ _);have QO:=qh (show aa [a] w w3 from by rw[MZ];exact H1.o.2.alloc _);have Th:=qh (show aB w3 a g (bD s (n+2))from by rw[MZ];exact H1.o.1.turns (S:=[]) ((aa.refl _ _).alloc _) ahz ahz);have HL:=qh (show w.heap.size<=l/\nx=s.W.length+1/\w3.heap.size=l+1 from by have:=H1.o.2.size;rw[MZ];simp;omega);clear hl MZ Kz RB;go_wp2;go_loopw [31] (λi wr=>∃(k:Nat) (v:Value),i= J k/\k<=n/\Blk wr l 350 #[↑a,J nx,v]/\wr.ownsRow w3.heap.size 113 4 v k ((be 5 k).flatMap bm)/\aa [l] w3 wr) (λi _=>n-(intOf i).toNat);case atStart=>exact⟨0,_,rfl,by omega,HB.o,World.ownsRow_nil _ _ _ _,aa.refl _ _⟩
  case round=>
    obtain⟨k,v,rfl,hk,I,r',ht⟩:=hrel;have QS:=qh (AH k);obtain⟨xs,P0⟩:=LE ((be 5 k).flatMap bm);rw[<-P0]at r' QS;have YD:=qh P0;clear P0;obtain⟨wo,rfl⟩:∃wo:World,wo=wr:=⟨_,rfl⟩;by_cases C':k<n
    . obtain⟨A,cap,rfl⟩:=bC r';have c2:Z wo l 2 (.slice A k cap):=I.cell 2;have LC:=I.lt;have Lc:=ht.size;have H:=qh (And.intro I (And.intro r' ht));have MN:(Value.slice A k cap).ownBlock≠some l:=λe=>by have:=(r'.lt l e).1;have:=HL.o.2.2;omega
      clear I r' ht;go_wp2_with (at_builtin;refine wpList_append_lies _ rfl _ _ 237 rfl w3.heap.size 113 i0 (agg #[J 0,J 0,J 0,J 0]) 4 32 Tryz.underlying237 HI.o.1 HI.o.2.1 HI.o.2.2.1 HI.o.2.2.2 rfl ahA _ _ _ rfl (H.o.2.1.alloc _) ⟨wo.heap.size,0,none⟩ 1 1 [J 0,J ((k:Int)+1),J 0,J 0] rfl rfl (ot _ _ _) ah3 ahA ?c3 ?c4 ?c5 _ rfl ?_);case c3=>unfold maxLen;omega
      case c4=>omega
      case c5=>simp;omega
      intro g3 Lv w7 h3 O NV UA;have M7:=(H.o.1.alloc (cells #[J 0,J ((k:Int)+1),J 0,J 0] 113)).grown O (λe=>MN e.symm);have bc:Z w7 l 2 (.slice A k cap):=M7.cell 2;have bw:=M7.free 2;have ts:aa [l] w7 (w7.setCell ⟨l,2,none⟩ (slice (some ⟨g3,0,none⟩) (k+1) Lv)):=(aa.refl _ _).setCell (.inl ahz) _
      have Mm:=qh (show Blk (w7.setCell ⟨l,2,none⟩ (slice (some ⟨g3,0,none⟩) (k+1) Lv)) l 350 #[↑a,J nx,slice (some ⟨g3,0,none⟩) (k+1) Lv]/\(w7.setCell ⟨l,2,none⟩ (slice (some ⟨g3,0,none⟩) (k+1) Lv)).ownsRow w3.heap.size 113 4 (slice (some ⟨g3,0,none⟩) (k+1) Lv) (k+1) (xs++[J 0,J ((k:Int)+1),J 0,J 0])/\aa [l] w3 (w7.setCell ⟨l,2,none⟩ (slice (some ⟨g3,0,none⟩) (k+1) Lv))from by
        have WC:=(h3.lt g3 rfl).1;have ba:=HL.o.2.2;refine⟨M7.set_ 2 _,aa.own h3 ts (λx hx=>by injection hx with hx;subst hx;simp;omega),?_⟩
        have ax:aa [l] w3 w7:=⟨O.os.trans H.o.2.2.os,O.tape.trans H.o.2.2.tape,O.output.trans H.o.2.2.output,by have:=O.size;simp at this;omega,λi hi hn=>by
          have h9:=O.block i ahD (λe=>by have:=(H.o.2.1.lt i e.symm).1;omega);rw[h9];have h8:=((aa.refl [l] wo).alloc (cells #[J 0,J ((k:Int)+1),J 0,J 0] 113)).block i ahy hn;rw[h8]
          exact H.o.2.2.block i hi hn⟩
        exact ax.trans ts)
      clear h3 O NV M7 H;go_wp2;go_roundw;case rel=>exact⟨k+1,_,by go_num,by omega,Mm.o.1,by rw[QS.o];exact Mm.o.2.1,Mm.o.2.2⟩
      case measure=>simp[intOf];omega
    . obtain rfl:k=n:=by omega
      obtain⟨q,cap,rfl,OH,SZ,Zz,hZ⟩:=ud r' h1;have H:=qh (And.intro I ht);have HZ:=qh (show SpR wo q (be 5 k)from⟨Zz,by rw[<-YD.o];exact hZ⟩);clear I r' ht hZ;have QD:=qh (Th.o.turns H.o.2 (by have:=HG.o;have:=HL.o;simp;omega) (by have:=HG.o;have:=HL.o;simp;omega));go_wp2_with fail;refine(an QD.o (nx:Int) ((k+1:Nat):Int) (by show s.ops+1<=_;have:=HO.o;omega)).mono ?_;rintro en w5 ⟨rfl,k5,t5⟩;have H5:=qh (And.intro k5 t5);clear k5 t5;go_wp2;go_ret2;have s3:=QO.o.size;have s5:=H5.o.2.size;have I:=H.o.1.lt;have s6:=H.o.2.size;have hL:=HL.o;have hG:=HG.o;have e3:(nx:Int)=(s.W.length:Int)+1:=(by omega);have ka:=H5.o.1;rw[e3,show(((k+1:Nat):Nat):Int)=(k:Int)+1 by omega]at ka;have t9:aa [a,g,l] w w5:=((QO.o.mono ahz).trans (H.o.2.mono ahz)).trans (H5.o.2.mono ahz);refine⟨⟨0,l,q,5,nx,m,k,cap⟩,rfl,?_,⟨by show w.heap.size<=l;omega,by show w.heap.size<=q;omega,rfl,rfl,hL.2.1,rfl⟩,t9.fresh λi hi=>by simp at hi ⊢;omega⟩;exact⟨ka,H5.o.2.blk H.o.1 ahD,HZ.o.turns H5.o.2 ahD,vQ k,by show l≠a;omega,by show l≠g;omega,by show l≠q;omega,by show q≠a;omega,by show q≠g;omega,h2,by show 1<=nx;omega,by show nx<=5000;omega,ad,al,OH⟩
end
section
open Go.RowKit
variable{g:Nat}{s:Ar}
def qd(w:World)(a g k:Nat)(s:Ar)(n m:Nat)(e:Ending)(w':World):Prop:=
 ∃x:Fx,e= returned (tuple #[↑x.p,J 0])/\dy w' a g k x (aG k s n m) (be k n)/\(w.heap.size<=x.p/\w.heap.size<=x.l/\w.heap.size<=x.q/\x.n=n/\x.m=m/\x.t=s.W.length+1)/\aa [a,g] w w'
def DY(h:aB w a g s)(n:Nat)(h1:1<=n)(h2:n<=32)(m:Nat)(ab:1<=m)(ad:m<=4)(V:s.W.length+szK 1 n m<=s.room)(Y:s.ops+1<=1000000000000):E 109 #[↑a,J 1,J n,J m] w (qd w a g 1 s n m):=by have H2:=qh (EZ h n h1 h2 m ab ad (show s.W.length+(1)<=s.room from V));have HG:=qh (And.intro h.blk.lt h.wds.lt);clear h V Y;go_enter func109,ntmps109;go_wp2_with fail;refine H2.o.mono ?_;rintro en w1 ⟨x,rfl,H,I,e3⟩;have HE:=qh (And.intro H (And.intro I e3));clear H I e3;go_wp2;go_ret2;obtain⟨H,I,e3⟩:=HE.o;have hq:=H.sp.lt;have hs:=e3.size;have hg:=HG.o;have O:aa [] w1 (w1.alloc (cells #[J ((1:Nat):Int),ifV 1 x.l] 303)):=(aa.refl _ _).alloc _;exact⟨{x with p:=w1.heap.size},rfl,⟨Blk.new w1 303 #[J ((1:Nat):Int),ifV 1 x.l],⟨H.ar.turns O ahz ahz,O.blk H.lk ahz,H.sp.turns O ahz,H.n,H.la,H.lg,H.lq,H.qa,H.qg,H.n32,H.t0,H.t1,H.m0,H.m1,H.cap⟩,by show w1.heap.size≠a;omega,by show w1.heap.size≠g;omega,by show w1.heap.size≠x.q;omega⟩,⟨by show w.heap.size<=w1.heap.size;omega,I.1,I.2.1,I.2.2.1,I.2.2.2.1,I.2.2.2.2.1⟩,e3.alloc _⟩
def DZ(h:aB w a g s)(n:Nat)(h1:1<=n)(h2:n<=32)(m:Nat)(ab:1<=m)(ad:m<=4)(V:s.W.length+szK 2 n m<=s.room)(Y:s.ops+1<=1000000000000):E 109 #[↑a,J 2,J n,J m] w (qd w a g 2 s n m):=by have H2:=qh (wR h n h1 h2 m ab ad (show s.W.length+(2)<=s.room from V));have HG:=qh (And.intro h.blk.lt h.wds.lt);clear h V Y;go_enter func109,ntmps109;go_wp2_with fail;refine H2.o.mono ?_;rintro en w1 ⟨x,rfl,H,I,e3⟩;have HE:=qh (And.intro H (And.intro I e3));clear H I e3;go_wp2;go_ret2;obtain⟨H,I,e3⟩:=HE.o;have hq:=H.sp.lt;have hs:=e3.size;have hg:=HG.o;have O:aa [] w1 (w1.alloc (cells #[J ((2:Nat):Int),ifV 2 x.l] 303)):=(aa.refl _ _).alloc _;exact⟨{x with p:=w1.heap.size},rfl,⟨Blk.new w1 303 #[J ((2:Nat):Int),ifV 2 x.l],⟨H.ar.turns O ahz ahz,O.blk H.lk ahz,H.sp.turns O ahz,H.n,H.la,H.lg,H.lq,H.qa,H.qg,H.n32,H.t0,H.t1,H.m0,H.m1,H.cap⟩,by show w1.heap.size≠a;omega,by show w1.heap.size≠g;omega,by show w1.heap.size≠x.q;omega⟩,⟨by show w.heap.size<=w1.heap.size;omega,I.1,I.2.1,I.2.2.1,I.2.2.2.1,I.2.2.2.2.1⟩,e3.alloc _⟩
def D0(h:aB w a g s)(n:Nat)(h1:1<=n)(h2:n<=32)(m:Nat)(ab:1<=m)(ad:m<=4)(V:s.W.length+szK 3 n m<=s.room)(Y:s.ops+1<=1000000000000):E 109 #[↑a,J 3,J n,J m] w (qd w a g 3 s n m):=by have H2:=qh (vZ h n h1 h2 m ab ad (show s.W.length+(1+m)<=s.room from V) Y);have HG:=qh (And.intro h.blk.lt h.wds.lt);clear h V Y;go_enter func109,ntmps109;go_wp2_with fail;refine H2.o.mono ?_;rintro en w1 ⟨x,rfl,H,I,e3⟩;have HE:=qh (And.intro H (And.intro I e3));clear H I e3;go_wp2;go_ret2;obtain⟨H,I,e3⟩:=HE.o;have hq:=H.sp.lt;have hs:=e3.size;have hg:=HG.o;have O:aa [] w1 (w1.alloc (cells #[J ((3:Nat):Int),ifV 3 x.l] 303)):=(aa.refl _ _).alloc _;exact⟨{x with p:=w1.heap.size},rfl,⟨Blk.new w1 303 #[J ((3:Nat):Int),ifV 3 x.l],⟨H.ar.turns O ahz ahz,O.blk H.lk ahz,H.sp.turns O ahz,H.n,H.la,H.lg,H.lq,H.qa,H.qg,H.n32,H.t0,H.t1,H.m0,H.m1,H.cap⟩,by show w1.heap.size≠a;omega,by show w1.heap.size≠g;omega,by show w1.heap.size≠x.q;omega⟩,⟨by show w.heap.size<=w1.heap.size;omega,I.1,I.2.1,I.2.2.1,I.2.2.2.1,I.2.2.2.2.1⟩,e3.alloc _⟩
def D1(h:aB w a g s)(n:Nat)(h1:1<=n)(h2:n<=32)(m:Nat)(ab:1<=m)(ad:m<=4)(V:s.W.length+szK 4 n m<=s.room)(Y:s.ops+1<=1000000000000):E 109 #[↑a,J 4,J n,J m] w (qd w a g 4 s n m):=by have H2:=qh (Et h n h1 h2 m ab ad (show s.W.length+(1+2*n)<=s.room from V));have HG:=qh (And.intro h.blk.lt h.wds.lt);clear h V Y;go_enter func109,ntmps109;go_wp2_with fail;refine H2.o.mono ?_;rintro en w1 ⟨x,rfl,H,I,e3⟩;have HE:=qh (And.intro H (And.intro I e3));clear H I e3;go_wp2;go_ret2;obtain⟨H,I,e3⟩:=HE.o;have hq:=H.sp.lt;have hs:=e3.size;have hg:=HG.o;have O:aa [] w1 (w1.alloc (cells #[J ((4:Nat):Int),ifV 4 x.l] 303)):=(aa.refl _ _).alloc _;exact⟨{x with p:=w1.heap.size},rfl,⟨Blk.new w1 303 #[J ((4:Nat):Int),ifV 4 x.l],⟨H.ar.turns O ahz ahz,O.blk H.lk ahz,H.sp.turns O ahz,H.n,H.la,H.lg,H.lq,H.qa,H.qg,H.n32,H.t0,H.t1,H.m0,H.m1,H.cap⟩,by show w1.heap.size≠a;omega,by show w1.heap.size≠g;omega,by show w1.heap.size≠x.q;omega⟩,⟨by show w.heap.size<=w1.heap.size;omega,I.1,I.2.1,I.2.2.1,I.2.2.2.1,I.2.2.2.2.1⟩,e3.alloc _⟩
def D2(h:aB w a g s)(n:Nat)(h1:1<=n)(h2:n<=32)(m:Nat)(ab:1<=m)(ad:m<=4)(V:s.W.length+szK 5 n m<=s.room)(Y:s.ops+1<=1000000000000):E 109 #[↑a,J 5,J n,J m] w (qd w a g 5 s n m):=by have H2:=qh (Dx h n h1 h2 m ab ad (show s.W.length+(n+2)<=s.room from V) Y);have HG:=qh (And.intro h.blk.lt h.wds.lt);clear h V Y;go_enter func109,ntmps109;go_wp2_with fail;refine H2.o.mono ?_;rintro en w1 ⟨x,rfl,H,I,e3⟩;have HE:=qh (And.intro H (And.intro I e3));clear H I e3;go_wp2;go_ret2;obtain⟨H,I,e3⟩:=HE.o;have hq:=H.sp.lt;have hs:=e3.size;have hg:=HG.o;have O:aa [] w1 (w1.alloc (cells #[J ((5:Nat):Int),ifV 5 x.l] 303)):=(aa.refl _ _).alloc _;exact⟨{x with p:=w1.heap.size},rfl,⟨Blk.new w1 303 #[J ((5:Nat):Int),ifV 5 x.l],⟨H.ar.turns O ahz ahz,O.blk H.lk ahz,H.sp.turns O ahz,H.n,H.la,H.lg,H.lq,H.qa,H.qg,H.n32,H.t0,H.t1,H.m0,H.m1,H.cap⟩,by show w1.heap.size≠a;omega,by show w1.heap.size≠g;omega,by show w1.heap.size≠x.q;omega⟩,⟨by show w.heap.size<=w1.heap.size;omega,I.1,I.2.1,I.2.2.1,I.2.2.2.1,I.2.2.2.2.1⟩,e3.alloc _⟩
def Bs(h:aB w a g s)(k:Nat)(hk:KOk k)(n:Nat)(h1:1<=n)(O:n<=32)(m:Nat)(H:1<=m)(I:m<=4)(V:s.W.length+szK k n m<=s.room)(Y:s.ops+1<=1000000000000):E 109 #[↑a,J (k:Int),J n,J m] w (qd w a g k s n m):=by
  rcases hk with rfl|rfl|rfl|rfl|rfl
  . exact DY h n h1 O m H I V Y
  . exact DZ h n h1 O m H I V Y
  . exact D0 h n h1 O m H I V Y
  . exact D1 h n h1 O m H I V Y
  . exact D2 h n h1 O m H I V Y
end
section
open Go.RowKit
variable{y:Fx}{p' p:Sp}
structure Cox where
 l:Nat
 b:Nat
 qn:Nat
 qs:Nat
 n:Nat
 N:Nat
 capn:Nat
 par:Nat
 g:Fx
 X:List Fx
 W:List Nat
 o:Nat->Nat
def ndE(y:Fx×Nat):List Value:=[pointer (some ⟨y.1.p,0,none⟩),J y.2]
def xK(y:Fx×Nat):(ndE y).length=2:=rfl
structure yd(B:Nat->Prop)(a g:Nat)(x:Cox)(c:CoC)(P T:List Int):Prop where
 ck:a5 P T=0
 nT:x.n=T.length
 nN:x.N=(ac P).length
 lX:x.X.length=x.N
 lW:x.W.length=x.N
 cap:x.N<=x.capn
 cn:∀i,i<x.n->c.node i=gr P T i/\(c.slot i:Int)=cQ T i
 tg:c.tg=x.g.t
 tl:∀(n:Nat) (y:Fx),x.X[n]? =some y->c.tl n=y.t/\(y.m:Int)=c.m
 gm:(x.g.m:Int)=c.m
 pm:(x.par:Int)=c.m
 cc:∀(n v:Nat),x.W[n]? =some v->c.cw n=v/\v<=5000
 kg:KOk c.kg
 kl:KOk c.kl
 bud:0<=c.bud/\c.bud<=1000
 par:1<=x.par/\x.par<=4
 ol:x.o x.l=1
 on:x.o x.qn=1
 os:x.o x.qs=2
 oa:x.o a=3
 og:x.o g=3
 oG:x.o x.g.p=4/\x.o x.g.l=4/\x.o x.g.q=4
 oL:∀(n:Nat) (y:Fx),x.X[n]? =some y->x.o y.p=5+n/\x.o y.l=5+n/\x.o y.q=5+n
 oB:∀i,B i->x.o i=0
structure aD(B:Nat->Prop)(w:World)(a g:Nat)(x:Cox)(c:CoC)(P T:List Int)(st:Co):Prop where
 fx:yd B a g x c P T
 ar:aB w a g st.s
 lk:Blk w x.l 240 (coC a x.b c.kg c.kl x.par c.bud ↑x.g.p (slice (some ⟨x.qn,0,none⟩) x.N x.capn) (slice (some ⟨x.qs,0,none⟩) x.n x.n))
 tb:dD B w x.b P T
 nd:∃Zz:List Value,Blk w x.qn 243 ((x.X.zip x.W).flatMap ndE++Zz).toArray
 sp:SpR w x.qs st.T
 gl:dy w a g c.kg x.g st.s st.G
 lo:∀(n:Nat) (y:Fx) (S:List Sp),x.X[n]? =some y->st.L[n]? =some S->dy w a g c.kl y st.s S
 lL:st.L.length=x.N
 lG:st.G.length=x.N
 lS:st.T.length=x.n
 sl:∀(i:Nat) (S:List Sp),i<x.n->st.L[c.node i]? =some S->c.slot i<S.length
section
variable{g:Nat}{x:Cox}{c:CoC}{st:Co}{s':Ar}
def yd.n32(h:yd B a g x c P T):x.n<=32/\x.N<=32:=by
 have h1:=bj (aR h.ck).1;have:=a8 P P.length;have H:=h.nT;have I:=h.nN;have:(ac P).length<=32:=by show(am P P.length).length<=32;omega
 omega
def yd.node(h:yd B a g x c P T)(hi:i<x.n):c.node i<x.N/\(ao P T T.length)[i]? =some (c.node i:Int):=by
 have O:i<T.length:=by rw[<-h.nT];exact hi
 obtain⟨y,I⟩:=ai O;have hm:=jA (aR h.ck).2.2.2 I;obtain⟨k,H⟩:=Int.eq_ofNat_of_zero_le ((eV (ac P) y).1.2 hm);have hg:=nK hm H;have e:c.node i=k:=by rw[(h.cn i hi).1];unfold gr;rw[bp I,H];rfl
 rw[e,h.nN];refine⟨(List.getElem?_eq_some_iff.1 hg).1,?_⟩;unfold ao;rw[List.take_length,List.getElem?_map,I];show some (fM (ac P) y)=_;rw[H]
def aD.loc(h:aD B w a g x c P T st)(hi:i<x.n):∃(y:Fx) (v:Nat) (S:List Sp),x.X[c.node i]? =some y/\x.W[c.node i]? =some v/\st.L[c.node i]? =some S/\c.slot i<S.length/\S[c.slot i]? =some (lsp st.L (c.node i) (c.slot i)):=by
 have I:=(h.fx.node hi).1;obtain⟨y,V⟩:=ai (show c.node i<x.X.length by rw[h.fx.lX];exact I);obtain⟨v,O⟩:=ai (show c.node i<x.W.length by rw[h.fx.lW];exact I);obtain⟨S,H⟩:=ai (show c.node i<st.L.length by rw[h.lL];exact I);have hs:=h.sl i S hi H;refine⟨y,v,S,V,O,H,hs,?_⟩;unfold lsp;have e:st.L.getD (c.node i) []=S:=by rw[List.getD_eq_getElem?_getD,H];rfl
 rw[e,List.getD_eq_getElem?_getD,List.getElem?_eq_getElem hs];rfl
def aD.glo(h:aD B w a g x c P T st)(hi:i<x.n):st.G[c.node i]? =some (sv st.G (c.node i)):=by
 have H:=(h.fx.node hi).1;have:c.node i<st.G.length:=by rw[h.lG];exact H
 exact aav
def aD.thr(h:aD B w a g x c P T st)(hi:i<x.n):st.T[i]? =some (sv st.T i):=by
 have:i<st.T.length:=by rw[h.lS];exact hi
 exact aav
def mM{o:Nat->Nat}{u v:Nat}(hi:o i=u)(H:o j=v)(h:u≠v):i≠j:=λe=>h (by rw[<-hi,<-H,e])
def aD.turns0(h:aD B w a g x c P T st)(t:aa [] w w'):aD B w' a g x c P T st:=
  {h with ar:=h.ar.turns t ahz ahz,lk:=t.blk h.lk ahz,tb:=h.tb.turns t ahz,nd:=by obtain⟨H,z⟩:=h.nd;exact⟨H,t.blk z ahz⟩,
           sp:=h.sp.turns t ahz,gl:=h.gl.turns t ahz ahz ahz ahz ahz,lo:=λn y S O I=>(h.lo n y S O I).turns t ahz ahz ahz ahz ahz}
def aD.below(h:aD B w a g x c P T st)(t:Below w.heap.size w w'):aD B w' a g x c P T st:=h.turns0 (aa.of_below t)
def aD.rest(h:aD B w a g x c P T st){S:List Nat}(t:aa S w w')(O:∀i∈S,2<=x.o i):Blk w' x.l 240 (coC a x.b c.kg c.kl x.par c.bud ↑x.g.p (slice (some ⟨x.qn,0,none⟩) x.N x.capn) (slice (some ⟨x.qs,0,none⟩) x.n x.n))/\
    dD B w' x.b P T/\∃H:List Value,Blk w' x.qn 243 ((x.X.zip x.W).flatMap ndE++H).toArray:=by obtain⟨H,z⟩:=h.nd;exact⟨t.blk h.lk (λk=>by have:=O _ k;rw[h.fx.ol]at this;omega),h.tb.turns t (λi hi I=>by have:=O i hi;rw[h.fx.oB i I]at this;omega),H,t.blk z (λk=>by have:=O _ k;rw[h.fx.on]at this;omega)⟩
def aD.cnt(h:aD B w a g x c P T st)(t:aa [a,g] w w')(I:aB w' a g s'):aD B w' a g x c P T {st with s:=s'}:=by
 obtain⟨h1,V,Y⟩:=h.rest t (by intro i hi;simp at hi;rcases hi with rfl|rfl<;>first|(rw[h.fx.oa];omega)|(rw[h.fx.og];omega));have n2:∀r u,x.o r=u->u≠3->r∉[a,g]:=λr u e O=>by simp only[List.mem_cons,List.not_mem_nil,or_false,not_or];exact⟨mM e h.fx.oa O,mM e h.fx.og O⟩
 exact⟨h.fx,I,h1,V,Y,h.sp.turns t (n2 _ _ h.fx.os ahA),h.gl.oth t I (n2 _ _ h.fx.oG.1 ahA) (n2 _ _ h.fx.oG.2.1 ahA) (n2 _ _ h.fx.oG.2.2 ahA),
  λn y S H hS=>(h.lo n y S H hS).oth t I (n2 _ _ (h.fx.oL n y H).1 ahy) (n2 _ _ (h.fx.oL n y H).2.1 ahy) (n2 _ _ (h.fx.oL n y H).2.2 ahy),h.lL,h.lG,h.lS,h.sl⟩
def IY{o:Nat->Nat}{g q r u v:Nat}(H:o a=3)(hg:o g=3)(I:o q=v)(e:o r=u)(h:u≠3)(O:u≠v):r∉[a,g,q]:=by simp only[List.mem_cons,List.not_mem_nil,or_false,not_or];exact⟨mM e H h,mM e hg h,mM e I O⟩
def aD.locOp(h:aD B w a g x c P T st)(hi:i<x.n)(hy:x.X[c.node i]? =some y)(t:aa [a,g,y.q] w w')(hf:dy w' a g c.kl y s' ((st.L.getD (c.node i) []).set (c.slot i) p')):aD B w' a g x c P T {st with s:=s',L:=jU st.L (c.node i) (c.slot i) p'}:=by
  have hq:=(h.fx.oL _ y hy).2.2;obtain⟨h1,h2,h3⟩:=h.rest t aiK;have V:∀r u,x.o r=u->u≠3->u≠5+c.node i->r∉[a,g,y.q]:=λr u e hu O=>IY h.fx.oa h.fx.og hq e hu O
  refine⟨h.fx,hf.ki.ar,h1,h2,h3,h.sp.turns t (V _ _ h.fx.os ahA ahy),h.gl.oth t hf.ki.ar (V _ _ h.fx.oG.1 ahA ahy) (V _ _ h.fx.oG.2.1 ahA ahy) (V _ _ h.fx.oG.2.2 ahA ahy),
    λn z S I H=>?_,?_,h.lG,h.lS,λj S hj H=>?_⟩
  . unfold jU at H;simp only at H;rw[List.getElem?_set]at H;split at H
    . rename_i e;split at H;. simp only[Option.some.injEq]at H;subst e;rw[hy]at I;injection I with I;subst I;subst H;exact hf
      . cases H
    . rename_i e;have Y:∀u,u=5+n->u≠5+c.node i:=(by omega);exact(h.lo n z S I H).oth t hf.ki.ar (V _ _ (h.fx.oL n z I).1 ahy (Y _ rfl)) (V _ _ (h.fx.oL n z I).2.1 ahy (Y _ rfl)) (V _ _ (h.fx.oL n z I).2.2 ahy (Y _ rfl))
  . show(jU _ _ _ _).length=_;unfold jU;rw[List.length_set];exact h.lL
  . unfold jU at H;simp only at H;rw[List.getElem?_set]at H;split at H
    . rename_i e;split at H;. simp only[Option.some.injEq]at H;subst H;rw[List.length_set];rename_i hl;have:=h.sl j (st.L.getD (c.node i) []) hj (by rw[<-e,List.getD_eq_getElem?_getD,List.getElem?_eq_getElem hl];rfl);exact this
      . cases H
    . exact h.sl j S hj H
def aD.gloOp(h:aD B w a g x c P T st){n:Nat}(t:aa [a,g,x.g.q] w w')(V:dy w' a g c.kg x.g s' (st.G.set n p')):aD B w' a g x c P T {st with s:=s',G:=st.G.set n p'}:=by
  have hq:=h.fx.oG.2.2;obtain⟨h1,Y,h3⟩:=h.rest t aiK;have I:∀r u,x.o r=u->u≠3->u≠4->r∉[a,g,x.g.q]:=λr u e hu O=>IY h.fx.oa h.fx.og hq e hu O
  exact⟨h.fx,V.ki.ar,h1,Y,h3,h.sp.turns t (I _ _ h.fx.os ahA ahy),V,
    λn z S H hS=>(h.lo n z S H hS).oth t V.ki.ar (I _ _ (h.fx.oL n z H).1 ahy ahy) (I _ _ (h.fx.oL n z H).2.1 ahy ahy) (I _ _ (h.fx.oL n z H).2.2 ahy ahy),h.lL,by show(st.G.set n p').length=_;rw[List.length_set];exact h.lG,h.lS,h.sl⟩
def aD.put(h:aD B w a g x c P T st)(hp:st.T[i]? =some p)(hj:j<4)(he:(bm p).set j u=bm p'):aD B (w.setCell ⟨x.qs,i*4+j,none⟩ u) a g x c P T {st with T:=st.T.set i p'}:=by
  have t:aa [x.qs] w (w.setCell ⟨x.qs,i*4+j,none⟩ u):=aW _ _ _;obtain⟨h1,Y,h3⟩:=h.rest t (by intro i hi;simp at hi;subst hi;rw[h.fx.os];omega);have n1:∀r v,x.o r=v->v≠2->r∉[x.qs]:=λr v e O=>by simpa using mM e h.fx.os O
  have I:=n1 _ _ h.fx.oa ahA;have V:=n1 _ _ h.fx.og ahA
  exact⟨h.fx,h.ar.turns t I V,h1,Y,h3,h.sp.put hp hj he,h.gl.turns t (n1 _ _ h.fx.oG.1 ahA) (n1 _ _ h.fx.oG.2.1 ahA) I V (n1 _ _ h.fx.oG.2.2 ahA),
    λn z S H hS=>(h.lo n z S H hS).turns t (n1 _ _ (h.fx.oL n z H).1 ahy) (n1 _ _ (h.fx.oL n z H).2.1 ahy) I V (n1 _ _ (h.fx.oL n z H).2.2 ahy),h.lL,h.lG,by show(st.T.set i p').length=_;rw[List.length_set];exact h.lS,h.sl⟩
def aD.put0(h:aD B w a g x c P T st)(I:st.T[i]? =some p)(H:(bm p).set 0 u=bm p'):aD B (w.setCell ⟨x.qs,i*4,none⟩ u) a g x c P T {st with T:=st.T.set i p'}:=h.put I (j:=0) ahA H
def aD.row(h:aD B w a g x c P T st){n:Nat}{v:Nat}(V:x.X[n]? =some y)(O:x.W[n]? =some v):Z w x.qn (n*2) ↑y.p/\Z w x.qn (n*2+1) (J v):=by
  obtain⟨Y,z⟩:=h.nd;have I:(x.X.zip x.W)[n]? =some (y,v):=by rw[List.getElem?_zip_eq_some];exact⟨V,O⟩
  have c0:=ch ndE 2 xK _ n _ 0 ↑y.p I rfl;have c1:=ch ndE 2 xK _ n _ 1 (J v) I rfl;have l0:=(List.getElem?_eq_some_iff.1 c0).1;have l1:=(List.getElem?_eq_some_iff.1 c1).1;have e0:=z.cell (n*2);have H:=z.cell (n*2+1);simp only[List.getElem?_toArray]at e0 H;rw[List.getElem?_append_left (by simpa using l0),show n*2=n*2+0 from rfl,c0]at e0;rw[List.getElem?_append_left l1,c1]at H;exact⟨e0,H⟩
def lZ{P:Program}{I:Func}{p u v:Tmp}{ty:TypeId}(h:I.results=#[.cell p ty,.tmp u,.tmp v])(H:Array Value)(w:World)(g:Nat)(t:TypeId)(cs:Array Value)(fr:Nat×Nat)(d:TypeDesc)(V:H.getD p undef= ↑g)(hg:w.heap[g]? =some (.cells cs t fr))(Y:P.underlying ty=some d)(hd:(match d with|.struct _|.array _ _=>true|_=>false)=true)(hi:(P.info? ty).map (·.size)=some cs.size):(results I H).run P w= .ok (tuple #[.agg cs,H.getD u undef,H.getD v undef]) w:=by
  have O:H[p]?.getD undef= ↑g:=by simpa using V
  simp[results,h,O,asAddr,run_loadVar_row w g t ty cs fr d hg Y hd hi]
def zL(h:aD B w a g x c P T st):E 238 #[↑x.l] w λe w'=>e= returned (J x.n)/\w=w':=by have H:Z w x.l 8 (slice (some ⟨x.qs,0,none⟩) x.n x.n):=h.lk.cell 8;clear h;go_enter func238,ntmps238;exact aab
def Fd(h:aD B w a g x c P T st)(i:Nat)(hi:i<x.n):E 239 #[↑x.l,J i] w λe w'=>e= returned (bool true)/\w=w':=by
 have HT:=qh (zL h);have H:=h.fx.n32;have t1:(0:Int)<=i:=by omega
 have t2:(i:Int)<x.n:=by omega
 clear h;go_enter func239,ntmps239;exact aae
def mN(h:aD B w a g x c P T st)(i:Nat)(hi:i<x.n):E 236 #[↑x.l,J i] w λe w'=>e= returned (aC (sv st.T i))/\Below w.heap.size w w':=by
  have H:Kq (aD B (w.alloc (cells #[J 0,J 0,J 0,J 0] 113)) a g x c P T st):=qh (h.below ((Below.refl _ _).alloc (Nat.le_refl _) _));have hp:=h.thr hi;obtain⟨p,I⟩:=LE (sv st.T i);rw[<-I]at hp ⊢;have c8:Z w x.l 8 (slice (some ⟨x.qs,0,none⟩) x.n x.n):=h.lk.cell 8;refine aiX ?_;intro a0 a1 a2 a3;have O:=qh (Fd H.o i hi);have V:=h.lk.lt;have Y:=h.sp.lt;have t2:¬(i:Int)<0:=by omega
  clear h hp I;go_enter func236,ntmps236;go_wp2_with (go_at_call 239;refine O.o.mono ?_;rintro e w' ⟨rfl,rfl⟩);exact bodyPost_ret (results_cell_row ahC _ _ w.heap.size 113 _ (0,0) _ ahC (heap_alloc_new w _) Tryz.underlying113 rfl ahB) rfl ⟨rfl,(Below.refl _ _).alloc (Nat.le_refl _) _⟩
def pr(h:aD B w a g x c P T st)(i:Nat)(hi:i<x.n){v:Nat}(V:x.X[c.node i]? =some y)(O:x.W[c.node i]? =some v):E 240 #[↑x.l,J i] w λe w'=>e= returned (tuple #[agg #[↑y.p,J v],J (c.node i:Int),J (c.slot i:Int)])/\Below w.heap.size w w':=by
  have hn:=h.fx.n32;obtain⟨hN,I⟩:=h.fx.node hi;have hT:i<T.length:=by rw[<-h.fx.nT];exact hi
  have Ku:=(h.fx.cn i hi).2;obtain⟨r0,r1⟩:=h.row V O;have b1:=(Below.refl w.heap.size w).alloc (Nat.le_refl _) (cells #[.pointer none,J 0] 243);have h1:=h.below b1;have c1:Z w x.l 1 ↑x.b:=h.lk.cell 1;have c7:Z w x.l 7 (slice (some ⟨x.qn,0,none⟩) x.N x.capn):=h.lk.cell 7;have HN:=qh (jZ (w.alloc (cells #[.pointer none,J 0] 243)) x.b P T i hT h1.tb.f _ I);have UM:=Fi (w.alloc (cells #[.pointer none,J 0] 243)).drew x.b P T i hT (h1.below (Below.drew (Below.refl _ _))).tb.f;rw[<-Ku]at UM;have HS:=qh UM;have Lr:=h.lk.lt;obtain⟨nd,H⟩:=LE (c.node i);rw[<-H]at hN r0 r1 HN ⊢;obtain⟨sl,hs⟩:=LE (c.slot i);rw[<-hs]at HS ⊢;have t1:(0:Int)<=(nd:Int):=by omega
  have t2:(nd:Int)<x.N:=by omega
  have t3:(nd:Int)<=x.N:=by omega
  have HB:=qh b1;have HK:Kq (∀o:Obj,(w.alloc o).drew.cell? ⟨x.l,1,none⟩=some ↑x.b/\(w.alloc o).drew.cell? ⟨x.l,7,none⟩=some (slice (some ⟨x.qn,0,none⟩) x.N x.capn)/\(w.alloc o).drew.cell? ⟨x.qn,nd*2,none⟩=some ↑y.p/\(w.alloc o).drew.cell? ⟨x.qn,nd*2+1,none⟩=some (J v)):=qh λo=>by have Y:=h.below (((Below.refl w.heap.size w).alloc (Nat.le_refl _) o).drew);exact⟨Y.lk.cell 1,Y.lk.cell 7,(Y.row (H ▸ V) (H ▸ O)).1,(Y.row (H ▸ V) (H ▸ O)).2⟩
  clear h h1 b1 UM V O I Ku H hs r0 r1;go_enter func240,ntmps240;go_wp2_with fail;refine LT HN.o ?_;go_wp2_with fail
  go_region_held3 (λW=>Z W x.l 1 ↑x.b/\Z W x.l 7 (slice (some ⟨x.qn,0,none⟩) x.N x.capn)/\Z W x.qn (nd*2) ↑y.p/\Z W x.qn (nd*2+1) (J v))
    (first|exact HK.o _)
    (first|(go_at_call 143;go_loud (refine LT HS.o ?_)))
  all_goals go_wp2;exact bodyPost_ret (lZ ahC _ _ w.heap.size 243 _ (0,0) _ ahC (heap_alloc_new w _) Tryz.underlying243 rfl ahB) rfl ⟨rfl,((Below.refl _ _).alloc (Nat.le_refl _) _).drew⟩
end
end
section
open Go.RowKit
variable{y:Fx}
def CoS(a g:Nat)(x:Cox):List Nat:=a :: g :: x.qs :: x.g.q :: x.X.map Fx.q
structure dh(BB:Int)(x:Cox)(c:CoC)(st:Co):Prop where
 ops:st.s.ops+1<=1000000000000
 bd:CoB c BB st
 B0:1<=BB
 B1:BB<=10000000000
 ig:inR st.s.W x.g.t=true
 il:∀(n:Nat) (y:Fx),x.X[n]? =some y->inR st.s.W y.t=true
 v:CoV c x.n st
section
variable{g:Nat}{x:Cox}{c:CoC}{st st':Co}{s':Ar}
def aD.lts(h:aD B w a g x c P T st):∀r∈CoS a g x,r<w.heap.size:=by
 intro r V;unfold CoS at V;simp only[List.mem_cons]at V;rcases V with rfl|rfl|rfl|rfl|V
 .exact h.ar.blk.lt
 .exact h.ar.wds.lt
 .exact h.sp.lt
 .exact h.gl.ki.sp.lt
 .obtain⟨y,O,rfl⟩:=List.mem_map.1 V;obtain⟨n,H,e⟩:=List.getElem_of_mem O;have I:n<st.L.length:=by rw[h.lL,<-h.fx.lX];exact H
  exact(h.lo n y _ (by rw[List.getElem?_eq_getElem H,e]) (List.getElem?_eq_getElem I)).ki.sp.lt
def r9{n:Nat}(h:x.X[n]? =some y)(t:aa [a,g,y.q] w w'):aa (CoS a g x) w w':=by
 refine t.mono ?_;intro i hi;have hm:y.q∈x.X.map Fx.q:=List.mem_map.2 ⟨y,List.mem_of_getElem? h,rfl⟩;unfold CoS;simp only[List.mem_cons,List.not_mem_nil,or_false]at hi ⊢;rcases hi with rfl|rfl|rfl
 .exact .inl rfl
 .exact .inr (.inl rfl)
 .exact .inr (.inr (.inr (.inr hm)))
def wP(t:aa [a,g,x.g.q] w w'):aa (CoS a g x) w w':=by refine t.mono ?_;intro i hi;unfold CoS;simp only[List.mem_cons,List.not_mem_nil,or_false]at hi ⊢;rcases hi with rfl|rfl|rfl<;>simp
def Fm(t:aa [a,g] w w'):aa (CoS a g x) w w':=by refine t.mono ?_;intro i hi;unfold CoS;simp only[List.mem_cons,List.not_mem_nil,or_false]at hi ⊢;rcases hi with rfl|rfl<;>simp
def uB(i:Nat)(u:Value):aa (CoS a g x) w (w.setCell ⟨x.qs,i,none⟩ u):=(aa.refl _ _).setCell (.inl aia) _
def I1(h:aD B w a g x c P T st)(C:dh BB x c st){n:Nat}{S:List Sp}(I:x.X[n]? =some y)(H:st.L[n]? =some S):lh c.kl y st.s S BB:=
 ⟨C.ops,C.bd.w,C.bd.l S (List.mem_of_getElem? H),C.B0,C.B1,C.il n y I⟩
def J2(C:dh BB x c st):lh c.kg x.g st.s st.G BB:=⟨C.ops,C.bd.w,C.bd.g,C.B0,C.B1,C.ig⟩
def js{α:Type}{l:List α}{n:Nat}{z d:α}(h:l[n]? =some z):l.getD n d=z:=by rw[List.getD_eq_getElem?_getD,h];rfl
def sR(h:aD B w a g x c P T st)(C:dh BB x c st)(i:Nat)(hi:i<x.n)(H:x.X[c.node i]? =some y):E 245 #[↑y.p,J (c.slot i)] w λe w'=>e= returned (bool (mr c st i))/\aD B w' a g x c P T {st with s:=(stL c st i).1,L:=setL c st i (stL c st i).2}/\aa (CoS a g x) w w':=by obtain⟨y',v,S,V,O,I,hs,J'⟩:=h.loc hi;rw[H]at V;injection V with e;subst e;have Y:=(h.fx.tl _ _ H).1;have e2:=(h.fx.tl _ _ H).2;have eS:st.L.getD (c.node i) []=S:=js I;refine(rf (h.lo _ _ _ H I) h.fx.kl (c.slot i) _ J' (I1 h C H I) (C.v.lpc hi)).mono ?_;rintro e w' ⟨rfl,hf,t⟩;rw[<-Y,e2]at hf;rw[<-Y,e2];refine⟨rfl,?_,r9 H t⟩;refine h.locOp hi H t ?_;rw[eS];exact hf
def sQ(h:aD B w a g x c P T st)(C:dh BB x c st)(i:Nat)(hi:i<x.n):E 245 #[↑x.g.p,J (c.node i)] w λe w'=>e= returned (bool (n5 c st i))/\aD B w' a g x c P T {st with s:=(stG c st i).1,G:=st.G.set (c.node i) (stG c st i).2}/\aa (CoS a g x) w w':=by have H:=h.fx.tg;have I:=h.fx.gm;refine(rf h.gl h.fx.kg (c.node i) _ (h.glo hi) (J2 C) (C.v.gpc hi)).mono ?_;rintro e w' ⟨rfl,O,t⟩;rw[<-H,I]at O;rw[<-H,I];exact⟨rfl,h.gloOp t O,wP t⟩
def qp(h:aD B w a g x c P T st)(i:Nat)(hi:i<x.n)(H:x.X[c.node i]? =some y):E 248 #[↑y.p,J (c.slot i)] w λe w'=>(∃b,e= returned (.bool b))/\aD B w' a g x c P T {st with L:=setL c st i (bf (lsp st.L (c.node i) (c.slot i)))}/\aa (CoS a g x) w w':=by obtain⟨y',v,S,I,O,V,hs,J'⟩:=h.loc hi;rw[H]at I;injection I with e;subst e;have eS:st.L.getD (c.node i) []=S:=js V;refine(oV (h.lo _ _ _ H V) h.fx.kl (c.slot i) _ J').mono ?_;rintro e w' ⟨rfl,hf,t⟩;have Y:aa [a,g,y.q] w w':=aI t;refine⟨⟨_,rfl⟩,?_,r9 H Y⟩;refine h.locOp hi H Y ?_;rw[eS];exact hf
def yK(h:aD B w a g x c P T st)(i:Nat)(hi:i<x.n):E 248 #[↑x.g.p,J (c.node i)] w λe w'=>(∃b,e= returned (.bool b))/\aD B w' a g x c P T {st with G:=st.G.set (c.node i) (bf (sv st.G (c.node i)))}/\aa (CoS a g x) w w':=by refine(oV h.gl h.fx.kg (c.node i) _ (h.glo hi)).mono ?_;rintro e w' ⟨rfl,H,t⟩;exact⟨⟨_,rfl⟩,h.gloOp (aI t) H,wP (aI t)⟩
def DD(h:aD B w a g x c P T st)(i:Nat)(hi:i<x.n)(H:x.X[c.node i]? =some y):E 241 #[↑y.p,J (c.slot i)] w λe w'=>(∃b,e= returned (.bool b))/\aD B w' a g x c P T {st with L:=setL c st i (askK c.kl (lsp st.L (c.node i) (c.slot i)))}/\aa (CoS a g x) w w':=by obtain⟨y',v,S,I,O,V,hs,J'⟩:=h.loc hi;rw[H]at I;injection I with e;subst e;have eS:st.L.getD (c.node i) []=S:=js V;refine(vp (h.lo _ _ _ H V) h.fx.kl (c.slot i) _ J').mono ?_;rintro e w' ⟨rfl,hf,t⟩;have Y:aa [a,g,y.q] w w':=aI t;refine⟨⟨_,rfl⟩,?_,r9 H Y⟩;refine h.locOp hi H Y ?_;rw[eS];exact hf
def DC(h:aD B w a g x c P T st)(i:Nat)(hi:i<x.n):E 241 #[↑x.g.p,J (c.node i)] w λe w'=>(∃b,e= returned (.bool b))/\aD B w' a g x c P T {st with G:=st.G.set (c.node i) (askK c.kg (sv st.G (c.node i)))}/\aa (CoS a g x) w w':=by refine(vp h.gl h.fx.kg (c.node i) _ (h.glo hi)).mono ?_;rintro e w' ⟨rfl,H,t⟩;exact⟨⟨_,rfl⟩,h.gloOp (aI t) H,wP (aI t)⟩
def qU(c:CoC)(st:Co)(i:Nat):Ar×Bool:=cG c.kl (c.tl (c.node i)) st.s (c.slot i) (lsp st.L (c.node i) (c.slot i))
def AL(h:aD B w a g x c P T st)(C:dh BB x c st)(i:Nat)(hi:i<x.n)(H:x.X[c.node i]? =some y)(h10:(lsp st.L (c.node i) (c.slot i)).pc=10):E 247 #[↑y.p,J (c.slot i)] w λe w'=>e= returned (bool (qU c st i).2)/\aD B w' a g x c P T {st with s:=(qU c st i).1}/\aa (CoS a g x) w w':=by
  obtain⟨y',v,S,N8,O,I,hs,Y⟩:=h.loc hi;rw[H]at N8;injection N8 with e;subst e;have e1:=(h.fx.tl _ _ H).1;have eS:st.L.getD (c.node i) []=S:=js I;refine(Bu (h.lo _ _ _ H I) h.fx.kl (c.slot i) _ Y (I1 h C H I) h10).mono ?_;rintro e w' ⟨rfl,hf,t⟩;rw[<-e1]at hf;rw[<-e1];refine⟨rfl,?_,r9 H t⟩;have V:=h.locOp (p':=lsp st.L (c.node i) (c.slot i)) hi H t (s':=(qU c st i).1) (by rw[eS,cr Y];exact hf);have eL:jU st.L (c.node i) (c.slot i) (lsp st.L (c.node i) (c.slot i))=st.L:=by unfold jU;rw[eS,cr Y];obtain⟨V,he⟩:=List.getElem?_eq_some_iff.1 I;rw[<-he];exact List.set_getElem_self V
  rw[eL]at V;exact V
def xr(h:aD B w a g x c P T st)(Y:st.s.ops+1<=1000000000000)(n:Nat){v:Nat}(O:x.W[n]? =some v):E 173 #[↑a,J v] w λe w'=>e= returned (J (ldW st.s.W (c.cw n)))/\aD B w' a g x c P T {st with s:=af st.s (c.cw n)}/\aa (CoS a g x) w w':=by have H:=(h.fx.cc n v O).1;rw[H];refine(aE h.ar v Y).mono ?_;rintro e w' ⟨rfl,I,t⟩;exact⟨rfl,h.cnt t I,Fm t⟩
def oD(h:aD B w a g x c P T st)(Y:st.s.ops+1<=1000000000000)(n:Nat){v:Nat}(O:x.W[n]? =some v)(u:Int):E 177 #[↑a,J v,J u] w λe w'=>e= returned (tuple #[])/\aD B w' a g x c P T {st with s:=ae st.s (c.cw n) u}/\aa (CoS a g x) w w':=by have H:=(h.fx.cc n v O).1;rw[H];refine(an h.ar v u Y).mono ?_;rintro e w' ⟨rfl,I,t⟩;exact⟨rfl,h.cnt t I,Fm t⟩
structure CoN(B:Nat->Prop)(w0 w:World)(a g:Nat)(x:Cox)(c:CoC)(P T:List Int)(st:Co)(k:Nat)(y:Fx)(v:Nat):Prop where
 is:aD B w a g x c P T st
 nb:Blk w k 243 #[↑y.p,int i64 v]
 nS:k∉CoS a g x
 tn:aa (CoS a g x) w0 w
def CoN.to{v:Nat}(h:CoN B w0 w a g x c P T st k y v)(H:aD B w' a g x c P T st')(t:aa (CoS a g x) w w'):CoN B w0 w' a g x c P T st' k y v:=
 ⟨H,t.blk h.nb h.nS,h.nS,h.tn.trans t⟩
def CoN.put{v:Nat}(h:CoN B w0 w a g x c P T st k y v){p p':Sp}(O:st.T[i]? =some p)(I:j<4)(H:(bm p).set j u=bm p'):CoN B w0 (w.setCell ⟨x.qs,i*4+j,none⟩ u) a g x c P T {st with T:=st.T.set i p'} k y v:=h.to (h.is.put O I H) (uB _ _)
def CoN.drew{v:Nat}(h:CoN B w0 w a g x c P T st k y v):CoN B w0 w.drew a g x c P T st k y v:=h.to (h.is.below (Below.refl _ _).drew) (aa.refl _ _).drew
def CoN.ar(h:aD B w a g x c P T st):w.cell? x.l=some ↑a:=h.lk.cell 0
def CoN.bud(h:aD B w a g x c P T st):Z w x.l 5 (J c.bud):=h.lk.cell 5
def CoN.glo(h:aD B w a g x c P T st):Z w x.l 6 ↑x.g.p:=h.lk.cell 6
def CoN.spots(h:aD B w a g x c P T st):Z w x.l 8 (slice (some ⟨x.qs,0,none⟩) x.n x.n):=h.lk.cell 8
def CoN.n0{v:Nat}(h:CoN B w0 w a g x c P T st k y v):w.cell? k=some ↑y.p:=h.nb.cell 0
def CoN.n1{v:Nat}(h:CoN B w0 w a g x c P T st k y v):Z w k 1 (J v):=h.nb.cell 1
def CoN.mk'(h:aD B w a g x c P T st){w1:World}(b1:Below w.heap.size w w1)(y:Fx)(v:Nat):CoN B w (w1.alloc (cells #[↑y.p,J v] 243)) a g x c P T st w1.heap.size y v:=by have hs:=b1.size;refine⟨h.below (b1.alloc hs _),Blk.new w1 _ _,λk=>?_,aa.of_below (b1.alloc hs _)⟩;have:=h.lts _ k;omega
end
end
section
open Go.RowKit
variable{q:Sp}{e:Ending}
def yI(c:CoC)(st:Co)(i:Nat)(p:Sp):Co:=iL st i ((db c st i p).1,(db c st i p).2.1,(db c st i p).2.2.1,{(db c st i p).2.2.2 with pc:=p.pc})
def gS(B:Nat->Prop)(w:World)(a g:Nat)(x:Cox)(c:CoC)(P T:List Int)(st:Co)(i:Nat)(p:Sp)(e:Ending)(w':World):Prop:=
 e= returned (J (db c st i p).2.2.2.pc)/\aD B w' a g x c P T (yI c st i p)/\aa (CoS a g x) w w'
section
variable{g:Nat}{x:Cox}{c:CoC}{st st':Co}{s':Ar}
def qm(i:Nat)(p:Sp){n:Int}{s':Ar}{H:List Sp}{I:List (List Sp)}(O:(db c st i p)=(s',H,I,q))(V:e= returned (J n))(e3:q.pc=n)(h:aD B w' a g x c P T ⟨s',H,I,st.T.set i {q with pc:=p.pc}⟩)(t:aa (CoS a g x) w w'):gS B w a g x c P T st i p e w':=by unfold gS yI iL;rw[O];exact⟨by rw[V,e3],h,t⟩
def CoN.drewN{y:Fx}{v:Nat}(h:CoN B w0 w a g x c P T st k y v)(n:Nat):CoN B w0 (w.drewN n) a g x c P T st k y v:=h.to (h.is.turns0 ((aa.refl [] w).drewN n)) ((aa.refl _ _).drewN n)
def jL(i:Nat)(p:Sp)(Y:st.T[i]? =some p){n:Int}{s':Ar}{H:List Sp}{I:List (List Sp)}(O:(db c st i p)=(s',H,I,q))(V:e= returned (J n))(e3:q.pc=n)(e4:{q with pc:=p.pc}=p)(h:aD B w' a g x c P T ⟨s',H,I,st.T⟩)(t:aa (CoS a g x) w w'):gS B w a g x c P T st i p e w':=qm i p O V e3 (by rw[e4,cr Y];exact h) t
def wC(b:Int)(w:World)(h:0<=b)(h1:b<=1000):E 135 #[J b] w λe w'=>e= returned (bool true)/\w=w':=by go_enter func135,ntmps135;exact aab
def F5(n f t:Int)(w:World):E 171 #[J n,J f,J t] w λe w'=>e= returned (bool (decide (f<=n)&&decide (n<=t)))/\w=w':=by cases h1:decide (f<=n)<;>cases h:decide (n<=t);all_goals have k1:decide (n >= f)=decide (f<=n):=rfl;rw[h1]at k1;go_enter func171,ntmps171;go_wp2;go_ret;exact⟨rfl,rfl⟩
def we(u bud:Int)(h:Bool)(I:0<=bud/\bud<=1000)(w:World):E 246 #[J u,J bud,.bool h] w λe w'=>e= returned (bool (m6 u bud h))/\w=w':=by
 obtain⟨V,h1⟩:=I;have H:=qh (λw=>F5 u 1 bud w);have e:m6 u bud h=((decide (1<=u)&&decide (u<=bud))&&!h):=by unfold m6;rw[Bool.decide_and]
 rw[e];clear e;obtain⟨q,O⟩:=LE ((decide (1<=u)&&decide (u<=bud)));rw[<-O]at H ⊢;clear O;cases q<;>cases h;all_goals go_enter func246,ntmps246;go_wp2_with (first|(go_at_call 135;refine(wC bud _ V h1).mono ?_;rintro e w' ⟨rfl,rfl⟩)|(go_at_call 171;refine(H.o _).mono ?_;rintro e w' ⟨rfl,rfl⟩));go_ret;exact⟨rfl,rfl⟩
def FJ(h:aD B w a g x c P T st)(C:dh BB x c st)(i:Nat)(hi:i<x.n)(u b z:Int)(hp:sv st.T i=⟨1,u,b,z⟩):E 242 #[↑x.l,J i] w (gS B w a g x c P T st i ⟨1,u,b,z⟩):=by
  obtain⟨y,v,S,hy,O,hS,hs,J'⟩:=h.loc hi;have Y:st.T[i]? =some (⟨1,u,b,z⟩:Sp):=by rw[h.thr hi,hp]
  refine aiT ?_;intro hn c8 t2 Lr Ko L2 LL;obtain⟨r,V⟩:=LE (stL c st i);obtain⟨q,I⟩:=LE (mr c st i);have H:=(λW (k:aD B W a g x c P T st)=>sR k C i hi hy);rw[<-V,<-I]at H;have HF:=qh H;have HX:Kq (db c st i ⟨1,u,b,z⟩=(r.1,st.G,setL c st i r.2,if q then⟨2,u,b,z⟩else⟨1,u,b,z⟩)):=qh (by rw[V,I];rfl);have HP:=qh Y;clear H V I;clear h C hp Y hy O hS hs J';cases q;all_goals go_enter func242,ntmps242;go_wp2_with fail;refine aiV ?_;intro w1 b1 N1 KI e0 k0 k6;go_wp2_with fail;refine ajE ?_;intro w2 k2 N2 e2;clear e0;go_wp2;go_ret;exact jL i _ HP.o HX.o rfl rfl rfl N2.o.is N2.o.tn
def FK(h:aD B w a g x c P T st)(C:dh BB x c st)(i:Nat)(hi:i<x.n)(u b z:Int)(hp:sv st.T i=⟨2,u,b,z⟩):E 242 #[↑x.l,J i] w (gS B w a g x c P T st i ⟨2,u,b,z⟩):=by
  obtain⟨y,v,S,hy,O,hS,hs,J'⟩:=h.loc hi;have KP:st.T[i]? =some (⟨2,u,b,z⟩:Sp):=by rw[h.thr hi,hp]
  refine aiT ?_;intro hn c8 t2 Lr Ko L2 LL;obtain⟨I,hv⟩:=LE (af st.s (c.cw (c.node i)));obtain⟨q,hq⟩:=LE (ldW st.s.W (c.cw (c.node i)));have hr:=(λW (k:aD B W a g x c P T st)=>xr k C.ops (c.node i) O);rw[<-hv,<-hq]at hr;have HO:=qh hr;have HA:=qh (λW (s:Ar) (T':List Sp) (k:aD B W a g x c P T ⟨s,st.G,st.L,T'⟩)=>DC k i hi);have HX:Kq (db c st i ⟨2,u,b,z⟩=if 0<q then(I,st.G,st.L,⟨10,q,b,z⟩)else(I,st.G.set (c.node i) (askK c.kg (sv st.G (c.node i))),st.L,⟨3,q,b,z⟩)):=qh (by rw[hv,hq];rfl);refine ajF ?_;intro HC HP;have HL:=qh (show i<st.T.length by rw[h.lS];exact hi);clear hr hv hq;clear h C hp KP hy O hS hs J';cases hc:decide (0<q)
  all_goals
    have MI:decide (q>0)=decide (0<q):=rfl;rw[hc]at MI;go_enter func242,ntmps242;go_wp2_with fail;refine aiV ?_;intro w1 b1 N1 KI e0 k0 k6;have Y:=qh N1.o.drew;have HW:=qh (show ∃W,W=(w1.alloc (cells #[↑y.p,J v] 243))from⟨_,rfl⟩);go_wp2_with fail
    go_region_held3 (λW=>W.cell? x.l=some ↑a/\Z W w1.heap.size 1 (J v))
      (first|with_reducible exact HC.o _ _ _ _ _ Y.o|with_reducible exact HC.o _ _ _ _ _ V.o|with_reducible exact HC.o _ _ _ _ _ H.o)
      (first
        | (go_at_call 173;go_loud (refine Pi (HO.o _ Y.o.is) λw3 k3=>?_);have V:=qh (Y.o.to k3.o.1 k3.o.2);have H:=qh (V.o.put (p':=(⟨2,q,b,z⟩:Sp)) HP.o (j:=1) (u:= J q) ahA rfl);have e1:=V.o.is.sp.cell HP.o 1 _ rfl;have z1:=V.o.is.sp.free (i*4+1)))
  all_goals
    have e4:=H.o.is.sp.cell (au HP.o _) 1 _ rfl;have ab:=CoN.glo H.o.is
    first
      | (go_wp2
         go_ret
         exact qm i _ (HX.o.trans (if_pos ahF)) rfl rfl H.o.is H.o.tn)
      | (go_wp2_with fail
         refine(HA.o _ _ _ H.o.is).mono ?_
         rintro en w4 ⟨⟨bb,rfl⟩,k4,t4⟩
         have N4:=qh (H.o.to k4 t4)
         clear k4 t4
         go_wp2
         go_ret
         exact qm i _ (HX.o.trans (if_neg ahF)) rfl rfl N4.o.is N4.o.tn)
def FM(h:aD B w a g x c P T st)(C:dh BB x c st)(i:Nat)(hi:i<x.n)(u b z:Int)(hp:sv st.T i=⟨3,u,b,z⟩):E 242 #[↑x.l,J i] w (gS B w a g x c P T st i ⟨3,u,b,z⟩):=by
  obtain⟨y,v,S,hy,O,hS,hs,J'⟩:=h.loc hi;have Y:st.T[i]? =some (⟨3,u,b,z⟩:Sp):=by rw[h.thr hi,hp]
  refine aiT ?_;intro hn c8 t2 Lr Ko L2 LL;obtain⟨r,V⟩:=LE (stG c st i);obtain⟨q,I⟩:=LE (n5 c st i);have H:=(λW (k:aD B W a g x c P T st)=>sQ k C i hi);rw[<-V,<-I]at H;have HF:=qh H;have HX:Kq (db c st i ⟨3,u,b,z⟩=(r.1,st.G.set (c.node i) r.2,st.L,if q then⟨4,u,b,z⟩else⟨3,u,b,z⟩)):=qh (by rw[V,I];rfl);have HP:=qh Y;clear H V I;clear h C hp Y hy O hS hs J';cases q;all_goals go_enter func242,ntmps242;go_wp2_with fail;refine aiV ?_;intro w1 b1 N1 KI e0 k0 k6;go_wp2_with fail;refine ajE ?_;intro w2 k2 N2 e2;clear e0;go_wp2;go_ret;exact jL i _ HP.o HX.o rfl rfl rfl N2.o.is N2.o.tn
def FN(h:aD B w a g x c P T st)(C:dh BB x c st)(i:Nat)(hi:i<x.n)(u b z:Int)(hp:sv st.T i=⟨4,u,b,z⟩):E 242 #[↑x.l,J i] w (gS B w a g x c P T st i ⟨4,u,b,z⟩):=by
  obtain⟨y,v,S,hy,O,hS,hs,J'⟩:=h.loc hi;have KP:st.T[i]? =some (⟨4,u,b,z⟩:Sp):=by rw[h.thr hi,hp]
  refine aiT ?_;intro hn c8 t2 Lr Ko L2 LL;obtain⟨Y,hv⟩:=LE (ae st.s (c.cw (c.node i)) 1);have V:=(λW (k:aD B W a g x c P T st)=>oD k C.ops (c.node i) O 1);rw[<-hv]at V;have HO:=qh V;have HX:Kq (db c st i ⟨4,u,b,z⟩=(Y,st.G,st.L,⟨10,1,b,z⟩)):=qh ahS;refine ajF ?_;intro HC HP;clear V hv;clear h C hp KP hy O hS hs J';go_enter func242,ntmps242;go_wp2_with fail;refine aiV ?_;intro w1 b1 N1 KI e0 k0 k6;have I:=qh N1.o.drew;go_wp2_with fail
  go_region_held3 (λW=>W.cell? x.l=some ↑a/\Z W w1.heap.size 1 (J v))
    (first|with_reducible exact HC.o _ _ _ _ _ I.o|with_reducible exact HC.o _ _ _ _ _ H.o)
    (first
      | (go_at_call 177;go_loud (refine Pi (HO.o _ I.o.is) λw3 k3=>?_);have H:=qh (I.o.to k3.o.1 k3.o.2)))
  all_goals have e1:=H.o.is.sp.cell HP.o 1 _ rfl;have z1:=H.o.is.sp.free (i*4+1);have N3:=qh (H.o.put (p':=(⟨4,1,b,z⟩:Sp)) HP.o (j:=1) (u:= J 1) ahA rfl);go_wp2;go_ret;exact qm i _ HX.o rfl rfl N3.o.is N3.o.tn
end
end
section
open Go.RowKit
section
variable{g:Nat}{x:Cox}{c:CoC}{st st':Co}{s':Ar}
def AO(h:aD B w a g x c P T st)(C:dh BB x c st)(i:Nat)(hi:i<x.n)(u b z:Int)(hp:sv st.T i=⟨11,u,b,z⟩):E 243 #[↑x.l,J i] w (gS B w a g x c P T st i ⟨11,u,b,z⟩):=by
  obtain⟨y,v,S,hy,O,hS,hs,J'⟩:=h.loc hi;have KP:st.T[i]? =some (⟨11,u,b,z⟩:Sp):=by rw[h.thr hi,hp]
  refine aiT ?_;intro hn c8 t2 Lr Ko L2 LL;obtain⟨ab,hv⟩:=LE (af st.s (c.cw (c.node i)));obtain⟨q,hq⟩:=LE (ldW st.s.W (c.cw (c.node i)));have hr:=(λW (k:aD B W a g x c P T st)=>xr k C.ops (c.node i) O);rw[<-hv,<-hq]at hr;have HO:=qh hr;have HX:Kq (db c st i ⟨11,u,b,z⟩=(ab,st.G,st.L,⟨if c.bud<q then 14 else 12,q,b,z⟩)):=qh (by rw[hv,hq];rfl);refine ajF ?_;intro HC HP;clear hr hv hq;clear h C hp KP hy O hS hs J';obtain⟨bud,Y⟩:=LE c.bud;rw[<-Y]at HX;have HD:=qh Y;clear Y;cases hc:decide (bud<q)
  all_goals
    have MI:decide (q>bud)=decide (bud<q):=rfl;rw[hc]at MI;go_enter func243,ntmps243;go_wp2_with fail;refine aiV ?_;intro w1 b1 N1 KI e0 k0 k6;have V:=qh N1.o.drew;go_wp2_with fail
    go_region_held3 (λW=>W.cell? x.l=some ↑a/\Z W w1.heap.size 1 (J v))
      (first|with_reducible exact HC.o _ _ _ _ _ V.o|with_reducible exact HC.o _ _ _ _ _ I.o|with_reducible exact HC.o _ _ _ _ _ H.o)
      (first
        | (go_at_call 173;go_loud (refine Pi (HO.o _ V.o.is) λw3 k3=>?_);have I:=qh (V.o.to k3.o.1 k3.o.2);have H:=qh (I.o.put (p':=(⟨11,q,b,z⟩:Sp)) HP.o (j:=1) (u:= J q) ahA rfl);have e1:=I.o.is.sp.cell HP.o 1 _ rfl;have z1:=I.o.is.sp.free (i*4+1)))
  all_goals have e4:=H.o.is.sp.cell (au HP.o _) 1 _ rfl;have e5:=CoN.bud H.o.is;rw[<-HD.o]at e5;clear e1 z1;go_wp2_with fail;go_quiet (fail);go_wp2;go_ret;first| (rw[if_pos ahF]at HX;exact qm i _ HX.o rfl rfl (H.o.drewN _).is (H.o.drewN _).tn)| (rw[if_neg ahF]at HX;exact qm i _ HX.o rfl rfl (H.o.drewN _).is (H.o.drewN _).tn)
def AQ(h:aD B w a g x c P T st)(C:dh BB x c st)(i:Nat)(hi:i<x.n)(u b z:Int)(h10:(lsp st.L (c.node i) (c.slot i)).pc=10)(H:sv st.T i=⟨12,u,b,z⟩):E 243 #[↑x.l,J i] w (gS B w a g x c P T st i ⟨12,u,b,z⟩):=by
  obtain⟨y,v,S,hy,O,hS,hs,J'⟩:=h.loc hi;have KP:st.T[i]? =some (⟨12,u,b,z⟩:Sp):=by rw[h.thr hi,H]
  refine aiT ?_;intro hn c8 t2 Lr Ko L2 LL;obtain⟨r,V⟩:=LE (qU c st i);have hr:=(λW (k:aD B W a g x c P T st)=>AL k C i hi hy h10);rw[<-V]at hr;have HO:=qh hr;obtain⟨q,hq⟩:=LE (m6 u c.bud r.2);have Y:=qh (λW=>we u c.bud r.2 h.fx.bud W);rw[<-hq]at Y;have HX:Kq (db c st i ⟨12,u,b,z⟩=(r.1,st.G,st.L,⟨if q then 13 else 14,u,b,z⟩)):=qh (by rw[hq,V];rfl);have I:=qh (λW st (N:∃k,k=w.heap.size/\aD B W a g x c P T st) (H:st.T[i]? =some (⟨12,u,b,z⟩:Sp))=>And.intro (N.choose_spec.2.sp.cell H 1 _ rfl) (CoN.bud N.choose_spec.2));have HP:=qh KP;clear hr V hq I;have I:=qh (λW st (k y v) (N:CoN B w W a g x c P T st k y v) (H:st.T[i]? =some (⟨12,u,b,z⟩:Sp))=>And.intro (N.is.sp.cell H 1 _ rfl) (And.intro (CoN.bud N.is) N.n0));clear h C H KP hy O hS hs J';obtain⟨r1,r2⟩:=r;simp only at HO Y HX;cases q
  all_goals
    go_enter func243,ntmps243;go_wp2_with fail;refine aiV ?_;intro w1 b1 N1 KI e0 k0 k6;have LU:=qh N1.o.drew;go_wp2_with fail
    go_region_held3 (λW=>Z W x.qs (i*4+1) (J u)/\Z W x.l 5 (J c.bud)/\W.cell? w1.heap.size=some ↑y.p)
      (first|with_reducible exact I.o _ _ _ _ _ LU.o HP.o|with_reducible exact I.o _ _ _ _ _ N2.o HP.o)
      (first
        | (go_at_call 247;go_loud (refine Pi (HO.o _ LU.o.is) λw3 k3=>?_);have N2:=qh (LU.o.to k3.o.1 k3.o.2))
        | (go_at_call 246;go_loud (refine LT (Y.o _) ?_)))
  all_goals go_wp2;go_ret;exact jL i _ HP.o HX.o rfl rfl rfl N2.o.is N2.o.tn
def AR(h:aD B w a g x c P T st)(C:dh BB x c st)(i:Nat)(hi:i<x.n)(u b z:Int)(hu:0<=u/\u<=100000000000)(I:sv st.T i=⟨13,u,b,z⟩):E 243 #[↑x.l,J i] w (gS B w a g x c P T st i ⟨13,u,b,z⟩):=by
  obtain⟨y,v,S,hy,O,hS,hs,J'⟩:=h.loc hi;have KP:st.T[i]? =some (⟨13,u,b,z⟩:Sp):=by rw[h.thr hi,I]
  refine aiT ?_;intro hn c8 t2 Lr Ko L2 LL;have x1:IntKind.i64.wrap (u+1)=u+1:=IntWalk.i64_in _ ahy;obtain⟨ab,hv⟩:=LE (ae st.s (c.cw (c.node i)) (u+1));have Y:=(λW (k:aD B W a g x c P T st)=>oD k C.ops (c.node i) O (u+1));rw[<-hv]at Y;have HO:=qh Y;have HA:=qh (λW (s:Ar) (k:aD B W a g x c P T ⟨s,st.G,st.L,st.T⟩)=>qp k i hi hy);have HX:Kq (db c st i ⟨13,u,b,z⟩=(ab,st.G,setL c st i (bf (lsp st.L (c.node i) (c.slot i))),⟨16,u,b,z⟩)):=qh ahS;have HC:=qh (λW st (k y v) (N:CoN B w W a g x c P T st k y v) (I:st.T[i]? =some (⟨13,u,b,z⟩:Sp))=>And.intro (CoN.ar N.is) (And.intro N.n1 (N.is.sp.cell I 1 _ rfl)));have HP:=qh KP;clear Y hv;clear h C I KP hy O hS hs J';go_enter func243,ntmps243;go_wp2_with fail;refine aiV ?_;intro w1 b1 N1 KI e0 k0 k6;have V:=qh N1.o.drew;go_wp2_with fail
  go_region_held3 (λW=>W.cell? x.l=some ↑a/\Z W w1.heap.size 1 (J v)/\Z W x.qs (i*4+1) (J u))
    (first|with_reducible exact HC.o _ _ _ _ _ V.o HP.o|with_reducible exact HC.o _ _ _ _ _ H.o HP.o)
    (first
      | (go_at_call 177;go_loud (refine Pi (HO.o _ V.o.is) λw3 k3=>?_);have H:=qh (V.o.to k3.o.1 k3.o.2)))
  all_goals have ad:=H.o.n0;go_wp2_with fail;refine(HA.o _ _ H.o.is).mono ?_;rintro en w4 ⟨⟨bb,rfl⟩,k4,t4⟩;have N4:=qh (H.o.to k4 t4);clear k4 t4;go_wp2;go_ret;exact jL i _ HP.o HX.o rfl rfl rfl N4.o.is N4.o.tn
def AX(h:aD B w a g x c P T st)(C:dh BB x c st)(i:Nat)(hi:i<x.n)(u b z:Int)(hp:sv st.T i=⟨14,u,b,z⟩):E 243 #[↑x.l,J i] w (gS B w a g x c P T st i ⟨14,u,b,z⟩):=by
  obtain⟨y,v,S,hy,O,hS,hs,J'⟩:=h.loc hi;have KP:st.T[i]? =some (⟨14,u,b,z⟩:Sp):=by rw[h.thr hi,hp]
  refine aiT ?_;intro hn c8 t2 Lr Ko L2 LL;obtain⟨Y,hv⟩:=LE (ae st.s (c.cw (c.node i)) 0);have V:=(λW (k:aD B W a g x c P T st)=>oD k C.ops (c.node i) O 0);rw[<-hv]at V;have HO:=qh V;have HA:=qh (λW (s:Ar) (k:aD B W a g x c P T ⟨s,st.G,st.L,st.T⟩)=>yK k i hi);have HX:Kq (db c st i ⟨14,u,b,z⟩=(Y,st.G.set (c.node i) (bf (sv st.G (c.node i))),st.L,⟨15,u,b,z⟩)):=qh ahS;refine ajF ?_;intro HC HP;clear V hv;clear h C hp KP hy O hS hs J';go_enter func243,ntmps243;go_wp2_with fail;refine aiV ?_;intro w1 b1 N1 KI e0 k0 k6;have I:=qh N1.o.drew;go_wp2_with fail
  go_region_held3 (λW=>W.cell? x.l=some ↑a/\Z W w1.heap.size 1 (J v))
    (first|with_reducible exact HC.o _ _ _ _ _ I.o|with_reducible exact HC.o _ _ _ _ _ H.o)
    (first
      | (go_at_call 177;go_loud (refine Pi (HO.o _ I.o.is) λw3 k3=>?_);have H:=qh (I.o.to k3.o.1 k3.o.2)))
  all_goals have ab:=CoN.glo H.o.is;go_wp2_with fail;refine(HA.o _ _ H.o.is).mono ?_;rintro en w4 ⟨⟨bb,rfl⟩,k4,t4⟩;have N4:=qh (H.o.to k4 t4);clear k4 t4;go_wp2;go_ret;exact jL i _ HP.o HX.o rfl rfl rfl N4.o.is N4.o.tn
def AY(h:aD B w a g x c P T st)(C:dh BB x c st)(i:Nat)(hi:i<x.n)(u b z:Int)(hp:sv st.T i=⟨15,u,b,z⟩):E 243 #[↑x.l,J i] w (gS B w a g x c P T st i ⟨15,u,b,z⟩):=by
  obtain⟨y,v,S,hy,O,hS,hs,J'⟩:=h.loc hi;have Y:st.T[i]? =some (⟨15,u,b,z⟩:Sp):=by rw[h.thr hi,hp]
  refine aiT ?_;intro hn c8 t2 Lr Ko L2 LL;obtain⟨r,V⟩:=LE (stG c st i);obtain⟨q,I⟩:=LE (n5 c st i);have H:=(λW (k:aD B W a g x c P T st)=>sQ k C i hi);rw[<-V,<-I]at H;have HF:=qh H;have HA:=qh (λW (s:Ar) (G':List Sp) (k:aD B W a g x c P T ⟨s,G',st.L,st.T⟩)=>qp k i hi hy);have HX:Kq (db c st i ⟨15,u,b,z⟩=if q then(r.1,st.G.set (c.node i) r.2,setL c st i (bf (lsp st.L (c.node i) (c.slot i))),⟨16,u,b,z⟩)else(r.1,st.G.set (c.node i) r.2,st.L,⟨15,u,b,z⟩)):=qh (by rw[V,I];rfl);have HP:=qh Y;clear H V I;clear h C hp Y hy O hS hs J';cases q
  all_goals
    go_enter func243,ntmps243;go_wp2_with fail;refine aiV ?_;intro w1 b1 N1 KI e0 k0 k6;go_wp2_with fail;refine ajE ?_;intro w2 k2 N2 e2;have ab:=N2.o.n0;clear e0
    first
      | (go_wp2_with fail
         refine(HA.o _ _ _ N2.o.is).mono ?_
         rintro en w4 ⟨⟨bb,rfl⟩,k4,t4⟩
         have N4:=qh (N2.o.to k4 t4)
         clear k4 t4 e2
         go_wp2
         go_ret
         exact jL i _ HP.o HX.o rfl rfl rfl N4.o.is N4.o.tn)
      | (go_wp2
         go_ret
         exact jL i _ HP.o HX.o rfl rfl rfl N2.o.is N2.o.tn)
def AZ(h:aD B w a g x c P T st)(C:dh BB x c st)(i:Nat)(hi:i<x.n)(u b z:Int)(hp:sv st.T i=⟨16,u,b,z⟩):E 243 #[↑x.l,J i] w (gS B w a g x c P T st i ⟨16,u,b,z⟩):=by
  obtain⟨y,v,S,hy,O,hS,hs,J'⟩:=h.loc hi;have Y:st.T[i]? =some (⟨16,u,b,z⟩:Sp):=by rw[h.thr hi,hp]
  refine aiT ?_;intro hn c8 t2 Lr Ko L2 LL;obtain⟨r,V⟩:=LE (stL c st i);obtain⟨q,I⟩:=LE (mr c st i);have H:=(λW (k:aD B W a g x c P T st)=>sR k C i hi hy);rw[<-V,<-I]at H;have HF:=qh H;have HX:Kq (db c st i ⟨16,u,b,z⟩=(r.1,st.G,setL c st i r.2,if q then⟨0,u,b,z⟩else⟨16,u,b,z⟩)):=qh (by rw[V,I];rfl);have HP:=qh Y;clear H V I;clear h C hp Y hy O hS hs J';cases q;all_goals go_enter func243,ntmps243;go_wp2_with fail;refine aiV ?_;intro w1 b1 N1 KI e0 k0 k6;go_wp2_with fail;refine ajE ?_;intro w2 k2 N2 e2;clear e0;go_wp2;go_ret;exact jL i _ HP.o HX.o rfl rfl rfl N2.o.is N2.o.tn
end
end
section
open Go.RowKit
section
variable{g:Nat}{x:Cox}{c:CoC}{st st':Co}{s':Ar}
def Ho(h:aD B w a g x c P T st)(C:dh BB x c st)(i:Nat)(hi:i<x.n)(p:Sp)(H:sv st.T i=p)(O:0<p.pc)(h1:p.pc<10):E 242 #[↑x.l,J i] w (gS B w a g x c P T st i p):=by
  have I:=C.v.k i hi;rw[H]at I;obtain⟨pc,u,b,z⟩:=p;simp only at O h1;have hc:pc=1\/pc=2\/pc=3\/pc=4:=by unfold dt at I;simp only at I;omega
  rcases hc with rfl|rfl|rfl|rfl
  . exact FJ h C i hi u b z H
  . exact FK h C i hi u b z H
  . exact FM h C i hi u b z H
  . exact FN h C i hi u b z H
def FO(h:aD B w a g x c P T st)(C:dh BB x c st)(i:Nat)(hi:i<x.n)(p:Sp)(H:sv st.T i=p)(h1:10<p.pc):E 243 #[↑x.l,J i] w (gS B w a g x c P T st i p):=by
  have I:=C.v.k i hi;have O:=C.bd.tsp (by have:=C.B0;omega) i;have V:=C.B1;rw[H]at I O;obtain⟨pc,u,b,z⟩:=p;simp only at h1 O;have hc:pc=11\/pc=12\/pc=13\/pc=14\/pc=15\/pc=16:=by unfold dt at I;simp only at I;omega
  rcases hc with rfl|rfl|rfl|rfl|rfl|rfl
  . exact AO h C i hi u b z H
  . exact AQ h C i hi u b z (by unfold dt at I;simp only at I;omega) H
  . exact AR h C i hi u b z ahy H
  . exact AX h C i hi u b z H
  . exact AY h C i hi u b z H
  . exact AZ h C i hi u b z H
def mV(B:Nat->Prop)(w:World)(a g:Nat)(x:Cox)(c:CoC)(P T:List Int)(st':Co)(r:Bool)(e:Ending)(w':World):Prop:=
 e= returned (.bool r)/\aD B w' a g x c P T st'/\aa (CoS a g x) w w'
def A4(h:aD B w a g x c P T st)(i:Nat)(hi:i<x.n)(hc:(sv st.T i).pc=0\/(sv st.T i).pc=10):E 237 #[↑x.l,J i] w (mV B w a g x c P T (ak c st i) (bB (sv st.T i) (sv (ak c st i).T i))):=by
  have I:=qh (mN h i hi);have H:=qh h;have V:ak c st i=st:=by unfold ak;rw[if_pos hc]
  rw[V];have Y:bB (sv st.T i) (sv st.T i)=false:=by unfold bB;rcases hc with hc|hc<;>simp[hc]
  rw[Y];obtain⟨p,hp⟩:=LE (sv st.T i);rw[<-hp]at hc I;clear V Y hp h;obtain⟨pc,u,b,z⟩:=p;simp only at hc;unfold aC at I;have LN:=aP;rcases hc with rfl|rfl
  all_goals go_enter func237,ntmps237;go_wp2_with fail;refine Pi I.o λw1 O=>?_;go_wp2;go_ret;exact⟨rfl,H.o.below O.o,aa.of_below O.o⟩
def vf(h:aD B w a g x c P T st)(C:dh BB x c st)(i:Nat)(hi:i<x.n)(hc:0<(sv st.T i).pc/\(sv st.T i).pc<10):E 237 #[↑x.l,J i] w (mV B w a g x c P T (ak c st i) (bB (sv st.T i) (sv (ak c st i).T i))):=by
  have hT:=h.thr hi;have KX:i<st.T.length:=by rw[h.lS];exact hi
  have HS:=qh (mN h i hi);have hn:=h.fx.n32;have Lr:=h.lk.lt;have Ko:=h.sp.lt;have t2:¬(i:Int)<0:=by omega
  obtain⟨p,hp⟩:=LE (sv st.T i);have hI:=(λW (k:aD B W a g x c P T st)=>Ho k C i hi p hp.symm);rw[<-hp]at hc HS hT;have HI:=qh (λW (k:aD B W a g x c P T st)=>hI W k hc.1 hc.2);refine ajJ ?_;intro m hm HM e1 e2 q1 q2
  have HQ:Kq (bB p m.2.2.2=((m.2.2.2.pc==10)||(m.2.2.2.pc==0))):=qh (by
    unfold bB;simp only[q1,q2,ne_eq,not_false_eq_true,and_true,Bool.decide_or]
    rfl)
  have u1:(p.pc==0)=false:=by simpa using q1
  have u2:(p.pc==10)=false:=by simpa using q2
  have u3:decide (p.pc<10)=true:=by simpa using hc.2
  obtain⟨s1,G1,L1,r⟩:=m;simp only at HQ e1;refine ajS ?_;intro HC HT H HX HR;clear hI h C hp hT hm e1 e2 q1 q2 hc KX;obtain⟨pc,u,b,z⟩:=p;obtain⟨I,Y,b',z'⟩:=r;simp only at u1 u2 u3 HQ HR;unfold aC at HS;have LN:=aP;cases v1:(I==10)<;>cases v2:(I==0)
  all_goals
    go_enter func237,ntmps237;go_wp2_with fail;refine Pi HS.o λw1 b1=>?_;have K1:=qh (H.o.below b1.o.drew);have T1:=qh (aa.of_below (S:=CoS a g x) b1.o.drew);have KI:=b1.o.size;go_wp2_with fail
    go_region_held3 (λW=>Z W x.l 8 (slice (some ⟨x.qs,0,none⟩) x.n x.n))
      (first|with_reducible exact HC.o _ _ K1.o|with_reducible exact HC.o _ _ O.o|with_reducible exact HC.o _ _ V.o)
      (first
        | (go_at_call 242;go_loud (refine(HI.o _ K1.o).mono ?_);rintro en w3 ⟨he,k3,t3⟩;rw[HR.o]at he;subst he;rw[HX.o]at k3;have O:=qh k3;have T2:=qh (T1.o.trans t3);have V:=qh (O.o.put0 (p':=(⟨I,Y,b',z'⟩:Sp)) (au HT.o _) (u:= J I) rfl);have e1:=O.o.sp.cell (au HT.o _) 0 _ rfl;have z1:=O.o.sp.free (i*4);simp only[Nat.add_zero]at e1;clear k3 t3))
  all_goals have e4:=V.o.sp.cell (au (au HT.o _) _) 0 _ rfl;have TT:=HC.o _ _ V.o;simp only[Nat.add_zero]at e4;clear e1 z1;go_wp2;go_ret;refine⟨by rw[HQ.o,v1,v2];rfl,?_,T2.o.trans (uB _ _)⟩;have k:=V.o;rw[show(({s:=s1,G:=G1,L:=L1,T:=(st.T.set i {(⟨I,Y,b',z'⟩:Sp)with pc:=pc}).set i ⟨I,Y,b',z'⟩}:Co))=iL st i (s1,G1,L1,⟨I,Y,b',z'⟩)from by unfold iL;simp]at k;exact k
def sS(h:aD B w a g x c P T st)(C:dh BB x c st)(i:Nat)(hi:i<x.n)(hc:10<(sv st.T i).pc):E 237 #[↑x.l,J i] w (mV B w a g x c P T (ak c st i) (bB (sv st.T i) (sv (ak c st i).T i))):=by
  have hT:=h.thr hi;have KX:i<st.T.length:=by rw[h.lS];exact hi
  have HS:=qh (mN h i hi);have hn:=h.fx.n32;have Lr:=h.lk.lt;have Ko:=h.sp.lt;have t2:¬(i:Int)<0:=by omega
  obtain⟨p,hp⟩:=LE (sv st.T i);have hI:=(λW (k:aD B W a g x c P T st)=>FO k C i hi p hp.symm);rw[<-hp]at hc HS hT;have HI:=qh (λW (k:aD B W a g x c P T st)=>hI W k hc);refine ajJ ?_;intro m hm HM e1 e2 q1 q2
  have HQ:Kq (bB p m.2.2.2=((m.2.2.2.pc==10)||(m.2.2.2.pc==0))):=qh (by
    unfold bB;simp only[q1,q2,ne_eq,not_false_eq_true,and_true,Bool.decide_or]
    rfl)
  have u1:(p.pc==0)=false:=by simpa using q1
  have u2:(p.pc==10)=false:=by simpa using q2
  have u3:decide (p.pc<10)=false:=by simp;omega
  obtain⟨s1,G1,L1,r⟩:=m;simp only at HQ e1;refine ajS ?_;intro HC HT H HX HR;clear hI h C hp hT hm e1 e2 q1 q2 hc KX;obtain⟨pc,u,b,z⟩:=p;obtain⟨I,Y,b',z'⟩:=r;simp only at u1 u2 u3 HQ HR;unfold aC at HS;have LN:=aP;cases v1:(I==10)<;>cases v2:(I==0)
  all_goals
    go_enter func237,ntmps237;go_wp2_with fail;refine Pi HS.o λw1 b1=>?_;have K1:=qh (H.o.below b1.o.drew);have T1:=qh (aa.of_below (S:=CoS a g x) b1.o.drew);have KI:=b1.o.size;go_wp2_with fail
    go_region_held3 (λW=>Z W x.l 8 (slice (some ⟨x.qs,0,none⟩) x.n x.n))
      (first|with_reducible exact HC.o _ _ K1.o|with_reducible exact HC.o _ _ O.o|with_reducible exact HC.o _ _ V.o)
      (first
        | (go_at_call 243;go_loud (refine(HI.o _ K1.o).mono ?_);rintro en w3 ⟨he,k3,t3⟩;rw[HR.o]at he;subst he;rw[HX.o]at k3;have O:=qh k3;have T2:=qh (T1.o.trans t3);have V:=qh (O.o.put0 (p':=(⟨I,Y,b',z'⟩:Sp)) (au HT.o _) (u:= J I) rfl);have e1:=O.o.sp.cell (au HT.o _) 0 _ rfl;have z1:=O.o.sp.free (i*4);simp only[Nat.add_zero]at e1;clear k3 t3))
  all_goals have e4:=V.o.sp.cell (au (au HT.o _) _) 0 _ rfl;have TT:=HC.o _ _ V.o;simp only[Nat.add_zero]at e4;clear e1 z1;go_wp2;go_ret;refine⟨by rw[HQ.o,v1,v2];rfl,?_,T2.o.trans (uB _ _)⟩;have k:=V.o;rw[show(({s:=s1,G:=G1,L:=L1,T:=(st.T.set i {(⟨I,Y,b',z'⟩:Sp)with pc:=pc}).set i ⟨I,Y,b',z'⟩}:Co))=iL st i (s1,G1,L1,⟨I,Y,b',z'⟩)from by unfold iL;simp]at k;exact k
def mO(h:aD B w a g x c P T st)(C:dh BB x c st)(i:Nat)(hi:i<x.n):E 237 #[↑x.l,J i] w (mV B w a g x c P T (ak c st i) (bB (sv st.T i) (sv (ak c st i).T i))):=by
  have I:=C.v.k i hi;by_cases H:(sv st.T i).pc=0\/(sv st.T i).pc=10;. exact A4 h i hi H
  by_cases h1:(sv st.T i).pc<10;. exact vf h C i hi (by unfold dt at I;omega)
  . exact sS h C i hi ahy
def sB(h:aD B w a g x c P T st)(i:Nat)(hi:i<x.n):E 233 #[↑x.l,J i] w (mV B w a g x c P T (bG c st i) (decide ((sv st.T i).pc=0))):=by
  obtain⟨y,v,S,hy,O,hS,hs,J'⟩:=h.loc hi;have hT:=h.thr hi;have e0:=aaa (h.sp.cell hT 0 _ rfl);have hn:=h.fx.n32;have c8:=CoN.spots h;have Lr:=h.lk.lt;have Ko:=h.sp.lt;have t2:¬(i:Int)<0:=by omega
  have HH:=qh (Fd h i hi);have L2:=qh (pr h i hi hy O);have LL:=qh (λw1 (b1:Below w.heap.size w w1)=>CoN.mk' h b1 y v);have HA:=qh (λW (k:aD B W a g x c P T st)=>DD k i hi hy);have H:=qh h;obtain⟨QC,I⟩:=LE (bG c st i);rw[<-I];unfold bG at I;obtain⟨L1,V9⟩:=LE (setL c st i (askK c.kl (lsp st.L (c.node i) (c.slot i))));rw[<-V9]at I HA;obtain⟨p,hp⟩:=LE (sv st.T i);rw[<-hp]at I e0 hT ⊢;have HT:=qh hT;have HE:=qh I;clear h hy O hS hs J' hp V9 I hT;obtain⟨pc,u,b,z⟩:=p;simp only at HE;by_cases Y:pc=0;. subst Y;go_enter func233,ntmps233;go_wp2_with fail;refine LT HH.o ?_;go_wp2_with fail;refine Pi L2.o λw1 b1=>?_;have N1:=qh (LL.o w1 b1.o);have KI:=b1.o.size;have k0:=N1.o.n0;go_wp2_with fail;refine(HA.o _ N1.o.is).mono ?_;rintro en w2 ⟨⟨bb,rfl⟩,k2,Lj⟩;have V:=qh (N1.o.to k2 Lj);have TT:=CoN.spots V.o.is;have e2:=aaa (V.o.is.sp.cell HT.o 0 _ rfl);have z2:=V.o.is.sp.free (i*4);clear k2 Lj k0;have N3:=qh (V.o.is.put0 (p':=(⟨1,u,b,z⟩:Sp)) HT.o (u:= J 1) rfl);have T3:=qh (V.o.tn.trans (uB (a:=a) (g:=g) (x:=x) (w:=w2) (i*4) (J 1)));go_wp2;go_ret;refine⟨rfl,?_,T3.o⟩;rw[HE.o];exact N3.o
  . have u1:(pc !=0)=true:=(by simpa using Y);have e9:decide (pc=0)=false:=(by simpa using Y);show Calls _ _ _ _ (mV B w a g x c P T QC (decide (pc=0)));rw[e9];go_enter func233,ntmps233;go_wp2_with fail;refine LT HH.o ?_;go_wp2;go_ret;refine⟨rfl,?_,aa.refl _ _⟩;rw[HE.o,if_neg Y];exact H.o
def lz(h:aD B w a g x c P T st)(i:Nat)(hi:i<x.n):E 235 #[↑x.l,J i] w (mV B w a g x c P T (aA st i) (decide ((sv st.T i).pc=10))):=by
  have hT:=h.thr hi;have hn:=h.fx.n32;have t2:¬(i:Int)<0:=by omega
  have O:=qh (mN h i hi);have H:=qh h;obtain⟨QC,I⟩:=LE (aA st i);rw[<-I];unfold aA at I;obtain⟨p,hp⟩:=LE (sv st.T i);rw[<-hp]at I hT O ⊢;have HT:=qh hT;have HE:=qh I;clear h hp I hT;obtain⟨pc,u,b,z⟩:=p;simp only at HE;unfold aC at O;have LN:=aP;by_cases V:pc=10;. subst V;go_enter func235,ntmps235;go_wp2_with fail;refine Pi O.o λw1 b1=>?_;have Y:=qh (H.o.below b1.o);have T1:=qh (aa.of_below (S:=CoS a g x) b1.o);have TT:=CoN.spots Y.o;have e2:=aaa (Y.o.sp.cell HT.o 0 _ rfl);have z2:=Y.o.sp.free (i*4);have N3:=qh (Y.o.put0 (p':=(⟨11,u,b,z⟩:Sp)) HT.o (u:= J 11) rfl);have T3:=qh (T1.o.trans (uB (a:=a) (g:=g) (x:=x) (w:=w1) (i*4) (J 11)));go_wp2;go_ret;refine⟨rfl,?_,T3.o⟩;rw[HE.o];exact N3.o
  . have u1:(pc !=10)=true:=(by simpa using V);have e9:decide (pc=10)=false:=(by simpa using V);show Calls _ _ _ _ (mV B w a g x c P T QC (decide (pc=10)));rw[e9];go_enter func235,ntmps235;go_wp2_with fail;refine Pi O.o λw1 HB=>?_;go_wp2;go_ret;refine⟨rfl,?_,aa.of_below HB.o⟩;rw[HE.o,if_neg V];exact H.o.below HB.o
end
end
end Go.Proofs.YtglokdbiggbkjaaGreat
