/- Joined texts. -/
import Derived.Test.YtglokdbiggbkjaaGreatMgWorldTrace0
import Derived.Test.YtglokdbiggbkjaaGreatMgWorldTrace3
import Derived.Test.YtglokdbiggbkjaaGreatMgWorldTrace4
import Derived.Test.YtglokdbiggbkjaaGreatMgWorldTrace5
import Derived.Test.YtglokdbiggbkjaaGreatMgWorldTrace7
import Derived.Test.YtglokdbiggbkjaaGreatMgWorldTrace20
import Derived.Test.YtglokdbiggbkjaaGreatMgWorldTrace21
import Derived.Test.YtglokdbiggbkjaaGreatMgWorldTrace22
import Derived.Test.YtglokdbiggbkjaaGreatMgWorldTrace25
import Derived.Test.YtglokdbiggbkjaaGreatMgWorldTrace26
import Derived.Test.YtglokdbiggbkjaaGreatMgWorldTrace27
import Derived.Test.YtglokdbiggbkjaaGreatMgWorldTrace28
import Derived.Test.YtglokdbiggbkjaaGreatMgWorldTrace29
set_option linter.unusedVariables false
set_option linter.unusedSimpArgs false
set_option linter.defProp false
set_option maxRecDepth 100000
set_option maxHeartbeats 16000000
open Go.Proofs.Tryz
namespace Go.Proofs.YtglokdbiggbkjaaGreat
open Go.IntKind(i64)
open Go.Value(int bool slice agg tuple pointer)
open Go.Ending(returned)
open Go.Obj(cells)
variable{w w' W w0:World}{a g k n m i L lb N sz:Nat}{P T:List Int}{B:Nat->Prop}{gs:Nat->Value}{vP vT:Value}{cs:Array Value}
section
open Go Go.RowKit
section
variable{bud:Int}{s:Ar}
def Ih(hk:1<=k/\k<=5)(V:1<=n/\n<=32)(hm:1<=m/\m<=4)(H:s.W=[])(hs:s.ops=0){x:Fx}(h:dy w' a g k x (aG k s n m) (be k n))(h1:w.heap.size<=x.p/\w.heap.size<=x.l/\w.heap.size<=x.q/\x.n=n/\x.m=m/\x.t=s.W.length+1):qT w a g n k (flV x.p) ⟨Ef k n m,(aG k s n m,be k n)⟩ w':=by
 intro w2 lb t Nc ha hg I;obtain⟨l1,l2,l3,e1,e2,e3⟩:=h1;have k2:=h.oth t (h.ki.ar.turns t (by simp;exact λe=>ha e.symm) (by simp;exact λe=>hg e.symm)) ahD ahD ahD;have b1:=k2.p.lt;have b2:=k2.ki.lk.lt;have b3:=k2.ki.sp.lt;have b4:=k2.ki.ar.blk.lt;have b5:=k2.ki.ar.wds.lt;have KF:∀y∈[a,g,x.q],w.heap.size<=y\/y=a\/y=g:=λy Y=>by simp at Y;omega
 have hz:WdB 40 s:=by intro v O;rw[H]at O;cases O
 have hi:=oU hk s (n:=n) (m:=m) hm.1;rw[H]at hi;refine⟨⟨x,w2.heap.size,min lb (min a g),a,g⟩,yY hk V hm,⟨hi,(n4 (B:=40) hz ahy V.2).mono ahU,λp hp=>⟨wG V.2 ahU p hp,Gx k (i1 k n p hp).1⟩,?_⟩,⟨k2,⟨rfl,rfl,e1,e2,by rw[e3,H];rfl⟩,⟨I,λz=>by simp at z;omega,⟨Nat.min_le_left _ _,I.lt⟩,λy Y=>by simp at Y;show min lb (min a g)<=y/\y<w2.heap.size;omega,Nat.le_refl _⟩,⟨by show min lb (min a g)<=x.p;omega,b1⟩,by show min lb (min a g)<=x.l;omega,b2⟩,KF,Nat.le_refl _⟩;have:=kH k s n m;show(aG k s n m).ops<=0+1;omega
def zY{x:Cox}(B:Nat->Prop)(hi:i∈CoS a g x):i=a\/i=g\/eX x B i:=by
 unfold CoS at hi;simp only[List.mem_cons]at hi;rcases hi with rfl|rfl|rfl|rfl|hi
 .exact .inl rfl
 .exact .inr (.inl rfl)
 .exact .inr (.inr (.inr (.inr (.inl rfl))))
 .exact .inr (.inr (.inr (.inr (.inr (.inl (.inr (.inr rfl)))))))
 .obtain⟨y,h,rfl⟩:=List.mem_map.1 hi;exact .inr (.inr (.inr (.inr (.inr (.inr (.inl ⟨y,h,.inr (.inr rfl)⟩))))))
def Ig{kg kl par:Nat}(hc:a5 P T=0)(LK:1<=kg/\kg<=5)(Y:1<=kl/\kl<=5)(hp:1<=par/\par<=4)(hW:s.W=[])(hs:s.ops=0){x:Cox}(h:aD B w' a g x (fi kg kl par bud P T s) P T (bJ kg kl par P T s))(I:∀i,eX x B i->w.heap.size<=i/\i<w'.heap.size):qT w a g T.length 6 (AJ x.l) ⟨Ee (fi kg kl par bud P T s) P T (bJ kg kl par P T s).s.W.length,bJ kg kl par P T s⟩ w':=by
 intro w2 lb t Nc ha hg Lf;have ht:=t.size;have k2:=h.farK t (by simp;exact λe=>ha e.symm) (by simp;exact λe=>hg e.symm) (λi hi hB=>by have:=I i hB;simp at hi;omega);have b4:=k2.ar.blk.lt;have b5:=k2.ar.wds.lt
 have V:∀y∈CoS a g x,(w.heap.size<=y\/y=a\/y=g)/\y<w2.heap.size:=λy H=>by
  rcases zY B H with e|e|e
  .omega
  .omega
  .have:=I y e;omega
 have hz:WdB 40 s:=by intro v O;rw[hW]at O;cases O
 have ok:=po (kg:=kg) (kl:=kl) (par:=par) (bud:=bud) hc hz;rw[hs]at ok;refine⟨⟨x,B,a,g,min lb (min a g),w2.heap.size⟩,yX hc (vE (bud:=bud) hc LK Y hp) (vV hc LK Y hp),⟨xI hc LK Y hp hz,ok.mono ahz,λi e=>?_⟩,⟨k2,⟨rfl,rfl⟩,⟨Lf,λz=>by have:=V _ z;omega,⟨Nat.min_le_left _ _,Lf.lt⟩,λy H=>by have:=V y H;show min lb (min a g)<=y/\y<w2.heap.size;omega,Nat.le_refl _⟩,λi hi=>by have:=I i hi;show min lb (min a g)<=i/\i<w2.heap.size;omega⟩,λy H=>(V y H).1,Nat.le_refl _⟩;exfalso;have e0:sv (List.replicate T.length Sp.zero) i=Sp.zero:=r7 _ i;have e1:(sv (List.replicate T.length Sp.zero) i).pc=10:=e;rw[e0]at e1;exact absurd e1 ahA
def Ij(hc:a5 P T=0)(Kn:0<=bud/\bud<=1000){x:Hx}{s':Ar}(hs:s'.ops=0)(I:x.a=a)(Y:x.g=g)(h:aV B w' x (cE P T) bud s' (hm0 (cE P T)))(hB:∀i,B i->w.heap.size<=i)(hq:w.heap.size<=x.q)(SY:∀v,v<P.length->w.heap.size<=x.qb v):qT w a g T.length 7 (hmV x.l) ⟨BZ (cE P T) bud,⟨s',hm0 (cE P T)⟩⟩ w':=by
 intro w2 lb t Nc ha hg V;have ht:=t.size;have hn:1<=T.length/\T.length<=32:=by have:=bj (aR hc).1;exact⟨this.2.2.1,this.2.2.2⟩
 have hm:∀y∈mvL x (cE P T),w.heap.size<=y\/y=a\/y=g:=λy H=>by
  unfold mvL at H;simp only[List.mem_append,List.mem_cons,List.not_mem_nil,or_false,List.mem_map,List.mem_range]at H;rcases H with(rfl|rfl|rfl)|⟨v,O,rfl⟩
  .exact .inr (.inl I)
  .exact .inr (.inr Y)
  .exact .inl hq
  .exact .inl (SY v O)
 have k2:=h.turns t (λi hi Y8=>by have:=hB i Y8;simp at hi;omega) (λi hi SJ=>by have:=hm i SJ;simp at hi;omega);have b4:=k2.ar.blk.lt;have b5:=k2.ar.wds.lt
 have C':∀y∈mvL x (cE P T),y<w2.heap.size:=λy H=>by
  unfold mvL at H;simp only[List.mem_append,List.mem_cons,List.not_mem_nil,or_false,List.mem_map,List.mem_range]at H;rcases H with(rfl|rfl|rfl)|⟨v,O,rfl⟩
  .exact b4
  .exact b5
  .exact k2.ss.lt
  .exact(k2.rs v O).lt
 exact⟨⟨x,B,min lb (min a g),w2.heap.size⟩,y7 (ji hc) hn Kn,⟨⟨_,eu.start _ _⟩,by show s'.ops<=0;omega⟩,⟨k2,⟨I,Y⟩,⟨V,λz=>by have:=hm _ z;omega,⟨Nat.min_le_left _ _,V.lt⟩,λy H=>by have:=hm y H;have:=C' y H;show min lb (min a g)<=y/\y<w2.heap.size;omega,Nat.le_refl _⟩,λi hi=>by have:=k2.bd i hi;have:=hB i hi;show min lb (min a g)<=i/\i<w2.heap.size;omega⟩,hm,Nat.le_refl _⟩
def BN{F:kO}{c:CoC}{st:Co}(hm:1<=F.md/\F.md<=3)(hc:a5 P T=0)(hF:F.Ok c P T L)(mP:F.ok c T.length (ac P).length L (mtQ P T) 40 ⟨st,dr0,List.replicate T.length Sp.zero⟩)(hs:st.s.ops<=40){q:Nat}{BC:Nat->Prop}{X:SmX}(h:aw F.ty B BC w' a g X c P T st dr0 (List.replicate T.length Sp.zero))(H:∀i∈SmS a g X,i=a\/i=g\/w.heap.size<=i)(hq:Blk w' q 273 (rwC F X.l))(Qn:w.heap.size<=q)(PT:q∉SmS a g X)(I:∀i,i<w.heap.size\/w'.heap.size<=i->¬B i/\¬eX X.x BC i/\i≠X.l/\i≠X.gg):qT w a g T.length (10+F.md) (rwV q) ⟨Eh F c P T L,⟨st,dr0,List.replicate T.length Sp.zero⟩⟩ w':=by
 intro w2 lb t Nc ha hg Y;have ht:=t.size;have k2:=h.farR t (λi hi=>I i (.inl (by simp at hi;omega))) (λi hi hm=>by have:=H i hm;simp at hi;omega);have q2:=t.blk hq ahD
 have V:∀i,B i\/eX X.x BC i\/i=X.l\/i=X.gg->min lb (min a g)<=i/\i<w2.heap.size:=λi hi=>by
  apply Classical.byContradiction;intro hn;have:=I i ahy;rcases hi with z|z|z|z
  .exact this.1 z
  .exact this.2.1 z
  .exact this.2.2.1 z
  .exact this.2.2.2 z
 have C':=k2.ltsA;exact⟨⟨B,BC,a,g,X,q,min lb (min a g),w2.heap.size⟩,y9 hm hc hF,⟨by simpa using mP,by show st.s.ops<=0+1000;omega⟩,⟨k2,⟨rfl,rfl⟩,⟨Y,λz=>by have:=H _ z;omega,⟨Nat.min_le_left _ _,Y.lt⟩,λy O=>by have:=H y O;have:=C' y O;show min lb (min a g)<=y/\y<w2.heap.size;omega,Nat.le_refl _⟩,⟨q2,⟨by show min lb (min a g)<=q;omega,q2.lt⟩,PT⟩,V⟩,λy O=>by have:=H y O;omega,Nat.le_refl _⟩
end
end
section
open Go Go.RowKit
def iI(f:FuncId)(xs:Array Value)(a g n:Nat)(k:Int)(gs:Nat->Value)(ms:MS n)(w:World):Prop:=
 Calls prog f xs w λe w'=>∃l,e= returned (tuple #[pointer (some ⟨l,0,none⟩),J 0])/\qT w a g n k (gs l) ms w'/\aa [a,g] w w'
def MkL(W:World)(a g lb n:Nat)(ms:MS n)(e:Ending)(w':World):Prop:=
 e= returned (J 0)/\(∃b:ms.1.β,ms.1.Good/\ms.1.ok ms.2 0/\ms.1.is b w' a g lb ms.2/\(∀x∈ms.1.fp b,W.heap.size<=x\/x=a\/x=g)/\min lb (min a g)<=ms.1.bt b)/\aa [a,g,lb] W w'
def Gb{H w5:World}{l:Nat}{k:Int}{Y:MS n}(I:Below W.heap.size W H)(hl:Blk H lb 110 #[J k,J n,.nilIface])(Ry:lb<W.heap.size)(O:lb≠a/\lb≠g)(h:qT H a g n k (gs l) Y w5)(t:aa [a,g] H w5):MkL W a g lb n Y (returned (J 0)) (w5.setCell ⟨lb,2,none⟩ (gs l)):=by have hs:=I.size;have h5:=t.blk hl (by simp;exact O);obtain⟨b,h1,h2,h3,V⟩:=h (w5.setCell ⟨lb,2,none⟩ (gs l)) lb ((aa.refl _ _).setCell (.inl ahz) _) ahy O.1 O.2 (h5.set_ 2 _);exact⟨rfl,⟨b,h1,h2,h3,⟨λx hx=>by have:=V.1 x hx;omega,V.2⟩⟩,((aa.of_below (S:=[a,g,lb]) I).trans (t.mono (by intro i hi;simp at hi ⊢;rcases hi with rfl|rfl<;>simp))).setCell (.inl ahz) _⟩
section
variable{gl lo pa bu:Nat}
inductive MkP(a:Nat)(vP vT:Value)(gl lo pa bu:Nat):Int->FuncId->Array Value->(Nat->Value)->Prop
 |co:MkP a vP vT gl lo pa bu 6 103 #[↑a,agg #[vP,vT],agg #[int i64 gl,int i64 lo,int i64 pa,int i64 bu]] AJ
 |hm:MkP a vP vT gl lo pa bu 7 104 #[↑a,agg #[vP,vT],int i64 bu] hmV
 |hc:MkP a vP vT gl lo pa bu 8 105 #[↑a,agg #[vP,vT],int i64 bu] hcV
 |cn:MkP a vP vT gl lo pa bu 9 106 #[↑a,agg #[vP,vT],int i64 bu] cnV
 |ma:MkP a vP vT gl lo pa bu 10 107 #[↑a,agg #[vP,vT],int i64 bu] maV
inductive MkR(a n:Nat)(vP vT:Value)(gl lo pa bu k:Nat):FuncId->Array Value->(Nat->Value)->Prop
 |fl (h:1<=k/\k<=5):MkR a n vP vT gl lo pa bu k 109 #[↑a,int i64 k,int i64 n,int i64 pa] flV
 |rw (h:11<=k/\k<=13):MkR a n vP vT gl lo pa bu k 108 #[↑a,int i64 ((k:Int)-10),agg #[vP,vT],agg #[int i64 gl,int i64 lo,int i64 pa,int i64 bu]] rwV
def Fg{Q:Prop}(h:Q:=by
    have Oo:=t5.blk H0.o.2.1 (by simp;exact hn)
    have q2:=Oo.free 2
    have q2c:=Oo.cell 2
    have HF:=qh (Gb H0.o.1 H0.o.2.1 H0.o.2.2 hn hin t5)
    simp only[AJ,hmV,hcV,cnV,maV,flV,rwV]at HF
    clear hin t5 Oo
    go_wp2
    go_ret
    exact HF.o):Q:=h
variable{ms:MS n}{f:FuncId}{xs:Array Value}
def tJ{k:Int}(K:MkP a vP vT gl lo pa bu k f xs gs)(O:Blk W lb 110 #[J k,J n,.nilIface])(hn:lb≠a/\lb≠g)(V:∀W2,Below W.heap.size W W2->iI f xs a g n k gs ms W2):E 56 #[↑lb,↑a,agg #[vP,vT],agg #[J gl,J lo,J pa,J bu]] W (MkL W a g lb n ms):=by
  have H:=((Below.refl W.heap.size W).alloc (Nat.le_refl _) (cells #[vP,vT] 24)).alloc ahz (cells #[J gl,J lo,J pa,J bu] 36);have I:=O.below H O.lt;have c0:=I.cell 0;have c1:=I.cell 1;have Ry:=O.lt;have Y:=qh (V _ H);unfold iI at Y;have H0:=qh (And.intro H (And.intro I Ry));have PW:((W.alloc (cells #[vP,vT] 24)).alloc (cells #[J gl,J lo,J pa,J bu] 36)).heap.size=W.heap.size+2:=by simp
  clear H I O V;cases K;all_goals go_enter func56,ntmps56;go_wp2_with fail;refine Y.o.mono ?_;rintro en w5 ⟨l,rfl,hin,t5⟩;exact Fg
def xJ(K:MkR a n vP vT gl lo pa bu k f xs gs)(O:Blk W lb 110 #[J k,J n,.nilIface])(hn:lb≠a/\lb≠g)(L4:a<W.heap.size/\g<W.heap.size)(HN:∀W2,Below W.heap.size W W2->iI f xs a g n k gs ms W2):E 56 #[↑lb,↑a,agg #[vP,vT],agg #[J gl,J lo,J pa,J bu]] W (MkL W a g lb n ms):=by
  obtain⟨H,V⟩:=LE ((W.alloc (cells #[vP,vT] 24)).alloc (cells #[J gl,J lo,J pa,J bu] 36));have Kn:Below W.heap.size W H:=by rw[V];exact((Below.refl W.heap.size W).alloc (Nat.le_refl _) _).alloc ahz _
  have KI:Below W.heap.size W H.drew:=Kn.drew;have Lr:=O.below Kn O.lt;have k1:Blk H W.heap.size 24 #[vP,vT]:=by rw[V];exact(Blk.new W _ _).alloc _
  have k2:Blk H (W.heap.size+1) 36 #[J gl,J lo,J pa,J bu]:=by rw[V];exact Blk.new' _ _ _ ahz
  have Y:lb∉[a,g]:=by simp;exact hn
  have ab:W.heap.size∉[a,g]:=by simp;omega
  have PP:W.heap.size+1∉[a,g]:=by simp;omega
  have HC:=qh (λgs (h:aa [a,g] H gs)=>And.intro ((h.blk Lr Y).cell 0) (And.intro ((h.blk Lr Y).cell 1) (And.intro ((h.blk k1 ab).cell 0) (And.intro ((h.blk k1 ab).cell 1) (And.intro ((h.blk k2 PP).cell 0) (And.intro ((h.blk k2 PP).cell 1) (And.intro ((h.blk k2 PP).cell 2) ((h.blk k2 PP).cell 3))))))));have Ry:=O.lt;have OU:=qh (HN _ KI);unfold iI at OU;have H0:=qh (And.intro KI (And.intro (O.below KI O.lt) Ry));have HD:=qh (show aa [a,g] H H.drew from(aa.refl _ _).drew);have HR:=qh (show aa [a,g] H H from aa.refl _ _);have HZ:=qh V;have Kv:W.heap.size<H.heap.size:=k1.lt;clear Kn KI Lr O HN k1 k2 V;have I:(1<=k/\k<=5)\/k=11\/k=12\/k=13:=by cases K<;>omega
  have ne:∀z:Int,(6<=z/\z<=10)\/(k:Int)≠z->((k:Int)==z)=false:=λz h=>by simp;omega
  have n6:=ne 6 ahy;have n7:=ne 7 ahy;have n8:=ne 8 ahy;have n9:=ne 9 ahy;have ba:=ne 10 ahy;have w1:IntKind.i64.wrap ((k:Int)-11)=k-11:=IntWalk.i64_in _ ahy;have w2:IntKind.i64.wrap ((k:Int)-11+1)=k-10:=by rw[IntWalk.i64_in _ ahy];omega
  cases K
  all_goals
    rcases I with I|I|I|I
    all_goals try omega
    all_goals
      first|have ad:((k:Int)==11)=true:=by simp;omega|have ad:=ne 11 ahy
      first|have al:((k:Int)==12)=true:=by simp;omega|have al:=ne 12 ahy
      first|have ax:((k:Int)==13)=true:=by simp;omega|have ax:=ne 13 ahy
      clear ne I;go_enter func56,ntmps56;go_upto_region 2 with fail;rw[<-HZ.o];obtain⟨q0,q1,q2⟩:=HC.o _ HR.o;go_wp2_with fail
      go_region_held3 (λgs=>gs.cell? lb=some (J k)/\Z gs lb 1 (J n)/\gs.cell? W.heap.size=some vP/\Z gs W.heap.size 1 vT/\Z gs (W.heap.size+1) 0 (J gl)/\Z gs (W.heap.size+1) 1 (J lo)/\Z gs (W.heap.size+1) 2 (J pa)/\Z gs (W.heap.size+1) 3 (J bu))
        (first|exact HC.o _ HR.o|exact HC.o _ HD.o|exact HC.o _ H6.o)
        (first
          | (go_at_call 108;go_loud (refine OU.o.mono ?_);rintro en w5 ⟨l,rfl,hin,t5⟩;have H6:=qh (HD.o.trans t5))
          | (go_at_call 109;go_loud (refine OU.o.mono ?_);rintro en w5 ⟨l,rfl,hin,t5⟩;have H6:=qh (HD.o.trans t5)))
      exact Fg
end
end
section
open Go Go.RowKit
def Ex(P T:List Int)(k pa:Nat):MS T.length:=⟨Ef k T.length pa,(aG k (dJ 4096) T.length pa,be k T.length)⟩
def IA(P T:List Int)(gl lo pa bu:Nat):MS T.length:=⟨Ee (fi gl lo pa bu P T (dJ 4096)) P T (bJ gl lo pa P T (dJ 4096)).s.W.length,bJ gl lo pa P T (dJ 4096)⟩
def IC(P T:List Int)(room:Nat)(bu:Nat):MS T.length:=⟨BZ (cE P T) bu,⟨⟨dz (hm0 (cE P T)).W P.length,room,0,0,0,false⟩,hm0 (cE P T)⟩⟩
def IB(P T:List Int)(bu:Nat):MS T.length:=⟨Eg bu P T,hc0 (dJ 4096) (ac P).length T.length⟩
def Iz(P T:List Int)(bu:Nat):MS T.length:=⟨xG bu (ao P T T.length) T.length,cn0 (dJ 4096) T.length⟩
def ID(P T:List Int)(bu:Nat):MS T.length:=⟨xH T.length bu,ma0 (dJ 4096) T.length⟩
def zf(F:kO)(P T:List Int)(gl lo pa bu:Nat):MS T.length:=⟨Eh F (fi gl lo pa bu P T (smA (dJ 4096) (ac P).length)) P T (bJ gl lo pa P T (smA (dJ 4096) (ac P).length)).s.W.length,⟨bJ gl lo pa P T (smA (dJ 4096) (ac P).length),dr0,List.replicate T.length Sp.zero⟩⟩
def p6(P T:List Int)(gl lo pa bu k:Nat):MS T.length:=
 if k<=5 then Ex P T k pa else if k=6 then IA P T gl lo pa bu else if k=7 then IC P T 4096 bu else if k=8 then IB P T bu else if k=9 then Iz P T bu else if k=10 then ID P T bu else if k=11 then zf um P T gl lo pa bu else if k=12 then zf uq P T gl lo pa bu else zf ut P T gl lo pa bu
structure fB(w:World)(a g:Nat)(vP vT:Value)(P T:List Int)(gl lo pa bu:Nat):Prop where
 ar:aB w a g (dJ 4096)
 rP:RdL w vP 1 encI P
 rT:RdL w vT 1 encI T
 Pa:∀i,vP.ownBlock=some i->i≠a/\i<w.heap.size
 Ta:∀i,vT.ownBlock=some i->i≠a/\i<w.heap.size
 ck:a5 P T=0
 gl:1<=gl/\gl<=5
 lo:1<=lo/\lo<=5
 pa:1<=pa/\pa<=4
 bu:bu<=3
section
variable{gl lo pa bu:Nat}
def fB.below(h:fB w a g vP vT P T gl lo pa bu)(b:Below w.heap.size w w'):fB w' a g vP vT P T gl lo pa bu:=
 {h with ar:=h.ar.turns (S:=[]) (aa.of_below b) ahz ahz,rP:=h.rP.below b (Nat.le_refl _),rT:=h.rT.below b (Nat.le_refl _),Pa:=λi hi=>⟨(h.Pa i hi).1,Nat.lt_of_lt_of_le (h.Pa i hi).2 b.size⟩,Ta:=λi hi=>⟨(h.Ta i hi).1,Nat.lt_of_lt_of_le (h.Ta i hi).2 b.size⟩}
def fB.n32(h:fB w a g vP vT P T gl lo pa bu):1<=T.length/\T.length<=32:=by have:=bj (aR h.ck).1;exact⟨this.2.2.1,this.2.2.2⟩
def IQ(h:fB w a g vP vT P T gl lo pa bu):iI 103 #[↑a,agg #[vP,vT],agg #[J gl,J lo,J pa,J bu]] a g T.length 6 AJ (IA P T gl lo pa bu) w:=by refine(oE h.ar vP vT P T h.rP h.rT h.ck gl lo (KOk.of h.gl) (KOk.of h.lo) pa h.pa (bu:Int) ahP (by show 0+2500<=4096;omega) (by show 0<=100;omega) (by show 0+100<=1000000000000;omega)).mono ?_;rintro e w' ⟨x,B,rfl,k,I,t⟩;exact⟨x.l,rfl,Ig h.ck h.gl h.lo h.pa rfl rfl k I,t⟩
def IT(h:fB w a g vP vT P T gl lo pa bu):iI 104 #[↑a,agg #[vP,vT],J bu] a g T.length 7 hmV (IC P T 4096 bu) w:=by have H:=h.rP;have O:=h.Pa;obtain⟨I,cP,e3,_⟩:=id H;subst e3;refine(IG h.ar rfl h.ar.ne I cP vT P T H O h.rT h.ck (bu:Int) ahy ahP ⟨rfl,GC h.ck⟩).mono ?_;rintro e w' ⟨B,x,s',ha,hg,rfl,k,hs,Y,hq,V,t⟩;subst hs;exact⟨x.l,rfl,Ij h.ck ahP rfl ha hg k Y hq V,t.mono ahz⟩
def IS(h:fB w a g vP vT P T gl lo pa bu):iI 105 #[↑a,agg #[vP,vT],J bu] a g T.length 8 hcV (IB P T bu) w:=by refine(Gn h.ar rfl h.ar.ne vP vT P T h.rP h.rT h.ck (bu:Int) ahy ahP rfl).mono ?_;rintro e w' ⟨l,q,b,u,l0,V,rfl,k,h1,H,Y,I,t,O⟩;exact⟨l,rfl,Ii h.ck ahP rfl k h1 H I O,t.mono ahz⟩
def IP(h:fB w a g vP vT P T gl lo pa bu):iI 106 #[↑a,agg #[vP,vT],J bu] a g T.length 9 cnV (Iz P T bu) w:=by refine(Gm h.ar rfl h.ar.ne vP vT P T h.rP h.rT h.ck (bu:Int) ahy ahP rfl).mono ?_;rintro e w' ⟨c,cap,Y,hg,rfl,k,h1,I,O,t,V⟩;have H:(ao P T T.length).length=T.length:=cZ (Nat.le_refl _);have:=If (w:=w) (a:=a) (g:=g) (ao P T T.length) (s:=dJ 4096) rfl (by rw[H];exact k) ⟨Y,hg⟩ h1 I O V;rw[H]at this;exact⟨c.l,rfl,this,t.mono ahz⟩
def IU(h:fB w a g vP vT P T gl lo pa bu):iI 107 #[↑a,agg #[vP,vT],J bu] a g T.length 10 maV (ID P T bu) w:=by refine(JY h.ar rfl h.ar.ne vP vT P T h.rP h.rT h.ck (bu:Int) ahy ahP rfl).mono ?_;rintro e w' ⟨c,rfl,k,hc,h1,H,I,t⟩;exact⟨c.l,rfl,Ik h.n32 rfl k hc h1 H I,t.mono ahz⟩
def IR(h:fB w a g vP vT P T gl lo pa bu)(k:Nat)(H:1<=k/\k<=5):iI 109 #[↑a,J k,J T.length,J pa] a g T.length k flV (Ex P T k pa) w:=by refine(Bs h.ar k (KOk.of H) T.length h.n32.1 h.n32.2 pa h.pa.1 h.pa.2 (by have:=kp (k:=k) h.n32.2 h.pa.2;show 0+_<=4096;omega) (by show 0+1<=1000000000000;omega)).mono ?_;rintro e w' ⟨x,rfl,k1,h1,t⟩;exact⟨x.p,rfl,Ih H h.n32 h.pa rfl rfl k1 h1,t⟩
def fB.hN(h:fB w a g vP vT P T gl lo pa bu):1<=(ac P).length:=by have h1:=eD h.ck (i:=0) (by have:=h.n32;omega);omega
def IV(h:fB w a g vP vT P T gl lo pa bu):iI 108 #[↑a,J 1,agg #[vP,vT],agg #[J gl,J lo,J pa,J bu]] a g T.length 11 rwV (zf um P T gl lo pa bu) w:=by refine(GG .n h.ar rfl h.ar.ne vP vT P T h.rP h.rT h.Pa h.Ta h.ck gl lo (KOk.of h.gl) (KOk.of h.lo) pa h.pa (bu:Int) ahP rfl (by show 0<=1000;omega)).mono ?_;rintro e w' ⟨q,B,BC,X,rfl,k,H,t,Y,V,O,I⟩;have hs:=J0 (bud:=(bu:Int)) (s:=dJ 4096) h.ck h.gl h.lo h.pa rfl;exact⟨q,rfl,BN (F:=um) ahA h.ck (un (EB h.ck h.gl h.lo h.pa rfl h.hN)) hs.1 hs.2 k H Y V O I,t⟩
def IW(h:fB w a g vP vT P T gl lo pa bu):iI 108 #[↑a,J 2,agg #[vP,vT],agg #[J gl,J lo,J pa,J bu]] a g T.length 12 rwV (zf uq P T gl lo pa bu) w:=by refine(GG .r h.ar rfl h.ar.ne vP vT P T h.rP h.rT h.Pa h.Ta h.ck gl lo (KOk.of h.gl) (KOk.of h.lo) pa h.pa (bu:Int) ahP rfl (by show 0<=1000;omega)).mono ?_;rintro e w' ⟨q,B,BC,X,rfl,k,H,t,Y,V,O,I⟩;have hs:=J6 (bud:=(bu:Int)) (s:=dJ 4096) h.ck h.gl h.lo h.pa rfl;exact⟨q,rfl,BN (F:=uq) ahA h.ck (ur (EB h.ck h.gl h.lo h.pa rfl h.hN)) hs.1 hs.2 k H Y V O I,t⟩
def IX(h:fB w a g vP vT P T gl lo pa bu):iI 108 #[↑a,J 3,agg #[vP,vT],agg #[J gl,J lo,J pa,J bu]] a g T.length 13 rwV (zf ut P T gl lo pa bu) w:=by refine(GG .w h.ar rfl h.ar.ne vP vT P T h.rP h.rT h.Pa h.Ta h.ck gl lo (KOk.of h.gl) (KOk.of h.lo) pa h.pa (bu:Int) ahP rfl (by show 0<=1000;omega)).mono ?_;rintro e w' ⟨q,B,BC,X,rfl,k,H,t,Y,V,O,I⟩;have hs:=Ki (bud:=(bu:Int)) (s:=dJ 4096) h.ck h.gl h.lo h.pa rfl;exact⟨q,rfl,BN (F:=ut) ahA h.ck (uu (EB h.ck h.gl h.lo h.pa rfl h.hN)) hs.1 hs.2 k H Y V O I,t⟩
end
end
section
open Go Go.RowKit
variable{gl lo pa bu cT:Nat}{AT:Option Addr}
def Gr:∀k,1<=k/\k<=13->¬(nmB k).toList=[]:=by
 intro k H;have:(List.range 13).all (λk=>!(nmB (k+1)).toList.isEmpty)=true:=by decide+kernel
 have h:=List.all_eq_true.1 this (k-1) (List.mem_range.2 ahy);rw[show k-1+1=k by omega]at h;simpa using h
def IF(w:World)(k:Nat)(H:1<=k/\k<=13):E 43 #[J k] w λe w'=>∃b:ByteArray,e= returned (.string b)/\¬b.toList=[]/\Below w.heap.size w w':=
 (tX w k).mono λ_ _ h=>⟨_,h.1,Gr k H,h.2⟩
def En(h:fB W a g vP vT P T gl lo pa bu)(hk:1<=k/\k<=13)(H:Blk W lb 110 #[J k,J T.length,.nilIface])(I:lb≠a/\lb≠g):E 56 #[↑lb,↑a,agg #[vP,vT],agg #[J gl,J lo,J pa,J bu]] W (MkL W a g lb T.length (p6 P T gl lo pa bu k)):=by
  have V:=And.intro h.ar.blk.lt h.ar.wds.lt;by_cases Y:k<=5;. rw[show p6 P T gl lo pa bu k=Ex P T k pa from if_pos Y];exact xJ (.fl ⟨hk.1,Y⟩) H I V λO b=>IR (h.below b) k ⟨hk.1,Y⟩
  have hc:k=6\/k=7\/k=8\/k=9\/k=10\/k=11\/k=12\/k=13:=by omega
  rcases hc with rfl|rfl|rfl|rfl|rfl|rfl|rfl|rfl
  . exact tJ .co H I λO b=>IQ (h.below b)
  . exact tJ .hm H I λO b=>IT (h.below b)
  . exact tJ .hc H I λO b=>IS (h.below b)
  . exact tJ .cn H I λO b=>IP (h.below b)
  . exact tJ .ma H I λO b=>IU (h.below b)
  . exact xJ (.rw ahy) H I V λO b=>IV (h.below b)
  . exact xJ (.rw ahy) H I V λO b=>IW (h.below b)
  . exact xJ (.rw ahy) H I V λO b=>IX (h.below b)
def Gp(NP:a<W.heap.size)(ad:g<W.heap.size)(hP:RdL W vP 1 encI P)(hT:RdL W (.slice AT T.length cT) 1 encI T)(Pe:a5 P T=0)(hk:1<=k/\k<=13){ms:MS T.length}(Vn:∀gs lb,Below W.heap.size W gs->Blk gs lb 110 #[J k,J T.length,.nilIface]->lb≠a/\lb≠g->E 56 #[pointer (some ⟨lb,0,none⟩),↑a,agg #[vP,.slice AT T.length cT],agg #[J gl,J lo,J pa,J bu]] gs (MkL gs a g lb T.length ms)):E 13 #[↑a,agg #[vP,.slice AT T.length cT],agg #[J k,J gl,J lo,J pa,J bu]] W (uK W a g T.length ms):=by
  refine ajh ?_;intro Kn w0 E';rw[<-E']at Kn;refine ajw ?_;intro PW k1 k2
  have I:=qh (λgs (h:Below w0.heap.size w0 gs)=>show gs.cell? W.heap.size=some vP/\Z gs W.heap.size 1 (.slice AT T.length cT)/\Z gs (W.heap.size+1) 0 (J k)/\Z gs (W.heap.size+1) 1 (J gl)/\Z gs (W.heap.size+1) 2 (J lo)/\Z gs (W.heap.size+1) 3 (J pa)/\gs.cell? ⟨W.heap.size+1,4,none⟩=some (J bu)from
    ⟨(k1.below h k1.lt).cell 0,(k1.below h k1.lt).cell 1,(k2.below h k2.lt).cell 0,(k2.below h k2.lt).cell 1,(k2.below h k2.lt).cell 2,(k2.below h k2.lt).cell 3,(k2.below h k2.lt).cell 4⟩)
  have Ll:=qh (λgs (h:Below w0.heap.size w0 gs)=>kA gs vP (.slice AT T.length cT) P T ((hP.below Kn (Nat.le_refl _)).below h (Nat.le_refl _)) ((hT.below Kn (Nat.le_refl _)).below h (Nat.le_refl _)));rw[Pe]at Ll;have X9:=qh (λgs lb (h:Below w0.heap.size w0 gs) (hl:Blk gs lb 110 #[J k,J T.length,.nilIface]) (hn:w0.heap.size<=lb)=>Vn gs lb (Kn.trans (h.mono Kn.size)) hl ⟨by omega,by omega⟩);have Yb:=qh (λgs=>IF gs k hk);have H0:=qh Kn;have Ln:=qh E';clear hP hT Pe Vn Kn E' k1 k2;go_enter func13,ntmps13;go_wp2_with fail;rw[<-Ln.o];obtain⟨-,-,c0,-,-,-,-⟩:=I.o w0 (Below.refl _ _);go_wp2_with fail;refine(Yb.o _).mono ?_;rintro en w1 ⟨H,rfl,Y,b1⟩;have SO:H.toList.isEmpty=false:=by simpa using Y
  obtain⟨c0,c1,c2,c3,c4,c5,c6⟩:=I.o w1 b1;have B1:=qh b1;clear b1;go_wp2_with fail;refine Pi (Ll.o _ B1.o) λw2 b2=>?_;have O:=qh (B1.o.trans (b2.o.mono B1.o.size));clear c0 c1 c2 c3 c4 c5 c6;obtain⟨c0,c1,c2,c3,c4,c5,c6⟩:=I.o w2 O.o;have Ko:=O.o.size;have b3:=(Below.refl w2.heap.size w2).alloc (Nat.le_refl _) (cells #[J k,J T.length,.nilIface] 110);have V:=qh (O.o.trans (b3.mono Ko));clear b3;have HM:=qh (X9.o _ w2.heap.size V.o (Blk.new w2 110 #[J k,J T.length,.nilIface]) Ko);obtain⟨d0,d1,d2,d3,d4,d5,d6⟩:=I.o _ V.o;have ab:W.heap.size<w2.heap.size:=by omega
  have LI:W.heap.size+1<w2.heap.size:=by omega
  go_wp2_with fail;refine Pi HM.o λw4 HF=>?_;go_wp2;go_ret2;obtain⟨⟨b,m1,m2,m3,m4,m5⟩,t4⟩:=HF.o;refine⟨b,w2.heap.size,rfl,m1,m2,m3,λx hx=>?_,by omega,?_⟩;. have:=m4 x hx;have e2:(w2.alloc (cells #[J k,J T.length,.nilIface] 110)).heap.size=w2.heap.size+1:=(by simp);rw[e2]at this;omega
  . have t:=(aa.of_below (S:=[a,g,w2.heap.size]) (H0.o.trans (V.o.mono H0.o.size))).trans t4;exact t.fresh (λi hi=>by simp at hi ⊢;rcases hi with rfl|rfl|rfl<;>first|(left;left;rfl)|(left;right;rfl)|(right;omega))
def IH(H:fB W a g vP (.slice AT T.length cT) P T gl lo pa bu)(I:1<=k/\k<=13):E 13 #[↑a,agg #[vP,.slice AT T.length cT],agg #[J k,J gl,J lo,J pa,J bu]] W (uK W a g T.length (p6 P T gl lo pa bu k)):=
  Gp H.ar.blk.lt H.ar.wds.lt H.rP H.rT H.ck I λ_ _ h O V=>En (H.below h) I O V
end
section
open Go Go.RowKit
variable{S S':List Sp}{u v:Int}
structure SeU{n:Nat}(M:LkM n)(U:M.σ->List Sp):Prop where
 rd:M.rd=false
 sp:∀st i,M.sp st i=sv (U st) i
 len:∀st N,M.ok st N->n<=(U st).length
 step:∀st N i,M.ok st N->i<n->U (M.step st i)=U st\/∃p,U (M.step st i)=(U st).set i p/\(0<(sv (U st) i).pc->(sv (U st) i).pc<10->0<p.pc/\p.pc<=10)/\(10<(sv (U st) i).pc->p.pc=0\/10<p.pc)
 askT:∀st i,M.ask st i true=st
 ask:∀st N i,M.ok st N->i<n->(U (M.ask st i false)=U st/\(sv (U st) i).pc≠0)\/∃p,U (M.ask st i false)=(U st).set i p/\((sv (U st) i).pc=0->0<p.pc/\p.pc<10)/\((sv (U st) i).pc≠0->p=sv (U st) i)
 leave:∀st N i,M.ok st N->i<n->(U (M.leave st i)=U st/\(sv (U st) i).pc≠10)\/∃p,U (M.leave st i)=(U st).set i p/\((sv (U st) i).pc=10->10<p.pc)/\((sv (U st) i).pc≠10->p=sv (U st) i)
def fQ{rd:Bool}(h:rd=false)(p:Sp):rdB rd p=false:=by unfold rdB;rw[h];rfl
def SeU.seen{M:LkM n}{U:M.σ->List Sp}(h:SeU M U):M.Seen where
 sO:=λst N i j H _ hi Y hne=>by
  rw[h.sp,h.sp]
  rcases h.step st N i H hi with e|⟨p,e,_⟩
  .rw[e]
  .exact acB
 s1:=λst N i H _ hi I h1=>by
  refine⟨?_,by rw[fQ h.rd,fQ h.rd]⟩
  rw[h.sp]at I h1 ⊢
  have O:=h.len st N H
  rcases h.step st N i H hi with e|⟨p,e,q,_⟩
  .rw[e];omega
  .rw[e,bh,if_pos ⟨rfl,by omega⟩];exact q I h1
 s3:=λst N i H _ hi I=>by
  rw[fQ h.rd,fQ h.rd]
  rw[h.sp]at I ⊢
  have O:=h.len st N H
  rcases h.step st N i H hi with e|⟨p,e,_,q⟩
  .rw[e];right;simpa using I
  .rw[e,bh,if_pos ⟨rfl,by omega⟩];have:=q I;simpa using this
 aO:=λst N i r j H _ hi Y hne=>by
  cases r
  .rw[h.sp,h.sp]
   rcases h.ask st N i H hi with⟨e,_⟩|⟨p,e,_⟩
   .rw[e]
   .exact acB
  .rw[h.askT]
 a1:=λst N i r H _ hi I V=>by
  have:r=false:=by cases r;rfl;exact absurd (V rfl) (by rw[h.rd];decide)
  subst this
  refine⟨?_,fQ h.rd _⟩
  rw[h.sp]at I ⊢
  have O:=h.len st N H
  rcases h.ask st N i H hi with⟨_,q⟩|⟨p,e,q,_⟩
  .exact absurd I q
  .rw[e,bh,if_pos ⟨rfl,by omega⟩];exact q I
 aN:=λst N i r H _ hi I=>by
  cases r
  .rw[h.sp]at I ⊢
   rw[h.sp]
   rcases h.ask st N i H hi with⟨e,_⟩|⟨p,e,_,q⟩
   .rw[e]
   .rw[e,q I,bh];split<;>rfl
  .rw[h.askT]
 lO:=λst N i j H _ hi Y hne=>by
  rw[h.sp,h.sp]
  rcases h.leave st N i H hi with⟨e,_⟩|⟨p,e,_⟩
  .rw[e]
  .exact acB
 l1:=λst N i H _ hi I=>by
  refine⟨?_,by rw[fQ h.rd,fQ h.rd]⟩
  rw[h.sp]at I ⊢
  have O:=h.len st N H
  rcases h.leave st N i H hi with⟨_,q⟩|⟨p,e,q,_⟩
  .exact absurd I q
  .rw[e,bh,if_pos ⟨rfl,by omega⟩];exact q I
 lN:=λst N i H _ hi I=>by
  rw[h.sp]at I ⊢
  rw[h.sp]
  rcases h.leave st N i H hi with⟨e,_⟩|⟨p,e,_,q⟩
  .rw[e]
  .rw[e,q I,bh];split<;>rfl
def BT(p:Sp):(p.pc=10->10<(bf p).pc)/\(p.pc≠10->bf p=p):=by unfold bf;split<;>simp[*]
def FA(k:Nat)(p:Sp):(p.pc=0->0<(askK k p).pc/\(askK k p).pc<10)/\(p.pc≠0->askK k p=p):=by
 unfold askK;split;.split<;>simp[*]
 .simp[*]
def PcOk(p p':Sp):Prop:=(0<p.pc->p.pc<10->0<p'.pc/\p'.pc<=10)/\(10<p.pc->p'.pc=0\/10<p'.pc)
def I5(H:1<=k/\k<=5):(Ef k n m).Seen:=SeU.seen (U:=λst:Ar×List Sp=>st.2)
 {rd:=rfl
  sp:=λ_ _=>rfl
  len:=λ_ _ h=>Nat.le_of_eq h.i.len.symm
  step:=λ_ _ _ h hi=> .inr ⟨_,rfl,(jc H (im.at h hi).2).2⟩
  askT:=λ_ _=>rfl
  ask:=λ_ _ _ _ _=> .inr ⟨_,rfl,FA k _⟩
  leave:=λ_ _ _ _ _=> .inr ⟨_,rfl,BT _⟩}
theorem Ga(n:Nat)(bud:Int)(h:Mal)(i:Nat)(p:Sp):PcOk p (maP n bud h i p).2.2.2:=by
 unfold maP;split;.unfold fj PcOk;grind
 .unfold dB PcOk k7;grind (splits:=40)
def mh(S S':List Sp)(i:Nat)(u v:Int):Prop:=(S'=S/\(sv S i).pc≠u)\/∃p,S'=S.set i p/\p.pc=v/\(sv S i).pc=u
def mh.ask(h:mh S S' i 0 1):(S'=S/\(sv S i).pc≠0)\/∃p,S'=S.set i p/\((sv S i).pc=0->0<p.pc/\p.pc<10)/\((sv S i).pc≠0->p=sv S i):=by exact acC
def mh.leave(h:mh S S' i 10 11):(S'=S/\(sv S i).pc≠10)\/∃p,S'=S.set i p/\((sv S i).pc=10->10<p.pc)/\((sv S i).pc≠10->p=sv S i):=by exact acC
def An(h:Mal)(i:Nat)(u v:Int):mh h.S (io h i u v).S i u v:=by
 unfold io;split;.rename_i e;exact .inr ⟨_,rfl,rfl,e⟩
 .rename_i e;exact .inl ⟨rfl,e⟩
def I8(n:Nat)(bud:Int):(xH n bud).Seen:=SeU.seen (U:=λst:Mal=>st.S)
 {rd:=rfl
  sp:=λ_ _=>rfl
  len:=λ_ _ h=>Nat.le_of_eq h.1.len.symm
  step:=fun(st:Mal) _ i _ _=>by
   show(dU n bud st i).1.S=st.S\/∃p,(dU n bud st i).1.S=_/\_
   unfold dU
   split
   .exact .inl rfl
   .exact .inr ⟨_,rfl,Ga ..⟩
  askT:=λ_ _=>rfl
  ask:=fun(st:Mal) _ i _ _=>(An st i 0 1).ask
  leave:=fun(st:Mal) _ i _ _=>(An st i 10 11).leave}
def lu(h:okI S (i:Int)):getS S (i:Int)=sv S i:=gn (by unfold okI at h;omega)
def rQ(h:n<=S.length)(hi:i<n):okI S (i:Int):=by unfold okI;omega
def nW.len{dl:Int}{st:Hc}(h:nW dl P T st N):T.length<=st.S.length:=by obtain⟨G,h⟩:=h.1;exact Nat.le_of_eq h.iv.sl.symm
def sF{h:Hc}(hl:okI h.S (i:Int)):mh h.S (bv h i u v).1.S i u v:=by unfold bv;exact acD
theorem I6(dl:Int)(P T:List Int):(Eg dl P T).Seen:=SeU.seen (U:=λst:Hc=>st.S)
 {rd:=rfl
  sp:=λ_ _=>rfl
  len:=fun(st:Hc) N h=>nW.len h
  step:=fun(st:Hc) N i hk hi=>by
   show(fb _ _ dl _ st i).1.S=st.S\/∃p,(fb _ _ dl _ st i).1.S=_/\_
   unfold fb
   split
   .rename_i h
    rw[lu h.1,Int.toNat_natCast]
    refine .inr ⟨_,rfl,?_⟩
    have hg:=h.2
    rw[lu h.1]at hg
    unfold iu at hg
    show PcOk _ _
    unfold PcOk bz
    grind
   .exact .inl rfl
  askT:=λ_ _=>rfl
  ask:=fun(st:Hc) _ i hk hi=>(sF (u:=0) (v:=1) (rQ (nW.len hk) hi)).ask
  leave:=fun(st:Hc) _ i hk hi=>(sF (u:=10) (v:=11) (rQ (nW.len hk) hi)).leave}
def sE{h:Cn}(hl:okI h.S (i:Int)):mh h.S (bX h i u v).1.S i u v:=by unfold bX;exact acD
theorem zx(n:Nat)(node:Nat->Int)(bud:Int)(h:Cn)(i:Nat)(p:Sp):PcOk p (ah n node bud h i p).2.2:=by
 unfold ah;split;.unfold inC PcOk;grind
 split;.unfold jQ PcOk;grind
 split;.unfold mI eH PcOk;grind
 .unfold d9 PcOk;grind (splits:=30)
def I3(n:Nat)(nd:List Int)(bud:Int):(xG bud nd n).Seen:=SeU.seen (U:=λst:Cn=>st.S)
 {rd:=rfl
  sp:=λ_ _=>rfl
  len:=fun(st:Cn) N h=>Nat.le_of_eq h.1.len.symm
  step:=fun(st:Cn) N i hk hi=>by
   show(fH n (ndf nd) bud st i).1.S=st.S\/∃p,(fH n (ndf nd) bud st i).1.S=_/\_
   unfold fH
   split
   .rename_i h
    rw[lu h.1,Int.toNat_natCast]
    exact .inr ⟨_,rfl,zx ..⟩
   .exact .inl rfl
  askT:=λ_ _=>rfl
  ask:=fun(st:Cn) _ i hk hi=>(sE (u:=0) (v:=1) (rQ (Nat.le_of_eq hk.1.len.symm) hi)).ask
  leave:=fun(st:Cn) _ i hk hi=>(sE (u:=10) (v:=11) (rQ (Nat.le_of_eq hk.1.len.symm) hi)).leave}
theorem DB(c:CoC)(st:Co)(i:Nat)(p:Sp):PcOk p (db c st i p).2.2.2:=by
 unfold db;split;.unfold yH PcOk;grind
 .unfold qo PcOk;grind
def I4(c:CoC)(P T:List Int)(L:Nat):(Ee c P T L).Seen:=SeU.seen (U:=λst:Co=>st.T)
 {rd:=rfl
  sp:=λ_ _=>rfl
  len:=fun(st:Co) N h=>h.2.1.v.lT
  step:=fun(st:Co) N i hk hi=>by
   show(ak c st i).T=st.T\/∃p,(ak c st i).T=_/\_
   unfold ak iL
   split
   .exact .inl rfl
   .exact .inr ⟨_,rfl,DB ..⟩
  askT:=λ_ _=>rfl
  ask:=fun(st:Co) _ i _ _=>mh.ask (by
   show mh st.T (bG c st i).T i 0 1
   unfold bG
   split
   .rename_i e;exact .inr ⟨_,rfl,rfl,e⟩
   .rename_i e;exact .inl ⟨rfl,e⟩)
  leave:=fun(st:Co) _ i _ _=>mh.leave (by
   show mh st.T (aA st i).T i 10 11
   unfold aA
   split
   .rename_i e;exact .inr ⟨_,rfl,rfl,e⟩
   .rename_i e;exact .inl ⟨rfl,e⟩)}
def qY(T:HTr)(bud:Int)(i:Nat):∀(f:Nat) (m:Hm) (k:Nat),((gy T bud f m i k).S=m.S/\(k<T.D->f+k<T.D))\/∃p,(gy T bud f m i k).S=m.S.set i p/\10<p.pc
 |0,m,k=> .inl ⟨rfl,λh=>by omega⟩
 |f+1,m,k=>by
  have w:∀v j u c,(eQ m v j u c).S=m.S:=λv j u c=>by unfold eQ;split<;>rfl
  unfold gy;split;.exact acE
  .split;.exact acE
   .rcases qY T bud i f m (k+1)with⟨h1,h2⟩|h
    .exact .inl ⟨h1,λq=>by omega⟩
    .exact .inr h
def I7(T:HTr)(Y:T.Ok)(bud:Int):(BZ T bud).Seen:=SeU.seen (U:=λst:HmA=>st.m.S)
 {rd:=rfl
  sp:=λ_ _=>rfl
  len:=fun(st:HmA) N h=>by obtain⟨I,h⟩:=h.1;exact Nat.le_of_eq ((h.x 0).sl).symm
  step:=fun(st:HmA) N i hk hi=>by
   show(stepI T bud st.m i).S=st.m.S\/∃p,(stepI T bud st.m i).S=_/\_
   have I':(sv st.m.S i).pc=0\/(sv st.m.S i).pc=1\/(sv st.m.S i).pc=10\/10<(sv st.m.S i).pc:=by
    obtain⟨I,h⟩:=hk.1
    obtain⟨K,h,_⟩:=h.t i hi
    cases h<;>omega
   unfold stepI
   split
   case isFalse=>exact .inl rfl
   rename_i h
   rw[Int.toNat_natCast]
   unfold kf
   split
   .exact .inl rfl
   rename_i h0
   simp only
   split
   .exact .inl rfl
   split
   .exact .inl rfl
   have ask:∀m v j,(iK m v j).S=m.S:=λm v j=>by unfold iK;split<;>rfl
   have wth:∀m v j u c,(eQ m v j u c).S=m.S:=λm v j u c=>by unfold eQ;split<;>rfl
   split
   .rename_i e1
    unfold jM
    split
    .exact .inr ⟨_,rfl,λ_ _=>by simp,λq=>by omega⟩
    .refine .inr ⟨_,by show((iK _ _ _).S).set i _=_;rw[ask];rfl,λ_ _=>?_,λq=>by omega⟩
     show 0<(sv st.m.S i).pc/\(sv st.m.S i).pc<=10
     omega
   split
   .unfold jN
    split
    .exact .inr ⟨_,rfl,λO V=>ahy,λ_=> .inl rfl⟩
    .exact .inr ⟨_,by show((eQ _ _ _ _ _).S).set i _=_;rw[wth];rfl,λO V=>ahy,λ_=> .inr ahz⟩
   .rcases qY T bud i T.D (rstH st.m (T.pl i (sv st.m.S i).c.toNat) (T.sl i (sv st.m.S i).c.toNat)) ((sv st.m.S i).c.toNat+1)with⟨h1,_⟩|⟨p,h1,H⟩
    .exact .inl h1
    .exact .inr ⟨p,h1,λO V=>ahy,λ_=> .inr H⟩
  askT:=λ_ _=>rfl
  ask:=fun(st:HmA) _ i hk hi=>mh.ask (by
   show mh st.m.S (li T st.m i).S i 0 1
   obtain⟨I,h⟩:=hk.1
   unfold li
   rw[if_pos (h.okN hi).1,Int.toNat_natCast]
   unfold qi
   split
   .rename_i e;refine .inr ⟨_,by show((iK _ _ _).S).set i _=_;unfold iK;split<;>rfl,rfl,e⟩
   .rename_i e;exact .inl ⟨rfl,e⟩)
  leave:=fun(st:HmA) _ i hk hi=>by
   show((gA T bud st.m i).S=_/\_)\/∃p,(gA T bud st.m i).S=_/\_
   obtain⟨I,h⟩:=hk.1
   unfold gA
   rw[if_pos (h.okN hi).1,Int.toNat_natCast]
   unfold kE
   split
   .rename_i e
    rcases qY T bud i T.D st.m 0 with⟨h1,H⟩|⟨p,h1,H⟩
    .have:=H (by have:=Y.d1;omega);omega
    .exact .inr ⟨p,h1,λ_=>H,λq=>absurd e q⟩
   .rename_i e;exact .inl ⟨rfl,e⟩}
end
section
open Go Go.RowKit
structure kO.See(F:kO)(c:CoC)(P T:List Int)(L:Nat):Prop where
 step:∀B x i,F.ok c T.length (ac P).length L (mtQ P T) B x->i<T.length->(F.step c (ac P).length x i).U=x.U\/∃p,(F.step c (ac P).length x i).U=x.U.set i p/\PcOk (sv x.U i) p/\(p.pc≠0->p.a=(sv x.U i).a)
 askN:∀x i r,(sv x.U i).pc≠0->F.ask c x i r=x
 ask:∀x i r,(sv x.U i).pc=0->∃p:Sp,(F.ask c x i r).U=x.U.set i p/\(0<p.pc/\p.pc<10)/\p.a=if r then 1 else 0
def CN{F:kO}{c:CoC}(K:F.Ok c P T L)(h:F.See c P T L):(Eh F c P T L).Seen where
 sO:=fun(x:Nu) N i j hk _ hi hj hne=>by
  show sv (F.step c _ x i).U j=sv x.U j
  rcases h.step _ x i hk.1 hi with e|⟨p,e,_⟩
  .rw[e]
  .exact acB
 s1:=fun(x:Nu) N i hk _ hi H h1=>by
  show(0<(sv (F.step c _ x i).U i).pc/\(sv (F.step c _ x i).U i).pc<=10)/\rdB true (sv (F.step c _ x i).U i)=rdB true (sv x.U i)
  have I:=K.lU _ x hk.1
  replace H:0<(sv x.U i).pc:=H
  replace h1:(sv x.U i).pc<10:=h1
  rcases h.step _ x i hk.1 hi with e|⟨p,e,q,qa⟩
  .rw[e];exact⟨by omega,rfl⟩
  .rw[e,bh,if_pos ⟨rfl,by omega⟩]
   have:=q.1 H h1
   exact⟨this,by unfold rdB;rw[qa ahy]⟩
 s3:=fun(x:Nu) N i hk _ hi H=>by
  show(sv (F.step c _ x i).U i).pc=0\/10<(sv (F.step c _ x i).U i).pc/\rdB true (sv (F.step c _ x i).U i)=rdB true (sv x.U i)
  have I:=K.lU _ x hk.1
  replace H:10<(sv x.U i).pc:=H
  rcases h.step _ x i hk.1 hi with e|⟨p,e,q,qa⟩
  .rw[e];exact .inr ⟨H,rfl⟩
  .rw[e,bh,if_pos ⟨rfl,by omega⟩]
   rcases q.2 H with e0|e0
   .exact .inl e0
   .exact .inr ⟨e0,by unfold rdB;rw[qa ahy]⟩
 aO:=fun(x:Nu) N i r j hk _ hi hj hne=>by
  show sv (F.ask c x i r).U j=sv x.U j
  by_cases e:(sv x.U i).pc=0
  .obtain⟨p,e,_⟩:=h.ask x i r e
   exact acB
  .rw[h.askN x i r e]
 a1:=fun(x:Nu) N i r hk _ hi H _=>by
  show(0<(sv (F.ask c x i r).U i).pc/\(sv (F.ask c x i r).U i).pc<10)/\rdB true (sv (F.ask c x i r).U i)=r
  have I:=K.lU _ x hk.1
  obtain⟨p,e,q,qa⟩:=h.ask x i r H
  rw[e,bh,if_pos ⟨rfl,by omega⟩]
  exact⟨q,by unfold rdB;rw[qa];cases r<;>rfl⟩
 aN:=fun(x:Nu) N i r hk _ hi H=>by
  show sv (F.ask c x i r).U i=sv x.U i
  rw[h.askN x i r H]
 lO:=fun(x:Nu) N i j hk _ hi hj hne=>by
  show sv (aF x i).U j=sv x.U j
  unfold aF
  split
  .show sv (x.U.set i _) j=_
   rw[bh,if_neg (λq=>hne q.1.symm)]
  .rfl
 l1:=fun(x:Nu) N i hk _ hi H=>by
  show 10<(sv (aF x i).U i).pc/\rdB true (sv (aF x i).U i)=rdB true (sv x.U i)
  have I:=K.lU _ x hk.1
  replace H:(sv x.U i).pc=10:=H
  have O:=(K.link _ x hk.1 i hi).2 ahy
  unfold aF
  rw[if_pos H]
  show 10<(sv (x.U.set i _) i).pc/\rdB true (sv (x.U.set i _) i)=_
  rw[bh,if_pos ⟨rfl,by omega⟩]
  exact⟨by show 10<12-(sv x.U i).a;omega,rfl⟩
 lN:=fun(x:Nu) N i hk _ hi H=>by
  show sv (aF x i).U i=sv x.U i
  replace H:¬(sv x.U i).pc=10:=H
  unfold aF
  rw[if_neg H]
def nO(c:CoC)(x:Nu)(i:Nat)(r:Bool):((sv x.U i).pc≠0->cI c x i r=x)/\((sv x.U i).pc=0->∃p:Sp,(cI c x i r).U=x.U.set i p/\(0<p.pc/\p.pc<10)/\p.a=if r then 1 else 0):=by
 unfold cI;constructor;.intro h;rw[if_neg h]
 .intro h;exact acF
theorem Ja(c:CoC)(P T:List Int)(L:Nat):um.See c P T L where
 askN:=λx i r=>(nO c x i r).1
 ask:=λx i r=>(nO c x i r).2
 step:=λB x i h hi=>by
  show(cH c _ x i).U=x.U\/∃p,(cH c _ x i).U=x.U.set i p/\_
  unfold cH
  split
  .exact .inl rfl
  split
  .refine .inr ⟨_,rfl,?_,λ_=>rfl⟩
   unfold PcOk;grind
  .refine .inr ⟨_,rfl,?_,λ_=>by unfold nuTo;split<;>rfl⟩
   unfold PcOk nuTo rO;grind
theorem Jb(c:CoC)(P T:List Int)(L:Nat):uq.See c P T L where
 askN:=λx i r=>(nO c x i r).1
 ask:=λx i r=>(nO c x i r).2
 step:=λB x i I hi=>by
  show(a7 c _ x i).U=x.U\/∃p,(a7 c _ x i).U=x.U.set i p/\_
  have H:=RsI.k (RsS.i I) i hi
  unfold a7
  split
  .exact .inl rfl
  .refine .inr ⟨_,rfl,?_,λ_=>rfl⟩
   unfold iw at H
   unfold PcOk fm
   rcases H with h|h|h|h|h<;>grind
theorem Jc(c:CoC)(P T:List Int)(L:Nat):ut.See c P T L where
 askN:=λx i r h=>by show ff x i r=x;unfold ff;rw[if_neg h]
 ask:=λx i r h=>by
  show ∃p:Sp,(ff x i r).U=_/\_
  unfold ff
  exact acF
 step:=λB x i I hi=>by
  show(bo c _ x i).U=x.U\/∃p,(bo c _ x i).U=x.U.set i p/\_
  have H:=WsI.k (WsS.i I) i hi
  unfold bo
  split
  .exact .inl rfl
  .refine .inr ⟨_,rfl,?_,λ_=>rfl⟩
   unfold ia at H
   unfold PcOk iH
   rcases H with h|h|h|h|h|h<;>grind
end
section
open Go Go.RowKit
variable{gl lo pa bu:Nat}
def IE(h:1<=k/\k<=13):(p6 P T gl lo pa bu k).1.rd=decide (11<=(k:Int)/\(k:Int)<=13):=by
 have:k=1\/k=2\/k=3\/k=4\/k=5\/k=6\/k=7\/k=8\/k=9\/k=10\/k=11\/k=12\/k=13:=by omega
 rcases this with rfl|rfl|rfl|rfl|rfl|rfl|rfl|rfl|rfl|rfl|rfl|rfl|rfl<;>rfl
def Cu:Ae p6:=by
 intro W vP AT cT P T k gl lo pa bu h H hc Y I O V Zi;have hn:=(bj (aR hc).1);refine IM h H hc (IE Y) λgs a g b hA ha hg=>IH ⟨hA,h.below b (Nat.le_refl _),H.below b (Nat.le_refl _),λi hi=>?_,λi hi=>?_,hc,I,O,V,Zi⟩ Y;.have:=j4 h ahy hi;have:=b.size;omega
 .have:=j4 H ahy hi;have:=b.size;omega
def jz(k n i:Nat):(sv (be k n) i).pc=0/\(sv (List.replicate n Sp.zero) i).pc=0:=by
 have h:(sv (List.replicate n Sp.zero) i).pc=0:=by exact abA
 refine⟨?_,h⟩;unfold be;split;.unfold sv;rw[List.getD_eq_getElem?_getD,List.getElem?_map];cases(List.range n)[i]?<;>rfl
 .exact h
def I9(hc:a5 P T=0)(Y:1<=k/\k<=13)(I:1<=gl/\gl<=5)(O:1<=lo/\lo<=5)(V:1<=pa/\pa<=4):(p6 P T gl lo pa bu k).1.Seen/\∀i<T.length,((p6 P T gl lo pa bu k).1.sp (p6 P T gl lo pa bu k).2 i).pc=0:=by
 have hN:1<=(ac P).length:=by have:=(bj (aR hc).1);have h1:=eD hc (i:=0) ahy;omega
 have H:=EB (bud:=(bu:Int)) (s:=dJ 4096) hc I O V rfl hN;have:(k=1\/k=2\/k=3\/k=4\/k=5)\/k=6\/k=7\/k=8\/k=9\/k=10\/k=11\/k=12\/k=13:=by omega
 rcases this with h|rfl|rfl|rfl|rfl|rfl|rfl|rfl|rfl
 .have e:p6 P T gl lo pa bu k=Ex P T k pa:=if_pos ahy;rw[e];exact⟨I5 ahy,λi _=>(jz k T.length i).1⟩
 .exact⟨I4 _ _ _ _,λi _=>(jz 0 T.length i).2⟩
 .exact⟨I7 _ (ji hc) _,λi _=>(jz 0 T.length i).2⟩
 .exact⟨I6 _ _ _,λi _=>(jz 0 T.length i).2⟩
 .exact⟨I3 _ _ _,λi _=>(jz 0 T.length i).2⟩
 .exact⟨I8 _ _,λi _=>(jz 0 T.length i).2⟩
 .exact⟨CN (un H) (Ja _ _ _ _),λi _=>(jz 0 T.length i).2⟩
 .exact⟨CN (ur H) (Jb _ _ _ _),λi _=>(jz 0 T.length i).2⟩
 .exact⟨CN (uu H) (Jc _ _ _ _),λi _=>(jz 0 T.length i).2⟩
end
section
open Go Go.RowKit
abbrev P41:List Int:=[-1,0,0]
abbrev T41:List Int:=[1,2]
abbrev gH:MS T41.length:=p6 P41 T41 2 2 1 0 12
abbrev zn:List Pl4:=[⟨0,0,1,true⟩,⟨1,1,1,true⟩]
abbrev wg:List Int:=[0,1,0,1,0,1,1,0,1,0,1,9]
abbrev vi:List Ev:=[⟨1,0,true,0⟩,⟨0,1,false,0⟩,⟨0,0,true,0⟩,⟨1,1,true,0⟩,⟨2,0,true,1⟩,⟨0,1,true,0⟩,⟨2,1,true,1⟩,⟨3,0,true,0⟩,⟨0,1,true,0⟩,⟨4,0,true,0⟩,⟨3,1,true,0⟩,⟨0,0,false,0⟩]
def GK:gH.1.σ:=(gH.1.runB zn (gH.2,λ_=>⟨-1,0,0⟩) wg 12).1
def st42:gH.1.σ:=gH.1.runA GK [(0,4),(1,7)] 2
def Dw:a5 P41 T41=0:=by decide+kernel
def I2:gH.1.runE zn (gH.2,λ_=>⟨-1,0,0⟩) wg=vi:=by decide+kernel
def Hg:gH.1.evs GK [(0,4),(1,7)]=[⟨5,0,false,0⟩,⟨5,1,true,0⟩]:=by decide+kernel
def oQ:gH.1.stt st42 1=3/\gH.1.rds st42 1=true/\(gH.1.ar st42).ops=5/\(gH.1.ar st42).k=5/\(gH.1.ar st42).at_=2/\(gH.1.ar st42).wr=true/\ao P41 T41 2=[0,1]:=by decide+kernel
end
section
open Go Go.RowKit
def CC(w:World)(t:TypeId)(l:List Int)(hg:Blk w g t cs)(hc:cs=(l.map (Value.int .i64)).toArray)(h:l.length<=1000):RdL w (slice (some ⟨g,0,none⟩) l.length l.length) 1 encI l:=by
 subst hc;refine⟨some ⟨g,0,none⟩,l.length,rfl,Nat.le_refl _,by omega,λ_=>⟨g,0,rfl,hg.lt,λi x I j u H=>?_⟩⟩;rw[hg.cell];match j,H with
 |0,H=>
  obtain rfl:Value.int .i64 x=u:=by simpa[encI]using H
  simp[List.getElem?_map,I]
 |k+1,H=>simp[encI]at H
section
variable{M:LkM n}{b:M.β}{st:M.σ}
end
def II(W:World)(vA V Y:Value)(k:Int)(O:tW k=⟨#[]⟩)(gl lo pa bu:Int):E 13 #[vA,agg #[V,Y],agg #[J k,J gl,J lo,J pa,J bu]] W λe w'=>e= returned (tuple #[.pointer none,J 7])/\Below W.heap.size W w':=by have I:=((Below.refl W.heap.size W).alloc (Nat.le_refl _) (cells #[V,Y] 24)).alloc ahz (cells #[J k,J gl,J lo,J pa,J bu] 38);have H:=qh (λgs=>tX gs k);rw[O]at H;have h:=qh I;clear I O;go_enter func13,ntmps13;go_wp2_with fail;refine Pi (H.o _) λw1 b1=>?_;have B1:=qh (h.o.trans (b1.o.mono h.o.size));go_wp2;go_ret2;exact⟨rfl,B1.o⟩
end
section
open Go Go.RowKit
section
variable{M:LkM n}{X:WoB M}{st:M.σ}
theorem In(G:M.Good)(h:bI X w st):E 62 #[lkP X.wb] w λe w'=>e= returned (agg #[J (M.ar st).k,J (M.ar st).at_,bool (M.ar st).wr])/\Below w.heap.size w w':=by
 have b0:=(Below.refl w.heap.size w).alloc (Nat.le_refl _) (cells #[J 0,J 0,bool false] 104);have k0:=Blk.new w 104 #[J 0,J 0,bool false];have Y:=qh (Im (G.ais _ _ _ _ _ _ (h.below G b0).is));have I:=qh (And.intro b0 k0);have c2:=(h.below G b0).wd.cell 0;have C':=h.wd.lt;unfold lkP at *;obtain⟨z0,O⟩:=LE ((M.ar st).k);obtain⟨z1,h1⟩:=LE ((M.ar st).at_);obtain⟨z2,V⟩:=LE ((M.ar st).wr);rw[<-O,<-h1,<-V]at Y;rw[<-O,<-h1,<-V];clear h b0 k0 O h1 V;go_enter func62,ntmps62;go_wp2_with fail;refine Pi Y.o λw2 b2=>?_;have h1:w.heap.size<w2.heap.size:=by have:=b2.o.size;simp at this;omega
 have H:=qh (And.intro (I.o.2.below b2.o ahz) (I.o.1.trans (b2.o.mono I.o.1.size)));have e0:=H.o.1.free 0;have e1:=H.o.1.free 1;have e2:=H.o.1.free 2;have d0:=H.o.1.cell 0;have d1:=H.o.1.cell 1;have d2:=H.o.1.cell 2;go_wp2;exact bodyPost_ret (results_cell_row ahC _ _ w.heap.size 104 _ (0,0) _ ahC (((H.o.1.set_ 0 _).set_ 1 _).set_ 2 _) Tryz.underlying104 rfl ahB) rfl ⟨rfl,((H.o.2.setCell (Nat.le_refl _) _).setCell (Nat.le_refl _) _).setCell (Nat.le_refl _) _⟩
def Ez(W:World)(I O:Value):E 20 #[agg #[I,O],agg #[J 0,J 0,J 0,J 0,J 0]] W λe w'=>e= returned (tuple #[.pointer none,J 7])/\Below W.heap.size W w':=by
 have V:=((Below.refl W.heap.size W).alloc (Nat.le_refl _) (cells #[I,O] 24)).alloc ahz (cells #[J 0,J 0,J 0,J 0,J 0] 38);obtain⟨w0,H⟩:=LE ((W.alloc (cells #[I,O] 24)).alloc (cells #[J 0,J 0,J 0,J 0,J 0] 38));rw[<-H]at V;have k1:Blk w0 W.heap.size 24 #[I,O]:=by rw[H];exact(Blk.new W _ _).alloc _
 have k2:Blk w0 (W.heap.size+1) 38 #[J 0,J 0,J 0,J 0,J 0]:=by rw[H];exact Blk.new' _ _ _ ahz
 have HC:=qh (λgs (h:Below w0.heap.size w0 gs)=>show gs.cell? W.heap.size=some I/\Z gs W.heap.size 1 O/\Z gs (W.heap.size+1) 0 (J 0)/\Z gs (W.heap.size+1) 1 (J 0)/\Z gs (W.heap.size+1) 2 (J 0)/\Z gs (W.heap.size+1) 3 (J 0)/\gs.cell? ⟨W.heap.size+1,4,none⟩=some (J 0)from
  ⟨(k1.below h k1.lt).cell 0,(k1.below h k1.lt).cell 1,(k2.below h k2.lt).cell 0,(k2.below h k2.lt).cell 1,(k2.below h k2.lt).cell 2,(k2.below h k2.lt).cell 3,(k2.below h k2.lt).cell 4⟩)
 have Y:=qh V;have Ln:=qh H;clear V H k1 k2;go_enter func20,ntmps20;go_wp2_with fail;rw[<-Ln.o];refine(tZ w0 4096).mono ?_;rintro en w1 ⟨a,g,rfl,-,-,-,b1⟩;obtain⟨c0,c1,c2,c3,c4,c5,c6⟩:=HC.o w1 b1;have B1:=qh (Y.o.trans (b1.mono Y.o.size));clear b1;go_wp2_with fail;refine(II _ _ _ _ 0 ahC 0 0 0 0).mono ?_;rintro en w2 ⟨rfl,b2⟩;have B2:=qh (B1.o.trans (b2.mono B1.o.size));clear b2;go_wp2;go_ret2;exact⟨rfl,B2.o⟩
end
end
section
open Go Go.RowKit Go.Maps
variable{α:Type}{ty:TypeId}
def Fq(w:World):E 59 #[] w λe w'=>∃h H,e= returned (agg #[slice (some ⟨h,0,none⟩) P41.length P41.length,slice (some ⟨H,0,none⟩) T41.length T41.length])/\RdL w' (slice (some ⟨h,0,none⟩) P41.length P41.length) 1 encI P41/\RdL w' (slice (some ⟨H,0,none⟩) T41.length T41.length) 1 encI T41/\Below w.heap.size w w':=by
 go_enter func59,ntmps59;go_wp2;refine bodyPost_ret (v:= agg #[slice (some ⟨w.heap.size+1,0,none⟩) 3 3,slice (some ⟨w.heap.size+1+1,0,none⟩) 2 2]) (by simp[results,Tryz.results59,go_sem]) rfl ⟨_,_,rfl,?_,?_,?_⟩;.exact CC _ 3 P41 ((Blk.new' _ _ _ ahz).alloc _) rfl ahA
 .exact CC _ 3 T41 (Blk.new' _ _ _ ahz) rfl ahA
 .exact(((Below.refl _ _).alloc (Nat.le_refl _) _).alloc (by simp<;>omega) _).alloc (by simp<;>omega) _
def xf{enc:α->List Value}(hs:∀x,(enc x).length=sz)(l:List α)(I:Blk w g ty cs)(hc:cs=(l.flatMap enc).toArray){x:α}{j:Nat}{u:Value}(H:l[k]? =some x)(h:(enc x)[j]? =some u):Z w g (0+k*sz+j) u:=by subst hc;rw[I.cell,Nat.zero_add];simpa using ch enc sz hs l k x j u H h
def wB{enc:α->List Value}(hs:∀x,(enc x).length=sz)(l:List α)(I:Blk w g ty cs)(hc:cs=(l.flatMap enc).toArray)(h:l.length<=1000):RdL w (slice (some ⟨g,0,none⟩) l.length l.length) sz enc l:=
 ⟨some ⟨g,0,none⟩,l.length,rfl,Nat.le_refl _,by omega,λ_=>⟨g,0,rfl,I.lt,λ_ _ O _ _ H=>xf hs l I hc O H⟩⟩
def gU.turns{lo:Nat}{b:Nat}{S:List Nat}(h:gU lo w b P T)(hc:a5 P T=0)(t:aa S w w')(H:∀i∈S,i<lo):gU lo w' b P T:=by have hm:=bj (aR hc).1;obtain⟨h1,Y,cP,AT,cT,h2,h3,h4,h5,h6,O,V⟩:=h;exact⟨h1,Y,cP,AT,cT,t.blk h2 (λm=>by have:=H _ m;omega),h3.farT t (λq I m=>by have:=H _ m;have:=O q I;omega),h4.farT t (λq I m=>by have:=H _ m;have:=V q I;omega),h5,h6,O,V⟩
section
variable{M:LkM n}{X:WoB M}{st:M.σ}
structure AwS(X:WoB M)(w0 w:World)(st:M.σ)(N:Nat):Prop where
 is:bI X w st
 ok:M.ok st N
 bel:Below w0.heap.size w0 w
def AwS.below(G:M.Good)(h:AwS X w0 w st N)(b:Below w.heap.size w w'):AwS X w0 w' st N:=⟨h.is.below G b,h.ok,h.bel.trans (b.mono h.bel.size)⟩
def LkM.Good.runB(G:M.Good){pls:List Pl4}{x:M.σ×(Int->Md)}(h:M.ok x.1 N)(l:List Int):∀k,N+k<=lkB->M.ok (M.runB pls x l k).1 (N+k):=by
 intro k;induction k with
 |zero=>intro _;exact h
 |succ k I=>
  intro O;have h1:=I ahy;cases H:l[k]? with
  |none=>have e:M.runB pls x l (k+1)=M.runB pls x l k:=(by unfold LkM.runB;rw[List.take_add_one,H];simp);rw[e];exact G.okm _ _ h1
  |some p=>rw[qI H];exact(G.pick h1 ahy _).1
end
abbrev Dm:List Ev:=[⟨5,0,false,0⟩,⟨5,1,true,0⟩]
structure AwR(X:WoB gH.1)(lo:Nat)(v3 v4 v5:Value)(w0 w:World):Prop where
 s:AwS X w0 w st42 14
 r3:RdL w v3 4 encE vi
 r4:RdL w v4 4 encE vi
 r5:RdL w v5 4 encE Dm
 tb:gU lo w X.tb P41 T41
def AwR.below{X:WoB gH.1}{lo:Nat}{v3 v4 v5:Value}(h:AwR X lo v3 v4 v5 w0 w)(G:gH.1.Good)(b:Below w.heap.size w w'):AwR X lo v3 v4 v5 w0 w':=
 ⟨h.s.below G b,h.r3.below b (Nat.le_refl _),h.r4.below b (Nat.le_refl _),h.r5.below b (Nat.le_refl _),h.tb.below b⟩
def nz:Awk 19:=by
 intro w;go_enter func19,ntmps19;go_wp2_with fail;refine(Fq _).mono ?_;rintro en w1 ⟨gP,gT,rfl,hP,hT,b1⟩;have HN:=qh (Cu w1 _ _ _ P41 T41 12 2 2 1 0 hP hT Dw ahA ahA ahA ahA ahA);have B1:=qh b1;clear hP hT b1;go_wp2_with fail;refine HN.o.mono ?_;rintro en w2 ⟨X,lo,rfl,G,mP,Nb,KF,Xm,OP,b2⟩;unfold lkP;have H:=qh G;have Sb:=qh (show ∀x∈gH.1.fp X.b,w.heap.size<=x from λx hx=>Nat.le_trans B1.o.size (KF x hx));have O:=qh (show AwS X w w2 gH.2 0 from⟨Nb,mP,B1.o.trans (b2.mono B1.o.size)⟩);have OY:=qh OP;have PH:=qh (show w.heap.size<=X.tb from Nat.le_trans B1.o.size OP.2.1);have Og:X.wb<w2.heap.size:=Nb.wd.lt;clear G mP Nb KF Xm OP b2 HN B1;go_wp2_with fail;have QH:=qh (show ∀x∈gH.1.fp X.b,x<w2.heap.size from λx hx=>Nat.lt_of_lt_of_le (O.o.is.lo H.o x hx) O.o.is.hw.2.2)
 refine(J7 H.o (N:=0) (L:=wg) (pls:=zn) (bl:=w2.heap.size+1) (off:=0) (pbl:=w2.heap.size) (poff:=0) (O.o.is.below H.o (((Below.refl _ _).alloc (Nat.le_refl _) _).alloc ahz _)) O.o.ok ahA
  (λW t k u hu=>by
   have I:=t.blk (Blk.new' (w2.alloc (.cells (zn.flatMap Bi).toArray 78)) 3 (wg.flatMap encI).toArray (g:=w2.heap.size+1) ahz) (λm=>by have:=QH.o _ m;omega)
   have:=xf jP wg I rfl (j:=0) (u:= J u) hu rfl
   simpa using this)
  (λW t k u hu=>by
   have I:=t.blk ((Blk.new' w2 78 (zn.flatMap Bi).toArray rfl).alloc (.cells (wg.flatMap encI).toArray 3)) (λm=>by have:=QH.o _ m;omega)
   have h:=λj v=>xf (sz:=4) (enc:=Bi) (λ_=>rfl) zn I rfl (k:=k) (x:=u) (j:=j) (u:=v) hu
   exact⟨h 0 _ rfl,h 1 _ rfl,h 2 _ rfl,h 3 _ rfl⟩) ahA).mono ?_
 rintro en w3 ⟨v3,rfl,r3,o3,k3,t3⟩;rw[I2]at r3;have Lc:w2.heap.size<=w3.heap.size:=by have:=t3.size;simp at this;omega
 have V:=qh (show AwS X w w3 GK 12 from⟨k3,H.o.runB (x:=(gH.2,λ_=>⟨-1,0,0⟩)) O.o.ok wg 12 ahA,(O.o.bel.trans ((((Below.refl w2.heap.size w2).alloc (Nat.le_refl _) _).alloc ahz _).mono O.o.bel.size)).trans (t3.below Sb.o (by have:=O.o.bel.size;simp;omega))⟩);have R3:=qh (And.intro r3 (show ∀q,v3.ownBlock=some q->w2.heap.size<=q from λq hq=>by have:=o3 q hq;simp at this;omega));have T3:=qh (OY.o.2.2.2.turns Dw (((aa.of_below (S:=gH.1.fp X.b) (((Below.refl w2.heap.size w2).alloc (Nat.le_refl _) _).alloc ahz _))).trans t3) (λi hi=>by have:=(H.o.fpa _ _ _ _ _ _ O.o.is.is).1 i hi;have:=OY.o.1;omega));clear r3 o3 k3 t3;go_wp2_with fail;have MH:=(((Below.refl w3.heap.size w3).alloc (Nat.le_refl _) (.cells (vi.flatMap encE).toArray 55)).alloc ahz (.cells (([(0,4),(1,7)]:List (Int×Int)).flatMap re).toArray 58))
 refine(I0 H.o (N:=12) (L:=[(0,4),(1,7)]) (bl:=w3.heap.size+1) (off:=0) (V.o.is.below H.o MH) V.o.ok ahA
  (λW t k u hu=>by
   have I:=t.blk (Blk.new' (w3.alloc (.cells (vi.flatMap encE).toArray 55)) 58 (([(0,4),(1,7)]:List (Int×Int)).flatMap re).toArray (g:=w3.heap.size+1) ahz) (λm=>by have:=QH.o _ m;omega)
   have h:=λj v=>xf (sz:=2) (enc:=re) (λ_=>rfl) [(0,4),(1,7)] I rfl (k:=k) (x:=u) (j:=j) (u:=v) hu
   exact⟨h 0 _ rfl,h 1 _ rfl⟩)).mono ?_
 rintro en w5 ⟨v5,rfl,r5,o5,k5,t5⟩;rw[Hg]at r5;have NF:w3.heap.size+2<=w5.heap.size:=by have:=t5.size;simp at this;omega
 have hf:∀g,w3.heap.size<=g->g∉gH.1.fp X.b:=λg hg m=>by have:=QH.o _ m;omega
 have H5:=qh (show AwS X w w5 st42 14 from⟨k5,H.o.runA V.o.ok _ 2 ahA,(V.o.bel.trans (MH.mono V.o.bel.size)).trans (t5.below Sb.o (by have:=V.o.bel.size;simp;omega))⟩);have R5:=qh (And.intro r5 (And.intro ((R3.o.1.below MH (Nat.le_refl _)).farT t5 (λq hq m=>by have:=QH.o _ m;have:=R3.o.2 q hq;omega)) (wB lr vi (t5.blk ((Blk.new' w3 55 (vi.flatMap encE).toArray rfl).alloc (.cells (([(0,4),(1,7)]:List (Int×Int)).flatMap re).toArray 58)) (hf _ (Nat.le_refl _))) rfl ahA)));have T5:=qh ((T3.o.below MH).turns Dw t5 (λi hi=>by have:=(H.o.fpa _ _ _ _ _ _ O.o.is.is).1 i hi;have:=OY.o.1;omega));clear r5 o5 k5 t5 MH hf V R3 T3 O;go_wp2_with fail;refine ST (kZ H.o H5.o.is 1 ahA) λw6 b6=>?_;rw[oQ.1,oQ.2.1];have H6:=qh ((AwR.mk H5.o R5.o.2.1 R5.o.2.2 R5.o.1 T5.o).below H.o b6);clear b6 H5 R5 T5;go_wp2_with fail;refine(Fq _).mono ?_;rintro en w7 ⟨ab,ad,rfl,-,-,b7⟩;have H7:=qh (H6.o.below H.o b7);clear b7 H6;go_wp2_with fail;refine Pi (Ez _ _ _) λw8 b8=>?_;have H8:=qh (H7.o.below H.o b8.o);clear H7;go_wp2_with fail;refine Pi (CM _ _ _ _ H8.o.r3 H8.o.r4) λw9 q9=>?_;have H9:=qh (H8.o.below H.o (q9.o.below _));clear H8;go_wp2_with fail;have b9:=(Below.refl w9.heap.size w9).alloc (Nat.le_refl _) (.cells (Dm.flatMap encE).toArray 55);refine(CM _ _ _ Dm (H9.o.below H.o b9).r5 (wB lr Dm (Blk.new w9 _ _) rfl ahA)).mono ?_;rintro en w10 ⟨rfl,XF⟩;have Y:=qh ((H9.o.below H.o b9).below H.o (XF.below _));clear XF b9 H9;go_wp2_with fail;refine ST (pN H.o Y.o.s.is) λw11 U0=>?_;subst w11;go_wp2_with fail;refine(Gu H.o Y.o.s.is Dw Y.o.tb ⟨OY.o.1,OY.o.2.2.1⟩).mono ?_;rintro en w12 ⟨v12,rfl,U4,-,Xx,RV⟩;rw[show ao P41 T41 T41.length=[0,1]from oQ.2.2.2.2.2.2]at U4;have Tf:=qh (And.intro (show AwS X w w12 st42 14 from⟨Xx,Y.o.s.ok,Y.o.s.bel.trans (RV.below (by simpa using PH.o) Y.o.s.bel.size)⟩) U4);clear U4 Xx RV Y;go_wp2_with fail;have TP:=(Below.refl w12.heap.size w12).alloc (Nat.le_refl _) (.cells (([0,1]:List Int).flatMap encI).toArray 3);have HS:=qh (m8 _ v12 (slice (some ⟨w12.heap.size,0,none⟩) 2 2) [0,1] [0,1] (Tf.o.2.below TP (Nat.le_refl _)) (wB jP [0,1] (Blk.new w12 3 _) rfl ahA));rw[decide_eq_true rfl]at HS;refine Pi HS.o λw13 XG=>?_;have N9:=qh ((Tf.o.1.below H.o TP).below H.o (XG.o.below _));clear TP Tf HS;have HO:=qh (Gv H.o N9.o.is);have HL:=qh (In H.o N9.o.is);rw[show((gH.1.ar st42).ops:Int)=5 from by rw[oQ.2.2.1];rfl]at HO;rw[oQ.2.2.2.1,oQ.2.2.2.2.1,oQ.2.2.2.2.2.1]at HL;go_wp2_with fail;refine ST HO.o λw14 U0=>?_;subst w14;go_wp2_with fail;refine Pi HL.o λw15 VR=>?_;have XO:=qh (N9.o.bel.trans (VR.o.mono N9.o.bel.size));clear N9 HO HL;go_wp2;go_ret;exact⟨rfl,XO.o⟩
end
end Go.Proofs.YtglokdbiggbkjaaGreat
