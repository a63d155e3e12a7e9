/- Joined texts. -/
import Derived.Laws.CopyOwn
import Derived.Laws.EntriesVeiled
import Derived.Deep.RegionLaw
import Derived.Deep.AppendLies
import Derived.Test.YtglokdbiggbkjaaGreatMgWorldAgain0
import Derived.Test.YtglokdbiggbkjaaGreatMgWorldAgain6
import Derived.Test.YtglokdbiggbkjaaGreatMgWorldAgain7
import Derived.Test.YtglokdbiggbkjaaGreatMgWorldAgain11
import Derived.Test.YtglokdbiggbkjaaGreatMgWorldAgain20
import Derived.Test.YtglokdbiggbkjaaGreatMgWorldAgain21
set_option linter.unusedVariables false
set_option linter.unusedSimpArgs false
set_option linter.defProp false
set_option maxRecDepth 100000
set_option maxHeartbeats 16000000
open Go.Proofs.Tryz
namespace Go.Proofs.YtglokdbiggbkjaaGreat
open Go.IntKind(i64)
open Go.Value(int bool slice agg tuple pointer)
open Go.Ending(returned)
open Go.Obj(cells)
variable{P T:List Int}{n:Nat}{w w':World}{S:List Nat}{bud:Int}
section
open Go Go.RowKit
variable{dl:Int}
def hcV(l:Nat):Value:= .iface 181 (agg #[.iface 177 ↑l])
structure HcB where
 l:Nat
 a:Nat
 g:Nat
 q:Nat
 b:Nat
 u:Nat
 lo:Nat
 h1:Nat
 bt:Nat
 hi:Nat
def kW(p:Sp):Prop:=(0<=p.pc/\p.pc<=5)\/p.pc=10\/p.pc=11
def rW(dl:Int)(P T:List Int)(st:Hc)(N:Nat):Prop:=(∃G,HOk (ac P).length T.length dl (dp P T) st N G)/\∀i,kW (sv st.S i)
def hcS(dl:Int)(P T:List Int)(st:Hc)(i:Nat):Hc:=(fu (ac P).length T.length dl (dp P T) st i).1
def FX(dl:Int)(P T:List Int):LkM T.length where
 σ:=Hc
 β:=HcB
 ok:=rW dl P T
 ar:=λst=>st.ar
 sp:=λst i=>sv st.S i
 cn:=λst i=>if (sv st.S i).pc=10 then 1 else 0
 rd:=false
 step:=hcS dl P T
 ask:=λst i r=>if r then st else(bv st i 0 1).1
 leave:=λst i=>(bv st i 10 11).1
 bt:=λb=>b.bt
 hi:=λb=>b.hi
 fp:=λb=>[b.a,b.g,b.q,b.u]
 is:=λb w a g lb st=>bB w b.l a g b.q b.b b.u b.lo b.h1 dl P T st/\(b.a=a/\b.g=g)/\jy w lb T.length 8 (hcV b.l) [b.a,b.g,b.q,b.u] b.bt b.hi/\(b.bt<=b.l/\b.l<b.hi)/\b.bt<=b.lo/\b.h1<=b.hi
def qF(st:Hc)(i:Nat)(hi:i<st.S.length)(u v:Int):(bv st i u v).1=(if (sv st.S i).pc=u then⟨st.ar,st.D,st.S.set i {sv st.S i with pc:=v}⟩else st)/\(bv st i u v).2=decide ((sv st.S i).pc=u):=by unfold bv;rw[fb hi,Int.toNat_natCast];exact aa7
def sW{nd:Nat}{node:Nat->Nat}(st:Hc)(i:Nat)(hi:i<st.S.length):(fu nd n dl node st i).2=dB (sv st.S i) (sv (fu nd n dl node st i).1.S i):=by
 unfold fu;rw[fb hi,Int.toNat_natCast];unfold dB;split
 .rename_i h;have hg:=h.2;unfold ik at hg;simp only[Bool.or_eq_true,beq_iff_eq]at hg;simp only[fV hi,if_true];by_cases c:(bz nd n dl st (node i) i (sv st.S i)).2.2.pc=10\/(bz nd n dl st (node i) i (sv st.S i)).2.2.pc=0;.exact aaz
  .exact aaA
 .exact aa8
theorem zl(nd n:Nat)(dl:Int)(h:Hc)(I i:Nat)(p:Sp)(H:ik p=true):kW (bz nd n dl h I i p).2.2:=by
 unfold ik at H;simp only[Bool.or_eq_true,beq_iff_eq]at H;unfold bz kW;repeat' split
 all_goals (simp only;grind)
def rW.le{st:Hc}{N:Nat}(h:rW dl P T st N):rW dl P T st (N+1):=⟨h.1.imp λ_ k=>k.le ahp,h.2⟩
def bB.far{l a g q b u lo hi:Nat}{h:Hc}(k:bB w l a g q b u lo hi dl P T h)(t:aa S w w')(H:∀x∈[l,a,g,q,u],x∉S)(hh:∀x∈S,x<lo\/hi<=x):bB w' l a g q b u lo hi dl P T h:=by simp only[List.mem_cons,List.not_mem_nil,or_false,forall_eq_or_imp,forall_eq]at H;obtain⟨h1,I,O,V,Y⟩:=H;exact⟨k.ar.turns t I O,t.blk k.lk h1,k.sp.turns t V,k.tu.turns t Y,k.tab.keep (λi Zt Mj=>t.block i (by have:=k.hs;omega) λhm=>by have:=hh i hm;omega) (Nat.le_trans k.hs t.size),k.sl,Nat.le_trans k.hs t.size,k.nd,k.o⟩
def yN(hc:a5 P T=0)(hd:0<=dl/\dl<=3):(FX dl P T).Good where
 n32:=by have:=bi (aQ hc).1;exact⟨this.2.2.1,this.2.2.2⟩
 okS:=fun(st:Hc) N i h hN hi=>by
  obtain⟨⟨G,k⟩,hp⟩:=h
  obtain⟨Y,k',Kf⟩:=k.stepI hN (i:Int)
  refine⟨⟨Y,k'⟩,λj=>?_⟩
  show kW (sv (fu _ _ _ _ st i).1.S j)
  have hl:i<st.S.length:=by rw[k.iv.sl];exact hi
  unfold fu
  rw[fb hl,Int.toNat_natCast]
  split
  .rename_i e
   show kW (sv (st.S.set i _) j)
   rw[fV hl]
   split
   .exact zl _ _ _ _ _ _ _ e.2
   .exact hp j
  .exact hp j
 okA:=fun(st:Hc) N i r h hN hi=>by
  cases r
  .obtain⟨⟨G,k⟩,hp⟩:=h
   have hl:i<st.S.length:=by rw[k.iv.sl];exact hi
   refine⟨⟨G,(k.beginI (i:Int) 0 1 (.inl ⟨rfl,rfl⟩)).1.le ahp⟩,λj=>?_⟩
   show kW (sv (bv st i 0 1).1.S j)
   rw[(qF st i hl 0 1).1]
   exact aa9
  .exact rW.le h
 okL:=fun(st:Hc) N i h hN hi=>by
  obtain⟨⟨G,k⟩,hp⟩:=h
  have hl:i<st.S.length:=by rw[k.iv.sl];exact hi
  refine⟨⟨G,(k.beginI (i:Int) 10 11 (.inr ⟨rfl,rfl⟩)).1.le ahp⟩,λj=>?_⟩
  show kW (sv (bv st i 10 11).1.S j)
  rw[(qF st i hl 10 11).1]
  exact aa9
 okm:=fun(st:Hc) N h=>rW.le h
 one:=fun(st:Hc) N i j h hi hj h1 h2 _=>by obtain⟨⟨G,k⟩,_⟩:=h;exact k.hold1 hi hj h1 h2
 pcs:=fun(st:Hc) N i h hi=>by have:=h.2 i;unfold kW at this;show 0<=(sv st.S i).pc;omega
 cnt:=fun(st:Hc) N i h hi=>by
  exact aaB
 opsS:=fun(st:Hc) N i h hN hi=>by
  obtain⟨⟨G,k⟩,_⟩:=h
  obtain⟨Y,_,_,h3,_⟩:=k.act hN 0 (i:Int)
  exact h3
 arA:=fun(st:Hc) i r=>by
  cases r
  .show(bv st i 0 1).1.ar=st.ar
   unfold bv;split<;>rfl
  .rfl
 arL:=fun(st:Hc) i=>by
  show(bv st i 10 11).1.ar=st.ar
  unfold bv;split<;>rfl
 ais:=fun(b:HcB) w a g lb (st:Hc) h=>h.1.ar
 lk:=fun(b:HcB) w a g lb (st:Hc) h=>h.2.2.1.c1
 kd:=fun(b:HcB) w a g lb (st:Hc) h=>⟨8,h.2.2.1.blk.cell 0,rfl⟩
 fpa:=fun(b:HcB) w a g lb (st:Hc) h=>⟨λx H=>(h.2.2.1.fl x H).2,h.2.2.1.hw⟩
 far:=fun(b:HcB) w a g lb (st:Hc) w' S h t hS=>by
  obtain⟨k,⟨rfl,rfl⟩,hd,hl,hh⟩:=h
  have O:∀x∈S,b.hi<=x\/x<b.bt:=hS
  have hf:=hd.fl
  refine⟨k.far t (λx H m=>?_) (λx H=>by have:=O x H;omega),⟨rfl,rfl⟩,hd.far t O,hl,hh⟩
  have:=O x m
  rcases List.mem_cons.1 H with rfl|H
  .omega
  .have:=hf x H;omega
 cS:=fun(b:HcB) w a g lb (st:Hc) N i h hk hN hi=>by
  obtain⟨k,⟨rfl,rfl⟩,Nw,hl,hh⟩:=h
  obtain⟨⟨G,ko⟩,_⟩:=hk
  refine(om .hc Nw.c1 Nw.c2 hi (R:=λr w'=>r=dB (sv st.S i) (sv (hcS dl P T st i).S i)/\bB w' b.l b.a b.g b.q b.b b.u b.lo b.h1 dl P T (hcS dl P T st i)/\aa [b.a,b.g,b.q,b.u] w w') λW bw=>?_).mono ?_
  .refine(GA (k.below bw) (i:Int) (ko.cond hN hd.2)).mono ?_
   rintro e w' ⟨rfl,k2,t2⟩
   exact⟨_,rfl,sW st i (by rw[k.sl];exact hi),k2,(aa.of_below bw).trans t2⟩
  .exact aba
 cA:=fun(b:HcB) w a g lb (st:Hc) N i r h hk hN hi=>by
  obtain⟨k,⟨rfl,rfl⟩,Nw,hl,hh⟩:=h
  have I:i<st.S.length:=by rw[k.sl];exact hi
  refine(yz .hc Nw.c1 Nw.c2 hi r (R:=λq w'=>q=decide ((sv st.S i).pc=0/\(r=true->(false:Bool)=true))/\bB w' b.l b.a b.g b.q b.b b.u b.lo b.h1 dl P T (if r then st else(bv st i 0 1).1)/\aa [b.a,b.g,b.q,b.u] w w') (λV W bw=>?_) (λV W bw=>?_)).mono ?_
  .subst V
   refine(GW (k.below bw) (i:Int)).mono ?_
   rintro e w' ⟨rfl,k2,t2⟩
   exact⟨_,rfl,by rw[(qF st i I 0 1).2];simp,k2,(aa.of_below bw).trans t2⟩
  .exact aaD
  .exact aba
 cL:=fun(b:HcB) w a g lb (st:Hc) N i h hk hN hi=>by
  obtain⟨k,⟨rfl,rfl⟩,Nw,hl,hh⟩:=h
  have I:i<st.S.length:=by rw[k.sl];exact hi
  refine(kH .hc Nw.c1 Nw.c2 hi (R:=λq w'=>q=decide ((sv st.S i).pc=10)/\bB w' b.l b.a b.g b.q b.b b.u b.lo b.h1 dl P T (bv st i 10 11).1/\aa [b.a,b.g,b.q,b.u] w w') λW bw=>?_).mono ?_
  .refine(D2 (k.below bw) (i:Int)).mono ?_
   rintro e w' ⟨rfl,k2,t2⟩
   exact⟨_,rfl,(qF st i I 10 11).2,k2,(aa.of_below bw).trans t2⟩
  .exact aba
 cP:=fun(b:HcB) w a g lb (st:Hc) i h hi=>oj .hc h.2.2.1.c1 h.2.2.1.c2 hi _ λW bw=>by
  exact abb
 cC:=fun(b:HcB) w a g lb (st:Hc) i h hi=>oe .hc h.2.2.1.c1 h.2.2.1.c2 hi _ λW bw=>by
  exact abb
end
section
open Go.RowKit
theorem Tryz.infoInC:(prog.info? 3).map (λi=>(i.zero,i.size,i.bytes))=some (some (J 0),1,8):=by kernel_rfl
def GT(w:World)(a:Nat)(nd:List Int)(e:Ending)(w':World):Prop:=
 ∃k n1 b0 b1 b2,e= returned (pointer (some ⟨k,0,none⟩))/\cH w' k n1 (.func (.func 172) #[] #[pointer (some ⟨b0,0,none⟩),pointer (some ⟨b1,0,none⟩),pointer (some ⟨b2,0,none⟩)]) nd ⟨0,false,0,0,0⟩/\
  Blk w' b0 29 #[↑a]/\Blk w' b1 3 #[J 3]/\Blk w' b2 3 #[J 3]/\(w.heap.size<=b0/\w.heap.size<=b1/\w.heap.size<=b2/\w.heap.size<=n1/\b0<k/\b1<k/\b2<k/\n1<k)/\Below w.heap.size w w'
def Iy(w:World)(a nb cap:Nat)(nd:List Int)(Nq:1<=nd.length/\nd.length<=32)(Pz:∀m,m<nd.length->Z w nb m (J (ndf nd m))):E 145 #[↑a,J 3,J 3,slice (some ⟨nb,0,none⟩) nd.length cap] w (GT w a nd):=by
  have ZP:∀(fn:Fn) (first cap:Array Value) (w:World),(Instr.makeFunc fn first cap).run prog w= .ok (.func fn first cap) w:=λ_ _ _ _=>rfl;obtain⟨i0,ab,ad,al,ax⟩:=info_parts Tryz.infoInC;obtain⟨_,hn⟩:=Nq;have HR:=qh Pz;have Wz:nb<w.heap.size:=aM (Pz 0 ahp);obtain⟨h,Y⟩:=LE (((w.alloc (cells #[↑a] 29)).alloc (cells #[J 3] 3)).alloc (cells #[J 3] 3));have Ki:h.heap.size=w.heap.size+3:=by rw[Y];simp
  have I:=qh (show Below w.heap.size w h/\Blk h w.heap.size 29 #[↑a]/\Blk h (w.heap.size+1) 3 #[J 3]/\Blk h (w.heap.size+1+1) 3 #[J 3]from by
    rw[Y]
    refine⟨(((Below.refl _ _).alloc (Nat.le_refl _) _).alloc ahq _).alloc ahu _,((Blk.new _ _ _).alloc _).alloc _,(Blk.new' _ _ _ ahq).alloc _,Blk.new' _ _ _ ahq⟩)
  have HW:=qh Y;have Yf:=qh Ki;clear Ki;clear Pz;go_enter func145,ntmps145;go_upto_region 1 with fail;rw[<-HW.o];clear Y;go_wp2_with (refine wpList_make_full _ rfl (.tmp 11) (.tmp 11) 22 rfl h.heap.size 3 i0 (J 0) 1 Tryz.underlying22 ab ad al .i64 .i64 nd.length nd.length nd.length rfl rfl rfl rfl ?b2 ?b3 (Nat.le_refl _) ?_);case b2=>rw[ax];omega
  case b3=>unfold maxLen;omega
  intro w2 r' hg;have QO:Blk w2 h.heap.size 3 (List.replicate nd.length (Value.int .i64 0)).toArray:=by have:=gA r';have e:(madeCells #[Value.int .i64 0] nd.length).toList=List.replicate nd.length (J 0):=mG _ _;rw[e]at this;simpa using this
  have t2:aa [] h w2:=aa.of_below ((Below.refl h.heap.size h).grown hg (Nat.le_refl _) (λj hj=>by cases hj));have JY:=t2.size;have Q7:=QO.lt;have V:=qh (And.intro QO t2);clear r' hg QO t2;have Vz:∀m,m<nd.length->∀W,aa [] w2 W->Z W nb m (J (ndf nd m)):=λm hm W t=>by have T:=((aa.of_below (S:=[]) I.o.1).trans V.o.2).trans t;rw[T.cellC Wz ahq];exact HR.o m hm
  have OC:=qh Vz;have Kr:Kq (∀o:Obj,Blk (w2.alloc o) h.heap.size 3 (List.replicate nd.length (Value.int .i64 0)).toArray):=qh λo=>V.o.1.alloc o
  have Zh:Kq (∀(o:Obj) (j:Nat) (v:Value),(nd.map (Value.int .i64))[j]? =some v->(w2.alloc o).cell? ((⟨nb,0,none⟩:Addr).add j)=some v):=qh λo j v O=>by
    rw[List.getElem?_map]at O;cases hx:nd[j]? with
    | none=>rw[hx]at O;cases O
    | some y=>rw[hx]at O;injection O with O;have hj:=(List.getElem?_eq_some_iff.1 hx).1;have:=OC.o j hj (w2.alloc o) ((aa.refl _ _).alloc _);rw[<-O];have e:ndf nd j=y:=(by unfold ndf;rw[List.getD_eq_getElem?_getD,hx];rfl);rw[e]at this;rw[show(⟨nb,0,none⟩:Addr).add j=⟨nb,j,none⟩by cases j<;>simp[Addr.add]];exact this
  obtain⟨wc,H⟩:=LE ((w2.alloc (cells #[.nilFunc,slice (some ⟨h.heap.size,0,none⟩) nd.length nd.length,J 0,bool false,J 0,J 0,J 0] 324)).setRow h.heap.size (nd.map (Value.int .i64)).toArray);have Sb:Blk wc w2.heap.size 324 #[.nilFunc,slice (some ⟨h.heap.size,0,none⟩) nd.length nd.length,J 0,bool false,J 0,J 0,J 0]:=by rw[H];exact(setRow_other _ _ _ _ ahp).trans (Blk.new _ _ _)
  have V4:Blk wc h.heap.size 3 (nd.map (Value.int .i64)).toArray:=by rw[H];exact setRow_heap _ _ _ _ _ _ (Kr.o _)
  have k0:wc.cell? w2.heap.size=some .nilFunc:=Sb.cell 0;have z0:=Sb.free 0
  have RG:=qh (show Below h.heap.size h wc from by
    rw[H]
    exact below_setRow ((V.o.2.below ahq (Nat.le_refl _)).alloc JY _) (Nat.le_refl _) _)
  have LD:=qh (And.intro Sb V4);clear Vz Wz Sb V4 Q7 JY;rw[H]at k0 z0;have OH:=qh H;clear H;go_wp2_with (refine wpList_copy_own rfl (.tmp 18) (.tmp 19) 22 22 rfl 3 Tryz.underlying22 ahs h.heap.size 0 nd.length nd.length ⟨nb,0,none⟩ nd.length cap rfl rfl _ 3 (Kr.o _) (nd.map (Value.int .i64)) ahq (Zh.o _) ahq ahU ?_);go_wp2;go_ret;rw[<-OH.o];have e3:=Yf.o;have e4:=V.o.1.lt;refine⟨w2.heap.size,h.heap.size,w.heap.size,w.heap.size+1,w.heap.size+1+1,rfl,⟨?_,?_,?_,hn⟩,?_,?_,?_,?_,?_⟩;. exact LD.o.1.set_ 0 _
  . exact LD.o.2.far (by show h.heap.size≠w2.heap.size;omega) _
  . omega
  . exact(I.o.2.1.below RG.o ahp).far (by show w.heap.size≠w2.heap.size;omega) _
  . exact(I.o.2.2.1.below RG.o ahp).far (by show w.heap.size+1≠w2.heap.size;omega) _
  . exact(I.o.2.2.2.below RG.o ahp).far (by show w.heap.size+1+1≠w2.heap.size;omega) _
  . omega
  . exact(I.o.1.trans (RG.o.mono ahp)).setCell (by show w.heap.size<=w2.heap.size;omega) _
end
section
open Go.RowKit
variable{l b k a:Nat}{B0:Nat->Prop}{vN:Value}
def TBn(l:Nat)(B0:Nat->Prop)(w:World)(b:Nat)(P T:List Int)(k:Nat)(vN:Value):Prop:=
 (k=0/\gL B0 w b P T/\(∀i,B0 i->i<l)/\vN.ownBlock=none)\/∃B' m,dz B' w b P T/\(∀i,B' i->i≠l/\i<m)/\(∀g,vN.ownBlock=some g->m<=g)/\m<=w.heap.size
def TBf(l:Nat)(w:World)(b:Nat)(P T:List Int)(vN:Value):Prop:=∃B' m,dz B' w b P T/\(∀i,B' i->i≠l/\i<m)/\(∀g,vN.ownBlock=some g->m<=g)/\m<=w.heap.size
def Gd(hc:a5 P T=0)(hl:l<w.heap.size)(h:TBn l B0 w b P T k vN)(Y:k<T.length)(x:Int)(hx:(ao P T T.length)[k]? =some x):E 100 #[↑b,J k] w λe w'=>e= returned (J x)/\TBf l w' b P T vN/\aa [b] w w':=by
  rcases h with⟨_,H,h1,I⟩|⟨B',m,H,h1,I,h3⟩
  . refine(xx B0 w b P T hc k Y H x hx).mono ?_;rintro e w' ⟨O,ht,tn⟩;refine⟨O,⟨_,w'.heap.size,ht.lt,λi hi=>⟨?_,hi.2⟩,λg hg=>?_,Nat.le_refl _⟩,tn⟩
    . rcases hi.1 with V|V
      . have:=h1 i V;omega
      . omega
    . rw[I]at hg;cases hg
  . refine(jN w b P T k Y H.f x hx).mono ?_;rintro e w' ⟨O,rfl⟩;exact⟨O,⟨B',m,H,h1,I,h3⟩,aa.refl _ _⟩
def lkN(a l q:Nat)(bud:Int)(n:Nat)(vN:Value):Array Value:=#[↑a,J 1,J bud,vN,.pointer none,slice (some ⟨q,0,none⟩) n n]
structure NwI(w5 wr:World)(l b a q:Nat)(bud:Int)(P T:List Int)(B0:Nat->Prop)(k:Nat)(vN:Value):Prop where
 blk:Blk wr l 263 (lkN a l q bud T.length vN)
 own:wr.ownsRow w5.heap.size 3 1 vN k (((ao P T T.length).take k).flatMap encI)
 tab:TBn l B0 wr b P T k vN
 tn:aa [l,b] w5 wr
 lb:l≠b
def TBn.turns0(h:TBn l B0 w b P T k vN)(t:aa [] w w'):TBn l B0 w' b P T k vN:=by
 rcases h with⟨H,h1,I,O⟩|⟨V,m,H,h1,I,O⟩
 .exact .inl ⟨H,h1.turns t ahq,I,O⟩
 .exact .inr ⟨V,m,H.turns t ahq,h1,I,Nat.le_trans O t.size⟩
def aa.grownBy{row:Option Nat}(h:w.grownBy w' row):aa row.toList w w':=
 ⟨h.os,h.tape,h.output,h.size,λi hi hn=>h.block i hi aii⟩
def NwI.step{w5 wr w2 w3:World}{q:Nat}{A:Option Addr}{cap I H:Nat}{x:Int}{o:Obj}(h:NwI w5 wr l b a q bud P T B0 k (.slice A k cap))(hx:(ao P T T.length)[k]? =some x)(NZ:l<w5.heap.size)(MJ:b<w5.heap.size)(ht:TBf l w2 b P T (.slice A k cap))(t2:aa [b] wr.drew w2)(h3:w3.ownsRow w5.heap.size 3 1 (slice (some ⟨I,0,none⟩) (k+1) H) (k+1) (((ao P T T.length).take k).flatMap encI++encI x))(hg:(w2.alloc o).grownBy w3 (Value.slice A k cap).ownBlock)(Kr:(Value.slice A k cap).ownBlock=some I\/I=(w2.alloc o).heap.size):NwI w5 (w3.setCell ⟨l,3,none⟩ (slice (some ⟨I,0,none⟩) (k+1) H)) l b a q bud P T B0 (k+1) (slice (some ⟨I,0,none⟩) (k+1) H):=by
  have Y:=h.lb;have r':∀g,(Value.slice A k cap).ownBlock=some g->w5.heap.size<=g:=λg hg=>(h.own.lt g hg).1;have tg:aa (Value.slice A k cap).ownBlock.toList (w2.alloc o) w3:=aa.grownBy hg;have Kp:l∉(Value.slice A k cap).ownBlock.toList:=λhm=>by have:=r' l ah1;omega
  have PN:Blk w2 l 263 _:=t2.blk h.blk.drew (by simpa using Y);have Qu:Blk w3 l 263 _:=tg.blk (PN.alloc o) Kp;have h5:w5.heap.size<=wr.heap.size:=h.tn.size;have JY:wr.heap.size<=w2.heap.size:=t2.size;have Wg:w5.heap.size<=I:=(h3.lt I rfl).1;have V:aa [l] w3 (w3.setCell ⟨l,3,none⟩ (slice (some ⟨I,0,none⟩) (k+1) H)):=(aa.refl _ _).setCell (.inl ahq) _;refine⟨Qu.set_ 3 _,?_,.inr ?_,?_,Y⟩
  . have e:((ao P T T.length).take (k+1)).flatMap encI=((ao P T T.length).take k).flatMap encI++encI x:=(by rw[a7 hx,List.flatMap_append];simp);rw[e]
    exact aa.own h3 V (λg hg=>by
      injection hg with hg;subst hg
      simp;omega)
  . obtain⟨B',m,k1,k2,k3,k4⟩:=ht;have Ki:w2.heap.size<=w3.heap.size:=Nat.le_trans ahq tg.size;refine⟨B',m,((k1.turns (S:=[]) ((aa.refl _ _).alloc o) ahq).turns tg (λi hi O=>?_)).turns V (λi hi O=>?_),k2,λg hg=>?_,?_⟩;. have:=k3 i ahQ;have:=(k2 i O).2;omega
    . exact(k2 i O).1 ahQ
    . injection hg with hg;subst hg;rcases Kr with e|e
      . exact k3 _ e
      . rw[e];simp only[World.alloc,Array.size_push];omega
    . rw[show(w3.setCell ⟨l,3,none⟩ (slice (some ⟨I,0,none⟩) (k+1) H)).heap.size=w3.heap.size by simp];omega
  . have c1:aa ([l,b]++(Value.slice A k cap).ownBlock.toList) w5 (w3.setCell ⟨l,3,none⟩ (slice (some ⟨I,0,none⟩) (k+1) H)):=
      ((((h.tn.mono ahq).trans ((aa.refl _ _).drew)).trans (t2.mono ahq)).trans (((aa.refl _ _).alloc o).trans (tg.mono λi hi=>List.mem_append_right _ hi))).trans (V.mono ahq)
    refine c1.fresh λi hi=>?_;rcases List.mem_append.1 hi with hi|hi
    . exact .inl hi
    . exact .inr (r' i ahQ)
def IA(w:World)(l:Nat)(c1:Z w l 1 (J 1)):E 146 #[↑l,J 1] w λe w'=>e= returned (J 3)/\w=w':=by go_enter func146,ntmps146;exact aab
def cn0(s:Ar)(n:Nat):Cn:=⟨{s with W:=List.replicate (2+3*n) 0},⟨0,false,0,0,0⟩,List.replicate n Sp.zero⟩
def Ff(w:World)(a g:Nat)(s:Ar)(bud:Int)(P T:List Int)(e:Ending)(w':World):Prop:=
 ∃(c:Cx) (cap:Nat),c.a=a/\c.g=g/\e= returned (tuple #[↑c.l,J 0])/\aq w' c cap bud (ao P T T.length) (cn0 s T.length)/\w.heap.size<=c.l/\w.heap.size<=c.q/\w.heap.size<=c.k/\aa [a] w w'/\∀x∈[c.n1,c.nb,c.b0,c.b1,c.b2],w.heap.size<=x
def F8{g:Nat}{s:Ar}(h:aB w a g s)(hs:s.W=[])(Lz:a≠g)(vP vT:Value)(P T:List Int)(hP:RdL w vP 1 encI P)(hT:RdL w vT 1 encI T)(hc:a5 P T=0)(bud:Int)(MK:0<=bud)(hd1:bud<=1000)(V:s.room=4096):E 106 #[↑a,agg #[vP,vT],J bud] w (Ff w a g s bud P T):=by
  obtain⟨i0,hi,J5,J7,J2⟩:=info_parts Tryz.infoSp;obtain⟨j0,hj,PG,PH,OB⟩:=info_parts Tryz.infoInC;have Kx:=bi (aQ hc).1;refine ajn ?_;intro Lq LM Mg Ma;have H:=qh (And.intro h (And.intro Lq (And.intro LM Lz)));have HN:=qh (iU (w.alloc (cells #[vP,vT] 24)) vP vT P T (hP.alloc _) (hT.alloc _) hc);have HS:=qh (And.intro hs V);have KM:=qh hc;have HR:=qh (λW=>pe bud W MK hd1);refine aj6 ?_;intro Kp B0;have x1:IntKind.i64.wrap (3*(T.length:Int))=3*(T.length:Int):=IntWalk.i64_in _ ahp;have x2:IntKind.i64.wrap (2+3*(T.length:Int))=2+3*(T.length:Int):=IntWalk.i64_in _ ahp;clear h hs hP hT MK hd1 V Kx Lq LM Lz hc;go_enter func106,ntmps106;go_wp2_with fail;refine HN.o.mono ?_;rintro en w1 ⟨b,rfl,I,t1,b1⟩;rw[Kp]at I t1 b1;have K1:=qh (And.intro (t1.q KM.o) (B0.o.trans (b1.mono ahp)));have HB:=qh I;clear t1 b1 I HN;go_wp2_with fail;refine LT (HR.o _) ?_;go_wp2_with fail;refine LT (d9 _ _ _ _ (K1.o.1.tab KM.o)) ?_;go_wp2_with fail;have A1:=H.o.1.turns (aa.of_below (S:=[]) K1.o.2) ahq ahq
  have HT:Kq (d7 s (2+3*(T.length:Int))=({s with W:=List.replicate (2+3*T.length) 0},(1:Int),(0:Int))):=qh (by
    unfold d7
    rw[HS.o.1,HS.o.2,if_neg ahp,if_neg ahu,show(2+3*(T.length:Int)).toNat=2+3*T.length by omega];rfl)
  refine(gh A1 (2+3*(T.length:Int))).mono ?_;rintro en w3 ⟨rfl,k3,t3⟩;rw[HT.o]at k3 ⊢;have PE:=K1.o.2.size;have KI:=t3.size;have Ra:∀i∈[a],¬(w.heap.size+1<=i/\i<w1.heap.size):=λi hi=>by have:=H.o.2.1;simp at hi;omega
  have K3:=qh (And.intro (K1.o.1.turns t3 Ra) (And.intro ((aa.of_below (S:=[a]) K1.o.2).trans t3) (And.intro k3 (And.intro PE KI))));clear k3 t3 A1 Ra KI PE x1 x2;go_wp2_with (refine wpList_make_full _ rfl (.tmp 43) (.tmp 43) 237 rfl w3.heap.size 113 i0 (agg #[J 0,J 0,J 0,J 0]) 4 Tryz.underlying237 hi J5 J7 .i64 .i64 T.length T.length T.length rfl rfl rfl rfl ?b2 ?b3 (Nat.le_refl _) ?_);case b2=>rw[J2];omega
  case b3=>unfold maxLen;omega
  intro w4 r' hg;have I:dA w4 w3.heap.size (List.replicate T.length Sp.zero):=by exact aay
  have t4:aa [] w3 w4:=aa.of_below ((Below.refl w3.heap.size w3).grown hg (Nat.le_refl _) (λj hj=>by cases hj));have LU:=I.lt;have H4:=qh (And.intro I (And.intro t4 LU));clear r' hg I t4 LU;go_upto_region 11 with fail;obtain⟨q,hq⟩:=LE w3.heap.size;rw[<-hq]at H4 ⊢;have HQ:=qh hq;clear hq;obtain⟨l,hl⟩:=LE w4.heap.size;obtain⟨w5,KV⟩:=LE (w4.alloc (.cells (lkN a l q bud T.length (.slice none 0 0)) 263));have NH:=KV;unfold lkN at NH;rw[<-NH,<-hl];have t5:aa [] w4 w5:=by rw[KV];exact(aa.refl _ _).alloc _
  have NE:w5.heap.size=l+1:=by rw[KV,hl];simp
  have MJ:Blk w5 l 263 (lkN a l q bud T.length (.slice none 0 0)):=by rw[KV,hl];exact Blk.new _ _ _
  have HI:=qh (show NwI w5 w5 l b a q bud P T (λi=>w.heap.size+1<=i/\i<w1.heap.size) 0 (.slice none 0 0)from by
    have e1:=K3.o.2.2.2;have e2:=H4.o.2.2;have e3:=H4.o.2.1.size;refine⟨MJ,?_,.inl ⟨rfl,(K3.o.1.turns H4.o.2.1 ahq).turns t5 ahq,λi hi=>by omega,rfl⟩,aa.refl _ _,?_⟩;. rw[List.take_zero,List.flatMap_nil];exact World.ownsRow_nil _ _ _ _
    . have:b<w1.heap.size:=K1.o.1.low.2
      omega)
  have H5:=qh (And.intro t5 (And.intro NE hl));clear KV NH t5 NE MJ hl;go_wp2;go_loopw [13,48] (λ_ i wr=>∃(k:Nat) (vN:Value),i= J k/\k<=T.length/\NwI w5 wr l b a q bud P T (λi=>w.heap.size+1<=i/\i<w1.heap.size) k vN) (λ_ i _=>T.length-(intOf i).toNat);case atStart=>exact⟨0,_,rfl,by omega,HI.o⟩
  case round=>
    clear HI;obtain⟨k,vN,rfl,hk,Y⟩:=hrel;obtain⟨O,rfl⟩:∃O:World,O=wr:=⟨_,rfl⟩;have NZ:l<w5.heap.size:=(by have:=H5.o.2.1;omega);have MJ:b<w5.heap.size:=(by have e0:b<w1.heap.size:=K1.o.1.low.2;have e1:=K3.o.2.2.2.2;have e2:=H4.o.2.1.size;have e3:=H5.o.1.size;omega);by_cases F':k<T.length
    . obtain⟨A,cap,rfl⟩:=a8 Y.own;obtain⟨x,hx⟩:∃x,(ao P T T.length)[k]? =some x:=ai (by rw[cW (Nat.le_refl _)];exact F');have c3:Z O l 3 (.slice A k cap):=Y.blk.cell 3;have Lc:l<O.heap.size:=Y.blk.lt;have YP:w5.heap.size<=O.heap.size:=Y.tn.size;have S7:=qh (Gd KM.o (w:=O.drew) Lc (Y.tab.turns0 ((aa.refl _ _).drew)) F' x hx);have HX:=qh hx;have HW:=qh Y;have XS:=qh Y.lb;clear Y hx;go_wp2_with fail
      go_region_law (first
        | (refine step_append_lies _ rfl _ _ 22 rfl w5.heap.size 3 j0 (J 0) 1 8 Tryz.underlying22 hj PG PH OB rfl ahr _ _ _ rfl (o2.alloc _) ⟨w2.heap.size,0,none⟩ 1 1 (encI x) rfl rfl (λj u hj=>cell_one_new w2 (J x) 3 j u hj) (io _) ahr (by unfold maxLen;omega) ahp ahu _ rfl ?_;intro g3 ab w7 h3 Kr NA Uf;have Qu:=(PN.alloc (cells #[J x] 3)).grown Kr (λe=>Q5 e.symm);have al:Z w7 l 3 (.slice A k cap):=Qu.cell 3;have bw:=Qu.free 3)
        | (go_simp;go_at_call 100;refine S7.o.mono ?_;rintro en w2 ⟨rfl,WW,Ry⟩;have PN:Blk w2 l 263 (lkN a l q bud T.length (.slice A k cap)):=Ry.blk HW.o.blk.drew (by simpa using XS.o);have o2:w2.ownsRow w5.heap.size 3 1 (.slice A k cap) k (((ao P T T.length).take k).flatMap encI):=aa.own (show O.drew.ownsRow _ _ _ _ _ _ from HW.o.own) Ry (λg hg=>by have:=(HW.o.own.lt g hg).1;simp;omega);have Q5:(Value.slice A k cap).ownBlock≠some l:=(λe=>by have:=(HW.o.own.lt l e).1;omega);have ad:Z w2 l 3 (.slice A k cap):=PN.cell 3;have L0:l<w2.heap.size:=PN.lt;have JY:=Ry.size;simp at JY))
      all_goals
        have HR:=qh (NwI.step HW.o HX.o NZ MJ WW Ry h3 Kr NA);clear WW Ry h3 Kr NA Qu PN o2;go_wp2;go_roundw;case rel=>exact⟨k+1,_,by go_num,by omega,HR.o⟩
        case measure=>simp[intOf];omega
    . obtain rfl:k=T.length:=by omega
      have Kw:(ao P T T.length).length=T.length:=cW (Nat.le_refl _);obtain⟨nb,cap,rfl,ZT,ZU⟩:=gG Y.own ahp;have Ow:=Y.own;rw[show(ao P T T.length).take T.length=ao P T T.length from List.take_of_length_le (by rw[Kw];exact Nat.le_refl _)]at Ow;have Pz:∀m,m<(ao P T T.length).length->Z O nb m (J (ndf (ao P T T.length) m)):=λm hm=>by obtain⟨x,hx⟩:=ai hm;have e:ndf (ao P T T.length) m=x:=(by unfold ndf;rw[List.getD_eq_getElem?_getD,hx];rfl);rw[e];obtain⟨_,_,h1,_,_,h2⟩:=dM (l:=ao P T T.length) (by rw[Kw];exact Ow) ahp;obtain⟨b',off,h3,_,h4⟩:=h2 ahp;injection h1 with h1;rw[h3]at h1;injection h1 with h1;injection h1 with h5 h6;have:=h4 m x hx 0 _ rfl;rw[<-h5,<-h6]at this;simpa using this
      have c1:Z O l 1 (J 1):=Y.blk.cell 1;have c3:Z O l 3 (slice (some ⟨nb,0,none⟩) T.length cap):=Y.blk.cell 3;have Lc:l<O.heap.size:=Y.blk.lt;have Pe:=qh (IA O.drew l c1);have S6:=Iy O.drew a nb cap (ao P T T.length) (by rw[Kw];omega) Pz;rw[Kw]at S6;have XY:=qh S6;have HW:=qh (And.intro Y Pz);clear Y Pz S6 Ow;go_wp2_with fail
      go_region_held3 (λW=>Z W l 3 (slice (some ⟨nb,0,none⟩) T.length cap))
        (first|exact c3|exact YB|exact YC)
        (first
          | (go_at_call 146;go_loud (refine LT Pe.o ?_))
          | (go_at_call 145;go_loud (refine XY.o.mono ?_);rintro en w8 ⟨kk,n1,b0,b1,b2,rfl,Xz,p0,p1,p2,WH,b8⟩;have PO:Blk w8 l 263 (lkN a l q bud T.length (slice (some ⟨nb,0,none⟩) T.length cap)):=HW.o.1.blk.drew.below b8 Lc;have YB:Z w8 l 3 (slice (some ⟨nb,0,none⟩) T.length cap):=PO.cell 3;have ax:Z w8 l 4 (.pointer none):=PO.cell 4;have bA:=PO.free 4;have YC:(w8.setCell ⟨l,4,none⟩ ↑kk).cell? ⟨l,3,none⟩=some (slice (some ⟨nb,0,none⟩) T.length cap):=(PO.set_ 4 ↑kk).cell 3;have H8:=qh (And.intro Xz (And.intro p0 (And.intro p1 (And.intro p2 (And.intro WH (And.intro b8 PO))))));clear Xz p0 p1 p2 WH b8 PO))
      all_goals
        go_wp2;go_ret2;have f1:=K1.o.2.size;have f2:=K3.o.2.2.2;have f3:=H4.o.2.2;have f4:=H4.o.2.1.size;have f5:=H5.o.2;have f6:=HQ.o;have f7:b<w1.heap.size:=K1.o.1.low.2;have f8:w.heap.size+1<=b:=K1.o.1.low.1;have f9:=H.o.2;have YL:=H8.o.2.2.2.2.1;have bc:w5.heap.size<=O.heap.size:=HW.o.1.tn.size;have f12:O.drew.heap.size=O.heap.size:=rfl;have YM:nb<O.heap.size:=aM (HW.o.2 0 (by rw[Kw];omega));rw[f12]at YL;have t8:aa [] O w8:=((aa.refl _ _).drew).trans (aa.of_below H8.o.2.2.2.2.2.1);have t9:aa [l] w8 (w8.setCell ⟨l,4,none⟩ ↑kk):=(aa.refl _ _).setCell (.inl ahq) _;have SS:aa [l,b] w5 (w8.setCell ⟨l,4,none⟩ ↑kk):=(HW.o.1.tn.trans (t8.mono ahq)).trans (t9.mono ahq);have Xx:aa [l,b] w3 (w8.setCell ⟨l,4,none⟩ ↑kk):=((H4.o.2.1.mono ahq).trans (H5.o.1.mono ahq)).trans SS;refine⟨⟨l,a,g,q,kk,n1,nb,b0,b1,b2⟩,cap,rfl,rfl,rfl,⟨?_,?_,?_,?_,?_,?_,?_,?_,?_,?_,?_,?_⟩,?_,?_,?_,?_,λx hx=>by simp at hx;omega⟩;. exact K3.o.2.2.1.turns Xx ahu ahu
        . unfold Id;rw[Kw];exact H8.o.2.2.2.2.2.2.set_ 4 _
        . exact(H4.o.1.turns (T:=[]) H5.o.1 ahq).turns SS (by show q∉[l,b];simp;omega)
        . exact H8.o.1.turns t9 (by show kk∉[l];simp;omega) (by show n1∉[l];simp;omega)
        . intro m hm;have e8:w8.cell? ⟨nb,m,none⟩=O.cell? ⟨nb,m,none⟩:=t8.cellC YM ahq;have e9:=t9.cellC (p:=⟨nb,m,none⟩) (by have:=t8.size;show nb<w8.heap.size;omega) (by show nb∉[l];simp;omega);exact e9.trans (e8.trans (HW.o.2 m hm))
        . exact t9.blk H8.o.2.1 (by show b0∉[l];simp;omega)
        . exact t9.blk H8.o.2.2.1 (by show b1∉[l];simp;omega)
        . exact t9.blk H8.o.2.2.2.1 (by show b2∉[l];simp;omega)
        . rw[Kw];simp[cn0]
        . rw[Kw];omega
        . show[a,g,q,kk].Nodup;simp;omega
        . show ∀x∈[l,n1,nb,b0,b1,b2],x∉[a,g,q,kk];intro x hx;simp at hx ⊢;omega
        . show w.heap.size<=l;omega
        . show w.heap.size<=q;omega
        . show w.heap.size<=kk;omega
        . have:aa [a,l,b] w (w8.setCell ⟨l,4,none⟩ ↑kk):=(K3.o.2.1.mono ahq).trans (Xx.mono ahq);exact this.fresh λi hi=>by simp at hi ⊢;omega
end
section
open Go Go.RowKit
variable{nd:List Int}{h:Cn}
def cnV(l:Nat):Value:= .iface 181 (agg #[.iface 182 ↑l])
structure CnB where
 c:Cx
 cap:Nat
 bt:Nat
 hi:Nat
def cnF(b:CnB):List Nat:=[b.c.a,b.c.g,b.c.q,b.c.k]
def BN(bud:Int)(nd:List Int)(n:Nat):LkM n where
 σ:=Cn
 β:=CnB
 ok:=λst N=>CtS n st/\st.ar.ops<=N
 ar:=λst=>st.ar
 sp:=λst i=>sv st.S i
 cn:=λst i=>if (sv st.S i).pc=10 then 1 else 0
 rd:=false
 step:=λst i=>(hJ n (ndf nd) bud st i).1
 ask:=λst i r=>if r then st else(bZ st i 0 1).1
 leave:=λst i=>(bZ st i 10 11).1
 bt:=λb=>b.bt
 hi:=λb=>b.hi
 fp:=cnF
 is:=λb w a g lb st=>aq w b.c b.cap bud nd st/\(b.c.a=a/\b.c.g=g)/\jy w lb n 9 (cnV b.c.l) (cnF b) b.bt b.hi/\∀x∈[b.c.l,b.c.n1,b.c.nb,b.c.b0,b.c.b1,b.c.b2],b.bt<=x/\x<b.hi
def aq.far{c:Cx}{cap:Nat}(k:aq w c cap bud nd h)(t:aa S w w')(h1:∀x∈[c.a,c.g,c.q,c.k],x∉S)(H:∀x∈[c.l,c.n1,c.nb,c.b0,c.b1,c.b2],x∉S):aq w' c cap bud nd h:=by simp only[List.mem_cons,List.not_mem_nil,or_false,forall_eq_or_imp,forall_eq]at h1 H;obtain⟨I,O,V,Y⟩:=h1;obtain⟨y1,y2,y3,y4,y5,y6⟩:=H;refine⟨k.ar.turns t I O,t.blk k.lk y1,k.sp.turns t V,k.wk.turns t Y y2,λm hm=>?_,t.blk k.p0 y4,t.blk k.p1 y5,t.blk k.p2 y6,k.sl,k.n32,k.nd4,k.st⟩;rw[t.cellC (aM (k.row m hm)) y3];exact k.row m hm
def CtS.ccond(k:CtS n h)(hn:n<=32)(Y:h.ar.ops+1<=1000000000000):pS n h:=by
 have O:∀(j:Nat) (p:Sp),h.S[j]? =some p->j<n/\sv h.S j=p:=λj p H=>⟨by rw[<-k.len];exact(List.getElem?_eq_some_iff.1 H).1,by unfold sv;rw[List.getD_eq_getElem?_getD,H];rfl⟩;have wb:=k.i.wb;unfold WkB at wb;refine⟨Y,λj p H=>?_,⟨⟨wb.2.2.1,wb.2.2.2⟩,by omega,by omega⟩,λj p H e=>?_,λj p H=>?_⟩;.obtain⟨I,rfl⟩:=O j p H;have h1:=k.i.sp j I;have V:=k.i.c1 j I;exact⟨by omega,by omega,λe=>by omega⟩
 .obtain⟨I,rfl⟩:=O j p H;exact k.i.w3 j I e
 .obtain⟨I,rfl⟩:=O j p H;exact k.i.pcs j I
def zY(st:Cn)(i:Nat)(hi:i<st.S.length)(u v:Int):(bZ st i u v).1=(if (sv st.S i).pc=u then⟨st.ar,st.wk,st.S.set i {sv st.S i with pc:=v}⟩else st)/\(bZ st i u v).2=decide ((sv st.S i).pc=u):=by unfold bZ;rw[gE hi,Int.toNat_natCast];exact aa7
def su{node:Nat->Int}(st:Cn)(i:Nat)(hi:i<st.S.length):(hJ n node bud st i).2=dB (sv st.S i) (sv (hJ n node bud st i).1.S i):=by
 unfold hJ;rw[gE hi,Int.toNat_natCast];unfold dB;split
 .rename_i h;simp only[fV hi,if_true];by_cases c:(ah n node bud st i (sv st.S i)).2.2.pc=0\/(ah n node bud st i (sv st.S i)).2.2.pc=10;.exact aaz
  .exact aaA
 .exact aa8
theorem nU(n:Nat)(node:Nat->Int)(bud:Int)(st:Cn)(i:Nat):(hJ n node bud st i).1.ar.ops<=st.ar.ops+1:=by
 have h1:=λx v=>hY st.ar x v;have H:=λx=>iP st.ar x;have I:=λx o v=>nL st.ar x o v;have O:=λx v=>jz st.ar x v;have V:=λx v=>eU st.ar x v;unfold hJ;split
 .show(ah n node bud st (i:Int).toNat (getS st.S i)).1.ops<=_;unfold ah;split;.unfold inC;grind (splits:=40)
  .split;.unfold kx;grind (splits:=40)
   .split;.unfold oJ;grind (splits:=40)
    .unfold ew;grind (splits:=40)
 .simp
def vi(Y:1<=nd.length/\nd.length<=32):(BN bud nd nd.length).Good where
 n32:=Y
 okS:=fun(st:Cn) N i h hN hi=>⟨h.1.step (ndf nd) bud hi,Nat.le_trans (nU _ _ _ st i) (by have:=h.2;omega)⟩
 okA:=fun(st:Cn) N i r h hN hi=>by
  cases r
  .refine⟨h.1.beg hi (.inl ⟨rfl,rfl⟩),?_⟩
   show(bZ st i 0 1).1.ar.ops<=_
   have:(bZ st i 0 1).1.ar=st.ar:=by unfold bZ;split<;>rfl
   rw[this];have:=h.2;omega
  .exact⟨h.1,by have:=h.2;show st.ar.ops<=_;omega⟩
 okL:=fun(st:Cn) N i h hN hi=>by
  refine⟨h.1.beg hi (.inr ⟨rfl,rfl⟩),?_⟩
  show(bZ st i 10 11).1.ar.ops<=_
  have:(bZ st i 10 11).1.ar=st.ar:=by unfold bZ;split<;>rfl
  rw[this];have:=h.2;omega
 okm:=fun(st:Cn) N h=>⟨h.1,by have:=h.2;omega⟩
 one:=fun(st:Cn) N i j h hi hj h1 h2 _=>h.1.one hi hj h1 h2
 pcs:=fun(st:Cn) N i h hi=>by have:=h.1.i.pcs i hi;show 0<=(sv st.S i).pc;omega
 cnt:=fun(st:Cn) N i h hi=>by
  exact aaB
 opsS:=fun(st:Cn) N i _ _ _=>nU _ _ _ st i
 arA:=fun(st:Cn) i r=>by
  cases r
  .show(bZ st i 0 1).1.ar=st.ar
   unfold bZ;split<;>rfl
  .rfl
 arL:=fun(st:Cn) i=>by
  show(bZ st i 10 11).1.ar=st.ar
  unfold bZ;split<;>rfl
 ais:=fun(b:CnB) w a g lb (st:Cn) h=>by obtain⟨k,⟨rfl,rfl⟩,_⟩:=h;exact k.ar
 lk:=fun(b:CnB) w a g lb (st:Cn) h=>h.2.2.1.c1
 kd:=fun(b:CnB) w a g lb (st:Cn) h=>⟨9,h.2.2.1.blk.cell 0,rfl⟩
 fpa:=fun(b:CnB) w a g lb (st:Cn) h=>⟨λx H=>(h.2.2.1.fl x H).2,h.2.2.1.hw⟩
 far:=fun(b:CnB) w a g lb (st:Cn) w' S h t hS=>by
  obtain⟨k,hc,hd,hl⟩:=h
  have O:∀x∈S,b.hi<=x\/x<b.bt:=hS
  exact⟨k.far t (λx H m=>by have:=hd.fl x H;have:=O x m;omega) (λx H m=>by have:=hl x H;have:=O x m;omega),hc,hd.far t O,hl⟩
 cS:=fun(b:CnB) w a g lb (st:Cn) N i h hk hN hi=>by
  obtain⟨k,hc,hd,hl⟩:=h
  refine(om .cn hd.c1 hd.c2 hi (R:=λr w'=>r=dB (sv st.S i) (sv (hJ nd.length (ndf nd) bud st i).1.S i)/\aq w' b.c b.cap bud nd (hJ nd.length (ndf nd) bud st i).1/\aa (cnF b) w w') λW bw=>?_).mono ?_
  .refine(Gz (k.below bw) (i:Int) (hk.1.ccond Y.2 (by have:=hk.2;unfold lkB at hN;omega))).mono ?_
   rintro e w' ⟨rfl,k2,t2⟩
   exact⟨_,rfl,su st i (by rw[k.sl];exact hi),k2,(aa.of_below bw).trans t2⟩
  .exact abi
 cA:=fun(b:CnB) w a g lb (st:Cn) N i r h hk hN hi=>by
  obtain⟨k,hc,hd,hl⟩:=h
  have I:i<st.S.length:=by rw[k.sl];exact hi
  refine(yz .cn hd.c1 hd.c2 hi r (R:=λq w'=>q=decide ((sv st.S i).pc=0/\(r=true->(false:Bool)=true))/\aq w' b.c b.cap bud nd (if r then st else(bZ st i 0 1).1)/\aa (cnF b) w w') (λV W bw=>?_) (λV W bw=>?_)).mono ?_
  .subst V
   refine(GV (k.below bw) (i:Int)).mono ?_
   rintro e w' ⟨rfl,k2,t2⟩
   exact⟨_,rfl,by rw[(zY st i I 0 1).2];simp,k2,(aa.of_below bw).trans t2⟩
  .exact aaD
  .exact abi
 cL:=fun(b:CnB) w a g lb (st:Cn) N i h hk hN hi=>by
  obtain⟨k,hc,hd,hl⟩:=h
  have I:i<st.S.length:=by rw[k.sl];exact hi
  refine(kH .cn hd.c1 hd.c2 hi (R:=λq w'=>q=decide ((sv st.S i).pc=10)/\aq w' b.c b.cap bud nd (bZ st i 10 11).1/\aa (cnF b) w w') λW bw=>?_).mono ?_
  .refine(D1 (k.below bw) (i:Int)).mono ?_
   rintro e w' ⟨rfl,k2,t2⟩
   exact⟨_,rfl,(zY st i I 10 11).2,k2,(aa.of_below bw).trans t2⟩
  .exact abi
 cP:=fun(b:CnB) w a g lb (st:Cn) i h hi=>oj .cn h.2.2.1.c1 h.2.2.1.c2 hi _ λW bw=>by
  exact abj
 cC:=fun(b:CnB) w a g lb (st:Cn) i h hi=>oe .cn h.2.2.1.c1 h.2.2.1.c2 hi _ λW bw=>by
  exact abj
end
end Go.Proofs.YtglokdbiggbkjaaGreat
