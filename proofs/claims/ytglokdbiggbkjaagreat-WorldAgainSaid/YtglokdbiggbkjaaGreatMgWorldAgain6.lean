/- Joined texts. -/
import Derived.Laws.AppendOwnNone
import Derived.Deep.RegionLaw
import Derived.Test.YtglokdbiggbkjaaGreatMgWorldAgain0
import Derived.Test.YtglokdbiggbkjaaGreatMgWorldAgain2
import Derived.Test.YtglokdbiggbkjaaGreatMgWorldAgain3
import Derived.Test.YtglokdbiggbkjaaGreatMgWorldAgain4
import Derived.Test.YtglokdbiggbkjaaGreatMgWorldAgain5
set_option linter.unusedVariables false
set_option linter.unusedSimpArgs false
set_option linter.defProp false
set_option maxRecDepth 100000
set_option maxHeartbeats 16000000
open Go.Proofs.Tryz
namespace Go.Proofs.YtglokdbiggbkjaaGreat
open Go.IntKind(i64)
open Go.Value(int bool slice agg tuple pointer)
open Go.Ending(returned)
open Go.Obj(cells)
variable{n lo sz b:Nat}{w w':World}{S:List Nat}{v:Value}{P T:List Int}{B:Nat->Prop}
section
open Go Go.RowKit Go.Maps
variable{A:Option Addr}
section
variable{M:LkM n}{X:WoB M}{st:M.σ}
def uQ(l k:List (Int×Int)):∀st:M.σ,M.evs st (l++k)=M.evs st l++M.evs (M.runA st l l.length) k:=by
 induction l with
 |nil=>intro st;rfl
 |cons p l h=>intro st;show(M.pick st p).1 :: M.evs (M.pick st p).2 (l++k)=(M.pick st p).1 :: (M.evs (M.pick st p).2 l++_);rw[h];rfl
def tY(l k:List (Int×Int))(st:M.σ):M.runA st (l++k) (l++k).length=M.runA (M.runA st l l.length) k k.length:=by unfold LkM.runA;simp only[List.take_length,List.foldl_append]
def bj.under(G:M.Good)(h:bj X w st)(t:aa S w w')(h1:lo<=M.bt X.b)(O:lo<=X.wb)(H:∀x∈S,x<lo):bj X w' st:=
 ⟨G.far _ _ _ _ _ _ _ _ h.is t (λx I=> .inr (Nat.lt_of_lt_of_le (H x I) h1)),t.blk h.wd (λm=>by have:=H _ m;omega),h.nf,⟨h.hw.1,h.hw.2.1,Nat.le_trans h.hw.2.2 t.size⟩⟩
def Cr(G:M.Good)(h:bj X w st){N:Nat}(hk:M.ok st N){L:List (Int×Int)}(hN:N+L.length<=lkB)(O:RdL w v 2 jv L)(hf:0<L.length->∀q,v.ownBlock=some q->q∉M.fp X.b):E 44 #[lkP X.wb,v] w λe w'=>∃v,e= returned v/\RdL w' v 4 encE (M.evs st L)/\(∀q,v.ownBlock=some q->w.heap.size<=q)/\bj X w' (M.runA st L L.length)/\aa (M.fp X.b) w w':=by
  obtain⟨A,cap,rfl,h1,h2,Y⟩:=O;by_cases V:0<L.length
  . obtain⟨b,off,rfl,I,hc⟩:=Y V
    exact Cs G h hk hN (λW t k pk H=>by
      have e:∀j,W.cell? ⟨b,off+k*2+j,none⟩=w.cell? ⟨b,off+k*2+j,none⟩:=λj=>t.cellC I (hf V b rfl);have c0:=(e 0).trans (hc k pk H 0 _ rfl);have c1:=(e 1).trans (hc k pk H 1 _ rfl)
      exact⟨c0,c1⟩)
  . have e:L=[]:=List.eq_nil_of_length_eq_zero ahp;subst e;exact Cs (bl:=0) (off:=0) G h hk hN (λW t k pk H=>by cases H) (λe=>absurd rfl e)
end
section
variable{α:Type}{enc:α->List Value}{l:List α}{off cap:Nat}
def RdL.take_(h:RdL w (.slice A n cap) sz enc l)(k:Nat)(hk:k<=l.length)(c:Nat)(hc:k<=c):RdL w (.slice A k c) sz enc (l.take k):=by
 obtain⟨A',Vx,e,h1,h2,h3⟩:=h;injection e with Y e2 e3;subst Y e2 e3;have hl:(l.take k).length=k:=by rw[List.length_take];omega
 refine⟨_,_,by rw[hl],by omega,by omega,λh0=>?_⟩;obtain⟨b',H,e4,I,V⟩:=h3 ahp;refine⟨b',H,e4,I,λi x O j u hu=>V i x ?_ j u hu⟩;rw[List.getElem?_take]at O;split at O;.exact O
 .cases O
def RdL.drop_{k:List α}(h:RdL w (.slice A n cap) sz enc (l++k)):RdL w (.slice (A.map λx=>x.add (l.length*sz)) k.length (cap-l.length)) sz enc k/\(cap<=l.length->RdL w (.slice A k.length 0) sz enc k):=by
 obtain⟨A',Vx,e,h1,h2,h3⟩:=h;injection e with O V e3;subst O V e3;rw[List.length_append]at h1 h2;refine⟨⟨_,_,rfl,by omega,by omega,λY=>?_⟩,λhc=>⟨_,_,rfl,by omega,by omega,λY=>by omega⟩⟩;obtain⟨b,off,e4,I,H⟩:=h3 (by rw[List.length_append];omega);subst e4;refine⟨b,off+l.length*sz,?_,I,λi x hx j u hu=>?_⟩;.show some ((⟨b,off,none⟩:Addr).add (l.length*sz))=_;unfold Addr.add;simp
 .have:=H (l.length+i) x (by rw[List.getElem?_append_right ahp,Nat.add_sub_cancel_left];exact hx) j u hu;rwa [Nat.add_mul,<-Nat.add_assoc]at this
def sT(hs:∀x,(enc x).length=sz):∀l:List α,(l.flatMap enc).length=l.length*sz
 |[]=>by simp
 |x :: l=>by rw[List.flatMap_cons,List.length_append,sT hs l,hs,List.length_cons,Nat.succ_mul];omega
def Bl(hs:∀x,(enc x).length=sz):∀(l:List α) (j:Nat) (u:Value),(l.flatMap enc)[j]? =some u->∃x,l[j/sz]? =some x/\(enc x)[j%sz]? =some u:=by
 intro l;induction l with
 |nil=>intro j u h;simp at h
 |cons x l ih=>
  intro j u h;rw[List.flatMap_cons]at h;have hx:=hs x;by_cases I:j<sz
  .rw[List.getElem?_append_left ahp]at h;refine⟨x,?_,?_⟩;.rw[Nat.div_eq_of_lt I];rfl
   .rw[Nat.mod_eq_of_lt I];exact h
  .rw[List.getElem?_append_right ahp,hx]at h;obtain⟨y,h1,H⟩:=ih _ _ h
   have Y:0<sz:=by
    rcases Nat.eq_zero_or_pos sz with e|e
    .have h3:=(List.getElem?_eq_some_iff.1 H).1;have h4:=hs y;omega
    .exact e
   have O:j/sz=(j-sz)/sz+1:=(by rw[Nat.div_eq_sub_div Y ahp]);have V:j%sz=(j-sz)%sz:=Nat.mod_eq_sub_mod ahp;exact⟨y,by rw[O];exact h1,by rw[V];exact H⟩
end
def kA{P:Program}{ops:Array Oper}{rest:List Oper}{o:Oper}{a:Act}{Q:Exit->Act->World->Prop}(Wj:o.guard=none)(s x:Operand)(t:TypeId)(Y:o.op= .call {callee:= .builtin .append,args:=#[s,x],argTypes:=#[t,t]})(base:Nat)(e:TypeId)(i:TypeInfo)(z:Value)(size bytes:Nat)(ht:P.underlying t=some (.slice e))(hi:P.info? e=some i)(hz:i.zero=some z)(Z9:i.size=size)(PX:i.bytes=bytes)(ab:z.cells.size=size)(Ki:0<size)(v:Value)(n:Nat)(xs:List Value)(hs:a.eval s=v)(r':w.ownsRow base e size v n xs){α:Type}{enc:α->List Value}{l:List α}(We:∀x,(enc x).length=size)(h1:∀x,∀u∈enc x,u.oneCell'=true)(A:Option Addr)(m c:Nat)(hx:a.eval x= .slice A m c)(V:RdL w (.slice A m c) size enc l)(hn:A=none->c=0)(YQ:n+m<=maxLen)(Zc:(n+m)*bytes<=140737488355328)(Y8:base<=w.heap.size)(h:∀v' w',w'.ownsRow base e size v' (n+m) (xs++l.flatMap enc)->w.grownBy w' v.ownBlock->wpList P ops Q rest (a.put o.dst v') w'):wpList P ops Q (o :: rest) a w:=by
  obtain⟨A',c',O,h2,h3,h4⟩:=V;injection O with O e2 e3;subst O e2 e3;cases A with
  | none=>
    have hl:l=[]:=by
      cases l with
      | nil=>rfl
      | cons y l=>obtain⟨_,_,e,_⟩:=h4 ahq;cases e
    subst hl;obtain rfl:=hn rfl;exact wpList_append_own_none Wj s x t Y base e i size ht hi v n xs hs r' hx (h v w (by simpa using r') (World.grownBy.refl w _))
  | some ad=>
    refine wpList_append_own w Wj s x t Y base e i z size bytes ht hi hz Z9 PX ab Ki v n xs hs r' ad l.length c (l.flatMap enc) hx ?_ (λj u hu=>?_) (λu hu=>?_) YQ Zc Y8 (λv' w' k1 k2 _=>h v' w' k1 k2);. exact sT We l
    . obtain⟨y,hy,H⟩:=Bl We l j u hu;obtain⟨b,off,e,I,hc⟩:=h4 (Nat.lt_of_le_of_lt (Nat.zero_le _) (List.getElem?_eq_some_iff.1 hy).1);injection e with e;subst e;have Ly:(⟨b,off,none⟩:Addr).add j=⟨b,off+j,none⟩:=(by unfold Addr.add;split<;>simp_all);have:=hc _ _ hy _ _ H;rw[Ly];rwa [show off+j/size*size+j%size=off+j by rw[Nat.add_assoc,Nat.div_add_mod']]at this
    . obtain⟨y,_,H⟩:=List.mem_flatMap.1 hu;exact h1 y u H
end
section
open Go Go.RowKit
section
variable (AW:Awk 19)(w:World)(vP vT:Value)(a0 a1 a2 a3:Int)(A B:Option Addr)(m n c d:Nat)
include AW
def GJ(h1:100<m\/20<n)(O:m<=9223372036854775807)(V:n<=9223372036854775807):E 8 #[agg #[vP,vT],agg #[.int .u8 a0,.int .u8 a1,.int .u8 a2,.int .u8 a3],agg #[.slice A m c,.slice B n d]] w λe w'=>e= returned (bool true)/\Below w.heap.size w w':=by have h:=qh ((((Below.refl w.heap.size w).alloc (Nat.le_refl _) (cells #[vP,vT] 24)).alloc ahq (cells #[.int .u8 a0,.int .u8 a1,.int .u8 a2,.int .u8 a3] 25)).alloc ahu (cells #[.slice A m c,.slice B n d] 91));have H:=qh AW;clear AW;by_cases hm:100<m;all_goals go_enter func8,ntmps8;go_wp2_with fail;refine Pi (H.o _) λw1 I=>?_;have H1:=qh (h.o.trans (I.o.mono h.o.size));go_wp2;go_ret;exact⟨rfl,H1.o⟩
def Jh(hs:zS w vP vT 8)(hm:m<=100)(hn:n<=20):E 8 #[agg #[vP,vT],agg #[.int .u8 a0,.int .u8 a1,.int .u8 a2,.int .u8 a3],agg #[.slice A m c,.slice B n d]] w λe w'=>e= returned (bool true)/\Below w.heap.size w w':=by obtain⟨w0,h⟩:=LE (((w.alloc (cells #[vP,vT] 24)).alloc (cells #[.int .u8 a0,.int .u8 a1,.int .u8 a2,.int .u8 a3] 25)).alloc (cells #[.slice A m c,.slice B n d] 91));have H:=qh (show Below w.heap.size w w0 from by rw[h];exact(((Below.refl w.heap.size w).alloc (Nat.le_refl _) _).alloc ahq _).alloc ahu _);have HX:=qh (show Blk w0 w.heap.size 24 #[vP,vT]from by rw[h];exact((Blk.new w 24 #[vP,vT]).alloc _).alloc _);have I:=qh (show Blk w0 (w.heap.size+2) 91 #[.slice A m c,.slice B n d]from by rw[h];exact Blk.new' _ _ _ ahq);have Y:=qh hs;have V:=qh AW;clear hs AW;go_enter func8,ntmps8;go_upto_region 1 with fail;rw[<-h];clear h;have f0:w0.cell? w.heap.size=some vP:=HX.o.cell 0;have f1:Z w0 w.heap.size 1 vT:=HX.o.cell 1;have f2:Z w0 (w.heap.size+2) 0 (.slice A m c):=I.o.cell 0;have f3:Z w0 (w.heap.size+2) 1 (.slice B n d):=I.o.cell 1;go_wp2_with fail;refine Pi (Y.o _ H.o) λw2 b2=>?_;have O:=qh (H.o.trans (b2.o.mono H.o.size));go_wp2_with fail;refine Pi (V.o _) λw3 b3=>?_;have MB:=qh (O.o.trans (b3.o.mono O.o.size));go_wp2;go_ret;exact⟨rfl,MB.o⟩
end
structure WaS{n:Nat}{M:LkM n}(X hr:WoB M)(lo:Nat)(w0 w:World)(sx sy:M.σ):Prop where
 x:bj X w sx
 y:bj hr w sy
 bel:Below w0.heap.size w0 w
 xl:X.hi<=lo
 yl:lo<=M.bt hr.b/\lo<=hr.wb
 fx:∀i∈M.fp X.b,w0.heap.size<=i
 fy:∀i∈M.fp hr.b,lo<=i
 l0:w0.heap.size<=lo
section
variable{n:Nat}{M:LkM n}{X hr:WoB M}{w0 w:World}{sx sy s':M.σ}
def WaS.old(G:M.Good)(h:WaS X hr lo w0 w sx sy)(t:aa [] w w'):WaS X hr lo w0 w' sx sy:=
 {h with x:=h.x.far G t ahq,y:=h.y.far G t ahq,bel:=h.bel.trans (t.below ahq h.bel.size)}
def WaS.below(G:M.Good)(h:WaS X hr lo w0 w sx sy)(t:Below w.heap.size w w'):WaS X hr lo w0 w' sx sy:=h.old G (aa.of_below t)
def WaS.actX(G:M.Good)(h:WaS X hr lo w0 w sx sy)(t:aa (M.fp X.b) w w')(k:bj X w' s'):WaS X hr lo w0 w' s' sy:=
 {h with x:=k,y:=h.y.under G t h.yl.1 h.yl.2 (λi hi=>Nat.lt_of_lt_of_le (h.x.lo G i hi) h.xl),bel:=h.bel.trans (t.below h.fx h.bel.size)}
def WaS.actY(G:M.Good)(h:WaS X hr lo w0 w sx sy)(t:aa (M.fp hr.b) w w')(k:bj hr w' s'):WaS X hr lo w0 w' sx s':=
 {h with y:=k,x:=h.x.far G t (λi hi=>Nat.le_trans h.xl (h.fy i hi)),bel:=h.bel.trans (t.below (λi hi=>Nat.le_trans h.l0 (h.fy i hi)) h.bel.size)}
end
end
section
open Go.RowKit
variable{α:Type}{C:Nat->Prop}
structure gL(B:Nat->Prop)(w:World)(b:Nat)(P T:List Int):Prop where
 low:B b
 ex:∃AP cP AT cT,Blk w b 213 #[.slice AP P.length cP,.slice AT T.length cT,.int .u32 0,.int .i32 0,.int .u32 0,.slice none 0 0,.slice none 0 0,.slice none 0 0,.slice none 0 0]/\RdL w (.slice AP P.length cP) 1 encI P/\RdL w (.slice AT T.length cT) 1 encI T/\(∀g,(Value.slice AP P.length cP).ownBlock=some g->g≠b)/\(∀g,(Value.slice AT T.length cT).ownBlock=some g->g≠b)/\
  (∀g,(Value.slice AP P.length cP).ownBlock=some g->B g)/\(∀g,(Value.slice AT T.length cT).ownBlock=some g->B g)
def gY{enc:α->List Value}{l:List α}(h:RdL w v sz enc l)(O:0<l.length){g:Nat}(hg:v.ownBlock=some g):g<w.heap.size:=by obtain⟨A,cap,rfl,_,_,H⟩:=h;obtain⟨b,off,rfl,I,_⟩:=H O;injection hg with hg;subst hg;exact I
def gK.q(hc:a5 P T=0)(h:gK lo w b P T):gL (λi=>lo<=i/\i<w.heap.size) w b P T:=by have Kx:=bi (aQ hc).1;obtain⟨O,cP,V,Y,h1,H,I,h4,h5,h6,h7⟩:=h.ex;exact⟨⟨h.low,h1.lt⟩,O,cP,V,Y,h1,H,I,h4,h5,λg hg=>⟨h6 g hg,gY H ahp hg⟩,λg hg=>⟨h7 g hg,gY I ahp hg⟩⟩
def gL.turns(h:gL B w b P T)(k:aa S w w')(H:∀i∈S,¬B i):gL B w' b P T:=by obtain⟨V,cP,Y,cT,h1,h2,h3,h4,h5,I,O⟩:=h.ex;exact⟨h.low,V,cP,Y,cT,k.blk h1 (λhm=>H _ hm h.low),h2.turns k (λg hg hm=>H g hm (I g hg)),h3.turns k (λg hg hm=>H g hm (O g hg)),h4,h5,I,O⟩
def gL.tab(hc:a5 P T=0)(h:gL B w b P T):Tab w b P T:=by obtain⟨H,cP,I,O,h1,V,Y,h4,h5,h6,h7⟩:=h.ex;exact⟨hc,.inl ⟨H,cP,I,O,h1,V,Y,h4,h5⟩⟩
def RdQ(B:Nat->Prop)(w:World)(v:Value)(sz:Nat){α:Type}(enc:α->List Value)(l:List α):Prop:=RdL w v sz enc l/\(0<l.length->∀g,v.ownBlock=some g->B g)
def RdQ.keep{enc:α->List Value}{l:List α}(h:RdQ B w v sz enc l)(k:∀i,B i->i<w.heap.size->w'.heap[i]? =w.heap[i]?)(hs:w.heap.size<=w'.heap.size):RdQ B w' v sz enc l:=by refine⟨?_,h.2⟩;obtain⟨A,cap,rfl,V,Y,h4⟩:=h.1;refine⟨A,cap,rfl,V,Y,λO=>?_⟩;obtain⟨b,off,rfl,I,hc⟩:=h4 O;have H:=h.2 O b rfl;refine⟨b,off,rfl,by omega,λi x hx j u hu=>?_⟩;rw[World.cell?_of_block (w:=w) (w':=w') (a:=⟨b,off+i*sz+j,none⟩) (k b H I)];exact hc i x hx j u hu
def RdQ.of{enc:α->List Value}{l:List α}(h:RdL w v sz enc l)(H:∀g,v.ownBlock=some g->B g):RdQ B w v sz enc l:=⟨h,λ_=>H⟩
structure dz(B:Nat->Prop)(w:World)(b:Nat)(P T:List Int):Prop where
 ok:a5 P T=0
 low:B b
 ex:∃AP cP AT cT vU vN vS vM us,Blk w b 213 (eX (.slice AP P.length cP) (.slice AT T.length cT) 1 0 vU vN vS vM)/\RdQ B w (.slice AP P.length cP) 1 encI P/\RdQ B w (.slice AT T.length cT) 1 encI T/\
  RdQ B w vN 1 encI (ao P T T.length)/\RdQ B w vS 1 encI (aZ T T.length)/\RdQ B w vM 1 encI (aG P T T.length)/\
  RdQ B w vU 1 (λv=>[v]) us/\us.length=T.length/\∀(i:Nat) (x:Int) (v:Value),T[i]? =some x->us[i]? =some v->RdQ B w v 1 encI (upL P x)
def dz.f(h:dz B w b P T):iC w b P T:=by exact aag
def dz.turns(h:dz B w b P T)(t:aa S w w')(hS:∀i∈S,¬B i):dz B w' b P T:=by have k:∀i,B i->i<w.heap.size->w'.heap[i]? =w.heap[i]?:=λi hi hl=>t.block i hl λhm=>hS i hm hi;have hs:=t.size;obtain⟨H,cP,I,O,vU,vN,vS,vM,us,h1,V,Y,h4,h5,h6,h7,h8,h9⟩:=h.ex;exact⟨h.ok,h.low,H,cP,I,O,vU,vN,vS,vM,us,(k b h.low h1.lt).trans h1,V.keep k hs,Y.keep k hs,h4.keep k hs,h5.keep k hs,h6.keep k hs,h7.keep k hs,h8,λi x v a c=>(h9 i x v a c).keep k hs⟩
def RdQ.mono{enc:α->List Value}{l:List α}(h:RdQ B w v sz enc l)(k:∀i,B i->C i):RdQ C w v sz enc l:=⟨h.1,λH g hg=>k g (h.2 H g hg)⟩
def dz.mono(h:dz B w b P T)(k:∀i,B i->C i):dz C w b P T:=by obtain⟨H,cP,I,O,vU,vN,vS,vM,us,h1,V,Y,h4,h5,h6,h7,h8,h9⟩:=h.ex;exact⟨h.ok,k _ h.low,H,cP,I,O,vU,vN,vS,vM,us,h1,V.mono k,Y.mono k,h4.mono k,h5.mono k,h6.mono k,h7.mono k,h8,λi x v a c=>(h9 i x v a c).mono k⟩
def dz.size{m:Nat}(h:dz (λi=>B i\/m<=i) w b P T)(e:m=n):dz (λi=>B i\/n<=i) w b P T:=by subst e;exact h
def lC{w1 w2:World}{H I:Option Addr}{cP cT:Nat}{vL vU vN vS vM:Value}{us:List eJ}(hc:a5 P T=0)(h:jx w1 w2 b (.slice H P.length cP) (.slice I T.length cT) P T vL vU vN vS vM us T.length)(hP:RdL w1 (.slice H P.length cP) 1 encI P)(hT:RdL w1 (.slice I T.length cT) 1 encI T)(nP:∀g,(Value.slice H P.length cP).ownBlock=some g->g≠b)(nT:∀g,(Value.slice I T.length cT).ownBlock=some g->g≠b)(Kp:B b)(lP:∀g,(Value.slice H P.length cP).ownBlock=some g->B g)(lT:∀g,(Value.slice I T.length cT).ownBlock=some g->B g):dz (λi=>B i\/w1.heap.size<=i) (dq b 2 w2) b P T/\aa [b] w1 (dq b 2 w2):=by
  refine ai4 ?_;intro Kx Lc k0 k1 V;have MQ:∀r∈([JS vL (ac P),JS vM (aG P T T.length),JS vN (ao P T T.length),JS vS (aZ T T.length),eV (us.map (·.v)) vU]++us),∀g,r.v.ownBlock=some g->(B g\/w1.heap.size<=g):=λr hm g hg=> .inr ((V r hm).lt g hg).1;refine⟨⟨hc,.inl Kp,H,cP,I,cT,vU,vN,vS,vM,us.map (·.v),?_,RdQ.of (hP.turns k1 (λg hg hm=>by simp at hm;exact nP g hg hm)) (λg hg=> .inl (lP g hg)),RdQ.of (hT.turns k1 (λg hg hm=>by simp at hm;exact nT g hg hm)) (λg hg=> .inl (lT g hg)),RdQ.of ?_ (MQ (JS vN (ao P T T.length)) ahq),RdQ.of ?_ (MQ (JS vS (aZ T T.length)) ahq),RdQ.of ?_ (MQ (JS vM (aG P T T.length)) ahq),RdQ.of ?_ (MQ (eV (us.map (·.v)) vU) ahq),by simp[h.len],λi x v hi O=>?_⟩,k1⟩;. exact((h.blk.drew).set_ 2 (.int .u32 1)).set_ 3 (.int .i32 0)
  . exact dM (V (JS vN (ao P T T.length)) ahq) (by rw[cW (Nat.le_refl _)];omega)
  . exact dM (V (JS vS (aZ T T.length)) ahq) (by rw[gf];omega)
  . exact dM (V (JS vM (aG P T T.length)) ahq) (by rw[cQ];omega)
  . have h1:=V (eV (us.map (·.v)) vU) ahq;refine ajD ?_;intro e;exact h1
  . rw[List.getElem?_map]at O;cases hu:us[i]? with
    | none=>rw[hu]at O;cases O
    | some r=>rw[hu]at O;injection O with O;subst O;have OY:=h.up i x r hi hu;have Y:=V r ah2;rw[OY]at Y;refine RdQ.of (dM Y (by have:=rQ P x;omega)) (λg hg=>MQ r ah2 g ?_);rw[OY];exact hg
def jf(B:Nat->Prop)(w:World)(b:Nat)(P T:List Int)(hc:a5 P T=0)(h:gL B w b P T):E 133 #[↑b] w λe w'=>e= .returned ↑b/\dz (λi=>B i\/w.heap.size<=i) w' b P T/\aa [b] w w':=by
  have I:=h.low;obtain⟨AP,cP,AT,cT,hB,hP,hT,nP,nT,O,lT⟩:=h.ex;refine ajc ?_;intro k0 NQ Mg hf
  have Y:=qh (sK b 2 ↑b w (λw2=>dz (λi=>B i\/w.heap.size<=i) (dq b 2 w2) b P T/\aa [b] w (dq b 2 w2)) (hB.cell 2) (hB.cell 3) (hB.free 2) (hB.free 3)
    (hf.mono λe w2 ⟨he,vL,vU,vN,vS,vM,us,H⟩=>⟨he,⟨H.blk.cell 2,H.blk.cell 3,H.blk.free 2,H.blk.free 3⟩,(lC hc H NQ Mg nP nT I O lT).1.size ahq,k0.trans (lC hc H NQ Mg nP nT I O lT).2⟩))
  clear hf NQ Mg hB hP hT nP nT O lT k0 hc h I;go_enter func133,ntmps133;go_wp2_with fail;refine Y.o.mono ?_;rintro en w' ⟨rfl,w2,V,hw⟩;have HR:=qh (show dz (λi=>B i\/w.heap.size<=i) w' b P T/\aa [b] w w' by rw[hw];exact V);clear V hw;go_wp2;go_ret;exact⟨rfl,HR.o⟩
def xx(B:Nat->Prop)(w:World)(b:Nat)(P T:List Int)(hc:a5 P T=0)(i:Nat)(hi:i<T.length)(h:gL B w b P T)(x:Int)(hx:(ao P T T.length)[i]? =some x):E 100 #[↑b,J i] w λe w'=>e= returned (J x)/\dz (λi=>B i\/w.heap.size<=i) w' b P T/\aa [b] w w':=by have HF:=qh (jf B w b P T hc h);have HH:=qh (xm w b P T i true (decide_eq_true ahp) (h.tab hc));have HX:=qh hx;clear h hx;go_enter func100,ntmps100;go_wp2_with fail;refine LT HH.o ?_;go_wp2_with fail;refine HF.o.mono ?_;rintro en w1 ⟨rfl,H,t1⟩;have M1:=qh (And.intro H t1);clear t1;have V:=H.f;clear H;obtain⟨AP,cP,AT,cT,vU,vN,vS,vM,us,h1,h2,h3,I,h5,h6,h7,h8,h9⟩:=V.ex;have Y:(ao P T T.length).length=T.length:=cW (Nat.le_refl _);obtain⟨AM,cM,rfl,_,_⟩:=bX I;obtain⟨b1,o1,hA,_,O⟩:=fQ I ahp;subst hA;have q1:=O i x HX.o;have c8:=h1.cell 6;rw[Y]at *;simp only[eX]at c8;clear V h1 h2 h3 I h5 h6 h7 h8 h9 O Y;go_wp2;go_ret;exact⟨rfl,M1.o⟩
end
section
open Go Go.RowKit
theorem Tryz.infoPk:(prog.info? 58).map (λi=>(i.zero,i.size,i.bytes))=some (some (agg #[J 0,J 0]),2,16):=by kernel_rfl
def sN:∀(x:Int×Int),∀u∈jv x,u.oneCell'=true:=by intro x u h;simp[jv]at h;rcases h with rfl|rfl<;>rfl
def Ji{mf:(P T:List Int)->Nat->Nat->Nat->Nat->Nat->MS T.length}(AW:Awk 19)(NW:zR mf)(w:World)(vP:Value)(AT:Option Addr)(cT:Nat)(P T:List Int)(hP:RdL w vP 1 encI P)(hT:RdL w (.slice AT T.length cT) 1 encI T)(a0 a1 a2 a3:Nat)(h0:a0<256)(h1:a1<256)(h2:a2<256)(h3:a3<256)(hs:jP P T 8=true)(A B:Option Addr)(c d:Nat)(l0 l1:List (Int×Int))(hA:RdL w (.slice A l0.length c) 2 jv l0)(hB:RdL w (.slice B l1.length d) 2 jv l1)(nA:A=none->c=0)(nB:B=none->d=0)(hm:l0.length<=100)(hn:l1.length<=20):E 8 #[agg #[vP,.slice AT T.length cT],agg #[.int .u8 a0,.int .u8 a1,.int .u8 a2,.int .u8 a3],agg #[.slice A l0.length c,.slice B l1.length d]] w λe w'=>e= returned (bool true)/\Below w.heap.size w w':=by
  have Pq:a5 P T=0/\(T.length:Int)<=8:=of_decide_eq_true hs;obtain⟨w0,J1⟩:=LE (((w.alloc (cells #[vP,.slice AT T.length cT] 24)).alloc (cells #[.int .u8 a0,.int .u8 a1,.int .u8 a2,.int .u8 a3] 25)).alloc (cells #[.slice A l0.length c,.slice B l1.length d] 91));have Ks:=qh (show Below w.heap.size w w0 from by rw[J1];exact(((Below.refl w.heap.size w).alloc (Nat.le_refl _) _).alloc ahq _).alloc ahu _);have hX:=show Blk w0 w.heap.size 24 #[vP,.slice AT T.length cT]from by rw[J1];exact((Blk.new w 24 #[vP,.slice AT T.length cT]).alloc _).alloc _
  have NR:=show Blk w0 (w.heap.size+1) 25 #[.int .u8 a0,.int .u8 a1,.int .u8 a2,.int .u8 a3]from by rw[J1];exact(Blk.new' _ 25 #[.int .u8 a0,.int .u8 a1,.int .u8 a2,.int .u8 a3] ahq).alloc _
  have QL:=show Blk w0 (w.heap.size+2) 91 #[.slice A l0.length c,.slice B l1.length d]from by rw[J1];exact Blk.new' _ 91 #[.slice A l0.length c,.slice B l1.length d] ahq
  have Tk:=CN w0 vP _ P T (hP.below Ks.o (Nat.le_refl _)) (hT.below Ks.o (Nat.le_refl _)) 8;rw[hs]at Tk;have Vh:=qh Tk
  have HC:=qh (λW (b:Below w0.heap.size w0 W)=>show W.cell? w.heap.size=some vP/\Z W w.heap.size 1 (.slice AT T.length cT)/\Z W (w.heap.size+1) 0 (.int .u8 a0)/\Z W (w.heap.size+1) 1 (.int .u8 a1)/\Z W (w.heap.size+1) 2 (.int .u8 a2)/\W.cell? ⟨w.heap.size+1,3,none⟩=some (.int .u8 a3)from
    ⟨(hX.below b hX.lt).cell 0,(hX.below b hX.lt).cell 1,(NR.below b NR.lt).cell 0,(NR.below b NR.lt).cell 1,(NR.below b NR.lt).cell 2,(NR.below b NR.lt).cell 3⟩)
  have HD:=qh (λW (b:Below w0.heap.size w0 W)=>show Z W (w.heap.size+2) 0 (.slice A l0.length c)/\W.cell? ⟨w.heap.size+2,1,none⟩=some (.slice B l1.length d)from⟨(QL.below b QL.lt).cell 0,(QL.below b QL.lt).cell 1⟩);have RB:=qh (λW (b:Below w0.heap.size w0 W)=>And.intro (hA.below (Ks.o.trans (b.mono Ks.o.size)) (Nat.le_refl _)) (hB.below (Ks.o.trans (b.mono Ks.o.size)) (Nat.le_refl _)))
  have U8:=qh (And.intro (λq (V:(Value.slice A l0.length c).ownBlock=some q) (h:0<l0.length)=>show q<w0.heap.size from by
    have:=gY hA h V;have:=Ks.o.size
    omega) (λq (V:(Value.slice B l1.length d).ownBlock=some q) (h:0<l1.length)=>show q<w0.heap.size from by
    have:=gY hB h V;have:=Ks.o.size
    omega))
  have RN:=qh (λW (b:Below w0.heap.size w0 W)=>NW W vP AT cT P T (1+a3%13) (1+a0%5) (1+a1%5) (1+a2/4%4) (a2%4) (hP.below (Ks.o.trans (b.mono Ks.o.size)) (Nat.le_refl _)) (hT.below (Ks.o.trans (b.mono Ks.o.size)) (Nat.le_refl _)) Pq.1 ahp ahp ahp ahp ahp);have Lu:=qh (λW=>Gu W a0 a1 a2 a3 h0 h1 h2 h3);obtain⟨H,Wx⟩:=LE (mf P T (1+a0%5) (1+a1%5) (1+a2/4%4) (a2%4) (1+a3%13));rw[<-Wx]at RN;unfold spV at Lu;have XG:=qh AW;have LW:=qh (And.intro nA nB);clear hP hT hA hB nA nB hs Pq Tk AW NW hX NR QL Wx;go_enter func8,ntmps8;go_upto_region 1 with fail;rw[<-J1];clear J1;obtain⟨f0,f1,f2,f3,f4,f5⟩:=HC.o _ (Below.refl _ _);obtain⟨f6,f7⟩:=HD.o _ (Below.refl _ _);go_wp2_with fail;refine Pi Vh.o λw1 b1=>?_;have K:=qh (b1.o.drew);have JZ:=b1.o.size;clear f0 f1 f2 f3 f4 f5 f6 f7 Vh;obtain⟨f0,f1,f2,f3,f4,f5⟩:=HC.o _ K.o;go_wp2_with fail
  go_region_held3 (λW=>W.cell? w.heap.size=some vP/\Z W w.heap.size 1 (.slice AT T.length cT)/\Z W (w.heap.size+1) 0 (.int .u8 a0)/\Z W (w.heap.size+1) 1 (.int .u8 a1)/\Z W (w.heap.size+1) 2 (.int .u8 a2)/\Z W (w.heap.size+1) 3 (.int .u8 a3))
    (first|with_reducible exact HC.o _ K.o|with_reducible exact HC.o _ K2.o.1)
    (first
      | (go_at_call 21;go_loud (refine Pi (Lu.o _) λw2 b2=>?_);have K:=qh (K.o.trans (b2.o.mono K.o.size)))
      | (go_at_call 20;go_loud (refine(RN.o _ K.o).mono ?_);rintro en w3 ⟨X,lo,rfl,k3⟩;have K2:=qh (And.intro (K.o.trans (k3.2.2.2.2.2.2.mono K.o.size)) (And.intro K.o.size k3));clear k3))
  have O:=qh K2.o.2.2.1;have Y:=qh (And.intro K2.o.1.drew (Below.refl w3.heap.size w3).drew);clear f0 f1 f2 f3 f4 f5;obtain⟨f0,f1,f2,f3,f4,f5⟩:=HC.o _ Y.o.1;unfold lkP;go_wp2_with fail
  go_region_held3 (λW=>W.cell? w.heap.size=some vP/\Z W w.heap.size 1 (.slice AT T.length cT)/\Z W (w.heap.size+1) 0 (.int .u8 a0)/\Z W (w.heap.size+1) 1 (.int .u8 a1)/\Z W (w.heap.size+1) 2 (.int .u8 a2)/\Z W (w.heap.size+1) 3 (.int .u8 a3))
    (first|with_reducible exact HC.o _ Y.o.1|with_reducible exact HC.o _ K6.o.1)
    (first
      | (go_at_call 21;go_loud (refine Pi (Lu.o _) λw4 b4=>?_);have Y:=qh (And.intro (Y.o.1.trans (b4.o.mono Y.o.1.size)) (Y.o.2.trans (b4.o.mono Y.o.2.size))))
      | (go_at_call 20;go_loud (refine(RN.o _ Y.o.1).mono ?_);rintro en w5 ⟨hr,bF,rfl,k5⟩;have K6:=qh (And.intro (Y.o.1.trans (k5.2.2.2.2.2.2.mono Y.o.1.size)) (And.intro (Y.o.2.trans (k5.2.2.2.2.2.2.mono Y.o.2.size)) (And.intro Y.o.2.size k5)));clear k5))
  have H5:=qh (show WaS X hr w3.heap.size w0 w5 H.2 H.2 from by
    obtain⟨I,Ki,G,mP,MM,Kh,W5,Ox,KP⟩:=K2.o;obtain⟨MJ,Y7,Uu,G5,al,Zy,Zp,W6,ax,ab⟩:=K6.o
    exact⟨MM.below G Y7,Zy,MJ,MM.hw.2.2,⟨Nat.le_trans Uu W6.2,Nat.le_trans Uu W6.1⟩,λi hi=>Nat.le_trans Ki (Kh i hi),λi hi=>Nat.le_trans Uu (Zp i hi),I.size⟩)
  have MZ:=qh K2.o.2.2.2.1;clear f0 f1 f2 f3 f4 f5 RN Lu K K2 Y K6;obtain⟨f6,f7⟩:=HD.o _ H5.o.bel;have X0:=qh (show H.1.ok (H.1.runA H.2 l0 l0.length) l0.length from by have:=O.o.runA MZ.o l0 l0.length (by unfold lkB;omega);rwa [Nat.zero_add]at this);have bc:=H5.o.x.hw.2.2;have bw:=H5.o.y.hw.2.2;unfold lkP;go_wp2_with fail;refine(Cr O.o H5.o.x MZ.o (L:=l0) (by unfold lkB;omega) (RB.o w5 H5.o.bel).1 (λhl q V m=>by have:=U8.o.1 q V hl;have:=H5.o.fx q m;omega)).mono ?_;rintro en w6 ⟨va,rfl,ra,oa,k6,t6⟩;have bA:=t6.size;have H6:=qh (H5.o.actX O.o t6 k6);have RS:=qh (And.intro ra (show ∀q,va.ownBlock=some q->X.hi<=q/\hr.hi<=q from λq V=>by have:=oa q V;omega));clear ra oa k6 t6 f6 f7;obtain⟨f6,f7⟩:=HD.o _ H6.o.bel;obtain⟨i0,hi,J5,J7,J2⟩:=info_parts Tryz.infoPk;refine ajg ?_;intro HI;clear hi J5 J7 J2;go_wp2_with (at_builtin;refine kA rfl _ _ 46 rfl w6.heap.size 58 i0 (agg #[J 0,J 0]) 2 16 Tryz.underlying46 HI.o.1 HI.o.2.1 HI.o.2.2.1 HI.o.2.2.2 rfl ahr _ 0 [] rfl (World.ownsRow_nil _ _ _ _) ox sN A l0.length c rfl (RB.o w6 H6.o.bel).1 LW.o.1 ?c1 ?c2 (Nat.le_refl _) ?_);case c1=>unfold maxLen;omega
  case c2=>omega
  intro v7 w7 r7 g7;have T7:=qh (show aa [] w6 w7 from(aa.refl _ _).grownRow g7 (λj hj=>by cases hj));have H7:=qh (H6.o.old O.o T7.o);have R7:=qh r7;obtain⟨A7,c7,rfl⟩:=a8 r7;have L8:=T7.o.size;clear r7 g7 f6 f7;obtain⟨f6,f7⟩:=HD.o _ H7.o.bel;go_wp2_with (at_builtin;refine kA rfl _ _ 46 rfl w6.heap.size 58 i0 (agg #[J 0,J 0]) 2 16 Tryz.underlying46 HI.o.1 HI.o.2.1 HI.o.2.2.1 HI.o.2.2.2 rfl ahr _ l0.length _ rfl R7.o ox sN B l1.length d rfl (RB.o w7 H7.o.bel).2 LW.o.2 ?c1 ?c2 L8 ?_);case c1=>unfold maxLen;omega
  case c2=>omega
  intro v8 w8 r8 g8;have T8:=qh (show aa [] w6 w8 from T7.o.grownRow g8 (λj hj=>(R7.o.lt j hj).1));have H8:=qh (H6.o.old O.o T8.o)
  have R8:=qh (show RdL w8 v8 2 jv (l0++l1)/\(∀q,v8.ownBlock=some q->w6.heap.size<=q)/\RdL w8 va 4 encE (H.1.evs H.2 l0)from by
    rw[<-List.flatMap_append]at r8
    exact⟨RdL.of_own ox ahq ahu r8,λq V=>(r8.lt q V).1,RS.o.1.farT T8.o ahq⟩)
  obtain⟨A8,c8,rfl⟩:=a8 r8;have WS:=T8.o.size;clear r8 g8 f6 f7 T7 H7 R7;go_wp2_with fail;refine(Cr O.o H8.o.y MZ.o (L:=l0++l1) (by simp[lkB];omega) R8.o.1 (λ_ q V m=>by have:=R8.o.2.1 q V;have:=H5.o.y.lo O.o q m;omega)).mono ?_;rintro en w9 ⟨vb,rfl,rb,ob,k9,t9⟩;have Z7:=t9.size;have H9:=qh (H8.o.actY O.o t9 k9);have R9:=qh (And.intro rb (And.intro ob (R8.o.2.2.farT t9 (λq V m=>by have:=RS.o.2 q V;have:=H5.o.y.lo O.o q m;omega))));clear rb ob k9 t9;obtain⟨f6,f7⟩:=HD.o _ H9.o.bel;go_wp2_with fail;refine(Cr O.o H9.o.x X0.o (L:=l1) (by unfold lkB;omega) (RB.o w9 H9.o.bel).2 (λhl q V m=>by have:=U8.o.2 q V hl;have:=H5.o.fx q m;omega)).mono ?_;rintro en w10 ⟨vc,rfl,rc,oc,Xg,Rr⟩
  have Nj:=qh (show WaS X hr w3.heap.size w0 w10 (H.1.runA H.2 (l0++l1) (l0++l1).length) (H.1.runA H.2 (l0++l1) (l0++l1).length)from by
    have:=H9.o.actX O.o Rr Xg
    rwa [<-tY]at this)
  have OI:=qh (show RdL w10 va 4 encE (H.1.evs H.2 l0)/\RdL w10 vb 4 encE (H.1.evs H.2 l0++H.1.evs (H.1.runA H.2 l0 l0.length) l1)/\RdL w10 vc 4 encE (H.1.evs (H.1.runA H.2 l0 l0.length) l1)from by
    refine⟨R9.o.2.2.farT Rr (λq V m=>?_),?_,rc⟩;. have:=RS.o.2 q V;have:=H5.o.x.lo O.o q m;omega
    . rw[<-uQ]
      exact R9.o.1.farT Rr (λq V m=>by have:=R9.o.2.1 q V;have:=H5.o.x.lo O.o q m;omega))
  clear rc oc Xg Rr f6 f7 R9 R8 RS H9 H8 H6 H5;obtain⟨EA,TG⟩:=LE (H.1.evs H.2 l0);obtain⟨EC,TH⟩:=LE (H.1.evs (H.1.runA H.2 l0 l0.length) l1);obtain⟨sF,WT⟩:=LE (H.1.runA H.2 (l0++l1) (l0++l1).length);rw[<-TG,<-TH]at OI;rw[<-WT]at Nj;have la:EA.length=l0.length:=by rw[TG,qN]
  have lc:EC.length=l1.length:=by rw[TH,qN]
  obtain⟨Aa,ca,rfl,-,-,-⟩:=id OI.o.1;obtain⟨Ab,cb,rfl,QR,-,-⟩:=id OI.o.2.1;obtain⟨Ac,cc,rfl,-,-,-⟩:=id OI.o.2.2;simp only[List.length_append]at *;have ad:((l0.length+l1.length:Nat):Int)=((EA.length+EC.length:Nat):Int):=by omega
  have Ud:((l0.length:Nat):Int)=((EA.length:Nat):Int):=by omega
  have HL:=qh (And.intro la lc);clear la lc TG TH WT;obtain⟨f6,f7⟩:=HD.o _ Nj.o.bel;go_wp2_with fail;refine(rF w10 _ _ EA OI.o.1 (by have:=OI.o.2.1.take_ EA.length ahq cb ahp;rwa [List.take_left]at this)).mono ?_;rintro en w11 ⟨rfl,SP⟩;have MX:=qh (And.intro (Nj.o.below O.o (SP.below _)) (And.intro (OI.o.2.1.below (SP.below _) (Nat.le_refl _)) (OI.o.2.2.below (SP.below _) (Nat.le_refl _))));clear SP;go_wp2_with fail;all_goals refine(rF w11 _ _ EC MX.o.2.2 (by first|exact MX.o.2.1.drop_.1|exact MX.o.2.1.drop_.2 ahp)).mono ?_;rintro en w12 ⟨rfl,Xq⟩;have PI:=qh (MX.o.1.below O.o (Xq.below _));clear Xq;go_wp2_with fail;refine(C5 O.o PI.o.x).mono ?_;rintro en w13 ⟨vx,rfl,rx,-,PM⟩;have Mq:=qh (And.intro (PI.o.below O.o PM) rx);clear PM rx;go_wp2_with fail;refine(C5 O.o Mq.o.1.y).mono ?_;rintro en w14 ⟨vy,rfl,ry,-,Tv⟩;have SU:=qh (And.intro (Mq.o.1.below O.o Tv) (And.intro (Mq.o.2.below Tv (Nat.le_refl _)) ry));clear Tv ry;go_wp2_with fail;refine Pi (mK _ _ _ _ _ SU.o.2.1 SU.o.2.2) λw15 Xs=>?_;have PJ:=qh (SU.o.1.below O.o (Xs.o.below _));rw[decide_eq_true rfl];go_wp2_with fail;refine LT (Gi O.o PJ.o.x) ?_;go_wp2_with fail;refine LT (Gi O.o PJ.o.y) ?_;go_wp2_with fail;refine Pi (XG.o _) λw17 Vt=>?_;have XA:=qh (Ks.o.trans ((PJ.o.bel.trans (Vt.o.mono PJ.o.bel.size)).mono Ks.o.size));go_wp2;go_ret;exact⟨rfl,XA.o⟩
end
section
open Go.RowKit
variable{k:Nat}{x:Int}
def vD(w:World)(b:Nat)(P T:List Int)(R:World->Prop)(H:∀w1,R w1->iC w1 b P T)(I:E 133 #[↑b] w λe w'=>e= .returned ↑b/\R w'):E 137 #[↑b] w λe w'=>e= returned (J ((ac P).length:Nat))/\R w':=by have O:=qh I;have Y:=qh H;clear I H;go_enter func137,ntmps137;go_wp2_with fail;refine Pi O.o λw' V=>?_;have M1:=qh V.o;obtain⟨AP,cP,AT,cT,vU,vN,vS,vM,us,h1,h2,h3,h4,h5,h,h7,h8,h9⟩:=(Y.o _ V.o).ex;obtain⟨AM,cM,rfl,_,_⟩:=bX h;have c8:=h1.cell 8;simp only[eX,cQ]at c8;clear h1 h2 h3 h4 h5 h h7 h8 h9;go_wp2;go_ret;exact⟨rfl,M1.o⟩
def Cc(w:World)(b:Nat)(P T:List Int)(hc:a5 P T=0)(R:World->Prop)(I:∀w1,R w1->iC w1 b P T)(hf:E 133 #[↑b] w λe w'=>e= .returned ↑b/\R w')(O:(ac P)[k]? =some x):E 138 #[↑b,J k] w λe w'=>e= returned (J ((T.count x:Nat):Int))/\R w':=by
  have Y:=qh (vD w b P T R I hf);have LX:=qh I;have Lc:(ac P).length<=32:=by have h1:=(bi (aQ hc).1).2.1;have:=a6 P P.length;show(ak P P.length).length<=_;omega
  have Lf:=(List.getElem?_eq_some_iff.1 O).1
  have HX:Kq ((aG P T T.length)[k]? =some ((T.count x:Nat):Int)):=qh (by
    unfold aG
    rw[List.take_length,List.getElem?_map,O];rfl)
  obtain⟨L,H⟩:=LE ((ac P).length);rw[<-H]at Y Lc Lf;have HL:=qh H;clear I hf O H hc;go_enter func138,ntmps138;go_wp2_with fail;refine Pi Y.o λw1 V=>?_;have M1:=qh V.o;have HF:=qh (eT w1 b P T (LX.o _ V.o));go_wp2_with fail;refine LT HF.o ?_;obtain⟨AP,cP,AT,cT,vU,vN,vS,vM,us,h1,h2,h3,h4,h5,h,h7,h8,h9⟩:=(LX.o _ M1.o).ex;have hl:(aG P T T.length).length=L:=by rw[cQ];exact HL.o.symm
  obtain⟨AM,cM,rfl,_,_⟩:=bX h;obtain⟨b1,o1,hA,_,Lh⟩:=fQ h ahp;subst hA;have q1:=Lh k _ HX.o;have c8:=h1.cell 8;rw[hl]at *;simp only[eX]at c8;clear h1 h2 h3 h4 h5 h h7 h8 h9 Lh hl;go_wp2;go_ret;exact⟨rfl,M1.o⟩
def Cb(B:Nat->Prop)(w:World)(b:Nat)(P T:List Int)(hc:a5 P T=0)(h:gL B w b P T)(H:(ac P)[k]? =some x):E 138 #[↑b,J k] w λe w'=>e= returned (J ((T.count x:Nat):Int))/\dz (λi=>B i\/w.heap.size<=i) w' b P T/\aa [b] w w':=
  Cc w b P T hc (λw'=>dz (λi=>B i\/w.heap.size<=i) w' b P T/\aa [b] w w') (λ_ h=>h.1.f) (jf B w b P T hc h) H
def Ca(w:World)(b:Nat)(P T:List Int)(h:iC w b P T)(H:(ac P)[k]? =some x):E 138 #[↑b,J k] w λe w'=>e= returned (J ((T.count x:Nat):Int))/\w=w':=
  Cc w b P T h.ok (λw'=>w=w') (λ_ e=>e ▸ h) (eT w b P T h) H
def E5(w:World)(b:Nat)(P T:List Int)(i:Nat)(hi:i<T.length)(h:iC w b P T):E 143 #[↑b,J i] w λe w'=>e= returned (J (cE T i))/\w=w':=by have V:=qh (eT w b P T h);have Y:=qh (xm w b P T i true (decide_eq_true ahp) h.tab);have HX:Kq ((aZ T T.length)[i]? =some (cE T i)):=qh (by unfold aZ;simp[hi]);have M1:=qh h;clear h;go_enter func143,ntmps143;go_wp2_with fail;refine LT Y.o ?_;go_wp2_with fail;refine LT V.o ?_;obtain⟨AP,cP,AT,cT,vU,vN,vS,vM,us,h1,h2,h3,h4,H,h6,h7,h8,h9⟩:=M1.o.ex;have O:(aZ T T.length).length=T.length:=gf _ _;obtain⟨AM,cM,rfl,_,_⟩:=bX H;obtain⟨b1,o1,hA,_,I⟩:=fQ H ahp;subst hA;have q1:=I i _ HX.o;have c8:=h1.cell 7;rw[O]at *;simp only[eX]at c8;clear h1 h2 h3 h4 H h6 h7 h8 h9 I O;go_wp2;go_ret;exact⟨rfl,rfl⟩
def JP(w:World)(b:Nat)(P T:List Int)(k:Nat)(x:Int)(H:T[k]? =some x)(h:iC w b P T):E 142 #[↑b,J k] w λe w'=>∃v,e= returned v/\w'.ownsRow w.heap.size 3 1 v (upL P x).length ((upL P x).flatMap encI)/\Below w.heap.size w w':=by
  have hk:=(List.getElem?_eq_some_iff.1 H).1;have Y:=qh (xm w b P T k true (decide_eq_true ahp) h.tab);have O:=qh (eT w b P T h);have ab:(upL P x).length<=32:=by have h1:=(bi (aQ h.ok).1).2.1;have:=rQ P x;omega
  obtain⟨b1,o1,cu,A,c,c5,ad,V,Wc,Kg⟩:=h.upAt H;have HR:=qh V;clear h H V;go_enter func142,ntmps142;go_wp2_with fail;refine LT Y.o ?_;go_wp2_with fail;refine LT O.o ?_;go_wp2_with fail;refine(lQ _ _ (upL P x) HR.o ahp).mono ?_;rintro en w2 ⟨v2,rfl,o2,b2⟩;have I:=qh (And.intro o2 b2);clear o2 b2;go_wp2;go_ret;exact⟨_,rfl,I.o.1,I.o.2⟩
def RdQ.lt{α:Type}{enc:α->List Value}{l:List α}(h:RdQ B w v sz enc l):RdQ (λi=>B i/\i<w.heap.size) w v sz enc l:=⟨h.1,λH g hg=>⟨h.2 H g hg,gY h.1 H hg⟩⟩
def dz.lt(h:dz B w b P T):dz (λi=>B i/\i<w.heap.size) w b P T:=by obtain⟨H,cP,I,O,vU,vN,vS,vM,us,h1,V,Y,h4,h5,h6,h7,h8,h9⟩:=h.ex;exact⟨h.ok,⟨h.low,h1.lt⟩,H,cP,I,O,vU,vN,vS,vM,us,h1,V.lt,Y.lt,h4.lt,h5.lt,h6.lt,h7.lt,h8,λi x v a c=>(h9 i x v a c).lt⟩
end
section
open Go.RowKit
def gc(P T:List Int)(n:Nat):Nat:=(fD (ac P) (T.getD n 0)).toNat
def aa.cellQ(k:aa S w w'){p:Addr}{u:Value}(h:w.cell? p=some u)(hS:p.block∉S):w'.cell? p=some u:=by exact aa1
def aa.grownByQ{row:Option Nat}(h:w.grownBy w' row):aa row.toList w w':=
 ⟨h.os,h.tape,h.output,h.size,λi hi hn=>h.block i hi aii⟩
def rB(u:Value)(n:Nat):(madeCells #[u,u,u,u] n).toList=List.replicate n u:=by exact aav
def vO(n:Nat):(List.replicate n Sp.zero).flatMap bf=List.replicate (n*4) (J 0):=by exact aaw
theorem Tryz.infoNd:(prog.info? 243).map (λi=>(i.zero,i.size,i.bytes))=some (some (agg #[.pointer none,J 0]),2,16):=by kernel_rfl
def qi(B:Nat->Prop)(w:World)(b:Nat)(P T:List Int)(hc:a5 P T=0)(h:gL B w b P T):E 137 #[↑b] w λe w'=>e= returned (J ((ac P).length:Nat))/\dz (λi=>B i\/w.heap.size<=i) w' b P T/\aa [b] w w':=
  vD w b P T (λw'=>dz (λi=>B i\/w.heap.size<=i) w' b P T/\aa [b] w w') (λ_ h=>h.1.f) (jf B w b P T hc h)
def lp(w:World)(b:Nat)(P T:List Int)(h:iC w b P T):E 137 #[↑b] w λe w'=>e= returned (J ((ac P).length:Nat))/\w=w':=
  vD w b P T (λw'=>w=w') (λ_ e=>e ▸ h) (eT w b P T h)
def coC(a b:Nat)(G L par bud:Int)(gp nd sp:Value):Array Value:=#[↑a,↑b,J G,J L,J par,J bud,gp,nd,sp]
end
end Go.Proofs.YtglokdbiggbkjaaGreat
