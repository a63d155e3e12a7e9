/- Joined texts. -/
import Derived.Deep.RegionLaw
import Derived.Deep.AppendLies
import Derived.Deep.DeepCutAuto
import Derived.Laws.AppendOwnNone
import Derived.Test.YtglokdbiggbkjaaGreatMgBoltLoops0
import Derived.Test.YtglokdbiggbkjaaGreatMgBoltLoops2
import Derived.Test.YtglokdbiggbkjaaGreatMgBoltLoops3
set_option linter.unusedVariables false
set_option linter.unusedSimpArgs false
set_option linter.defProp false
set_option maxRecDepth 100000
set_option maxHeartbeats 16000000
open Go.Proofs.Tryz
namespace Go.Proofs.YtglokdbiggbkjaaGreat
open Go.IntKind(i64)
open Go.Value(int bool slice agg tuple pointer)
open Go.Ending(returned)
open Go.Obj(cells)
variable{w w' w0:World}{sz B b n' j k nd lo cT bb r:Nat}{S:List Nat}{v' vL vN vS:Value}{xs':List Value}{P T:List Int}{p x kd t:Int}{pl:List (Int×Int)}
section
open Go.RowKit
def du(b off:Nat)(w2:World):World:=(w2.drew.setCell ⟨b,off,none⟩ (.int .u32 1)).setCell ⟨b,off+1,none⟩ (.int .i32 0)
structure sr(b off:Nat)(w:World):Prop where
 c0:w.cell? ⟨b,off,none⟩=some (.int .u32 0)
 c1:w.cell? ⟨b,off+1,none⟩=some (.int .i32 1)
 f0:w.frozen? ⟨b,off,none⟩=false
 f1:w.frozen? ⟨b,off+1,none⟩=false
def CX(b off H:Nat)(x:Value)(w:World)(R:World->Prop)(h0:Z w b off (.int .u32 0))(h1:Z w b (off+1) (.int .i32 0))(f0:w.frozen? ⟨b,off,none⟩=false)(f1:w.frozen? ⟨b,off+1,none⟩=false)(Zy:H=170)(hc:E 170 #[x] (w.setCell ⟨b,off+1,none⟩ (.int .i32 1)) λe w2=>e= returned (tuple #[])/\sr b off w2/\R w2):E 184 #[pointer (some ⟨b,off,none⟩),.func (.func H) #[x] #[]] w λe w'=>e= returned (tuple #[])/\∃w2,R w2/\w'=du b off w2:=by
  subst Zy;have I:=qh hc;have V:=qh (mj ⟨b,off,none⟩ 0 (w.setCell ⟨b,off+1,none⟩ (.int .i32 1)) ((World.cell?_setCell_other _ ⟨b,off+1,none⟩ ⟨b,off,none⟩ _ ahC).trans h0));clear hc;go_enter_defers func184,ntmps184;go_wp2_with fail;refine LT (zf ⟨b,off+1,none⟩ _ h1 f1) ?_;go_wp2_with fail;refine LT V.o ?_;go_wp2_with fail;refine Op I.o λw2 h=>?_;go_wp2;refine leaves_cons (f:=194) (args:=#[pointer (some ⟨b,off,none⟩),bool true]) ahC (by simp[go_sem]) ?_;refine(pI ⟨b,off,none⟩ (.int .u32 0) .returning _ h.o.1.c0 h.o.1.f0).mono ?_;rintro e u' Y ⟨rfl,rfl,rfl⟩;refine leaves_cons (f:=193) (args:=#[pointer (some ⟨b,off+1,none⟩)]) (by simp[settle]) (by simp[go_sem]) ?_;refine(m8 ⟨b,off+1,none⟩ _ _ ?_ ?_).mono ?_;. exact(World.cell?_setCell_other _ ⟨b,off,none⟩ ⟨b,off+1,none⟩ _ ahC).trans h.o.1.c1
  . have:=h.o.1.f1;simp[this]
  rintro e u' Y ⟨rfl,rfl,rfl⟩;have O:∃w3,R w3/\(w2.drew.setCell ⟨b,off,none⟩ (.int .u32 1)).setCell ⟨b,off+1,none⟩ (.int .i32 0)=du b off w3:=⟨w2,h.o.2,rfl⟩;simp[Leaves,settle,results,Tryz.results184];exact O
def sY(b off:Nat)(x:Value)(w:World)(R:World->Prop)(H:Z w b off (.int .u32 0))(h1:Z w b (off+1) (.int .i32 0))(f0:w.frozen? ⟨b,off,none⟩=false)(f1:w.frozen? ⟨b,off+1,none⟩=false)(hc:E 170 #[x] (w.setCell ⟨b,off+1,none⟩ (.int .i32 1)) λe w2=>e= returned (tuple #[])/\sr b off w2/\R w2):E 169 #[pointer (some ⟨b,off,none⟩),.func (.func 170) #[x] #[]] w λe w'=>e= returned (tuple #[])/\∃w2,R w2/\w'=du b off w2:=by have O:=qh (CX b off _ x w R H h1 f0 f1 rfl hc);have I:=qh (mj ⟨b,off,none⟩ 0 w H);clear hc;go_enter func169,ntmps169;go_wp2_with fail;refine LT I.o ?_;go_wp2_with fail;refine Op O.o λw' h=>?_;go_wp2;first|(go_end0;exact⟨rfl,h.o⟩)|exact bodyPost_ret (results_none rfl _ _ _) rfl ⟨rfl,h.o⟩
def DO(b off:Nat)(H:Value)(w:World)(I:Z w b off (.int .u32 1)):E 169 #[pointer (some ⟨b,off,none⟩),H] w λe w'=>e= returned (tuple #[])/\w=w':=by have h:=qh (mj ⟨b,off,none⟩ 1 w I);go_enter func169,ntmps169;go_wp2_with fail;refine LT h.o ?_;go_wp2;first|(go_end0;exact⟨rfl,rfl⟩)|exact bodyPost_ret (results_none rfl _ _ _) rfl ⟨rfl,rfl⟩
end
section
open Go.RowKit
def yV(l:List Int):∀u∈l.flatMap encI,u.oneCell'=true:=by intro u h;rw[iQ]at h;obtain⟨x,_,rfl⟩:=List.mem_map.1 h;rfl
def Cg(w:World):(w.alloc (cells #[] 3)).ownsRow w.heap.size 3 1 (slice (some ⟨w.heap.size,0,none⟩) 0 0) 0 []:=by exact aae
def mp(w:World)(v:Value)(l:List Int)(h:RdL w v 1 encI l)(ad:l.length<=1000):E 78 #[v] w λe w'=>∃v',e= returned v'/\w'.ownsRow w.heap.size 3 1 v' l.length (l.flatMap encI)/\Below w.heap.size w w':=by
  obtain⟨i0,hi,Kr,Ku,hz2⟩:=info_parts Tryz.infoIn;refine ajB ?_;intro HI;clear hi Kr Ku hz2;have HR:=qh h;obtain⟨A,cap,rfl,l1,l2,I⟩:=h;cases A with
  | none=>have hl:l=[]:=(by exact aaf);subst hl;clear I HR;simp only[List.length_nil];have Y:=Lib.run_eql_slice_nil w 22 3 none 0 cap 0 0 Tryz.underlying22;simp only[Option.isNone]at Y;go_enter func78,ntmps78;go_wp2;go_ret;exact⟨_,rfl,World.ownsRow_nil _ _ _ _,Below.refl _ _⟩
  | some O=>
    have HN:=qh (show ∀(j:Nat) (u:Value),(l.flatMap encI)[j]? =some u->w.cell? (O.add j)=some u from by
      intro j u H;have V:j<l.length:=(by have:=(List.getElem?_eq_some_iff.1 H).1;rw[iQ]at this;simpa using this);obtain⟨b,off,e,_,hc⟩:=I ahB;injection e with e;subst e;obtain⟨x,hx⟩:=ai V;have h1:=hc j x hx 0 _ rfl;rw[iQ]at H;simp[hx]at H;subst H;have e2:(⟨b,off,none⟩:Addr).add j=⟨b,off+j,none⟩:=(by unfold Addr.add;by_cases ab:j=0<;>simp[ab]);rw[e2]
      simpa using h1)
    have Lz:(l.flatMap encI).length=l.length*1:=(by rw[iQ];simp);have Y:=Lib.run_eql_slice_nil w 22 3 (some O) l.length cap 0 0 Tryz.underlying22;simp only[Option.isNone]at Y;clear I;go_enter func78,ntmps78;go_wp2_with (at_builtin;go_loud (refine wpList_append_own _ rfl _ _ 22 rfl w.heap.size 3 i0 (J 0) 1 8 Tryz.underlying22 HI.o.1 HI.o.2.1 HI.o.2.2.1 HI.o.2.2.2 rfl ahD _ 0 [] rfl (Cg w) O l.length cap (l.flatMap encI) rfl Lz ?c1 (yV l) ?c3 ?c4 ?c5 ?_));case c1=>exact λj u H=>(World.cell?_alloc_lt _ _ _ (by have:=aI (HN.o j u H);exact this)).trans (HN.o j u H)
    case c3=>unfold maxLen;omega
    case c4=>omega
    case c5=>simp
    intro v' w' MO MJ OR;have HO:=qh (And.intro MO MJ);clear MO MJ OR;go_wp2;go_ret;exact⟨_,rfl,by have:=HO.o.1;simpa using this,(((Below.refl _ _).alloc (Nat.le_refl _) _).grown HO.o.2 ahC (λj V=>by simp[Value.ownBlock]at V;omega))⟩
end
section
open Go.RowKit
def RdL.turns{α:Type}{v:Value}{enc:α->List Value}{l:List α}(h:RdL w v sz enc l)(k:aa S w w')(hn:∀g,v.ownBlock=some g->g∉S):RdL w' v sz enc l:=by obtain⟨A,cap,rfl,H,I,O⟩:=h;refine⟨A,cap,rfl,H,I,λY=>?_⟩;obtain⟨b,off,rfl,hb,hc⟩:=O Y;have V:b∉S:=hn b rfl;refine⟨b,off,rfl,Nat.lt_of_lt_of_le hb k.size,λi x hx j u hu=>?_⟩;rw[World.cell?_of_block (w:=w) (w':=w') (a:=⟨b,off+i*sz+j,none⟩) (k.block b hb V)];exact hc i x hx j u hu
def rG:Value:= .slice none 0 0
structure JJ(w:World)(b:Nat)(P T:List Int):Prop where
 ex:∃AP cP AT cT,Blk w b 213 #[.slice AP P.length cP,.slice AT T.length cT,.int .u32 0,.int .i32 0,.int .u32 0,.slice none 0 0,.slice none 0 0,.slice none 0 0,.slice none 0 0]/\RdL w (.slice AP P.length cP) 1 encI P/\RdL w (.slice AT T.length cT) 1 encI T/\(∀g,(Value.slice AP P.length cP).ownBlock=some g->g≠b)/\(∀g,(Value.slice AT T.length cT).ownBlock=some g->g≠b)
end
section
open Go.RowKit
structure eV where
 e:TypeId
 v:Value
 n:Nat
 xs:List Value
structure gn(w:World)(B b:Nat)(l:List eV):Prop where
 own:∀r∈l,w.ownsRow B r.e 1 r.v r.n r.xs
 ne:∀(i j:Nat) (r s:eV),l[i]? =some r->l[j]? =some s->i≠j->∀g,r.v.ownBlock=some g->s.v.ownBlock≠some g
 nb:∀r∈l,r.v.ownBlock≠some b
section
variable{l:List eV}
def gn.below(h:gn w B b l)(k:Below w.heap.size w w'):gn w' B b l:=⟨λr I=>i8 (h.own r I) k,h.ne,h.nb⟩
def gn.turn(h:gn w B b l)(k:aa [b] w w'):gn w' B b l:=
 ⟨λr I=>aa.own (h.own r I) k (λg hg hm=>h.nb r I (by simp at hm;rw[<-hm];exact hg)),h.ne,h.nb⟩
def gn.app(h:gn w B b l){i:Nat}{r:eV}(hi:l[i]? =some r)(hb:b<w.heap.size)(hg:w.grownBy w' r.v.ownBlock)(V:w'.ownsRow B r.e 1 v' n' xs')(Oj:v'.ownBlock=r.v.ownBlock\/∃g,w.heap.size<=g/\v'.ownBlock=some g):gn w' B b (l.set i ⟨r.e,v',n',xs'⟩):=by
  have MV:i<l.length:=(List.getElem?_eq_some_iff.1 hi).1;have I':∀s∈l,∀g,s.v.ownBlock=some g->g<w.heap.size:=λs hs g hg=>((h.own s hs).lt g hg).2
  have MC:∀(j:Nat) (s:eV),(l.set i ⟨r.e,v',n',xs'⟩)[j]? =some s->(j=i/\s=⟨r.e,v',n',xs'⟩)\/(j≠i/\l[j]? =some s):=λj s H=>by
    rw[List.getElem?_set]at H;by_cases e:i=j;. subst e;rw[if_pos rfl,if_pos MV]at H;injection H with H;exact .inl ⟨rfl,H.symm⟩
    . rw[if_neg e]at H;exact .inr ⟨λh=>e h.symm,H⟩
  have SD:∀(j:Nat) (s:eV),l[j]? =some s->j≠i->w'.ownsRow B s.e 1 s.v s.n s.xs:=λj s H I=>by
    cases O:r.v.ownBlock with
    | none=>rw[O]at hg;exact aa.own (S:=[]) (h.own s (List.mem_of_getElem? H)) ⟨hg.os,hg.tape,hg.output,hg.size,λi hi _=>hg.block i hi ahC⟩ (λ_ _=>by simp)
    | some g=>
      rw[O]at hg
      exact aa.own (h.own s (List.mem_of_getElem? H)) (aa.grown hg) (λg' On hm=>by
        simp at hm;subst hm
        exact h.ne i j r s hi H (λe=>I e.symm) g' O On)
  have Ut:∀g,v'.ownBlock=some g->r.v.ownBlock=some g\/w.heap.size<=g:=λg On=>by
    rcases Oj with e|⟨c,hc,e⟩
    . exact .inl (by rw[<-e];exact On)
    . rw[e]at On;injection On with On;exact .inr ahB
  refine⟨λs hs=>?_,λj k s t H hk I g Re LQ=>?_,λs hs Ls=>?_⟩
  . obtain⟨j,H⟩:=List.getElem?_of_mem hs;rcases MC j s H with⟨rfl,rfl⟩|⟨e,MM⟩
    . exact V
    . exact SD j s MM e
  . rcases MC j s H with⟨rfl,rfl⟩|⟨e1,MM⟩
    . rcases MC k t hk with⟨rfl,rfl⟩|⟨e2,KL⟩
      . exact I rfl
      . rcases Ut g Re with Y|Y
        . exact h.ne j k r t hi KL I g Y LQ
        . have:=I' t (List.mem_of_getElem? KL) g LQ;omega
    . rcases MC k t hk with⟨rfl,rfl⟩|⟨e2,KL⟩
      . rcases Ut g LQ with Y|Y
        . exact h.ne j k s r MM hi I g Re Y
        . have:=I' s (List.mem_of_getElem? MM) g Re;omega
      . exact h.ne j k s t MM KL I g Re LQ
  . obtain⟨j,H⟩:=List.getElem?_of_mem hs;rcases MC j s H with⟨rfl,rfl⟩|⟨e,MM⟩
    . rcases Ut b Ls with Y|Y
      . exact h.nb r (List.mem_of_getElem? hi) Y
      . omega
    . exact h.nb s (List.mem_of_getElem? MM) Ls
def gn.push(h:gn w B b l)(e:TypeId):gn w B b (l++[⟨e,.slice none 0 0,0,[]⟩]):=by
 have V:∀(j:Nat) (s:eV),(l++[⟨e,.slice none 0 0,0,[]⟩])[j]? =some s->l[j]? =some s\/s=⟨e,.slice none 0 0,0,[]⟩:=λj s H=>by
  rw[List.getElem?_append]at H;split at H;.exact .inl H
  .rw[List.getElem?_singleton]at H;split at H;.injection H with H;exact .inr H.symm
   .cases H
 refine⟨λr I=>?_,λi j r s hi H O g h1 Y=>?_,λr I=>?_⟩
 .rcases List.mem_append.1 I with I|I
  .exact h.own r I
  .simp at I;subst I;exact World.ownsRow_nil _ _ _ _
 .rcases V i r hi with a|a
  .rcases V j s H with c|c
   .exact h.ne i j r s a c O g h1 Y
   .subst c;cases Y
  .subst a;cases h1
 .rcases List.mem_append.1 I with I|I
  .exact h.nb r I
  .simp at I;subst I;simp[Value.ownBlock]
end
def upF(P:List Int):Nat->Int->List Int
 |0,_=>[]
 |f+1,v=>if 0<=v/\v<P.length then v :: upF P f (P.getD v.toNat 0)else[]
def upL(P:List Int)(v:Int):List Int:=upF P P.length v
def aq(P T:List Int)(k:Nat):List Int:=(T.take k).map (fQ (ac P))
def cO(T:List Int)(i:Nat):Int:=(((T.take i).count (T.getD i 0):Nat):Int)
def a6(T:List Int)(k:Nat):List Int:=(List.range k).map (cO T)
def aH(P T:List Int)(k:Nat):List Int:=(ac P).map λleaf=>(((T.take k).count leaf:Nat):Int)
def pO{P:List Int}(h:dW P=true):∀(f:Nat) (v:Int),v<f->∀g:Nat,v<g->upF P f v=upF P g v
 |0,v,O,g,hg=>by
  cases g with
  |zero=>rfl
  |succ g=>unfold upF;rw[if_neg ahB]
 |f+1,v,O,g,hg=>by
  cases g with
  |zero=>unfold upF;rw[if_neg ahB]
  |succ g=>
   unfold upF;split;.rename_i hb;obtain⟨p,H⟩:=ai (show v.toNat<P.length by omega);have:=gL h H;rw[bm H,pO h f p ahB g ahB]
   .rfl
def gA(h:dW P=true){v:Nat}(H:P[v]? =some p):upL P v=(v:Int) :: upL P p:=by
 have I:=(List.getElem?_eq_some_iff.1 H).1;have O:=gL h H;unfold upL;rw[pO h P.length v ahB (v+1) ahB];show(if 0<=(v:Int)/\(v:Int)<P.length then(v:Int) :: upF P v (P.getD (v:Int).toNat 0)else[])=_;rw[if_pos ahB,Int.toNat_natCast,bm H];by_cases V:0<=p;.rw[pO h v p ahB P.length ahB]
 .cases v with
  |zero=>show _ :: []=_ :: upF P P.length p;exact aag
  |succ v=>
   cases hn:P.length with
   |zero=>omega
   |succ n=>unfold upF;rw[if_neg ahB,if_neg ahB]
def yc(h:p<0):upL P p=[]:=by unfold upL;exact aag
end
section
open Go.RowKit
variable{α:Type}
def fj(vP vT:Value)(d m:Int)(vU vN vS vM:Value):Array Value:=#[vP,vT,.int .u32 d,.int .i32 m,.int .u32 0,vU,vN,vS,vM]
def Kf(v:Value)(l:List Int):eV:=⟨3,v,l.length,l.flatMap encI⟩
def fh(us:List Value)(v:Value):eV:=⟨22,v,us.length,us⟩
structure jD(w0 w:World)(b:Nat)(vP vT:Value)(P T:List Int)(vL vU vN vS vM:Value)(us:List eV)(k:Nat):Prop where
 blk:Blk w b 213 (fj vP vT 0 1 vU vN vS vM)
 rows:gn w w0.heap.size b ([Kf vL (ac P),Kf vM (aH P T k),Kf vN (aq P T k),Kf vS (a6 T k),fh (us.map (·.v)) vU]++us)
 len:us.length=k
 up:∀(i:Nat) (x:Int) (r:eV),T[i]? =some x->us[i]? =some r->r=Kf r.v (upL P x)
 bel:aa [b] w0 w
def vZ(P T:List Int):(aH P T 0).flatMap encI=(List.range (ac P).length).map λ_=>Value.int .i64 0:=by
 rw[iQ];unfold aH;rw[List.map_map];refine List.ext_getElem? λi=>?_;simp only[List.getElem?_map,Function.comp_def];by_cases h:i<(ac P).length;.simp[h]
 .simp[h]
def gn.single(w:World)(B b:Nat)(r:eV)(h:w.ownsRow B r.e 1 r.v r.n r.xs)(hb:r.v.ownBlock≠some b):gn w B b [r]:=by
 refine⟨by simpa using h,λi j x y hi H I=>?_,by simpa using hb⟩;have O:i=0:=by have:=(List.getElem?_eq_some_iff.1 hi).1;simpa using this
 have V:j=0:=by have:=(List.getElem?_eq_some_iff.1 H).1;simpa using this
 omega
structure eM(w0 w:World)(b:Nat)(cs:Array Value)(l:List eV):Prop where
 blk:Blk w b 213 cs
 rows:gn w w0.heap.size b l
 bel:aa [b] w0 w
section
variable{cs:Array Value}{l:List eV}
def eM.below(h:eM w0 w b cs l)(k:Below w.heap.size w w'):eM w0 w' b cs l:=⟨h.blk.below k h.blk.lt,h.rows.below k,h.bel.trans (aa.of_below k)⟩
def mN{row:Option Nat}(h:aa [b] w0 w)(k:w.grownBy w' row)(I:∀g,row=some g->w0.heap.size<=g):aa [b] w0 w':=by
 cases row with
 |none=>exact h.trans ⟨k.os,k.tape,k.output,k.size,λi hi _=>k.block i hi ahC⟩
 |some g=>
  have h1:aa [b,g] w0 w':=(h.mono ahC).trans ((aa.grown k).mono ahC)
  exact h1.fresh (by
   intro i hi;simp only[List.mem_cons,List.not_mem_nil,or_false]at hi;rcases hi with rfl|rfl
   .exact .inl ahC
   .exact .inr (I _ rfl))
def eM.app(h:eM w0 w b cs l){i:Nat}{r:eV}(hi:l[i]? =some r)(o:Obj)(hg:(w.alloc o).grownBy w' r.v.ownBlock)(V:w'.ownsRow w0.heap.size r.e 1 v' n' xs')(Oj:v'.ownBlock=r.v.ownBlock\/v'.ownBlock=some (w.heap.size+1))(c:Nat):eM w0 (w'.setCell ⟨b,c,none⟩ v') b (cs.setIfInBounds c v') (l.set i ⟨r.e,v',n',xs'⟩):=by
  have O:Below w.heap.size w (w.alloc o):=(Below.refl _ _).alloc (Nat.le_refl _) o;have h1:=h.below O;have Y:(w.alloc o).heap.size=w.heap.size+1:=by simp
  have I:aa [b] w' (w'.setCell ⟨b,c,none⟩ v'):=aa.setCell (aa.refl [b] w') (.inl ahC) _;have H:=List.mem_of_getElem? hi;refine⟨?_,(h1.rows.app hi h1.blk.lt hg V (Oj.imp id λe=>⟨_,Nat.le_of_eq Y,e⟩)).turn I,(mN h1.bel hg (λg e=>((h1.rows.own r H).lt g e).1)).trans I⟩;exact(h1.blk.grown hg (λe=>h.rows.nb r H e.symm)).set_ c v'
def eM.put(h:eM w0 w b cs l){i:Nat}{r:eV}(hi:l[i]? =some r){g:Nat}(hg:r.v.ownBlock=some g)(u:Value)(V:(w.setCell ⟨g,j,none⟩ u).ownsRow w0.heap.size r.e 1 r.v r.n xs'):eM w0 (w.setCell ⟨g,j,none⟩ u) b cs (l.set i ⟨r.e,r.v,r.n,xs'⟩):=by
  have H:w.grownBy (w.setCell ⟨g,j,none⟩ u) r.v.ownBlock:=by rw[hg];exact yT (vF _ _) j u
  have I:=List.mem_of_getElem? hi;refine⟨h.blk.grown H (λe=>h.rows.nb r I e.symm),h.rows.app hi h.blk.lt H V (.inl rfl),mN h.bel H (λg e=>((h.rows.own r I).lt g e).1)⟩
def eM.grow(h:eM w0 w b cs l){i:Nat}{r:eV}(hi:l[i]? =some r)(o:Obj)(hg:(w.alloc o).grownBy w' r.v.ownBlock)(V:w'.ownsRow w0.heap.size r.e 1 v' n' xs')(Y:v'.ownBlock=r.v.ownBlock\/v'.ownBlock=some (w.heap.size+1)):eM w0 w' b cs (l.set i ⟨r.e,v',n',xs'⟩):=by
  have I:Below w.heap.size w (w.alloc o):=(Below.refl _ _).alloc (Nat.le_refl _) o;have h1:=h.below I;have O:(w.alloc o).heap.size=w.heap.size+1:=by simp
  have H:=List.mem_of_getElem? hi;exact⟨h1.blk.grown hg (λe=>h.rows.nb r H e.symm),h1.rows.app hi h1.blk.lt hg V (Y.imp id λe=>⟨_,Nat.le_of_eq O,e⟩),mN h1.bel hg (λg e=>((h1.rows.own r H).lt g e).1)⟩
def eM.push(h:eM w0 w b cs l)(e:TypeId):eM w0 w b cs (l++[⟨e,.slice none 0 0,0,[]⟩]):=⟨h.blk,h.rows.push e,h.bel⟩
end
def jD.g{V Y:Value}{O I:Value}{H:List eV}(h:jD w0 w b V Y P T vL O vN vS I H k):eM w0 w b (fj V Y 0 1 O vN vS I) ([Kf vL (ac P),Kf I (aH P T k),Kf vN (aq P T k),Kf vS (a6 T k),fh (H.map (·.v)) O]++H):=⟨h.blk,h.rows,h.bel⟩
def dt(h:k<=T.length):(aq P T k).length=k:=by unfold aq;simp;omega
def gy(T:List Int)(k:Nat):(a6 T k).length=k:=by simp[a6]
def cY(P T:List Int)(k:Nat):(aH P T k).length=(ac P).length:=by simp[aH]
def wu(h:T[k]? =some x):aq P T (k+1)=aq P T k++[fQ (ac P) x]:=by unfold aq;rw[bJ h,List.map_append];rfl
def nB{l:List Int}(hm:x∈l)(h:fQ l x=nd):l[nd]? =some x:=by
 unfold fQ at h;rw[if_pos hm]at h;have e:l.idxOf x=nd:=by omega
 have H:=List.idxOf_lt_length_of_mem hm;rw[<-e,List.getElem?_eq_getElem H,List.getElem_idxOf H]
def qv(h:(ac P)[nd]? =some x):((aH P T k).flatMap encI)[nd]? =some (J (((T.take k).count x:Nat):Int)):=by rw[iQ];unfold aH;simp[h]
theorem Tryz.infoSl:(prog.info? 22).map (λi=>(i.zero,i.size,i.bytes))=some (some (.slice none 0 0),1,24):=by kernel_rfl
def tF(l:List α)(a:α)(i:Nat)(h:i=l.length):(l++[a])[i]? =some a:=by subst h;simp
def B9(l:List α)(a c:α)(i:Nat)(h:i=l.length):(l++[a]).set i c=l++[c]:=by subst h;simp
def Db(P:List Int):∀(f:Nat) (v:Int),(upF P f v).length<=f
 |0,_=>Nat.le_refl _
 |f+1,v=>by
  unfold upF;split;.have:=Db P f (P.getD v.toNat 0);rw[List.length_cons];omega
  .simp
def se(P:List Int)(v:Int):(upL P v).length<=P.length:=Db P _ _
def rp(P:List Int):(ac P).Nodup:=by unfold ac am;exact List.Pairwise.filter _ (List.Pairwise.map Int.ofNat (λa b h e=>h (Int.ofNat.inj e)) List.nodup_range)
def vY(h:T[k]? =some x)(H:(ac P)[nd]? =some x):((aH P T k).flatMap encI).set nd (J ((((T.take k).count x:Nat):Int)+1))=(aH P T (k+1)).flatMap encI:=by
  rw[iQ,iQ];unfold aH;rw[List.map_map,List.map_map];refine List.ext_getElem? λj=>?_;rw[List.getElem?_set];have O:=(List.getElem?_eq_some_iff.1 H).1;by_cases e:nd=j;. subst e;rw[if_pos rfl,List.length_map,if_pos O,List.getElem?_map,H,bJ h];simp
  . rw[if_neg e,List.getElem?_map,List.getElem?_map,bJ h];cases Y:(ac P)[j]? with
    | none=>rfl
    | some y=>have I:y≠x:=(by rintro rfl;obtain⟨a1,V⟩:=List.getElem?_eq_some_iff.1 H;obtain⟨b1,b2⟩:=List.getElem?_eq_some_iff.1 Y;exact e ((List.getElem_inj (rp P)).1 (V.trans b2.symm)));simp[List.count_append,List.count_singleton,Ne.symm I]
def wL(h:T[k]? =some x):a6 T (k+1)=a6 T k++[(((T.take k).count x:Nat):Int)]:=by unfold a6;rw[List.range_succ,List.map_append];show _++[cO T k]=_;unfold cO;rw[bm h]
def tp(w:World)(b:Nat)(AP AT:Option Addr)(cP cT:Nat)(P T:List Int)(hc:a5 P T=0)(hB:Blk w b 213 (fj (.slice AP P.length cP) (.slice AT T.length cT) 0 1 rG rG rG rG))(hP:RdL w (.slice AP P.length cP) 1 encI P)(hT:RdL w (.slice AT T.length cT) 1 encI T)(nP:∀g,(Value.slice AP P.length cP).ownBlock=some g->g≠b)(nT:∀g,(Value.slice AT T.length cT).ownBlock=some g->g≠b):E 170 #[↑b] w λe w'=>e= returned (tuple #[])/\∃vL O vN vS vM H,jD w w' b (.slice AP P.length cP) (.slice AT T.length cT) P T vL O vN vS vM H T.length:=by
  obtain⟨i0,hi,Kr,Ku,hz2⟩:=info_parts Tryz.infoIn;refine ajB ?_;intro HI;clear hi Kr Ku hz2;obtain⟨j0,hi,Kr,Ku,hz2⟩:=info_parts Tryz.infoSl;have HJ:=qh (And.intro hi (And.intro Kr (And.intro Ku hz2)));clear hi Kr Ku hz2;obtain⟨hm,OV,Lx,W7⟩:=aR hc;have KX:=bh hm;have Lz:=a8 P P.length;have Ou:(ac P).length<=32:=by show(am P P.length).length<=_;omega
  have OP:tK P T=ac P:=by unfold tK;rw[if_pos hc]
  have M5:=qh hB;have O6:=qh (And.intro hP hT);have Lm:=qh (And.intro nP nT);have Lg:=qh (And.intro OV W7);have KQ:=hB.lt;have f0:=hB.cell 0;have f1:=hB.cell 1;have Vx:=qh (uN w _ _ P T hP hT);rw[OP]at Vx;simp only[fj]at f0 f1;clear hc hB hP hT nP nT hm OV Lx W7 Lz OP;go_enter func170,ntmps170;go_wp2_with fail;refine Vx.o.mono ?_;rintro en w1 ⟨v2,rfl,o2,b2⟩;obtain⟨A2,c2,rfl⟩:=bE o2;have B2:=qh (M5.o.below b2 KQ);have Kp:=b2.size;have c8:=B2.o.cell 8;have z8:=B2.o.free 8;simp only[fj,rG]at c8;have A0:=qh (gn.single w1 w.heap.size b (Kf (.slice A2 (ac P).length c2) (ac P)) o2 (λe=>by have:=(o2.lt _ e).1;omega));have K2:=qh b2;clear o2 b2 f0 f1;go_wp2_with (refine wpList_make_full _ rfl (.tmp 15) (.tmp 15) 22 rfl w1.heap.size 3 i0 (J 0) 1 Tryz.underlying22 HI.o.1 HI.o.2.1 HI.o.2.2.1 .i64 .i64 (ac P).length (ac P).length (ac P).length rfl rfl rfl rfl ?b2 ?b3 (Nat.le_refl _) ?_);case b2=>rw[HI.o.2.2.2];omega
  case b3=>unfold maxLen;omega
  intro w3 t3 hg;have Pp:w3.ownsRow w1.heap.size 3 1 (slice (some ⟨w1.heap.size,0,none⟩) (ac P).length (ac P).length) (ac P).length ((aH P T 0).flatMap encI):=by rw[kU,<-vZ P T]at t3;exact t3
  have MU:Below w1.heap.size w1 w3:=(Below.refl w1.heap.size w1).grown hg (Nat.le_refl _) (λj hj=>by cases hj);have B3:=qh (B2.o.below MU B2.o.lt);have d8:=B3.o.cell 8;have y8:=B3.o.free 8;have d1:=B3.o.cell 1;simp only[fj,rG]at d8 d1;have HO:=qh (And.intro Pp (And.intro hg MU));clear t3 Pp hg MU c8 z8
  have LR:jD w (w3.setCell ⟨b,8,none⟩ (slice (some ⟨w1.heap.size,0,none⟩) (ac P).length (ac P).length)) b (.slice AP P.length cP) (.slice AT T.length cT) P T (.slice A2 (ac P).length c2) rG rG rG (slice (some ⟨w1.heap.size,0,none⟩) (ac P).length (ac P).length) [] 0:=by
    have Zp:b<w1.heap.size:=by omega
    have a1:=(A0.o.push 3).app (i:=1) (w':=w3) (v':= slice (some ⟨w1.heap.size,0,none⟩) (ac P).length (ac P).length) (n':=(aH P T 0).length) (xs':=(aH P T 0).flatMap encI) rfl Zp HO.o.2.1 (by
      have h:=df HO.o.1 K2.o.size;have e:(aH P T 0).length=(ac P).length:=by simp[aH]
      rw[e];exact h) (.inr ⟨_,Nat.le_refl _,rfl⟩)
    have a2:=a1.turn (w':=w3.setCell ⟨b,8,none⟩ (slice (some ⟨w1.heap.size,0,none⟩) (ac P).length (ac P).length)) (aa.setCell (aa.refl [b] w3) (.inl ahC) _);refine⟨B3.o.set_ 8 _,((a2.push 3).push 3).push 22,rfl,λi x r _ h=>by simp at h,?_⟩;exact((aa.of_below K2.o).trans (aa.of_below HO.o.2.2)).trans (aa.setCell (aa.refl [b] w3) (.inl ahC) _)
  have XW:=qh LR;clear LR;go_wp2_with fail;go_loopw [25] (λi wr=>∃(k:Nat) (O vN vS vM:Value) (H:List eV),i= J k/\k<=T.length/\jD w wr b (.slice AP P.length cP) (.slice AT T.length cT) P T (.slice A2 (ac P).length c2) O vN vS vM H k) (λi _=>T.length-(intOf i).toNat);case atStart=>exact⟨0,_,_,_,_,[],rfl,by omega,XW.o⟩
  case round=>
    obtain⟨k,O,vN,vS,vM,H,rfl,hk,hF⟩:=hrel;obtain⟨wo,rfl⟩:∃wo:World,wo=wr:=⟨_,rfl⟩;have HF:=qh hF;clear hF d1 d8;by_cases I':k<T.length
    . obtain⟨x,hx⟩:=ai I';have SS:=jy Lg.o.2 hx;have M2:=gJ (P:=P) (k:=P.length) SS;obtain⟨m,rfl⟩:=Int.eq_ofNat_of_zero_le M2.2.1;have bV:m<P.length:=(by have:=M2.2.2;omega);have RT:=O6.o.2.turns HF.o.bel (λg hg hm=>by simp at hm;exact Lm.o.2 g hg hm);obtain⟨bT,oT,rfl,bA,Wf⟩:=gf RT ahB;have q0:=Wf k _ hx;have RL:=dO (HF.o.rows.own (Kf (.slice A2 (ac P).length c2) (ac P)) ahC) ahB;have RO:=qh (mA wo _ (ac P) m RL);obtain⟨nd,ab⟩:∃nd:Nat,fQ (ac P) m=nd:=by have h0:=(eZ (ac P) (m:Int)).1.2 SS;exact⟨(fQ (ac P) m).toNat,by omega⟩
      have bw:nd<(ac P).length:=(by have:=(eZ (ac P) (m:Int)).2.1;omega);rw[ab]at RO;have HX:=qh (And.intro hx (And.intro ab (nB SS ab)));have Sz:wo.ownsRow w.heap.size 3 1 vN (aq P T k).length ((aq P T k).flatMap encI):=HF.o.rows.own (Kf vN (aq P T k)) ahC;rw[dt hk]at Sz;obtain⟨AN,cN,rfl⟩:=bE Sz;have e6:=HF.o.blk.cell 6;have z6:=HF.o.blk.free 6;simp only[fj]at e6;clear hx SS M2 RT Wf RL ab
      go_wp2_with (first
        | (go_at_call 119;refine RO.o.mono ?_;rintro e w' ⟨rfl,rfl⟩)
        | (at_builtin;go_loud (refine wpList_append_own_at _ rfl _ _ 22 rfl w.heap.size 3 i0 (J 0) 1 8 Tryz.underlying22 HI.o.1 HI.o.2.1 HI.o.2.2.1 HI.o.2.2.2 rfl ahD _ _ _ rfl (Sz.alloc _) ⟨wo.heap.size,0,none⟩ 1 1 (encI nd) rfl rfl (cell_one_new _ _ _) (kD _) ?c3 ?c4 ?c5 ?_)))
      case c3=>unfold maxLen;omega
      case c4=>omega
      case c5=>simp;have:=HF.o.bel.size;omega
      intro v' w4 MO MJ OR Oj;obtain⟨V,Y,rfl⟩:=bE MO;have O8:=(HF.o.blk.alloc (cells #[J nd] 3)).grown MJ (λe=>HF.o.rows.nb (Kf (.slice AN k cN) (aq P T k)) ahC e.symm);have VL:=O8.cell 6;have ad:=O8.free 6;simp only[fj]at VL;obtain⟨w5,Lp⟩:=LE (w4.setCell ⟨b,6,none⟩ (.slice V (k+1) Y));have TS:eM w w5 b (fj (.slice AP P.length cP) (slice (some ⟨bT,oT,none⟩) T.length cT) 0 1 O (.slice V (k+1) Y) vS vM) ([Kf (.slice A2 (ac P).length c2) (ac P),Kf vM (aH P T k),⟨3,.slice V (k+1) Y,k+1,(aq P T k).flatMap encI++encI nd⟩,Kf vS (a6 T k),fh (H.map (·.v)) O]++H):=by rw[Lp];exact HF.o.g.app (i:=2) (r:=Kf (.slice AN k cN) (aq P T k)) rfl (cells #[J nd] 3) MJ MO Oj 6
      rw[show(⟨3,.slice V (k+1) Y,k+1,(aq P T k).flatMap encI++encI nd⟩:eV)=Kf (.slice V (k+1) Y) (aq P T (k+1))from by
        unfold Kf
        rw[dt ahB,wu HX.o.1,HX.o.2.1,iR]]at TS
      have Ml:=qh TS;clear MO MJ OR Oj O8 TS Sz e6 z6 q0;go_upto_region 7 with fail;rw[<-Lp];clear Lp VL ad;have SA:w5.ownsRow w.heap.size 3 1 vS (a6 T k).length ((a6 T k).flatMap encI):=Ml.o.rows.own (Kf vS (a6 T k)) ahC;rw[gy]at SA;obtain⟨AS,cS,rfl⟩:=bE SA;have NT:w5.ownsRow w.heap.size 3 1 vM (aH P T k).length ((aH P T k).flatMap encI):=Ml.o.rows.own (Kf vM (aH P T k)) ahC;rw[cY]at NT;obtain⟨I,cM,rfl,ax,bc⟩:=gQ NT ahB;have m0:=NT.cellAt nd ahB;rw[qv HX.o.2.2]at m0;have Vf:=qh (Ml.o.rows.nb (Kf (.slice AS k cS) (a6 T k)) ahC);obtain⟨ct,Nz⟩:∃ct:Nat,ct=(T.take k).count (m:Int):=⟨_,rfl⟩;rw[<-Nz]at m0;have Mk:=qh Nz;have c7:=Ml.o.blk.cell 7;have c8:=Ml.o.blk.cell 8;simp only[fj]at c7 c8;have Ym:=qh (And.intro SA NT);have NN:b<w5.heap.size:=Ml.o.blk.lt;clear Nz SA NT;go_cut [5] (λs5 wx=>s5= J (nd:Nat)/\∃Pv,eM w wx b (fj (.slice AP P.length cP) (slice (some ⟨bT,oT,none⟩) T.length cT) 0 1 O (.slice V (k+1) Y) Pv (slice (some ⟨I,0,none⟩) (ac P).length cM)) ([Kf (.slice A2 (ac P).length c2) (ac P),Kf (slice (some ⟨I,0,none⟩) (ac P).length cM) (aH P T k),Kf (.slice V (k+1) Y) (aq P T (k+1)),Kf Pv (a6 T (k+1)),fh (H.map (·.v)) O]++H))
      case first=>
        go_region_law ((go_loud ((refine step_append_lies _ rfl _ _ 22 rfl w.heap.size 3 i0 (J 0) 1 8 Tryz.underlying22 HI.o.1 HI.o.2.1 HI.o.2.2.1 HI.o.2.2.2 rfl ahD _ _ _ rfl (show World.ownsRow (w5.alloc (cells #[J ct] 3)).drew w.heap.size 3 1 (.slice AS k cS) k ((a6 T k).flatMap encI)from Ym.o.1.alloc _) ⟨w5.heap.size,0,none⟩ 1 1 (encI ct) rfl rfl (λj u hj=>cell_one_new w5 (J ct) 3 j u hj) (kD _) ahD aif ahB (by simp;have:=Ml.o.bel.size;omega) _ rfl ?_));intro g6 Nq w6 h6 P8 Pk ZT;have O9:=(Ml.o.blk.alloc (cells #[J ct] 3)).drew.grown P8 (λe=>Vf.o e.symm);have YS:=O9.cell 7;have bW:=O9.free 7;simp only[fj]at YS))
        all_goals
          have QU:=(Ml.o.below (w':=w5.drew) (Below.refl _ _).drew).app (i:=3) (r:=Kf (.slice AS k cS) (a6 T k)) rfl (cells #[J ct] 3) P8 h6 (Pk.imp (λe=>e.symm) (λe=>by rw[e];simp[Value.ownBlock])) 7;have M6:=qh QU;clear QU h6 P8 Pk;go_wp2_with fail;go_meet
          case rel=>
            have h:eM w ((w6.setCell ⟨b,7,none⟩ (slice (some ⟨g6,0,none⟩) (k+1) Nq))) b (fj (.slice AP P.length cP) (slice (some ⟨bT,oT,none⟩) T.length cT) 0 1 O (.slice V (k+1) Y) (slice (some ⟨g6,0,none⟩) (k+1) Nq) (slice (some ⟨I,0,none⟩) (ac P).length cM)) ([Kf (.slice A2 (ac P).length c2) (ac P),Kf (slice (some ⟨I,0,none⟩) (ac P).length cM) (aH P T k),Kf (.slice V (k+1) Y) (aq P T (k+1)),⟨3,slice (some ⟨g6,0,none⟩) (k+1) Nq,k+1,(a6 T k).flatMap encI++encI ct⟩,fh (H.map (·.v)) O]++H):=M6.o
            rw[show(⟨3,slice (some ⟨g6,0,none⟩) (k+1) Nq,k+1,(a6 T k).flatMap encI++encI ct⟩:eV)=Kf (slice (some ⟨g6,0,none⟩) (k+1) Nq) (a6 T (k+1))from by
              unfold Kf
              rw[gy,wL HX.o.1,<-Mk.o,iR]]at h
            exact⟨rfl,_,h⟩
      case rest=>
        obtain⟨rfl,Pv,QU⟩:=hcut;have M6:=qh QU;clear QU c7 c8 m0 Vf NN;have NT:wc.ownsRow w.heap.size 3 1 (slice (some ⟨I,0,none⟩) (ac P).length cM) (aH P T k).length ((aH P T k).flatMap encI):=M6.o.rows.own (Kf (slice (some ⟨I,0,none⟩) (ac P).length cM) (aH P T k)) ahC;rw[cY]at NT;have m0:=NT.cellAt nd ahB;rw[qv HX.o.2.2,<-Mk.o]at m0;have y0:=NT.frozenAt nd;have Kh:=NT.stored nd (J ((ct:Int)+1));have c8:=M6.o.blk.cell 8;simp only[fj]at c8;have al:ct<=32:=(by rw[Mk.o];have h1:=List.count_le_length (l:=T.take k) (a:=(m:Int));have h2:=List.length_take_le k T;omega);have LN:=qh Kh;clear Kh NT;go_upto_region 9 with fail
        have PF:eM w (wc.setCell ⟨I,nd,none⟩ (J ((ct:Int)+1))) b (fj (.slice AP P.length cP) (slice (some ⟨bT,oT,none⟩) T.length cT) 0 1 O (.slice V (k+1) Y) Pv (slice (some ⟨I,0,none⟩) (ac P).length cM)) ([Kf (.slice A2 (ac P).length c2) (ac P),Kf (slice (some ⟨I,0,none⟩) (ac P).length cM) (aH P T (k+1)),Kf (.slice V (k+1) Y) (aq P T (k+1)),Kf Pv (a6 T (k+1)),fh (H.map (·.v)) O]++H):=by
          have h:=M6.o.put (i:=1) (r:=Kf (slice (some ⟨I,0,none⟩) (ac P).length cM) (aH P T k)) rfl (g:=I) (j:=nd) rfl (J ((ct:Int)+1)) (xs':=(aH P T (k+1)).flatMap encI) (by
            have h1:=LN.o.1;rw[Mk.o,vY HX.o.1 HX.o.2.2,<-Mk.o]at h1;show World.ownsRow _ _ _ 1 _ (aH P T k).length _;rw[cY]
            exact h1)
          have e:(⟨3,slice (some ⟨I,0,none⟩) (ac P).length cM,(aH P T k).length,(aH P T (k+1)).flatMap encI⟩:eV)=Kf (slice (some ⟨I,0,none⟩) (ac P).length cM) (aH P T (k+1)):=(by unfold Kf;rw[cY,cY]);rw[<-e];exact h
        have Vb:=qh (PF.push 3);clear PF m0 y0 c8;obtain⟨w7,OX⟩:=LE (wc.setCell ⟨I,nd,none⟩ (J ((ct:Int)+1)));rw[<-OX]at Vb ⊢;clear OX;go_wp2_with fail;go_loopw [6,7] (λs6 s7 wr=>∃(z:Int) (dn:List Int),s7= J z/\z<P.length/\upL P m=dn++upL P z/\(dn.length:Int)+z<=m/\eM w wr b (fj (.slice AP P.length cP) (slice (some ⟨bT,oT,none⟩) T.length cT) 0 1 O (.slice V (k+1) Y) Pv (slice (some ⟨I,0,none⟩) (ac P).length cM)) (([Kf (.slice A2 (ac P).length c2) (ac P),Kf (slice (some ⟨I,0,none⟩) (ac P).length cM) (aH P T (k+1)),Kf (.slice V (k+1) Y) (aq P T (k+1)),Kf Pv (a6 T (k+1)),fh (H.map (·.v)) O]++H)++[Kf s6 dn])) (λ_ s7 _=>(intOf s7+1).toNat);case atStart=>exact⟨m,[],rfl,by omega,rfl,by simp,Vb.o⟩
        case round=>
          obtain⟨z,dn,rfl,hz,Mt,ON,hG⟩:=hrel;obtain⟨wi,rfl⟩:∃wi:World,wi=wr:=⟨_,rfl⟩;have O5:=qh hG;have bF:dn.length<=P.length:=(by have h1:=congrArg List.length Mt;rw[List.length_append]at h1;have h2:(upL P m).length<=P.length:=se P m;omega);have Rp:wi.ownsRow w.heap.size 3 1 u6 dn.length (dn.flatMap encI):=hG.rows.own (Kf u6 dn) ahC;have VC:=qh Mt;clear hG Mt;by_cases h0:0<=z
          . obtain⟨n,rfl⟩:=Int.eq_ofNat_of_zero_le h0;have hn:n<P.length:=(by omega);obtain⟨q,hq⟩:=ai hn;have SI:=gL Lg.o.1 hq;have HQ:=qh (gA Lg.o.1 hq);have Yg:=qh hq;obtain⟨A6,c6,rfl⟩:=bE Rp;clear hq;go_wp2_with (at_builtin;go_loud (refine wpList_append_own_at _ rfl _ _ 22 rfl w.heap.size 3 i0 (J 0) 1 8 Tryz.underlying22 HI.o.1 HI.o.2.1 HI.o.2.2.1 HI.o.2.2.2 rfl ahD _ _ _ rfl (Rp.alloc _) ⟨wi.heap.size,0,none⟩ 1 1 (encI n) rfl rfl (cell_one_new _ _ _) (kD _) ?d3 ?d4 ?d5 ?_));case d3=>unfold maxLen;omega
            case d4=>omega
            case d5=>simp;have:=O5.o.bel.size;omega
            intro v8 w8 WR Ws Z4 V';have QV:=O5.o.grow (i:=5+H.length) (r:=Kf (.slice A6 dn.length c6) dn) (tF _ _ _ ahG) (cells #[J n] 3) Ws WR V';rw[B9 _ _ _ _ ahG]at QV;have M7:=qh QV;have RP:=O6.o.1.turns QV.bel (λg hg hm=>by simp at hm;exact Lm.o.1 g hg hm);have x0:=QV.blk.cell 0;simp only[fj]at x0;obtain⟨bP,oP,Y9,_,We⟩:=gf RP ahB;have x1:=We n q Yg.o;rw[show(⟨(Kf (.slice A6 dn.length c6) dn).e,v8,dn.length+1,dn.flatMap encI++encI n⟩:eV)=Kf v8 (dn++[(n:Int)])from by unfold Kf;rw[iR,List.length_append];rfl]at M7;clear WR Ws Z4 V' QV RP We Rp;subst Y9;go_wp2;go_roundw;case rel=>exact⟨q,dn++[(n:Int)],rfl,by omega,by rw[VC.o,HQ.o];simp,by simp;omega,M7.o⟩
            case measure=>simp[intOf];omega
          . have XT:=qh (show dn=upL P m from by have h:=VC.o;rw[yc (P:=P) (p:=z) ahB,List.append_nil]at h;exact h.symm);obtain⟨A6,c6,rfl⟩:=bE Rp;have SN:H.length=k:=HF.o.len;have SB:wi.ownsRow w.heap.size 22 1 O (H.map (·.v)).length (H.map (·.v)):=(by have h:=O5.o.rows.own (fh (H.map fun(r:eV)=>r.v) O) ahC;exact h);rw[List.length_map,SN]at SB;obtain⟨AV,cV,rfl⟩:=bE SB;have x5:=O5.o.blk.cell 5;simp only[fj]at x5;have QJ:=qh SN;clear Rp SN;go_wp2_with (at_builtin;go_loud (refine wpList_append_own_at _ rfl _ _ 211 rfl w.heap.size 22 j0 (.slice none 0 0) 1 24 Tryz.underlying211 HJ.o.1 HJ.o.2.1 HJ.o.2.2.1 HJ.o.2.2.2 rfl ahD _ _ _ rfl (SB.alloc _) ⟨wi.heap.size,0,none⟩ 1 1 [.slice A6 dn.length c6] rfl rfl (cell_one_new _ _ _) ah4 ?e3 ?e4 ?e5 ?_));case e3=>unfold maxLen;omega
            case e4=>omega
            case e5=>have h9:=O5.o.bel.size;first|omega|(simp;omega)|exact Nat.le_trans h9 ahC
            intro v9 w9 Uw Uk Z5 Wa;obtain⟨A9,c9,rfl⟩:=bE Uw;have Mo:=(O5.o.blk.alloc (cells #[.slice A6 dn.length c6] 22)).grown Uk (λe=>O5.o.rows.nb (fh (H.map fun(r:eV)=>r.v) (.slice AV k cV)) ahC e.symm);have e9:=Mo.cell 5;have z9:=Mo.free 5;simp only[fj]at e9;have QW:=O5.o.app (i:=4) (r:=fh (H.map fun(r:eV)=>r.v) (.slice AV k cV)) rfl (cells #[.slice A6 dn.length c6] 22) Uk Uw Wa 5;have Tc:=qh QW;clear Uw Uk Z5 Wa Mo QW SB;go_wp2
            have XX:=qh (show jD w (w9.setCell ⟨b,5,none⟩ (.slice A9 (k+1) c9)) b (.slice AP P.length cP) (slice (some ⟨bT,oT,none⟩) T.length cT) P T (.slice A2 (ac P).length c2) (.slice A9 (k+1) c9) (.slice V (k+1) Y) Pv (slice (some ⟨I,0,none⟩) (ac P).length cM) (H++[Kf (.slice A6 dn.length c6) dn]) (k+1)from by
              have e:(⟨22,.slice A9 (k+1) c9,k+1,(H.map fun(r:eV)=>r.v)++[.slice A6 dn.length c6]⟩:eV)=fh ((H++[Kf (.slice A6 dn.length c6) dn]).map fun(r:eV)=>r.v) (.slice A9 (k+1) c9):=(by unfold fh;simp[QJ.o,Kf]);refine⟨Tc.o.blk,?_,by simp[QJ.o],λi x r hT hU=>?_,Tc.o.bel⟩;. rw[<-e];exact Tc.o.rows
              . by_cases ZF:i<k;. rw[List.getElem?_append_left (by rw[QJ.o];exact ZF)]at hU;exact HF.o.up i x r hT hU
                . have ZG:i=k:=(by have h1:=(List.getElem?_eq_some_iff.1 hU).1;rw[List.length_append,List.length_singleton,QJ.o]at h1;omega);subst ZG;rw[tF _ _ _ QJ.o.symm]at hU;injection hU with hU;rw[HX.o.1]at hT;injection hT with hT
                  rw[<-hU,<-hT,<-XT.o];rfl)
            go_roundw;case rel=>exact⟨k+1,_,_,_,_,_,by go_num,by omega,XX.o⟩
            case measure=>simp[intOf];omega
    . obtain rfl:k=T.length:=by omega
      go_wp2;go_end0;exact⟨rfl,_,_,_,_,_,_,HF.o⟩
end
section
open Go.RowKit
structure iK(w:World)(b:Nat)(P T:List Int):Prop where
 ok:a5 P T=0
 ex:∃AP cP AT cT vU vN vS vM us,Blk w b 213 (fj (.slice AP P.length cP) (.slice AT T.length cT) 1 0 vU vN vS vM)/\RdL w (.slice AP P.length cP) 1 encI P/\RdL w (.slice AT T.length cT) 1 encI T/\
  RdL w vN 1 encI (aq P T T.length)/\RdL w vS 1 encI (a6 T T.length)/\RdL w vM 1 encI (aH P T T.length)/\
  RdL w vU 1 (λv=>[v]) us/\us.length=T.length/\∀(i:Nat) (x:Int) (v:Value),T[i]? =some x->us[i]? =some v->RdL w v 1 encI (upL P x)
def iK.below(h:iK w b P T)(k:Below w.heap.size w w'):iK w' b P T:=by obtain⟨H,cP,I,O,vU,vN,vS,vM,us,h1,V,Y,h4,h5,h6,h7,h8,h9⟩:=h.ex;exact⟨h.ok,H,cP,I,O,vU,vN,vS,vM,us,h1.below k h1.lt,V.below k (Nat.le_refl _),Y.below k (Nat.le_refl _),h4.below k (Nat.le_refl _),h5.below k (Nat.le_refl _),h6.below k (Nat.le_refl _),h7.below k (Nat.le_refl _),h8,λi x v a c=>(h9 i x v a c).below k (Nat.le_refl _)⟩
def fe(w:World)(b:Nat)(P T:List Int)(h:iK w b P T):E 133 #[↑b] w λe w'=>e= .returned ↑b/\w=w':=by obtain⟨V,cP,Y,cT,vU,vN,vS,vM,us,H,_⟩:=h.ex;have c2:=H.cell 2;simp only[fj]at c2;have I:=qh (λO=>DO b 2 O w c2);clear h H c2;go_enter func133,ntmps133;go_wp2_with fail;refine LT (I.o _) ?_;go_wp2;go_ret;exact⟨rfl,rfl⟩
end
section
open Go.RowKit
def Tab(w:World)(b:Nat)(P T:List Int):Prop:=a5 P T=0/\(JJ w b P T\/iK w b P T)
def iK.tab(h:iK w b P T):Tab w b P T:=⟨h.ok,.inr h⟩
def Tab.thr(h:Tab w b P T):∃H I,Z w b 1 (.slice H T.length I):=by
 rcases h.2 with O|O
 .obtain⟨V,cP,H,I,h1,_⟩:=O.ex;exact⟨H,I,h1.cell 1⟩
 .obtain⟨V,cP,H,I,vU,vN,vS,vM,Y,h1,_⟩:=O.ex;exact⟨H,I,h1.cell 1⟩
def eo(w:World)(b:Nat)(P T:List Int)(h:Tab w b P T):E 136 #[↑b] w λe w'=>e= returned (J (T.length:Nat))/\w=w':=by obtain⟨H,I,c1⟩:=h.thr;clear h;go_enter func136,ntmps136;go_wp2;go_ret;exact⟨rfl,rfl⟩
def Ga(T:List Int)(i:Int):Bool:=decide (0<=i/\i<T.length)
def xE(w:World)(b:Nat)(P T:List Int)(i:Int)(r:Bool)(I:Ga T i=r)(h:Tab w b P T):E 132 #[↑b,J i] w λe w'=>e= returned (.bool r)/\w=w':=by
  have O:=qh (eo w b P T h);have H:=qh I;clear h I;go_enter func132,ntmps132;by_cases V:0<=i;. go_wp2_with fail;refine LT O.o ?_;go_wp2;go_ret;exact⟨az (by rw[<-H.o];simp[Ga,V]),rfl⟩
  . go_wp2;go_ret;exact⟨az (by rw[<-H.o];unfold Ga;symm;exact decide_eq_false ahB),rfl⟩
end
section
open Go.RowKit
variable{hi:Nat}{v:Value}{α:Type}
structure kI(lo:Nat)(w:World)(b:Nat)(P T:List Int):Prop where
 low:lo<=b
 ex:∃AP cP AT cT,Blk w b 213 #[.slice AP P.length cP,.slice AT T.length cT,.int .u32 0,.int .i32 0,.int .u32 0,.slice none 0 0,.slice none 0 0,.slice none 0 0,.slice none 0 0]/\RdL w (.slice AP P.length cP) 1 encI P/\RdL w (.slice AT T.length cT) 1 encI T/\(∀g,(Value.slice AP P.length cP).ownBlock=some g->g≠b)/\(∀g,(Value.slice AT T.length cT).ownBlock=some g->g≠b)/\
  (∀g,(Value.slice AP P.length cP).ownBlock=some g->lo<=g)/\(∀g,(Value.slice AT T.length cT).ownBlock=some g->lo<=g)
def RdB(lo hi:Nat)(w:World)(v:Value)(sz:Nat){α:Type}(enc:α->List Value)(l:List α):Prop:=RdL w v sz enc l/\(0<l.length->∀g,v.ownBlock=some g->lo<=g/\g<hi)
def RdB.keep{enc:α->List Value}{l:List α}(h:RdB lo hi w v sz enc l)(k:∀i,lo<=i->i<hi->w'.heap[i]? =w.heap[i]?)(hs:hi<=w'.heap.size):RdB lo hi w' v sz enc l:=by refine⟨?_,h.2⟩;obtain⟨A,cap,rfl,O,V,Y⟩:=h.1;refine⟨A,cap,rfl,O,V,λI=>?_⟩;obtain⟨b,off,rfl,hb,hc⟩:=Y I;have H:=h.2 I b rfl;refine⟨b,off,rfl,by omega,λi x hx j u hu=>?_⟩;rw[World.cell?_of_block (w:=w) (w':=w') (a:=⟨b,off+i*sz+j,none⟩) (k b H.1 H.2)];exact hc i x hx j u hu
def RdB.of{enc:α->List Value}{l:List α}(h:RdL w v sz enc l)(H:∀g,v.ownBlock=some g->lo<=g)(hs:hi=w.heap.size):RdB lo hi w v sz enc l:=by refine⟨h,λO g hg=>⟨H g hg,?_⟩⟩;obtain⟨A,cap,rfl,_,_,I⟩:=h;obtain⟨b,off,rfl,hb,_⟩:=I O;injection hg with hg;subst hg;rw[hs];exact hb
structure mh(lo hi:Nat)(w:World)(b:Nat)(P T:List Int):Prop where
 ok:a5 P T=0
 low:lo<=b
 high:b<hi
 ex:∃AP cP AT cT vU vN vS vM us,Blk w b 213 (fj (.slice AP P.length cP) (.slice AT T.length cT) 1 0 vU vN vS vM)/\RdB lo hi w (.slice AP P.length cP) 1 encI P/\RdB lo hi w (.slice AT T.length cT) 1 encI T/\
  RdB lo hi w vN 1 encI (aq P T T.length)/\RdB lo hi w vS 1 encI (a6 T T.length)/\RdB lo hi w vM 1 encI (aH P T T.length)/\
  RdB lo hi w vU 1 (λv=>[v]) us/\us.length=T.length/\∀(i:Nat) (x:Int) (v:Value),T[i]? =some x->us[i]? =some v->RdB lo hi w v 1 encI (upL P x)
def mh.f(h:mh lo hi w b P T):iK w b P T:=by exact aah
def mh.keep(h:mh lo hi w b P T)(k:∀i,lo<=i->i<hi->w'.heap[i]? =w.heap[i]?)(hs:hi<=w'.heap.size):mh lo hi w' b P T:=by obtain⟨H,cP,I,O,vU,vN,vS,vM,us,h1,V,Y,h4,h5,h6,h7,h8,h9⟩:=h.ex;exact⟨h.ok,h.low,h.high,H,cP,I,O,vU,vN,vS,vM,us,(k b h.low h.high).trans h1,V.keep k hs,Y.keep k hs,h4.keep k hs,h5.keep k hs,h6.keep k hs,h7.keep k hs,h8,λi x v a c=>(h9 i x v a c).keep k hs⟩
def i3(w:World)(vP vT:Value)(P T:List Int)(hP:RdL w vP 1 encI P)(hT:RdL w vT 1 encI T)(hc:a5 P T=0):E 63 #[agg #[vP,vT]] w λe w'=>∃b,e= returned (tuple #[pointer (some ⟨b,0,none⟩),J 0])/\w.heap.size<=b/\kI w.heap.size w' b P T/\Below w.heap.size w w':=by
  have HC:=kw (w.alloc (cells #[vP,vT] 24)) vP vT P T (hP.alloc _) (hT.alloc _);rw[hc]at HC;have RN:=qh HC;have KZ:=qh ((Below.refl w.heap.size w).alloc (Nat.le_refl _) (cells #[vP,vT] 24));have O6:=qh (And.intro hP hT);have KX:=bh (aR hc).1;obtain⟨V,cP,rfl,SU,SV⟩:=cf hP;obtain⟨Y,cT,rfl,Qo,Qp⟩:=cf hT;have HX:=qh (show(w.alloc (cells #[.slice V P.length cP,.slice Y T.length cT] 24)).cell? w.heap.size=some (.slice V P.length cP)/\(w.alloc (cells #[.slice V P.length cP,.slice Y T.length cT] 24)).cell? ⟨w.heap.size,1,none⟩=some (.slice Y T.length cT)by simp[World.cell?_alloc_new]);have L8:w.heap.size<(w.alloc (cells #[.slice V P.length cP,.slice Y T.length cT] 24)).heap.size:=by simp
  clear hP hT hc HC;go_enter func63,ntmps63;go_wp2_with fail;refine Pi RN.o λw1 b1=>?_;have f0:=(b1.cell (p:=w.heap.size) L8).trans HX.o.1;have f1:=(b1.cell (p:=⟨w.heap.size,1,none⟩) L8).trans HX.o.2;have Kl:=b1.size;simp at Kl;have H:=qh (KZ.o.trans (b1.mono KZ.o.size));have QC:=qh (λW (h:Below w1.heap.size w1 W)=>And.intro (O6.o.1.below (H.o.trans (h.mono H.o.size)) (Nat.le_refl _)) (O6.o.2.below (H.o.trans (h.mono H.o.size)) (Nat.le_refl _)));have bd:Below w1.heap.size w1 w1.drew:=(Below.refl _ _).drew;clear b1;go_wp2_with fail
  go_region_held3 (λW=>W.cell? w.heap.size=some (.slice V P.length cP)/\Z W w.heap.size 1 (.slice Y T.length cT))
    (first|exact⟨f0,f1⟩|exact⟨(I.cell (p:=w.heap.size) (show w.heap.size<w1.heap.size by omega)).trans f0,(I.cell (p:=⟨w.heap.size,1,none⟩) (show w.heap.size<w1.heap.size by omega)).trans f1⟩|exact⟨(O.cell (p:=w.heap.size) (show w.heap.size<w1.heap.size by omega)).trans f0,(O.cell (p:=⟨w.heap.size,1,none⟩) (show w.heap.size<w1.heap.size by omega)).trans f1⟩|exact⟨((I.alloc I.size _).cell (p:=w.heap.size) (show w.heap.size<w1.heap.size by omega)).trans f0,((I.alloc I.size _).cell (p:=⟨w.heap.size,1,none⟩) (show w.heap.size<w1.heap.size by omega)).trans f1⟩)
    (first
      | (go_at_call 78;with_reducible refine(mp _ _ P (QC.o _ bd).1 ahB).mono ?_;rintro e w2 ⟨v2,rfl,o2,b2⟩;obtain⟨A2,c2,rfl⟩:=bE o2;(have O:Below w1.heap.size w1 w2:=bd.trans (b2.mono ahC));have O2:=qh o2;clear o2)
      | (go_at_call 78;with_reducible refine(mp _ _ T (QC.o _ O).2 ahB).mono ?_;rintro e w3 ⟨v3,rfl,o3,b3⟩;obtain⟨A3,c3,rfl⟩:=bE o3;(have I:Below w1.heap.size w1 w3:=O.trans (b3.mono O.size));have O3:=qh o3;clear o3))
  all_goals
    have Li:=I.size;have e2:∀g,(Value.slice A2 P.length c2).ownBlock=some g->g≠w3.heap.size:=λg hg=>by have:=(O2.o.lt g hg).2;have:=b3.size;omega
    have e3:∀g,(Value.slice A3 T.length c3).ownBlock=some g->g≠w3.heap.size:=λg hg=>by have:=(O3.o.lt g hg).2;omega
    have No:=qh (show kI w.heap.size (w3.alloc (cells #[.slice A2 P.length c2,.slice A3 T.length c3,.int .u32 0,.int .i32 0,.int .u32 0,.slice none 0 0,.slice none 0 0,.slice none 0 0,.slice none 0 0] 213)) w3.heap.size P T from
      ⟨Nat.le_trans H.o.size Li,A2,c2,A3,c3,Blk.new _ _ _,(dO (i8 O2.o b3) ahB).alloc _,(dO O3.o ahB).alloc _,e2,e3,λg hg=>by have h1:w1.heap.size<=g:=(O2.o.lt g hg).1;have:=H.o.size;omega,λg hg=>by have h1:w2.heap.size<=g:=(O3.o.lt g hg).1;have:=H.o.size;have:=O.size;omega⟩)
    have Pw:=qh ((H.o.trans (I.mono H.o.size)).alloc (Nat.le_trans H.o.size Li) (cells #[.slice A2 P.length c2,.slice A3 T.length c3,.int .u32 0,.int .i32 0,.int .u32 0,.slice none 0 0,.slice none 0 0,.slice none 0 0,.slice none 0 0] 213));go_wp2;go_ret2;exact⟨_,rfl,Nat.le_trans H.o.size Li,No.o,Pw.o⟩
def lZ{w1 w2:World}{H Y:Option Addr}{cP:Nat}{vU vM:Value}{us:List eV}(hc:a5 P T=0)(h:jD w1 w2 b (.slice H P.length cP) (.slice Y T.length cT) P T vL vU vN vS vM us T.length)(hP:RdL w1 (.slice H P.length cP) 1 encI P)(hT:RdL w1 (.slice Y T.length cT) 1 encI T)(nP:∀g,(Value.slice H P.length cP).ownBlock=some g->g≠b)(nT:∀g,(Value.slice Y T.length cT).ownBlock=some g->g≠b)(ab:lo<=b)(KP:b<w1.heap.size)(lP:∀g,(Value.slice H P.length cP).ownBlock=some g->lo<=g)(lT:∀g,(Value.slice Y T.length cT).ownBlock=some g->lo<=g):mh lo (du b 2 w2).heap.size (du b 2 w2) b P T/\aa [b] w1 (du b 2 w2):=by
  refine aji ?_;intro KX Lz k0 k1 I;have Nf:∀r∈([Kf vL (ac P),Kf vM (aH P T T.length),Kf vN (aq P T T.length),Kf vS (a6 T T.length),fh (us.map (·.v)) vU]++us),∀g,r.v.ownBlock=some g->lo<=g:=λr hm g hg=>by have:=((I r hm).lt g hg).1;omega
  refine⟨⟨hc,ab,by have:=k1.size;omega,H,cP,Y,cT,vU,vN,vS,vM,us.map (·.v),?_,RdB.of (hP.turns k1 (λg hg hm=>by simp at hm;exact nP g hg hm)) lP rfl,RdB.of (hT.turns k1 (λg hg hm=>by simp at hm;exact nT g hg hm)) lT rfl,RdB.of ?_ (Nf (Kf vN (aq P T T.length)) ahC) rfl,RdB.of ?_ (Nf (Kf vS (a6 T T.length)) ahC) rfl,RdB.of ?_ (Nf (Kf vM (aH P T T.length)) ahC) rfl,RdB.of ?_ (Nf (fh (us.map (·.v)) vU) ahC) rfl,by simp[h.len],λi x v hi O=>?_⟩,k1⟩;. exact((h.blk.drew).set_ 2 (.int .u32 1)).set_ 3 (.int .i32 0)
  . exact dO (I (Kf vN (aq P T T.length)) ahC) (by rw[dt (Nat.le_refl _)];omega)
  . exact dO (I (Kf vS (a6 T T.length)) ahC) (by rw[gy];omega)
  . exact dO (I (Kf vM (aH P T T.length)) ahC) (by rw[cY];omega)
  . have h1:=I (fh (us.map (·.v)) vU) ahC;refine ajP ?_;intro e;exact h1
  . rw[List.getElem?_map]at O;cases hu:us[i]? with
    | none=>rw[hu]at O;cases O
    | some r=>rw[hu]at O;injection O with O;subst O;have MY:=h.up i x r hi hu;have V:=I r aig;rw[MY]at V;refine RdB.of (dO V (by have:=se P x;omega)) (λg hg=>Nf r aig g ?_) rfl;rw[MY];exact hg
def q9(lo:Nat)(w:World)(b:Nat)(P T:List Int)(hc:a5 P T=0)(h:kI lo w b P T):E 133 #[↑b] w λe w'=>e= .returned ↑b/\mh lo w'.heap.size w' b P T/\aa [b] w w':=by
  have H:=h.low;have O:b<w.heap.size:=by obtain⟨_,_,_,_,hB,_⟩:=h.ex;exact hB.lt
  obtain⟨AP,cP,AT,cT,hB,hP,hT,nP,nT,V,lT⟩:=h.ex;refine ajq ?_;intro k0 Oh Mp hf
  have HD:=qh (sY b 2 ↑b w (λw2=>mh lo (du b 2 w2).heap.size (du b 2 w2) b P T/\aa [b] w (du b 2 w2)) (hB.cell 2) (hB.cell 3) (hB.free 2) (hB.free 3)
    (hf.mono λe w2 ⟨he,vL,vU,vN,vS,vM,us,I⟩=>⟨he,⟨I.blk.cell 2,I.blk.cell 3,I.blk.free 2,I.blk.free 3⟩,(lZ hc I Oh Mp nP nT H (by simpa[World.setCell]using O) V lT).1,k0.trans (lZ hc I Oh Mp nP nT H (by simpa[World.setCell]using O) V lT).2⟩))
  clear hf Oh Mp hB hP hT nP nT V lT k0 hc h H O;go_enter func133,ntmps133;go_wp2_with fail;refine HD.o.mono ?_;rintro en w' ⟨rfl,w2,Y,hw⟩;have HR:=qh (show mh lo w'.heap.size w' b P T/\aa [b] w w' by rw[hw];exact Y);clear Y hw;go_wp2;go_ret;exact⟨rfl,HR.o⟩
def GB(lo:Nat)(w:World)(b:Nat)(P T:List Int)(hc:a5 P T=0)(h:kI lo w b P T):E 137 #[↑b] w λe w'=>e= returned (J ((ac P).length:Nat))/\mh lo w'.heap.size w' b P T/\aa [b] w w':=by have O:=qh (q9 lo w b P T hc h);clear h hc;go_enter func137,ntmps137;go_wp2_with fail;refine Op O.o λw' H=>?_;have V:=qh (And.intro H.o.1 H.o.2);obtain⟨AP,cP,AT,cT,vU,vN,vS,vM,us,h1,h2,h3,h4,h5,I,h7,h8,h9⟩:=H.o.1.f.ex;obtain⟨AM,cM,rfl,_,_⟩:=cf I;have Y:=h1.cell 8;simp only[fj,cY]at Y;clear h1 h2 h3 h4 h5 I h7 h8 h9;go_wp2;go_ret;exact⟨rfl,V.o⟩
def kK(w:World)(b:Nat)(P T:List Int)(i:Nat)(hi:i<T.length)(h:iK w b P T)(x:Int)(Y:(aq P T T.length)[i]? =some x):E 100 #[↑b,J i] w λe w'=>e= returned (J x)/\w=w':=by have HF:=qh (fe w b P T h);have HH:=qh (xE w b P T i true (decide_eq_true ahB) h.tab);have HX:=qh Y;have Np:=qh h;clear h Y;go_enter func100,ntmps100;go_wp2_with fail;refine LT HH.o ?_;go_wp2_with fail;refine LT HF.o ?_;have O:=Np.o;obtain⟨AP,cP,AT,cT,vU,vN,vS,vM,us,h1,h2,h3,H,h5,h6,h7,h8,h9⟩:=O.ex;have V:(aq P T T.length).length=T.length:=dt (Nat.le_refl _);obtain⟨AM,cM,rfl,_,_⟩:=cf H;obtain⟨b1,o1,hA,_,I⟩:=gf H ahB;subst hA;have q1:=I i x HX.o;have c8:=h1.cell 6;rw[V]at *;simp only[fj]at c8;clear O h1 h2 h3 H h5 h6 h7 h8 h9 I V;go_wp2;go_ret;exact⟨rfl,rfl⟩
end
section
open Go Go.RowKit
def sq(W:World){n:Nat}(ms:MS n)(P T:List Int)(e:Ending)(w':World):Prop:=
 ∃(X:WoB ms.1) (lo:Nat),e= returned (tuple #[lkP X.wb,J 0])/\ms.1.Good/\ms.1.ok ms.2 0/\cQ X w' ms.2/\(∀x∈ms.1.fp X.b,W.heap.size<=x)/\(W.heap.size<=X.wb/\W.heap.size<=ms.1.bt X.b)/\(ms.1.hi X.b<=lo/\W.heap.size<=X.tb/\X.tb<X.wb/\kI lo w' X.tb P T)/\Below W.heap.size W w'
def kI.below(h:kI lo w b P T)(t:Below w.heap.size w w'):kI lo w' b P T:=by obtain⟨h1,I,cP,O,V,H,Y,h4,h5⟩:=h;exact⟨h1,I,cP,O,V,H.below t H.lt,Y.below t (Nat.le_refl _),h4.below t (Nat.le_refl _),h5⟩
def Fj{W:World}{vP:Value}{AT:Option Addr}{gl pa bu:Nat}{ms:MS T.length}(hP:RdL W vP 1 encI P)(hT:RdL W (.slice AT T.length cT) 1 encI T)(OM:a5 P T=0)(La:ms.1.rd=decide (11<=(k:Int)/\(k:Int)<=13))(Y:∀gs a g,Below W.heap.size W gs->aB gs a g (dI 4096)->W.heap.size<=a->W.heap.size<=g->E 13 #[pointer (some ⟨a,0,none⟩),agg #[vP,.slice AT T.length cT],agg #[J k,J gl,J lo,J pa,J bu]] gs (uT gs a g T.length ms)):E 20 #[agg #[vP,.slice AT T.length cT],agg #[J k,J gl,J lo,J pa,J bu]] W (sq W ms P T):=by
  refine ajj ?_;intro Kk w0 E';rw[<-E']at Kk;have MZ:w0.heap.size=W.heap.size+2:=by rw[E'];simp
  refine ajb ?_;intro k1 k2
  have HC:=qh (λgs (h:Below w0.heap.size w0 gs)=>show gs.cell? W.heap.size=some vP/\Z gs W.heap.size 1 (.slice AT T.length cT)/\Z gs (W.heap.size+1) 0 (J k)/\Z gs (W.heap.size+1) 1 (J gl)/\Z gs (W.heap.size+1) 2 (J lo)/\Z gs (W.heap.size+1) 3 (J pa)/\gs.cell? ⟨W.heap.size+1,4,none⟩=some (J bu)from
    ⟨(k1.below h k1.lt).cell 0,(k1.below h k1.lt).cell 1,(k2.below h k2.lt).cell 0,(k2.below h k2.lt).cell 1,(k2.below h k2.lt).cell 2,(k2.below h k2.lt).cell 3,(k2.below h k2.lt).cell 4⟩)
  have O6:=qh (λgs (h:Below w0.heap.size w0 gs)=>And.intro (RdL.below (RdL.below hP Kk (Nat.le_refl _)) h ahB) (RdL.below (RdL.below hT Kk (Nat.le_refl _)) h ahB));have V:=qh Kk;have Lh:=qh E';have Mv:=qh Y;have O7:=qh La;clear hP hT Kk E' k1 k2 Y La;go_enter func20,ntmps20;go_wp2_with fail;rw[<-Lh.o];refine(uf w0 4096).mono ?_;rintro en w1 ⟨a,g,rfl,O,ha,hg,b1⟩;obtain⟨c0,c1,c2,c3,c4,c5,c6⟩:=HC.o w1 b1;have Oi:a<w1.heap.size:=O.blk.lt;have ab:g<w1.heap.size:=O.wds.lt;have HL:=qh (Mv.o w1 a g (V.o.trans (b1.mono V.o.size)) O ahB ahB);have B1:=qh (And.intro b1 O);have Kl:=b1.size;clear b1 O;go_wp2_with fail;refine HL.o.mono ?_;rintro en w2 ⟨b,lb,rfl,hG,mT,I,Kt,Pf,t2⟩;have Kp:=t2.size;have Nw:Below w0.heap.size w0 w2:=B1.o.1.trans (t2.below (λi hi=>by simp at hi;rcases hi with rfl|rfl<;>omega) B1.o.1.size);have H:=qh (And.intro Nw (And.intro hG (And.intro mT (And.intro I Kt))));have XP:=qh (show W.heap.size<=ms.1.bt b by omega);have ZD:=(hG.fpa _ _ _ _ _ _ I).2;clear c0 c1 c2 c3 c4 c5 c6 hG mT I Kt Pf t2;obtain⟨c0,c1,c2,c3,c4,c5,c6⟩:=HC.o w2 Nw;clear Nw;have Y:=qh (i3 w2 vP (.slice AT T.length cT) P T (O6.o w2 H.o.1).1 (O6.o w2 H.o.1).2 OM);unfold lkP;go_wp2_with fail;refine Y.o.mono ?_;rintro en w3 ⟨tb,rfl,W6,h3,b3⟩;have Li:=b3.size;obtain⟨-,-,c0,-,-,-,-⟩:=HC.o w3 (H.o.1.trans (b3.mono H.o.1.size));have B3:=qh (And.intro b3 h3);have UK:tb<w3.heap.size:=by obtain⟨_,_,_,_,_,hk,_⟩:=h3;exact hk.lt
  clear b3 h3;go_wp2_with fail;refine LT (rR _ _ ms.1.rd O7.o) ?_
  have HF:=qh (show sq W ms P T (returned (tuple #[↑w3.heap.size,J 0])) (w3.alloc (cells #[pointer (some ⟨a,0,none⟩),↑tb,↑lb,.bool ms.1.rd] 121))from by
    have Pd:=(Below.refl w3.heap.size w3).alloc (Nat.le_refl _) (cells #[pointer (some ⟨a,0,none⟩),↑tb,↑lb,.bool ms.1.rd] 121);obtain⟨G,mT,I,Kt⟩:=H.o.2;have I':=(G.fpa _ _ _ _ _ _ I).1;refine⟨⟨b,a,g,w3.heap.size,lb,tb,w3.heap.size+1⟩,w2.heap.size,rfl,G,mT,⟨?_,Blk.new _ _ _,λhm=>?_,by show ms.1.hi b<=w3.heap.size+1;omega,by show w3.heap.size<w3.heap.size+1;omega,by simp⟩,λx hx=>?_,⟨by show W.heap.size<=w3.heap.size;omega,XP.o⟩,⟨ZD,by show W.heap.size<=tb;omega,by show tb<w3.heap.size;omega,B3.o.2.below Pd⟩,?_⟩;. exact G.far _ _ _ _ _ _ _ [] I (aa.of_below (B3.o.1.trans (Pd.mono ahB))) ahC
    . have:w3.heap.size<ms.1.hi b:=I' _ hm;omega
    . have:=Kt x hx;omega
    . exact(V.o.trans ((H.o.1.trans (B3.o.1.mono H.o.1.size)).mono V.o.size)).trans (Pd.mono ahB))
  go_wp2;go_ret2;exact HF.o
end
section
open Go Go.RowKit Go.Maps
section
variable{n:Nat}{M:LkM n}{X:WoB M}{st:M.σ}
def vx(l k:List (Int×Int)):∀st:M.σ,M.evs st (l++k)=M.evs st l++M.evs (M.runA st l l.length) k:=by
 induction l with
 |nil=>intro st;rfl
 |cons p l h=>intro st;show(M.pick st p).1 :: M.evs (M.pick st p).2 (l++k)=(M.pick st p).1 :: (M.evs (M.pick st p).2 l++_);rw[h];rfl
def ut(l k:List (Int×Int))(st:M.σ):M.runA st (l++k) (l++k).length=M.runA (M.runA st l l.length) k k.length:=by unfold LkM.runA;simp only[List.take_length,List.foldl_append]
end
section
variable{α:Type}{enc:α->List Value}{l:List α}{off n cap:Nat}
def tx(hs:∀x,(enc x).length=sz):∀l:List α,(l.flatMap enc).length=l.length*sz
 |[]=>by simp
 |x :: l=>by rw[List.flatMap_cons,List.length_append,tx hs l,hs,List.length_cons,Nat.succ_mul];omega
def BK(hs:∀x,(enc x).length=sz):∀(l:List α) (j:Nat) (u:Value),(l.flatMap enc)[j]? =some u->∃x,l[j/sz]? =some x/\(enc x)[j%sz]? =some u:=by
 intro l;induction l with
 |nil=>intro j u h;simp at h
 |cons x l ih=>
  intro j u h;rw[List.flatMap_cons]at h;have hx:=hs x;by_cases I:j<sz
  .rw[List.getElem?_append_left ahB]at h;refine⟨x,?_,?_⟩;.rw[Nat.div_eq_of_lt I];rfl
   .rw[Nat.mod_eq_of_lt I];exact h
  .rw[List.getElem?_append_right ahB,hx]at h;obtain⟨y,h1,H⟩:=ih _ _ h
   have Y:0<sz:=by
    rcases Nat.eq_zero_or_pos sz with e|e
    .have h3:=(List.getElem?_eq_some_iff.1 H).1;have h4:=hs y;omega
    .exact e
   have O:j/sz=(j-sz)/sz+1:=(by rw[Nat.div_eq_sub_div Y ahB]);have V:j%sz=(j-sz)%sz:=Nat.mod_eq_sub_mod ahB;exact⟨y,by rw[O];exact h1,by rw[V];exact H⟩
end
end
section
open Go Go.RowKit Go.Maps
def TrB(bb:Nat)(w:World)(r:Nat):Prop:=∃v,Z w bb 2 v/\v.ownBlock=some r
def TuB(bb B:Nat)(S:List Nat)(w w':World):Prop:=∃R,(∀r∈R,B<=r/\(w.heap.size<=r\/TrB bb w r))/\aa (R++S) w w'/\∀r,TrB bb w' r->w.heap.size<=r\/TrB bb w r
section
variable{N8:World}
def TuB.refl:TuB bb B S w w:=⟨[],by simp,aa.refl _ _,λ_ h=> .inr h⟩
def TuB.size(a:TuB bb B S w w'):w.heap.size<=w'.heap.size:=by obtain⟨_,_,t,_⟩:=a;exact t.size
def TuB.trans(a:TuB bb B S w w')(b:TuB bb B S w' N8):TuB bb B S w N8:=by
 have hs:=a.size;obtain⟨R,h,t,e⟩:=a;obtain⟨Q,k,u,f⟩:=b;have H:∀r,w'.heap.size<=r\/TrB bb w' r->w.heap.size<=r\/TrB bb w r:=λr q=>q.elim (λq=> .inl (Nat.le_trans hs q)) (e r);refine⟨R++Q,λr I=>(List.mem_append.1 I).elim (h r) (λq=>⟨(k r q).1,H r (k r q).2⟩),(t.mono λi hi=>?_).trans (u.mono λi hi=>?_),λr q=>H r (f r q)⟩
 .rcases List.mem_append.1 hi with h1|h1
  .exact List.mem_append_left _ (List.mem_append_left _ h1)
  .exact List.mem_append_right _ h1
 .rcases List.mem_append.1 hi with h1|h1
  .exact List.mem_append_left _ (List.mem_append_right _ h1)
  .exact List.mem_append_right _ h1
def TuB.below(hb:bb<w.heap.size)(b:Below w.heap.size w w'):TuB bb B S w w':=
 ⟨[],by simp,aa.of_below b,λ_ ⟨v,h,q⟩=> .inr ⟨v,(b.cell (p:=⟨bb,2,none⟩) hb).symm.trans h,q⟩⟩
end
section
variable{n:Nat}{M:LkM n}
structure dY(X:WoB M)(bb B:Nat)(w:World)(C':M.σ)(pl:List (Int×Int)):Prop where
 is:cQ X w (M.runA C' pl pl.length)
 bk:∃v,Blk w bb 134 #[lkP X.wb,.bool M.rd,v]/\w.ownsRow B 55 4 v pl.length ((M.evs C' pl).flatMap encE)
 hb:X.hi<=bb/\bb<B/\B<=w.heap.size
variable{X:WoB M}{C':M.σ}{Qq:List (Int×Int)}
def dY.oth(G:M.Good)(h:dY X bb B w C' pl)(t:aa S w w')(H:∀x∈S,X.hi<=x/\x≠bb/\x<B):dY X bb B w' C' pl:=by obtain⟨v,b,o⟩:=h.bk;exact⟨h.is.far G t (λx O=>(H x O).1),⟨v,t.blk b (λm=>(H _ m).2.1 rfl),aa.own o t (λq I m=>by have:=(o.lt q I).1;have:=(H q m).2.2;omega)⟩,h.hb.1,h.hb.2.1,Nat.le_trans h.hb.2.2 t.size⟩
def dY.lt(h:dY X bb B w C' pl):bb<w.heap.size:=Nat.lt_of_lt_of_le h.hb.2.1 h.hb.2.2
def dY.below(G:M.Good)(h:dY X bb B w C' pl)(b:Below w.heap.size w w'):dY X bb B w' C' pl:=h.oth G (S:=[]) (aa.of_below b) ahC
def Ae(X:WoB M)(bb B:Nat)(w:World)(C':M.σ)(pl:List (Int×Int))(v:Value)(e:Ending)(w':World):Prop:=
 e= returned v/\dY X bb B w' C' pl/\TuB bb B (bb :: M.fp X.b) w w'
def Bu(pl:List (Int×Int))(p:Int×Int)(C':M.σ):M.evs C' (pl++[p])=M.evs C' pl++[(M.pick (M.runA C' pl pl.length) p).1]:=by rw[vx];rfl
def kF(pl:List (Int×Int))(p:Int×Int)(C':M.σ):M.runA C' (pl++[p]) (pl++[p]).length=(M.pick (M.runA C' pl pl.length) p).2:=by rw[ut];rfl
theorem CM(G:M.Good)(h:dY X bb B w C' pl)(hk:M.ok C' 0)(hN:pl.length<lkB)(t u:Int):E 161 #[lkP bb,J t,J u] w (Ae X bb B w C' (pl++[(t,u)]) (J (M.pick (M.runA C' pl pl.length) (t,u)).1.kind)):=by
  have mT:M.ok (M.runA C' pl pl.length) pl.length:=by have:=G.runA hk pl pl.length ahB;rwa [Nat.zero_add]at this
  obtain⟨i0,hi,Kr,Ku,hz2⟩:=info_parts Tryz.infoEvt;refine ajB ?_;intro HI;have HD:=qh (doW G h.is mT hN (t,u));obtain⟨q,O⟩:=LE (M.pick (M.runA C' pl pl.length) (t,u));have Va:=qh (Bu pl (t,u) C');have Vr:=qh (kF pl (t,u) C');rw[<-O]at HD Va Vr ⊢;obtain⟨H,s2⟩:=q;obtain⟨v,hb,V⟩:=h.bk;obtain⟨A,c,rfl⟩:=bE V;have hB:=h.hb;have Kt:∀x∈M.fp X.b,x<X.hi:=h.is.lo G;have Lm:=qh (show bb∉M.fp X.b from λm=>by have:=Kt _ m;omega);have Tn:=qh (λq (O:(Value.slice A pl.length c).ownBlock=some q)=>show B<=q/\q∉M.fp X.b from⟨(V.lt q O).1,λm=>by have:=(V.lt q O).1;have:=Kt _ m;omega⟩);have c0:=hb.cell 0;have H0:=qh (And.intro hb V);have NJ:=qh (show ∀r,(Value.slice A pl.length c).ownBlock=some r->TrB bb w r from λr I=>⟨_,hb.cell 2,I⟩);have HG:=qh G;have LJ:pl.length<=1000000:=by unfold lkB at hN;omega
  have HB:=qh hB;unfold lkP evV at HD;unfold lkP at *;clear hi Kr Ku hz2 mT O hb V h hk hN Kt G;simp only at HD ⊢;go_enter func161,ntmps161;go_wp2_with fail;refine Op HD.o λw2 k2=>?_;have H2:=qh (And.intro k2.o.1 (And.intro (k2.o.2.blk H0.o.1 Lm.o) (aa.own H0.o.2 k2.o.2 (λq O=>(Tn.o q O).2))));have T2:=qh k2.o.2;have Kp:=k2.o.2.size;obtain⟨w3,Mb⟩:=LE (w2.alloc (cells #[J H.kind,J H.thread,.bool H.read,J H.count] 55));have b3:Below w2.heap.size w2 w3:=by rw[Mb];exact(Below.refl _ _).alloc (Nat.le_refl _) _
  have hE:Blk w3 w2.heap.size 55 #[J H.kind,J H.thread,.bool H.read,J H.count]:=by rw[Mb];exact Blk.new _ _ _
  have Li:w3.heap.size=w2.heap.size+1:=by rw[Mb];simp
  have MU:=H2.o.2.1.below b3 H2.o.2.1.lt;have c2:Z w3 bb 2 (.slice A pl.length c):=MU.cell 2;have e0:w3.cell? w2.heap.size=some (J H.kind):=hE.cell 0;have e1:Z w3 w2.heap.size 1 (J H.thread):=hE.cell 1;have e2:Z w3 w2.heap.size 2 (.bool H.read):=hE.cell 2;have e3:Z w3 w2.heap.size 3 (J H.count):=hE.cell 3;have H3:=qh (And.intro (H2.o.1.below HG.o b3) (And.intro MU (And.intro hE (And.intro (H2.o.2.2.kept (oQ b3 none) (by cases O:(Value.slice A pl.length c).ownBlock<;>simp)) (T2.o.trans (aa.of_below (S:=M.fp X.b) b3))))));have Tg:=qh (show w2.heap.size≠bb/\∀q,(Value.slice A pl.length c).ownBlock=some q->q≠bb/\q≠w2.heap.size from⟨λe=>by have:=H2.o.2.1.lt;omega,λq O=>by have:=(Tn.o q O).1;have:=HB.o;have:=(H2.o.2.2.lt q O).2;omega⟩);have Yz:=qh Mb;have Vs:=qh Li;have l1:bb<w3.heap.size:=MU.lt;have l2:w2.heap.size<w3.heap.size:=hE.lt;clear b3 hE MU Mb Li;go_upto_region 1 with fail;rw[<-Yz.o];go_region_law ((go_loud ((refine step_append_lies _ rfl _ _ 70 rfl B 55 i0 (agg #[J 0,J 0,bool false,J 0]) 4 32 Tryz.underlying70 HI.o.1 HI.o.2.1 HI.o.2.2.1 HI.o.2.2.2 rfl ahD _ _ _ rfl (show World.ownsRow (w3.alloc (cells #[J H.kind,J H.thread,.bool H.read,J H.count] 55)).drew B 55 4 (.slice A pl.length c) pl.length ((M.evs C' pl).flatMap encE)from H3.o.2.2.2.1.alloc _) ⟨w3.heap.size,0,none⟩ 1 1 (encE H) rfl rfl (λj u hj=>ql w3 H rfl j u hj) (oH _) ahD aif ahB (by have:=Vs.o;have:=HB.o;simp;omega) _ rfl ?_));intro g6 Nq w6 h6 P8 Pk ZT;have Oo:World.grownBy (w3.alloc (cells #[J H.kind,J H.thread,.bool H.read,J H.count] 55)).drew w6 (Value.slice A pl.length c).ownBlock:=P8;clear P8;have O9:=(H3.o.2.1.alloc (cells #[J H.kind,J H.thread,.bool H.read,J H.count] 55)).drew.grown Oo (λe=>(Tg.o.2 _ e.symm).1 rfl);have ab:=O9.cell 2;have ad:=O9.free 2;have TO:=(H3.o.2.2.1.alloc (cells #[J H.kind,J H.thread,.bool H.read,J H.count] 55)).drew.grown Oo (λe=>(Tg.o.2 _ e.symm).2 rfl)))
  all_goals
    have H6:=qh (show dY X bb B (w6.setCell ⟨bb,2,none⟩ (slice (some ⟨g6,0,none⟩) (pl.length+1) Nq)) C' (pl++[(t,u)])/\TuB bb B (bb :: M.fp X.b) w (w6.setCell ⟨bb,2,none⟩ (slice (some ⟨g6,0,none⟩) (pl.length+1) Nq))from by
      obtain⟨ki,kb,-,ko,kt⟩:=H3.o;have Ow:∀j,(Value.slice A pl.length c).ownBlock=some j->B<=j:=λj hj=>(Tn.o j hj).1;have R8:=HB.o;have b4:=((Below.refl w3.heap.size w3).alloc (Nat.le_refl _) (cells #[J H.kind,J H.thread,.bool H.read,J H.count] 55)).drew;have MB:=Vs.o;refine⟨⟨?_,⟨_,O9.set_ 2 _,?_⟩,R8.1,R8.2.1,?_⟩,(Value.slice A pl.length c).ownBlock.toList,?_,?_,?_⟩;. rw[Vr.o];exact((ki.below HG.o b4).grown HG.o Oo (λj hj=>by have:=Ow j hj;omega)).set HG.o R8.1 _ _
      . have h7:=ownsRow_setCell_below h6 (a:=⟨bb,2,none⟩) R8.2.1 (slice (some ⟨g6,0,none⟩) (pl.length+1) Nq);rw[Va.o,List.flatMap_append,List.length_append];simpa using h7
      . have:=Oo.size;simp at this ⊢;omega
      . intro r I;simp at I;exact⟨Ow r I,.inr (NJ.o r I)⟩
      . have t6:aa (Value.slice A pl.length c).ownBlock.toList (w3.alloc (cells #[J H.kind,J H.thread,.bool H.read,J H.count] 55)).drew w6:=
          ⟨Oo.os,Oo.tape,Oo.output,Oo.size,λi hi hn=>Oo.block i hi aih⟩
        have Y:=(kt.mono (T:=(Value.slice A pl.length c).ownBlock.toList++bb :: M.fp X.b) (λi hi=>by simp[hi])).trans ((aa.of_below b4).trans (t6.mono (λi hi=>by simp at hi;simp[hi])));exact Y.setCell (.inl ahC) _
      . rintro r ⟨v7,SO,O⟩;have e7:(w6.setCell ⟨bb,2,none⟩ (slice (some ⟨g6,0,none⟩) (pl.length+1) Nq)).cell? ⟨bb,2,none⟩=some (slice (some ⟨g6,0,none⟩) (pl.length+1) Nq):=(O9.set_ 2 _).cell 2;rw[e7]at SO;injection SO with SO;subst SO;have O:g6=r:=(by simpa[Value.ownBlock]using O);subst O;rcases Pk with q|q
        . exact .inr (NJ.o _ q)
        . left;rw[q];simp;omega)
    have ee:=TO.cell 0;have ne:=Tg.o.1;have ec:(w6.setCell ⟨bb,2,none⟩ (slice (some ⟨g6,0,none⟩) (pl.length+1) Nq)).cell? w2.heap.size=some (J H.kind):=(TO.far (p:=⟨bb,2,none⟩) ne _).cell 0;clear h6 Oo Pk O9 TO;go_wp2;go_ret;exact⟨rfl,H6.o⟩
end
end
section
open Go Go.RowKit Go.Maps
variable{f:FuncId}
section
variable{n:Nat}{M:LkM n}
def LkM.unt(M:LkM n)(t kd:Int):Nat->M.σ->Nat×Bool×M.σ
 |0,s=>(0,false,s)
 |r+1,s=>if (M.pick s (t,0)).1.kind=kd then(1,true,(M.pick s (t,0)).2)else((M.unt t kd r (M.pick s (t,0)).2).1+1,(M.unt t kd r (M.pick s (t,0)).2).2)
def Da(t kd:Int):∀(r:Nat) (s:M.σ),(M.unt t kd r s).1<=r/\((M.unt t kd r s).2.1=true->1<=(M.unt t kd r s).1)/\((M.unt t kd r s).2.1=false->(M.unt t kd r s).1=r)
 |0,s=>by simp[LkM.unt]
 |r+1,s=>by
  have h:=Da t kd r (M.pick s (t,0)).2;unfold LkM.unt;split;.simp
  .exact⟨by simp only;omega,λ_=>by simp only;omega,λe=>by have:=h.2.2 e;simp only;omega⟩
variable{X:WoB M}{C':M.σ}
inductive BoF:Int->FuncId->Prop
 |i:BoF 2 163
 |o:BoF 4 164
def Hz(K:BoF kd f)(w:World)(k:Int):Calls prog f #[J k] w λe w'=>e= returned (bool (k==kd))/\w=w':=by
 cases K;.go_enter func163,ntmps163;exact aaa
 .go_enter func164,ntmps164;exact aaa
def UntL(M:LkM n)(t kd:Int)(C':M.σ)(pl:List (Int×Int))(z:Nat×Bool×M.σ)(r j:Nat):Prop:=
 z=((M.unt t kd r (M.runA C' (pl++List.replicate j (t,0)) (pl++List.replicate j (t,0)).length)).1+j,(M.unt t kd r (M.runA C' (pl++List.replicate j (t,0)) (pl++List.replicate j (t,0)).length)).2)
def uq(pl:List (Int×Int))(j:Nat)(p:Int×Int):pl++List.replicate (j+1) p=(pl++List.replicate j p)++[p]:=by rw[List.append_assoc,<-List.replicate_succ']
def UntL.stop{z:Nat×Bool×M.σ}(h:UntL M t kd C' pl z 0 j):z.1=j/\z.2.1=false:=by unfold UntL LkM.unt at h;rw[h];simp
def UntL.hit{z:Nat×Bool×M.σ}(h:UntL M t kd C' pl z (r+1) j)(H:(M.pick (M.runA C' (pl++List.replicate j (t,0)) (pl++List.replicate j (t,0)).length) (t,0)).1.kind=kd):z.1=j+1/\z.2.1=true:=by unfold UntL LkM.unt at h;rw[if_pos H]at h;rw[h];simp;omega
def UntL.next{z:Nat×Bool×M.σ}(h:UntL M t kd C' pl z (r+1) j)(H:¬(M.pick (M.runA C' (pl++List.replicate j (t,0)) (pl++List.replicate j (t,0)).length) (t,0)).1.kind=kd):UntL M t kd C' pl z r (j+1):=by unfold UntL LkM.unt at h;rw[if_neg H]at h;unfold UntL;rw[uq,kF,h];simp only[Nat.add_assoc,Nat.add_comm 1]
theorem sd(K:BoF kd f)(G:M.Good)(h:dY X bb B w C' pl)(hk:M.ok C' 0)(t:Int)(H:Int)(hm:H<=60)(hN:pl.length+60<=lkB){z:Nat×Bool×M.σ}(hz:z=M.unt t kd H.toNat (M.runA C' pl pl.length)):E 162 #[lkP bb,J t,J H,.func (.func f) #[] #[]] w (Ae X bb B w C' (pl++List.replicate z.1 (t,0)) (tuple #[J z.1,J (if z.2.1 then 0 else 10)])):=by
  have ZX:∀(fn:Fn) (first cap:Array Value) (w:World),(Instr.makeFunc fn first cap).run prog w= .ok (.func fn first cap) w:=λ_ _ _ _=>rfl;have HK:=qh (λw k=>Hz K w k);have HU:Kq (UntL M t kd C' pl z H.toNat 0):=qh (by unfold UntL;simp only[List.replicate_zero,List.append_nil];rw[hz];rfl);have HP:=qh (λW j (k:dY X bb B W C' (pl++List.replicate j (t,0))) (hj:j<60)=>CM G k hk ahG t 0);have H0:=qh h;obtain⟨m,hm0⟩:=LE H.toNat;rw[<-hm0]at HU;have HM:=qh hm0;refine aki ?_;intro rc Me;rw[<-Me];have Ob:=qh Me;clear hz h hN hk G hm0 Me;obtain⟨kc,NR⟩:=LE kd;rw[<-NR]at HK HU;clear NR;cases K
  all_goals
    unfold lkP at *;go_enter func162,ntmps162;go_wp2;go_loopw [8,9,11] (λa b i wr=>a= J 0/\b= J 0/\∃j:Nat,i= J j/\j<=m/\dY X bb B wr C' (pl++List.replicate j (t,0))/\TuB bb B (bb :: M.fp X.b) w wr/\UntL M t kc C' pl z (m-j) j) (λ_ _ i _=>m-(intOf i).toNat);case atStart=>exact⟨rfl,rfl,0,rfl,by omega,by simpa using H0.o,.refl,HU.o⟩
    case round=>
      obtain⟨rfl,rfl,j,rfl,hj,I,O,V⟩:=hrel;obtain⟨wo,rfl⟩:∃wo:World,wo=wr:=⟨_,rfl⟩;have ab:=HM.o;by_cases I':j<m
      . have QC:=qh (HP.o wo j I ahB);have HR:=qh (And.intro O (show UntL M t kc C' pl z ((m-(j+1))+1) j by rwa[show m-(j+1)+1=m-j by omega]));obtain⟨kk,So⟩:=LE ((M.pick (M.runA C' (pl++List.replicate j (t,0)) (pl++List.replicate j (t,0)).length) (t,0)).1.kind);rw[<-So]at QC;have RS:=qh So;have ZI:(j:Int)<H:=(by omega);have x1:IntKind.i64.wrap ((j:Int)+1)=(j:Int)+1:=IntWalk.i64_in _ ahB;clear I O V So;go_wp2_with fail;refine Op QC.o λw2 k2=>?_;have H2:=qh (show dY X bb B w2 C' (pl++List.replicate (j+1) (t,0))/\TuB bb B (bb :: M.fp X.b) w w2 from⟨by rw[uq];exact k2.o.1,HR.o.1.trans k2.o.2⟩);cases Y:(kk==kc)
        . have HE:=qh Y;have HD:=qh (λw=>HK.o w kk);rw[Y]at HD;clear Y;go_wp2_with fail;refine LT (HD.o _) ?_;go_wp2;go_roundw;case rel=>exact⟨rfl,rfl,j+1,by go_num,by omega,H2.o.1,H2.o.2,HR.o.2.next (by rw[<-RS.o];simpa using HE.o)⟩
          case measure=>simp[intOf];omega
        . have HE:=qh Y;have HD:=qh (λw=>HK.o w kk);rw[Y]at HD;clear Y;go_wp2_with fail;refine LT (HD.o _) ?_;go_wp2;go_ret2;obtain⟨e1,e2⟩:=HR.o.2.hit (by rw[<-RS.o];simpa using HE.o);refine⟨?_,?_,H2.o.2⟩;. rw[Ob.o,e1,e2];simp
          . rw[e1];exact H2.o.1
      . obtain rfl:j=m:=by omega
        have HF:=qh (And.intro I (And.intro O V));have ZI:¬(j:Int)<H:=(by omega);clear I O V;go_wp2;go_ret2;obtain⟨I,O,V⟩:=HF.o;rw[Nat.sub_self]at V;obtain⟨e1,e2⟩:=V.stop;refine⟨?_,?_,O⟩;. rw[Ob.o,e1,e2];simp;omega
        . rw[e1];exact I
end
end
section
open Go Go.RowKit
def Ak(mf:(P T:List Int)->Nat->Nat->Nat->Nat->Nat->MS T.length):Prop:=∀(W:World) (vP:Value) (AT:Option Addr) (cT:Nat) (P T:List Int) (k gl lo pa bu:Nat),RdL W vP 1 encI P->RdL W (.slice AT T.length cT) 1 encI T->a5 P T=0->1<=k/\k<=13->1<=gl/\gl<=5->1<=lo/\lo<=5->1<=pa/\pa<=4->bu<=3->
 E 20 #[agg #[vP,.slice AT T.length cT],agg #[J k,J gl,J lo,J pa,J bu]] W (sq W (mf P T gl lo pa bu k) P T)
end
section
open Go.RowKit
def iK.upAt(h:iK w b P T)(V:T[k]? =some x):∃b1 o1 H A c,Z w b 5 (slice (some ⟨b1,o1,none⟩) T.length H)/\Z w b1 (o1+k) (.slice A (upL P x).length c)/\RdL w (.slice A (upL P x).length c) 1 encI (upL P x)/\T.length<=H/\b1<w.heap.size:=by obtain⟨AP,cP,AT,cT,vU,vN,vS,vM,us,h1,h2,h3,h4,h5,h6,h7,h8,h9⟩:=h.ex;have hk:=(List.getElem?_eq_some_iff.1 V).1;obtain⟨v,O⟩:=ai (show k<us.length by omega);have I:=h9 k x v V O;obtain⟨A,c,rfl,_,_⟩:=cf I;obtain⟨AU,Y,rfl,m1,m2,m3⟩:=h7;obtain⟨b1,o1,rfl,hb,hc⟩:=m3 ahB;have c5:=h1.cell 5;simp only[fj,h8]at c5;exact⟨b1,o1,Y,A,c,c5,by simpa using hc k _ O 0 _ rfl,I,by omega,hb⟩
end
section
open Go.RowKit
def wZ{v:Int}(h:v<0):upL P v=[]:=yc h
def JD(h:dW P=true):∀(v:Nat),v<P.length->(upL P v).length=depL P v/\∀(i:Nat) (u:Int),(upL P v)[i]? =some u->0<=u/\u<P.length/\(upL P v).drop i=upL P u/\depL P u+i=depL P v:=by
 intro v;induction v using Nat.strongRecOn with
 |_ v ih=>
  intro O;obtain⟨p,I⟩:=ai O;have hl:=gL h I;rw[gA h I,iN h I];by_cases V:0<=p
  .obtain⟨n,rfl⟩:=Int.eq_ofNat_of_zero_le V;obtain⟨h1,h2⟩:=ih n ahB ahB;rw[if_pos V];refine⟨by rw[List.length_cons,h1],λi u H=>?_⟩;cases i with
   |zero=>simp at H;subst H;exact⟨by omega,by omega,by rw[List.drop_zero,gA h I],by rw[iN h I,if_pos V]⟩
   |succ i=>rw[List.getElem?_cons_succ]at H;obtain⟨a1,Y,a3,a4⟩:=h2 i u H;exact⟨a1,Y,by rw[List.drop_succ_cons];exact a3,by omega⟩
  .rw[if_neg V,wZ ahB];refine⟨rfl,λi u H=>?_⟩;cases i with
   |zero=>simp at H;subst H;exact⟨by omega,by omega,by rw[List.drop_zero,gA h I,wZ ahB],by rw[iN h I,if_neg V]⟩
   |succ i=>simp at H
def xx{v:Nat}(O:v<P.length):1<=depL P v:=oD O
def pQ(h:dW P=true)(H:0<=x)(I:x<P.length):(upL P x).length=depL P x/\∀(i:Nat) (u:Int),(upL P x)[i]? =some u->0<=u/\u<P.length/\(upL P x).drop i=upL P u/\depL P u+i=depL P x:=by obtain⟨n,rfl⟩:=Int.eq_ofNat_of_zero_le H;exact JD h n ahB
def qC(h:dW P=true)(I:0<=x)(hl:x<P.length):1<=depL P x/\(upL P x)[depL P x-1]? =some 0:=by
 have hp:1<=depL P x:=by obtain⟨n,rfl⟩:=Int.eq_ofNat_of_zero_le I;exact xx ahB
 refine⟨hp,?_⟩;obtain⟨h1,Y⟩:=pQ h I hl;obtain⟨u,O⟩:=ai (show depL P x-1<(upL P x).length by omega);obtain⟨a1,a2,a3,a4⟩:=Y _ u O;obtain⟨n,rfl⟩:=Int.eq_ofNat_of_zero_le a1;obtain⟨p,V⟩:=ai (show n<P.length by omega);have hd:=iN h V;have ht:=ya h V
 have H:n=0:=by
  rcases Nat.eq_zero_or_pos n with e|e
  .exact e
  .have hb:=ht.2 e;rw[if_pos hb.1]at hd;obtain⟨m,rfl⟩:=Int.eq_ofNat_of_zero_le hb.1;have:=xx (P:=P) (v:=m) ahB;omega
 subst H;exact O
end
end Go.Proofs.YtglokdbiggbkjaaGreat
