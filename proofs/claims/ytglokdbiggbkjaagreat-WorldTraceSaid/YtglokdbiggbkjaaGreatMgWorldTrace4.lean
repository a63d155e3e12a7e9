/- Joined texts. -/
import Derived.Laws.Externs
import Derived.Deep.QuietTactic
import Derived.BigQuiet
import Derived.Deep.RegionHeld3
import Derived.Deep.DeepCutAuto
import Derived.BigRegion
import Derived.StillTailTactics
import Derived.IntWalk
import Derived.Test.YtglokdbiggbkjaaGreatRows
import Derived.Deep.AppendLies
import Derived.Laws.MakeOwn
import Derived.Test.YtglokdbiggbkjaaGreatMgWorldTrace0
import Derived.Test.YtglokdbiggbkjaaGreatMgWorldTrace2
import Derived.Test.YtglokdbiggbkjaaGreatMgWorldTrace3
set_option linter.unusedVariables false
set_option linter.unusedSimpArgs false
set_option linter.defProp false
set_option maxRecDepth 100000
set_option maxHeartbeats 16000000
open Go.Proofs.Tryz
namespace Go.Proofs.YtglokdbiggbkjaaGreat
open Go.IntKind(i64)
open Go.Value(int bool slice agg tuple pointer)
open Go.Ending(returned)
open Go.Obj(cells)
variable{w w':World}{a g base sb ab i I j u:Nat}{P:Program}{L L':List (Int×Bool)}{S T:List Nat}{x y:Int×Bool}{f:Int}{D:List Int}
section
open Go.RowKit
variable{x:Int}{s:Ar}
def p7{f:FuncId}{h:Func}(Y:P.funcs[f]? =some h)(O:(h.name== "runtime.NumGoroutine")=false)(I:h.body.isNone=true)(hn:Extern.findNext h=none)(k:IntKind)(V:Extern.find h=some (Extern.Atomic.swapT (.int k))){a:Addr}{y:Int}(hc:w.cell? a=some (.int k x))(hz:w.frozen? a=false):(callFunc f #[.pointer (some a),.int k y]).run P w= .ok (.value (.int k x)) (w.setCell a (.int k y)):=by
  rw[run_callFunc_extern Y O I hn V]
  change (Sem.run P (do
    let H <-asAddr (.pointer (some a))
    let old <-Extern.Atomic.read (.int k) H
    store H (.int k y) .atomic
    pure old) w).andThen _=_
  simp[Extern.Atomic.read,asAddr,hc,hz,run_store P w a (.int k y) .atomic rfl,Result.andThen]
def E8(w:World)(p:Addr)(x:Int)(hc:w.cell? p=some (J x))(h:p.spot=none):E 113 #[.pointer (some p)] w λe w'=>e= returned (J x)/\w=w':=by obtain⟨b,o,sp⟩:=p;obtain rfl:sp=none:=h;have H:=run_call_load (P:=prog) func157 ahB ahB ahB .i64 ahB hc;clear hc;go_enter func113,ntmps113;go_wp2;go_ret;exact⟨rfl,rfl⟩
def Hf(w:World)(b o:Nat)(x y:Int)(hc:Z w b o (J x))(h:w.frozen? ⟨b,o,none⟩=false):E 273 #[pointer (some ⟨b,o,none⟩),J y] w λe w'=>e= returned (J x)/\w'=w.setCell ⟨b,o,none⟩ (J y):=by have H:=p7 (P:=prog) func275 ahB ahB ahB .i64 ahB (y:=y) hc h;go_enter func273,ntmps273;go_wp2;go_ret;exact⟨rfl,rfl⟩
def aB.put(h:aB w a g s)(H:inR s.W x=true)(v:Int):aB (w.setCell ⟨g,x.toNat-1,none⟩ (J v)) a g (wrA s x v)/\aa [a,g] w (w.setCell ⟨g,x.toNat-1,none⟩ (J v)):=by
  have I:=aT.1 H;refine⟨⟨?_,?_,h.ne,?_,h.room,h.ops⟩,(aa.refl _ _).setCell (.inl ahz) _⟩;. have:=h.blk.far (p:=⟨g,x.toNat-1,none⟩) h.ne (J v);have e:gE g (wrA s x v)=gE g s:=(by unfold gE wrA;rw[bQ]);rw[e];exact this
  . have:=h.wds.set_ (x.toNat-1) (J v);rw[E3 s ahy]at this;have e:wrA s x v={s with W:=s.W.set (x.toNat-1) v}:=(by unfold wrA stW;rw[if_pos H]);rw[e];exact this
  . show(stW s.W x v).length<=_;rw[bQ];exact h.le
def jj(h:aa [a] w w'):aa [a,g] w w':=h.mono ahz
def fh(w:World)(a g:Nat)(s':Ar)(r:Value)(e:Ending)(w':World):Prop:=e= returned r/\aB w' a g s'/\aa [a,g] w w'
def aE(h:aB w a g s)(x:Int)(Y:s.ops+1<=1000000000000):E 173 #[↑a,J x] w (fh w a g (af s x) (J (ldW s.W x))):=by
  have H:=qh h;cases I:inR s.W x;. have e:fh w a g (af s x) (J (ldW s.W x)) (returned (J 0)) w:=⟨by rw[ly I],by unfold af;rw[i4 s _ _ _ I];exact h,aa.refl _ _⟩;have HX:=qh I;clear h I;go_enter func173,ntmps173;go_wp2_with fail;refine LT (kx H.o x HX.o) ?_;go_wp2;go_ret;exact e
  . have HX:=qh I;have O:=qh (jt I);have PJ:=aT.1 I;have MU:x.toNat-1<s.W.length:=(by omega);clear h I;go_enter func173,ntmps173;go_wp2_with fail;refine LT (kI H.o x HX.o) ?_;go_wp2_with fail;refine Pi (i5 H.o 1 x false HX.o Y) λw1 h1=>?_;have hc:=(h1.o.1.word (i:=x.toNat-1) (by rw[dO];exact MU)).1;rw[dO]at hc;have H1:=qh (And.intro h1.o.1 h1.o.2);go_wp2_with fail;refine LT (E8 _ _ _ hc rfl) ?_;clear hc;rw[<-O.o];obtain⟨r,V⟩:=LE (ldW s.W x);rw[<-V];have HR:=qh V;clear V;go_wp2;go_ret;exact⟨by rw[HR.o];rfl,H1.o.1,jj H1.o.2⟩
def fw(h:aB w a g s)(x v:Int)(Y:s.ops+1<=1000000000000):E 271 #[↑a,J x,J v] w (fh w a g (cz s x v) (J (ldW s.W x))):=by
  have H:=qh h;cases I:inR s.W x;. have e:fh w a g (cz s x v) (J (ldW s.W x)) (returned (J 0)) w:=⟨by rw[ly I],by unfold cz;rw[i4 s _ _ _ I,si s _ _ I];exact h,aa.refl _ _⟩;have HX:=qh I;clear h I;go_enter func271,ntmps271;go_wp2_with fail;refine LT (kx H.o x HX.o) ?_;go_wp2;go_ret;exact e
  . have HX:=qh I;have HE:=qh (jt I);have PJ:=aT.1 I;have MU:x.toNat-1<s.W.length:=(by omega);clear h I;go_enter func271,ntmps271;go_wp2_with fail;refine LT (kI H.o x HX.o) ?_;go_wp2_with fail;refine Pi (i5 H.o 3 x true HX.o Y) λw1 h1=>?_;have hc:=h1.o.1.word (i:=x.toNat-1) (by rw[dO];exact MU);rw[dO]at hc;have hp:=h1.o.1.put (x:=x) (by rw[dO];exact HX.o) v;have H1:=qh (And.intro hp h1.o.2);have O:=qh hc;clear hp hc;go_wp2_with fail;refine LT (Hf _ _ _ _ _ O.o.1 O.o.2) ?_;rw[<-HE.o];obtain⟨r,V⟩:=LE (ldW s.W x);rw[<-V];have HR:=qh V;clear V;go_wp2;go_ret;exact⟨by rw[HR.o];rfl,H1.o.1.1,(jj H1.o.2).trans H1.o.1.2⟩
end
section
open Go.RowKit
theorem Tryz.infoAt:(prog.info? 216).map (λi=>(i.zero,i.size,i.bytes))=some (some (agg #[J 0]),1,8):=by kernel_rfl
def mX(u:Value)(n:Nat):(madeCells #[u] n).toList=List.replicate n u:=by
 unfold madeCells;rw[Array.toList_map,Array.toList_range];refine List.ext_getElem? λi=>?_;rw[List.getElem?_map,List.getElem?_replicate];by_cases h:i<n;.rw[List.getElem?_range h,if_pos h];simp[Nat.mod_one]
 .rw[if_neg h];simp;omega
def fY{e:TypeId}{sz n:Nat}{xs:List Value}(h:w.ownsRow base e sz (slice (some ⟨g,0,none⟩) n n) n xs):Blk w g e xs.toArray:=by
 rcases h.2 with⟨H,_⟩|⟨g',O,Y,H,I,hg,SM,Rl,V,ht⟩
 .simp at H
 .simp only[Value.slice.injEq,Option.some.injEq,Addr.mk.injEq,and_true,true_and]at H;obtain⟨rfl,rfl⟩:=H;have e1:Y=xs.toArray:=by rw[<-ht];apply Array.ext';rw[List.take_of_length_le (by rw[Array.length_toList,V];exact Nat.le_refl _)]
  unfold Blk;rw[hg,e1]
def mt(room:Int):Nat:=if room<0 then 0 else if 4096<room then 4096 else room.toNat
def dJ(room:Int):Ar:=⟨[],mt room,0,0,0,false⟩
def JL(w:World)(room:Int)(e:Ending)(w':World):Prop:=∃a g,e= returned (pointer (some ⟨a,0,none⟩))/\aB w' a g (dJ room)/\w.heap.size<=a/\w.heap.size<=g/\Below w.heap.size w w'
def tZ(w:World)(room:Int):E 12 #[J room] w (JL w room):=by
  obtain⟨i0,hi,Kt,Kv,Y⟩:=info_parts Tryz.infoAt;obtain⟨n,V⟩:=LE (mt room);have hc:n<=4096:=by rw[V];unfold mt;split<;>(try split)<;>omega
  have HN:=qh V
  have key:∀(w1:World),w1.ownsRow w.heap.size 216 1 (slice (some ⟨w.heap.size,0,none⟩) n n) n (madeCells #[J 0] n).toList->w.grownBy w1 none->
      aB (w1.alloc (cells #[slice (some ⟨w.heap.size,0,none⟩) n n,J 0,J 0,J 0,J 0,bool false] 106)) w1.heap.size w.heap.size (dJ room)/\w.heap.size<=w1.heap.size/\Below w.heap.size w (w1.alloc (cells #[slice (some ⟨w.heap.size,0,none⟩) n n,J 0,J 0,J 0,J 0,bool false] 106)):=by
    intro w1 H hg
    rw[mX]at H
    have I:=fY H
    have C':=I.lt
    refine⟨⟨?_,?_,by omega,by simp[dJ],by simp[dJ];omega,by simp[dJ]⟩,by omega,((Below.refl w.heap.size w).grown hg (Nat.le_refl _) (λj hj=>by cases hj)).alloc ahy _⟩
    . have:=Blk.new w1 106 (gE w.heap.size (dJ room))
      unfold gE dJ at this ⊢
      rw[<-HN.o]at this ⊢
      simpa using this
    . have e:(wdL (dJ room)).toArray=(List.replicate n (Value.int .i64 0)).toArray:=by unfold wdL dJ;simp[<-HN.o]
      rw[e]
      exact I.alloc _
  have TM:=qh key;clear key;rcases(show 4096<room\/(room<=4096/\0<room)\/room<=0 by omega)with h|⟨h,h'⟩|h
  . have O:Kq ((4096:Int)=(n:Int)):=qh (by rw[V];unfold mt;rw[if_neg ahy,if_pos h];rfl);clear V;go_enter func12,ntmps12;go_wp2_with (refine wpList_make_full _ rfl (.tmp 5) (.tmp 5) 102 rfl w.heap.size 216 i0 (agg #[J 0]) 1 Tryz.underlying102 hi Kt Kv .i64 .i64 4096 4096 n rfl rfl O.o O.o ?b2 ?b3 (Nat.le_refl _) ?_);case b2=>rw[Y];omega
    case b3=>unfold maxLen;omega
    intro w1 H hg;obtain⟨k1,k2,k3⟩:=TM.o w1 H hg;clear H hg;go_wp2;go_ret;exact⟨_,_,rfl,k1,k2,Nat.le_refl _,k3⟩
  . have O:Kq (room=(n:Int)):=qh (by rw[V];unfold mt;rw[if_neg ahy,if_neg ahy];omega);clear V;go_enter func12,ntmps12;go_wp2_with (refine wpList_make_full _ rfl (.tmp 5) (.tmp 5) 102 rfl w.heap.size 216 i0 (agg #[J 0]) 1 Tryz.underlying102 hi Kt Kv .i64 .i64 room room n rfl rfl O.o O.o ?b2 ?b3 (Nat.le_refl _) ?_);case b2=>rw[Y];omega
    case b3=>unfold maxLen;omega
    intro w1 H hg;obtain⟨k1,k2,k3⟩:=TM.o w1 H hg;clear H hg;go_wp2;go_ret;exact⟨_,_,rfl,k1,k2,Nat.le_refl _,k3⟩
  . have O:Kq ((0:Int)=(n:Int)):=qh (by rw[V];unfold mt;split<;>(try split)<;>omega);have h4:room<=4096:=(by omega);clear V;go_enter func12,ntmps12;go_wp2_with (refine wpList_make_full _ rfl (.tmp 5) (.tmp 5) 102 rfl w.heap.size 216 i0 (agg #[J 0]) 1 Tryz.underlying102 hi Kt Kv .i64 .i64 0 0 n rfl rfl O.o O.o ?b2 ?b3 (Nat.le_refl _) ?_);case b2=>rw[Y];omega
    case b3=>unfold maxLen;omega
    intro w1 H hg;obtain⟨k1,k2,k3⟩:=TM.o w1 H hg;clear H hg;go_wp2;go_ret;exact⟨_,_,rfl,k1,k2,Nat.le_refl _,k3⟩
def ef(s:Ar)(n:Int):Ar×Int×Int:=
 if n<0 then(s,(0:Int),(1:Int))else if (s.room:Int)-s.W.length<n then(s,(0:Int),(3:Int))else({s with W:=s.W++List.replicate n.toNat 0},(s.W.length:Int)+1,(0:Int))
def Fy(w:World)(a g:Nat)(x:Ar×Int×Int)(e:Ending)(w':World):Prop:=e= returned (tuple #[J x.2.1,J x.2.2])/\aB w' a g x.1/\aa [a] w w'
def gw{s:Ar}(h:aB w a g s)(n:Int):E 139 #[↑a,J n] w (Fy w a g (ef s n)):=by
  have H:=qh h;have c0:=h.c0;have c1:=h.c1;have f1:=h.blk.free 1;have Nd:=h.le;have OO:=h.room;have C':=h.blk.lt;clear h;by_cases V:n<0;. have e:ef s n=(s,(0:Int),(1:Int)):=(by unfold ef;rw[if_pos V]);have O:=qh e;clear e;go_enter func139,ntmps139;go_wp2;go_ret2;rw[O.o];exact⟨rfl,H.o,aa.refl _ _⟩
  . by_cases h1:(s.room:Int)-s.W.length<n;. have e:ef s n=(s,(0:Int),(3:Int)):=(by unfold ef;rw[if_neg V,if_pos h1]);have O:=qh e;have Y:IntKind.i64.wrap ((s.room:Int)-s.W.length)=(s.room:Int)-s.W.length:=IntWalk.i64_in _ ahy;clear e;go_enter func139,ntmps139;go_wp2;go_quiet (fail);go_wp2;go_ret2;rw[O.o];exact⟨rfl,H.o.turns (S:=[]) ((aa.refl _ _).drewN _) ahz ahz,(aa.refl _ _).drewN _⟩
    . have e:ef s n=({s with W:=s.W++List.replicate n.toNat 0},(s.W.length:Int)+1,(0:Int)):=(by unfold ef;rw[if_neg V,if_neg h1]);have O:=qh e;have Y:IntKind.i64.wrap ((s.room:Int)-s.W.length)=(s.room:Int)-s.W.length:=IntWalk.i64_in _ ahy;have h2:n<=4096:=(by omega);clear e;go_enter func139,ntmps139;go_wp2;go_quiet (fail);clear Y;go_wp2;go_ret2;rw[O.o];obtain⟨m,rfl⟩:=Int.eq_ofNat_of_zero_le (show 0<=n by omega);have I:=(H.o.blk.drewN nq).set_ 1 (J (s.W.length+m));have hw:=(H.o.wds.drewN nq).far (p:=⟨a,1,none⟩) H.o.ne.symm (J (s.W.length+m));refine⟨rfl,⟨?_,?_,H.o.ne,by simp;omega,OO,H.o.ops⟩,((aa.refl _ _).drewN _).setCell (.inl ahz) _⟩;. have e:gE g ({s with W:=s.W++List.replicate ((m:Int).toNat) 0})=(gE g s).setIfInBounds 1 (J (s.W.length+m)):=(by unfold gE;simp);rw[e];exact I
      . have e:wdL {s with W:=s.W++List.replicate ((m:Int).toNat) 0}=wdL s:=(by unfold wdL;congr 1;rw[List.append_assoc,List.append_cancel_left_eq,List.replicate_append_replicate];congr 1;simp;omega);rw[e];exact hw
end
section
open Go Go.RowKit
theorem Tryz.infoAtS:(prog.info? 129).map (λi=>(i.zero,i.size,i.bytes))=some (some (agg #[J 0,bool false]),2,16):=by kernel_rfl
def pY(x:Int×Bool):List Value:=[J x.1,.bool x.2]
def lp(x:Int×Bool):(pY x).length=2:=rfl
structure fz(w:World)(sb ab:Nat)(L:List (Int×Bool)):Prop where
 lk:Blk w sb 124 #[slice (some ⟨ab,0,none⟩) L.length L.length]
 row:Blk w ab 129 (L.flatMap pY).toArray
 ne:sb≠ab
 n32:L.length<=32
section
def fz.far(h:fz w sb ab L)(t:aa S w w')(h1:sb∉S)(H:ab∉S):fz w' sb ab L:=⟨t.blk h.lk h1,t.blk h.row H,h.ne,h.n32⟩
def fz.below(h:fz w sb ab L)(b:Below w.heap.size w w'):fz w' sb ab L:=h.far (aa.of_below (S:=[]) b) ahz ahz
def fz.cell(h:fz w sb ab L)(H:L[i]? =some x):Z w ab (i*2) (J x.1)/\Z w ab (i*2+1) (.bool x.2):=by
 rw[h.row.cell,h.row.cell];constructor;.simpa using ch pY 2 lp L i x 0 _ H rfl
 .simpa using ch pY 2 lp L i x 1 _ H rfl
def fz.put(h:fz w sb ab L)(I:L[i]? =some x)(y:Int×Bool):fz ((w.setCell ⟨ab,i*2,none⟩ (J y.1)).setCell ⟨ab,i*2+1,none⟩ (.bool y.2)) sb ab (L.set i y):=by
 refine⟨?_,?_,h.ne,by simpa using h.n32⟩;.rw[List.length_set];exact(h.lk.far h.ne _).far h.ne _
 .have h1:=(h.row.set_ (i*2) (J y.1)).set_ (i*2+1) (.bool y.2);rw[List.setIfInBounds_toArray,List.setIfInBounds_toArray]at h1;have H:=nJ pY 2 lp L i x (y.1,x.2) 0 (J y.1) I ahA rfl;rw[Nat.add_zero]at H;rw[H]at h1;have O:=(List.getElem?_eq_some_iff.1 I).1;rw[nJ pY 2 lp (L.set i (y.1,x.2)) i (y.1,x.2) y 1 (.bool y.2) (by rw[List.getElem?_set_self O]) ahA rfl,List.set_set]at h1;exact h1
def G9(n:Nat):(madeCells #[Value.int .i64 0,bool false] (n*2)).toList=(List.replicate n ((0:Int),false)).flatMap pY:=by
 have e:∀m,(List.replicate m ((0:Int),false)).flatMap pY=(List.range (m*2)).map (λi=>if i%2=0 then Value.int .i64 0 else bool false):=by
  intro m;induction m with
  |zero=>rfl
  |succ m h=>rw[List.replicate_succ',List.flatMap_append,h,show(m+1)*2=m*2+1+1 by omega,List.range_succ,List.range_succ,List.map_append,List.map_append,List.append_assoc];congr 1;simp[pY]
 rw[e];unfold madeCells;rw[Array.toList_map,Array.toList_range];refine List.map_congr_left λi _=>?_;have:i%2=0\/i%2=1:=by omega
 rcases this with e|e<;>simp[e]
def IL(w:World)(n:Nat)(h1:1<=n)(h2:n<=32):E 22 #[J n] w λe w'=>∃sb ab,e= returned (pointer (some ⟨sb,0,none⟩))/\fz w' sb ab (List.replicate n (0,false))/\w.heap.size<=sb/\w.heap.size<=ab/\Below w.heap.size w w':=by
  obtain⟨i0,hi,Y,Kv,h⟩:=info_parts Tryz.infoAtS;go_enter func22,ntmps22;go_wp2_with (refine wpList_make_full _ rfl _ _ 122 rfl w.heap.size 129 i0 (agg #[J 0,bool false]) 2 Tryz.underlying122 hi Y Kv .i64 .i64 n n n rfl rfl rfl rfl ?b2 ?b3 (Nat.le_refl _) ?_);case b2=>rw[h];omega
  case b3=>unfold maxLen;omega
  intro w2 O hg;have b2:=(Below.refl w.heap.size w).grown hg (Nat.le_refl _) (λj hj=>by cases hj);have I:Blk w2 w.heap.size 129 ((List.replicate n ((0:Int),false)).flatMap pY).toArray:=by have H:=fY O;have e:(madeCells #[Value.int .i64 0,bool false] (n*2)).toList=_:=G9 n;rw[e]at H;exact H
  have V:=qh (show ∃sb ab,(Ending.returned ↑w2.heap.size)= returned (pointer (some ⟨sb,0,none⟩))/\fz (w2.alloc (cells #[slice (some ⟨w.heap.size,0,none⟩) n n] 124)) sb ab (List.replicate n (0,false))/\w.heap.size<=sb/\w.heap.size<=ab/\Below w.heap.size w (w2.alloc (cells #[slice (some ⟨w.heap.size,0,none⟩) n n] 124))from by
    have hl:=I.lt;refine⟨w2.heap.size,w.heap.size,rfl,⟨?_,I.alloc _,by omega,by simpa using h2⟩,by omega,Nat.le_refl _,b2.alloc ahy _⟩;rw[List.length_replicate]
    exact Blk.new w2 _ _)
  clear O hg b2 I;go_wp2;go_ret;exact V.o
end
end
section
open Go Go.RowKit
section
def sA(h:fz w sb ab L):E 68 #[↑sb] w λe w'=>e= returned (slice (some ⟨ab,0,none⟩) L.length L.length)/\w=w':=by have c0:=h.lk.cell 0;clear h;go_enter func68,ntmps68;exact aab
def EQ(h:fz w sb ab L)(H:L[i]? =some x):E 29 #[↑sb,J i] w λe w'=>e= returned (tuple #[J x.1,.bool x.2])/\Below w.heap.size w w':=by have I:=qh (sA h);have c0:=h.lk.cell 0;have c1:=h.cell H;have V:=(List.getElem?_eq_some_iff.1 H).1;have Y:=h.n32;have t1:decide ((i:Int)<0)=false:=decide_eq_false ahy;have t2:decide ((i:Int) >= (L.length:Int))=false:=decide_eq_false ahy;obtain⟨s,r⟩:=x;obtain⟨c1,c2⟩:=c1;have O:=qh ((Below.refl w.heap.size w).alloc (Nat.le_refl _) (cells #[J s,.bool r] 129));clear h H;go_enter func29,ntmps29;go_wp2_with fail;refine LT I.o ?_;go_wp2;go_quiet (fail);go_wp2;go_ret2;exact⟨rfl,bO O.o _⟩
def D8(h:fz w sb ab L)(hw:∀i:Nat,L[i]?≠some (2,false)):E 179 #[slice (some ⟨ab,0,none⟩) L.length L.length,agg #[J 2,bool false]] w λe w'=>e= returned (J (-1))/\Below w.heap.size w w':=by
  have HH:=qh h;have HW:=qh hw;have hn:=h.n32;have b1:=(Below.refl w.heap.size w).alloc (Nat.le_refl _) (cells #[J 2,bool false] 129);have HX:=qh (And.intro b1 (Blk.new w 129 #[J 2,bool false]));obtain⟨w0,I⟩:=LE (w.alloc (cells #[J 2,bool false] 129));rw[<-I]at HX;have Ln:=qh I;clear h hw b1 I;go_enter func179,ntmps179;go_wp2;rw[<-Ln.o];go_loopw [5,8] (λ_ i wr=>∃k:Nat,k<=L.length/\i= J k/\Qt w0 wr) (λ_ i _=>L.length-(intOf i).toNat);case atStart=>exact⟨0,by omega,rfl,Qt.refl _⟩
  case round=>
    obtain⟨k,hk,rfl,⟨m,rfl⟩⟩:=hrel;by_cases Y:k<L.length
    . obtain⟨⟨s,r⟩,V⟩:=ai Y;have hc:=((HH.o.below HX.o.1).cell V);have H:=HW.o k;rw[V]at H;obtain⟨c0,c1⟩:=hc;have d0:=HX.o.2.cell 0;have d1:=HX.o.2.cell 1;clear V;by_cases O:s=2
      . obtain rfl:r=true:=by cases r;exact absurd (by rw[O]) H;rfl
        subst O;clear H;go_wp2;go_quiet (fail);go_wp2;go_roundw;case rel=>exact⟨k+1,by omega,by go_num,⟨m+nq,by first|rfl|rw[World.drewN_drewN]⟩⟩
        case measure=>simp[intOf];omega
      . have u:((2:Int)==s)=false:=(by rw[beq_eq_false_iff_ne];omega);clear H O;go_wp2;go_quiet (fail);go_wp2;go_roundw;case rel=>exact⟨k+1,by omega,by go_num,⟨m+nq,by first|rfl|rw[World.drewN_drewN]⟩⟩
        case measure=>simp[intOf];omega
    . obtain rfl:k=L.length:=by omega
      go_wp2;go_ret;exact⟨rfl,bO HX.o.1 _⟩
def Df(h:fz w sb ab L)(hw:∀i:Nat,L[i]?≠some (2,false)):E 158 #[↑sb] w λe w'=>e= returned (J (-1))/\Below w.heap.size w w':=by have I:=qh (sA h);have O:=qh (D8 h hw);clear h hw;go_enter func158,ntmps158;go_wp2_with fail;refine LT I.o ?_;go_wp2_with fail;refine Pi O.o λw2 H=>?_;go_wp2;go_ret;exact⟨rfl,H.o⟩
def zp(h:fz w sb ab L)(hw:∀i:Nat,L[i]?≠some (2,true)):E 159 #[↑sb] w λe w'=>e= returned (J 0)/\Below w.heap.size w w':=by
  have HA:=qh (sA h);have HH:=qh h;have HW:=qh hw;have hn:=h.n32;clear h hw;go_enter func159,ntmps159;go_wp2_with fail;refine LT HA.o ?_;go_wp2;go_loopw [3,5,9] (λo _ i wr=>∃k:Nat,k<=L.length/\i= J k/\o= J 0/\Below w.heap.size w wr) (λ_ _ i _=>L.length-(intOf i).toNat);case atStart=>exact⟨0,by omega,rfl,rfl,Below.refl _ _⟩
  case round=>
    obtain⟨k,hk,rfl,rfl,I⟩:=hrel;obtain⟨wo,rfl⟩:∃wo:World,wo=wr:=⟨_,rfl⟩;have O:=qh I;clear I;by_cases C':k<L.length
    . obtain⟨⟨s,r⟩,Y⟩:=ai C';have hc:=((HH.o.below O.o).cell Y);have H:=HW.o k;rw[Y]at H;obtain⟨c0,c1⟩:=hc;have LR:=qh (O.o.alloc O.o.size (cells #[J s,.bool r] 129));clear Y;by_cases V:s=2
      . obtain rfl:r=false:=by cases r;rfl;exact absurd (by rw[V]) H
        subst V;clear H;go_wp2;go_roundw;case rel=>exact⟨k+1,by omega,by go_num,rfl,LR.o⟩
        case measure=>simp[intOf];omega
      . have u:(s==(2:Int))=false:=(by rw[beq_eq_false_iff_ne];omega);clear H V;go_wp2;go_roundw;case rel=>exact⟨k+1,by omega,by go_num,rfl,LR.o⟩
        case measure=>simp[intOf];omega
    . obtain rfl:k=L.length:=by omega
      go_wp2;go_ret;exact⟨rfl,O.o⟩
def Bj(h:fz w sb ab L)(r:Bool)(hw:∀i:Nat,L[i]?≠some (2,false))(V:r=false->∀i:Nat,L[i]?≠some (2,true)):E 114 #[↑sb,.bool r] w λe w'=>e= returned (J 0)/\Below w.heap.size w w':=by
  have I:=qh (Df h hw);have H:=qh (λW (b:Below w.heap.size w W) (q:r=false)=>zp (h.below b) (V q));clear h hw V;cases r;. replace H:=qh (λW b=>H.o W b rfl);go_enter func114,ntmps114;go_wp2_with fail;refine Pi I.o λw1 B1=>?_;go_wp2_with fail;refine Pi (H.o _ B1.o) λw2 b2=>?_;have O:=qh (B1.o.trans (b2.o.mono B1.o.size));go_wp2;go_ret;exact⟨rfl,O.o⟩
  . clear H;go_enter func114,ntmps114;go_wp2_with fail;refine Pi I.o λw1 B1=>?_;go_wp2;go_ret;exact⟨rfl,B1.o⟩
end
end
section
open Go Go.RowKit
theorem Jd{n lb:Nat}(hc:Z w lb 1 (J n))(i:Int)(hi:¬(0<=i/\i<n)):E 57 #[lkP lb,J i] w λe w'=>e= returned (aC ⟨0,0,0,0⟩)/\Below w.heap.size w w':=by have I:=aM hc;have b:=(Below.refl w.heap.size w).alloc (Nat.le_refl _) (cells #[J 0,J 0,J 0,J 0] 113);have H:=qh (tv (w:=w.alloc (cells #[J 0,J 0,J 0,J 0] 113)) (n:=n) (by rw[b.cell I];exact hc) i false (decide_eq_false hi));have h:=qh b;clear hc hi b;unfold lkP aC at *;go_enter func57,ntmps57;go_wp2_with fail;refine LT H.o ?_;go_wp2;exact bodyPost_ret (results_cell_row ahC _ _ w.heap.size 113 _ (0,0) _ ahC (heap_alloc_new w _) Tryz.underlying113 rfl ahB) rfl ⟨rfl,h.o⟩
section
variable{n:Nat}{M:LkM n}{X:WoB M}{st st':M.σ}
theorem xV(G:M.Good)(h:bI X w st)(i:Int)(hi:¬(0<=i/\i<n)):E 28 #[lkP X.wb,J i] w λe w'=>e= returned (tuple #[J 0,bool false])/\Below w.heap.size w w':=by
  have I:Kq (∀W,Below w.heap.size w W->Z W X.wb 2 ↑X.lb):=qh λW b=>(h.below G b).wd.cell 2;have c2:=I.o _ (Below.refl _ _);have H:=λW (b:Below w.heap.size w W)=>Jd (G.lk _ _ _ _ _ _ (h.below G b).is) i hi;have V:=qh (λW (b:Below w.heap.size w W)=>wH (H W b));have O:=qh (λW (b:Below w.heap.size w W)=>(G.kd _ _ _ _ _ _ (h.below G b).is).elim λk q=>CH q.1 q.2 (λgs t=>H gs (b.trans (t.mono b.size))));unfold lkP uh jb at *;clear h H;have K:=qh (show Below w.heap.size w w.drew from(Below.refl _ _).drew);go_enter func28,ntmps28;go_wp2_with fail
  go_region_held3 (λW=>Z W X.wb 2 ↑X.lb)
    (first|with_reducible exact I.o _ K.o)
    (first
      | (go_at_call 16;go_loud (refine Pi (V.o _ K.o) λw2 b2=>?_);have K:=qh (K.o.trans (b2.o.mono K.o.size)))
      | (go_at_call 17;go_loud (refine Pi (O.o _ K.o) λw3 b3=>?_);have K:=qh (K.o.trans (b3.o.mono K.o.size))))
  all_goals go_wp2;go_ret2;exact⟨rfl,K.o⟩
end
def CX{V:Nat}(h:fz w I V L)(i:Int)(hi:¬(0<=i/\i<L.length)):E 29 #[↑I,J i] w λe w'=>e= returned (tuple #[J 0,bool false])/\Below w.heap.size w w':=by
  have O:=qh (sA h);clear h;by_cases H:i<0;. have t1:decide (i<0)=true:=decide_eq_true H;clear hi H;go_enter func29,ntmps29;go_wp2;go_ret2;exact⟨rfl,Below.refl _ _⟩
  . have t1:decide (i<0)=false:=decide_eq_false H;have t2:decide (i >= (L.length:Int))=true:=decide_eq_true ahy;clear hi H;go_enter func29,ntmps29;go_wp2_with fail;refine LT O.o ?_;go_wp2;go_ret2;exact⟨rfl,Below.refl _ _⟩
end
section
open Go Go.RowKit
def dW{I:Func}{p u:Tmp}{ty:TypeId}(h:I.results=#[.cell p ty,.tmp u])(H:Array Value)(w:World)(g:Nat)(t:TypeId)(cs:Array Value)(fr:Nat×Nat)(d:TypeDesc)(V:H.getD p undef= ↑g)(hg:w.heap[g]? =some (.cells cs t fr))(Y:P.underlying ty=some d)(hd:(match d with|.struct _|.array _ _=>true|_=>false)=true)(hi:(P.info? ty).map (·.size)=some cs.size):(results I H).run P w= .ok (tuple #[.agg cs,H.getD u undef]) w:=by
  have O:H[p]?.getD undef= ↑g:=by simpa using V
  simp[results,h,O,asAddr,run_loadVar_row w g t ty cs fr d hg Y hd hi]
inductive kP(L:List (Int×Bool)):Ev->List (Int×Bool)->Prop
 |none (k t:Int) (r:Bool) (c:Int) (h:k=0\/k=5):kP L ⟨k,t,r,c⟩ L
 |ask (i:Nat) (r q:Bool) (c:Int) (h:L[i]? =some (0,q)):kP L ⟨1,i,r,c⟩ (L.set i (1,r))
 |enter (i:Nat) (r:Bool) (c:Int) (h:L[i]? =some (1,r)) (hw:∀j:Nat,L[j]?≠some (2,false)) (V:r=false->∀j:Nat,L[j]?≠some (2,true)):kP L ⟨2,i,r,c⟩ (L.set i (2,r))
 |exit (i:Nat) (r:Bool) (c:Int) (h:L[i]? =some (2,r)):kP L ⟨3,i,r,c⟩ (L.set i (3,r))
 |rest (i:Nat) (r:Bool) (c:Int) (h:L[i]? =some (3,r)):kP L ⟨4,i,r,c⟩ (L.set i (0,false))
section
def Gc(i c:Int)(r q:Bool):E 69 #[↑sb,agg #[J 0,.bool q],agg #[J 1,J i,.bool r,J c]] w λe w'=>e= returned (tuple #[agg #[J 1,.bool r],J 0])/\Below w.heap.size w w':=by
  obtain⟨w0,E'⟩:=LE (((w.alloc (cells #[J 0,.bool q] 129)).alloc (cells #[J 1,J i,.bool r,J c] 55)).alloc (cells #[J 0,bool false] 129));refine ajl ?_;intro I;have k1:Blk w0 w.heap.size 129 #[J 0,.bool q]:=by rw[E'];exact((Blk.new w _ _).alloc _).alloc _
  have k2:Blk w0 (w.heap.size+1) 55 #[J 1,J i,.bool r,J c]:=by rw[E'];exact(Blk.new' _ _ _ ahz).alloc _
  refine ai6 ?_;intro k3 HE Ln c0 c1 d0 d2;clear E' I k1 k2 k3;go_enter func69,ntmps69;go_upto_region 1 with fail;rw[<-Ln.o];have O:=HE.o.2.free 0;have V:=HE.o.2.free 1;have h:=HE.o.2.cell 0;have H:=HE.o.2.cell 1;go_wp2;exact bodyPost_ret (dW ahC _ _ (w.heap.size+2) 129 _ (0,0) _ ahC aio Tryz.underlying129 rfl ahB) rfl ⟨rfl,(HE.o.1.setCell ahW _).setCell ahW _⟩
def Gd(r:Bool)(h:fz w sb ab L)(hw:∀j:Nat,L[j]?≠some (2,false))(V:r=false->∀j:Nat,L[j]?≠some (2,true))(i c:Int):E 69 #[↑sb,agg #[J 1,.bool r],agg #[J 2,J i,.bool r,J c]] w λe w'=>e= returned (tuple #[agg #[J 2,.bool r],J 0])/\Below w.heap.size w w':=by
  obtain⟨w0,E'⟩:=LE (((w.alloc (cells #[J 1,.bool r] 129)).alloc (cells #[J 2,J i,.bool r,J c] 55)).alloc (cells #[J 0,bool false] 129));refine ajl ?_;intro I;have k1:Blk w0 w.heap.size 129 #[J 1,.bool r]:=by rw[E'];exact((Blk.new w _ _).alloc _).alloc _
  have k2:Blk w0 (w.heap.size+1) 55 #[J 2,J i,.bool r,J c]:=by rw[E'];exact(Blk.new' _ _ _ ahz).alloc _
  refine ai6 ?_;intro k3 HE Ln c0 c1 d0 d2;have HN:=qh (λW (b:Below w0.heap.size w0 W)=>Bj (h.below (I.trans (b.mono I.size))) r hw V);have Y:=qh (λW (b:Below w0.heap.size w0 W)=>show W.cell? ⟨w.heap.size,1,none⟩=some (.bool r)from(k1.below b k1.lt).cell 1);have K:=qh (show Below w0.heap.size w0 w0.drew from(Below.refl _ _).drew);clear h hw V;clear E' I k1 k2 k3;go_enter func69,ntmps69;go_upto_region 1 with fail;rw[<-Ln.o];go_wp2_with fail
  go_region_held3 (λW=>Z W w.heap.size 1 (.bool r))
    (first|with_reducible exact Y.o _ K.o|with_reducible exact Y.o _ O.o|(rw[World.cell?_setCell_other _ _ _ _ ahz,World.cell?_setCell_other _ _ _ _ ahz];exact Y.o _ O.o))
    (first|(go_at_call 114;go_loud (refine Pi (HN.o _ K.o) λw2 b2=>?_);have O:=qh (K.o.trans (b2.o.mono K.o.size));have H:=qh (And.intro (HE.o.1.trans (O.o.mono HE.o.1.size)) (HE.o.2.below O.o HE.o.2.lt));have z0:=H.o.2.free 0;have z1:=H.o.2.free 1;have y0:=H.o.2.cell 0;have y1:=H.o.2.cell 1))
  all_goals go_wp2;exact bodyPost_ret (dW ahC _ _ (w.heap.size+2) 129 _ (0,0) _ ahC (by exact(H.o.2.set_ 0 _).set_ 1 _) Tryz.underlying129 rfl ahB) rfl ⟨rfl,(H.o.1.setCell ahW _).setCell ahW _⟩
def Ge(i c:Int)(r:Bool):E 69 #[↑sb,agg #[J 2,.bool r],agg #[J 3,J i,.bool r,J c]] w λe w'=>e= returned (tuple #[agg #[J 3,.bool r],J 0])/\Below w.heap.size w w':=by
  obtain⟨w0,E'⟩:=LE (((w.alloc (cells #[J 2,.bool r] 129)).alloc (cells #[J 3,J i,.bool r,J c] 55)).alloc (cells #[J 0,bool false] 129));refine ajl ?_;intro I;have k1:Blk w0 w.heap.size 129 #[J 2,.bool r]:=by rw[E'];exact((Blk.new w _ _).alloc _).alloc _
  have k2:Blk w0 (w.heap.size+1) 55 #[J 3,J i,.bool r,J c]:=by rw[E'];exact(Blk.new' _ _ _ ahz).alloc _
  refine ai6 ?_;intro k3 HE Ln c0 c1 d0 d2;clear E' I k1 k2 k3;go_enter func69,ntmps69;go_upto_region 1 with fail;rw[<-Ln.o];have O:=HE.o.2.free 0;have V:=HE.o.2.free 1;have h:=HE.o.2.cell 0;have H:=HE.o.2.cell 1;go_wp2;exact bodyPost_ret (dW ahC _ _ (w.heap.size+2) 129 _ (0,0) _ ahC aio Tryz.underlying129 rfl ahB) rfl ⟨rfl,(HE.o.1.setCell ahW _).setCell ahW _⟩
def Gf(i c:Int)(r:Bool):E 69 #[↑sb,agg #[J 3,.bool r],agg #[J 4,J i,.bool r,J c]] w λe w'=>e= returned (tuple #[agg #[J 0,bool false],J 0])/\Below w.heap.size w w':=by
  obtain⟨w0,E'⟩:=LE (((w.alloc (cells #[J 3,.bool r] 129)).alloc (cells #[J 4,J i,.bool r,J c] 55)).alloc (cells #[J 0,bool false] 129));refine ajl ?_;intro I;have k1:Blk w0 w.heap.size 129 #[J 3,.bool r]:=by rw[E'];exact((Blk.new w _ _).alloc _).alloc _
  have k2:Blk w0 (w.heap.size+1) 55 #[J 4,J i,.bool r,J c]:=by rw[E'];exact(Blk.new' _ _ _ ahz).alloc _
  refine ai6 ?_;intro k3 HE Ln c0 c1 d0 d2;clear E' I k1 k2 k3;go_enter func69,ntmps69;go_upto_region 1 with fail;rw[<-Ln.o];have O:=HE.o.2.free 0;have V:=HE.o.2.free 1;have h:=HE.o.2.cell 0;have H:=HE.o.2.cell 1;go_wp2;exact bodyPost_ret (dW ahC _ _ (w.heap.size+2) 129 _ (0,0) _ ahC aio Tryz.underlying129 rfl ahB) rfl ⟨rfl,(HE.o.1.setCell ahW _).setCell ahW _⟩
end
end
section
open Go Go.RowKit
section
def Af(w:World)(sb ab:Nat)(L':List (Int×Bool))(e:Ending)(w':World):Prop:=e= returned (J 0)/\fz w' sb ab L'/\aa [ab] w w'
def evC(e:Ev):Array Value:=#[J e.kind,J e.thread,.bool e.read,J e.count]
def Hs(h:fz w sb ab L)(k t c:Int)(r:Bool)(I:k=0\/k=5):E 26 #[↑sb,agg #[J k,J t,.bool r,J c]] w (Af w sb ab L):=by
  have b:=(Below.refl w.heap.size w).alloc (Nat.le_refl _) (cells #[J k,J t,.bool r,J c] 55);have H:=qh (show Af w sb ab L (returned (J 0)) (w.alloc (cells #[J k,J t,.bool r,J c] 55))from⟨rfl,h.below b,aa.of_below b⟩);clear h b;rcases I with rfl|rfl
  all_goals go_enter func26,ntmps26;go_wp2;go_ret;exact H.o
def xv(h:fz w sb ab L)(k c:Int)(i:Nat)(r:Bool)(hk:k=1\/k=2\/k=3\/k=4)(hx:L[i]? =some x)(hm:∀W,Below w.heap.size w W->E 69 #[↑sb,agg #[J x.1,.bool x.2],agg #[J k,J i,.bool r,J c]] W λe w'=>e= returned (tuple #[agg #[J y.1,.bool y.2],J 0])/\Below W.heap.size W w'):E 26 #[↑sb,agg #[J k,J i,.bool r,J c]] w (Af w sb ab (L.set i y)):=by
  obtain⟨w0,E'⟩:=LE (w.alloc (cells #[J k,J i,.bool r,J c] 55));have I:Below w.heap.size w w0:=by rw[E'];exact(Below.refl w.heap.size w).alloc (Nat.le_refl _) _
  have k1:Blk w0 w.heap.size 55 #[J k,J i,.bool r,J c]:=by rw[E'];exact Blk.new w _ _
  have h0:=h.below I;have hn:=h.n32;have hl:=(List.getElem?_eq_some_iff.1 hx).1;have Ky:=h.row.lt;have HX:=qh hx;have XT:=qh (λm=>sA (h0.below (bO (Below.refl _ _) m)));have HM:=qh (λW (b:Below w0.heap.size w0 W)=>hm W (I.trans (b.mono I.size)));have HS:=qh (λW (b:Below w0.heap.size w0 W)=>h0.below b)
  have O:=qh (λW (b:Below w0.heap.size w0 W)=>show W.cell? w.heap.size=some (J k)/\Z W w.heap.size 1 (J i)/\Z W w.heap.size 2 (.bool r)/\Z W w.heap.size 3 (J c)/\W.cell? sb=some (slice (some ⟨ab,0,none⟩) L.length L.length)/\Z W ab (i*2) (J x.1)/\W.cell? ⟨ab,i*2+1,none⟩=some (.bool x.2)from
    have q:=k1.below b k1.lt
    ⟨q.cell 0,q.cell 1,q.cell 2,q.cell 3,(h0.below b).lk.cell 0,((h0.below b).cell hx).1,((h0.below b).cell hx).2⟩)
  have HB:=qh I;have Ln:=qh E';have t1:decide ((i:Int)<0)=false:=decide_eq_false ahy;have t2:decide ((i:Int) >= (L.length:Int))=false:=decide_eq_false ahy;have u1:decide (k<0)=false:=decide_eq_false ahy;have u2:decide (k>5)=false:=decide_eq_false ahy;have u3:(k==0)=false:=by rw[beq_eq_false_iff_ne];omega
  have u4:(k==5)=false:=by rw[beq_eq_false_iff_ne];omega
  obtain⟨x1,x2⟩:=x;obtain⟨Y,y2⟩:=y;simp only at O HM;clear h h0 hx hm I k1 E' hk;go_enter func26,ntmps26;go_upto_region 1 with fail;rw[<-Ln.o];obtain⟨c0,c1,c2,c3,c4,c5,c6⟩:=O.o _ (Below.refl _ _);go_wp2_with fail;go_quiet ((go_at_call 68;exact bN (XT.o _)));have K:=qh (show Below w0.heap.size w0 (w0.drewN nq)from bO (Below.refl _ _) nq);obtain⟨w1,Ow⟩:=LE (w0.drewN nq);rw[<-Ow]at K ⊢;clear Ow c0 c1 c2 c3 c4 c5 c6;obtain⟨c0,c1,c2,c3,c4,c5,c6⟩:=O.o _ K.o;have K1:=qh (K.o.drew);have Kl:=K.o.size;have Si:=qh ((K.o.alloc K.o.size (cells #[J 0,bool false] 129)).drew);have hA:=(Blk.new w1 129 #[J 0,bool false]).drew;have HA:=qh hA;clear hA;go_wp2_with fail
  go_region_held3 (λW=>W.cell? w.heap.size=some (J k)/\Z W w.heap.size 1 (J i)/\Z W w.heap.size 2 (.bool r)/\Z W w.heap.size 3 (J c)/\W.cell? sb=some (slice (some ⟨ab,0,none⟩) L.length L.length)/\Z W ab (i*2) (J x1)/\Z W ab (i*2+1) (.bool x2))
    (first|with_reducible exact O.o _ K1.o|with_reducible exact O.o _ Si.o|with_reducible exact O.o _ H.o|with_reducible exact O.o _ (H.o.alloc H.o.size _)|exact O.o _ ((H.o.setCell Kl _).setCell Kl _)|exact O.o _ (((H.o.alloc H.o.size _).setCell H.o.size _).setCell H.o.size _))
    (first|(go_at_call 69;first|((with_reducible refine(HM.o _ K1.o).mono ?_);rintro en w2 ⟨rfl,b2⟩;have H:=qh (K1.o.trans (b2.mono K1.o.size));clear b2)|((with_reducible refine(HM.o _ Si.o).mono ?_);rintro en w2 ⟨rfl,b2⟩;have H:=qh (Si.o.trans (b2.mono Si.o.size));have HE:=qh (HA.o.below b2 HA.o.lt);have f0:=HE.o.free 0;have f1:=HE.o.free 1;have f2:=HE.o.cell 0;have f3:=HE.o.cell 1;clear b2)))
  all_goals
    first| (have V:=qh (And.intro (H.o.alloc H.o.size (cells #[J Y,.bool y2] 129)) (Blk.new w2 129 #[J Y,.bool y2]));obtain⟨gs,hV⟩:∃gs,gs=w2.alloc (cells #[J Y,.bool y2] 129):=⟨_,rfl⟩;rw[<-hV];rw[<-hV]at V)| (have V:=qh (And.intro ((H.o.setCell Kl (p:=w1.heap.size) (J Y)).setCell Kl (p:=⟨w1.heap.size,1,none⟩) (.bool y2)) ((HE.o.set_ 0 (J Y)).set_ 1 (.bool y2)));obtain⟨gs,hV⟩:∃gs,gs=(w2.setCell ⟨w1.heap.size,0,none⟩ (J Y)).setCell ⟨w1.heap.size,1,none⟩ (.bool y2):=⟨_,rfl⟩;rw[<-hV];rw[<-hV]at V)
    clear c0 c1 c2 c3 c4 c5 c6 hV;obtain⟨c0,c1,c2,c3,c4,c5,c6⟩:=O.o _ V.o.1;have d0:=V.o.2.cell 0;have d1:=V.o.2.cell 1;have q5:=(HS.o _ V.o.1).row.free (i*2);have q6:=(HS.o _ V.o.1).row.free (i*2+1)
    have HF:=qh (show Af w sb ab (L.set i (Y,y2)) (returned (J 0)) ((gs.setCell ⟨ab,i*2,none⟩ (J Y)).setCell ⟨ab,i*2+1,none⟩ (.bool y2)).drew from
      ⟨rfl,((HS.o _ V.o.1).put HX.o (Y,y2)).below (Below.refl _ _).drew,(((aa.of_below (HB.o.trans (V.o.1.mono HB.o.size))).setCell (.inl ahz) _).setCell (.inl ahz) _).drew⟩)
    go_wp2;go_region;go_wp2;go_ret;exact HF.o
end
end
section
open Go Go.RowKit
def JS{Y:Nat}{O:List (Int×Bool)}{e:Ev}(h:fz w I Y L)(hs:kP L e O):E 26 #[↑I,evV e] w (Af w I Y O):=by
  cases hs with
  | none k t r c hk=>exact Hs h k t c r hk
  | ask i r q c H=>exact xv h 1 c i r (.inl rfl) H (y:=(1,r)) λW b=>Gc i c r q
  | enter i r c H hw V=>exact xv h 2 c i r (.inr (.inl rfl)) H (y:=(2,r)) λW b=>Gd r (h.below b) hw V i c
  | exit i r c H=>exact xv h 3 c i r (.inr (.inr (.inl rfl))) H (y:=(3,r)) λW b=>Ge i c r
  | rest i r c H=>exact xv h 4 c i r (.inr (.inr (.inr rfl))) H (y:=(0,false)) λW b=>Gf i c r
structure LkM.Seen{n:Nat}(M:LkM n):Prop where
 sO:∀st N i j,M.ok st N->N<lkB->i<n->j<n->j≠i->M.sp (M.step st i) j=M.sp st j
 s1:∀st N i,M.ok st N->N<lkB->i<n->0<(M.sp st i).pc->(M.sp st i).pc<10->(0<(M.sp (M.step st i) i).pc/\(M.sp (M.step st i) i).pc<=10)/\rdB M.rd (M.sp (M.step st i) i)=rdB M.rd (M.sp st i)
 s3:∀st N i,M.ok st N->N<lkB->i<n->10<(M.sp st i).pc->(M.sp (M.step st i) i).pc=0\/10<(M.sp (M.step st i) i).pc/\rdB M.rd (M.sp (M.step st i) i)=rdB M.rd (M.sp st i)
 aO:∀st N i r j,M.ok st N->N<lkB->i<n->j<n->j≠i->M.sp (M.ask st i r) j=M.sp st j
 a1:∀st N i r,M.ok st N->N<lkB->i<n->(M.sp st i).pc=0->(r=true->M.rd=true)->(0<(M.sp (M.ask st i r) i).pc/\(M.sp (M.ask st i r) i).pc<10)/\rdB M.rd (M.sp (M.ask st i r) i)=r
 aN:∀st N i r,M.ok st N->N<lkB->i<n->(M.sp st i).pc≠0->M.sp (M.ask st i r) i=M.sp st i
 lO:∀st N i j,M.ok st N->N<lkB->i<n->j<n->j≠i->M.sp (M.leave st i) j=M.sp st j
 l1:∀st N i,M.ok st N->N<lkB->i<n->(M.sp st i).pc=10->10<(M.sp (M.leave st i) i).pc/\rdB M.rd (M.sp (M.leave st i) i)=rdB M.rd (M.sp st i)
 lN:∀st N i,M.ok st N->N<lkB->i<n->(M.sp st i).pc≠10->M.sp (M.leave st i) i=M.sp st i
section
variable{n:Nat}{M:LkM n}{st st':M.σ}{N:Nat}
def LkM.view(M:LkM n)(st:M.σ):List (Int×Bool):=(List.range n).map λi=>(M.stt st i,M.rds st i)
def jk(hi:i<n):(M.view st)[i]? =some (M.stt st i,M.rds st i):=by unfold LkM.view;rw[List.getElem?_map,List.getElem?_range hi];rfl
def qR(h:(M.view st)[j]? =some x):j<n/\x=(M.stt st j,M.rds st j):=by
 have I:=(List.getElem?_eq_some_iff.1 h).1;have H:j<n:=by simpa[LkM.view]using I
 rw[jk H]at h;exact⟨H,(Option.some.inj h).symm⟩
def jl(hi:i<n)(I:(M.stt st' i,M.rds st' i)=y)(h:∀j,j<n->j≠i->M.sp st' j=M.sp st j):M.view st'=(M.view st).set i y:=by
 apply List.ext_getElem?;intro j;rw[List.getElem?_set];by_cases H:j<n
 .rw[jk H,jk H];by_cases e:i=j;.subst e;rw[if_pos rfl,if_pos (by simpa[LkM.view]using hi),I]
  .rw[if_neg e];unfold LkM.stt LkM.rds;rw[h j H (λq=>e q.symm)]
 .have h1:(M.view st')[j]? =none:=List.getElem?_eq_none (by simpa[LkM.view]using H);have O:(M.view st)[j]? =none:=List.getElem?_eq_none (by simpa[LkM.view]using H);rw[h1,O];split
  .split;.rename_i e q;subst e;exact absurd hi H
   .rfl
  .rfl
def qQ(I:M.sp st' i=M.sp st i)(h:∀j,j<n->j≠i->M.sp st' j=M.sp st j):M.view st'=M.view st:=by
 unfold LkM.view;apply List.map_congr_left;intro j H;have H:=List.mem_range.1 H;unfold LkM.stt LkM.rds;by_cases e:j=i;.rw[e,I]
 .rw[h j H e]
def iz{pc:Int}(h:0<=pc):(jb pc=0↔pc=0)/\(jb pc=1↔0<pc/\pc<10)/\(jb pc=2↔pc=10)/\(jb pc=3↔10<pc):=by
 unfold jb;split;.omega
 .split;.omega
  .split<;>omega
def j5{st:M.σ}(h:(M.sp st i).pc≠0):M.rds st i=rdB M.rd (M.sp st i):=by unfold LkM.rds uh;simp[h]
def ui{st:M.σ}(h:(M.sp st i).pc=0):M.rds st i=false:=by unfold LkM.rds uh;simp[h]
def EE(G:M.Good)(gs:M.Seen)(h:M.ok st N)(hN:N<lkB)(ab:N+1<lkB)(p:Int×Int):kP (M.view st) (M.pick st p).1 (M.view (M.pick st p).2)/\((M.pick st p).1.kind≠0->(M.pick st p).1.thread=p.1):=by
 obtain⟨t,k⟩:=p;unfold LkM.pick;simp only;by_cases hi:0<=t/\t<n
 .obtain⟨i,rfl⟩:=Int.eq_ofNat_of_zero_le hi.1;have hin:i<n:=by omega
  rw[if_pos hi,Int.toNat_natCast];have hp:=G.pcs st N i h hin;obtain⟨z0,z1,z2,z3⟩:=iz hp;have hg:=jk (M:=M) (st:=st) hin;split
  .unfold LkM.stepE;split
   .rename_i hs;have MB:=z1.1 hs;have q:=gs.s1 st N i h hN hin MB.1 MB.2;have V:=j5 (M:=M) (st:=st) (i:=i) ahy;have KT:=j5 (M:=M) (st:=M.step st i) (i:=i) ahy;have e:M.rds (M.step st i) i=M.rds st i:=(by rw[V,KT,q.2]);have KP:=iz (pc:=(M.sp (M.step st i) i).pc) ahy;rw[hs]at hg;cases hc:dm (M.sp st i) (M.sp (M.step st i) i)
    .have MI:=of_decide_eq_false hc;have s1:M.stt (M.step st i) i=1:=KP.2.1.2 ahy;rw[if_neg ahA];refine⟨?_,λq=>absurd rfl q⟩;have:=jl (M:=M) (st:=st) (st':=M.step st i) hin (y:=(1,M.rds st i)) (by rw[s1,e]) (λj Y H=>gs.sO st N i j h hN hin Y H);simp only
     rw[this,show(M.view st).set i (1,M.rds st i)=M.view st from by
      apply List.ext_getElem?;intro j;rw[List.getElem?_set];split;.exact aah
      .rfl]
     exact .none 0 i _ 0 (.inl rfl)
    .have MI:=of_decide_eq_true hc;have s2:M.stt (M.step st i) i=2:=KP.2.2.1.2 ahy;rw[if_pos rfl];refine⟨?_,λ_=>rfl⟩;simp only;rw[jl (M:=M) (st:=st) (st':=M.step st i) hin (y:=(2,M.rds st i)) (by rw[s2,e]) (λj Y H=>gs.sO st N i j h hN hin Y H)];have mP:=G.okS st N i h hN hin;have XE:=KP.2.2.1.1 s2
     have one:∀j,j<n->j≠i->(M.sp st j).pc=10->rdB M.rd (M.sp st j)=true/\rdB M.rd (M.sp st i)=true:=λj Y H WI=>by
      have hO:=gs.sO st N i j h hN hin Y H;constructor
      .cases I:rdB M.rd (M.sp st j);.exact absurd (G.one _ _ j i mP Y hin (by rw[hO];exact WI) XE (by rw[hO];exact I)) H
       .rfl
      .cases I:rdB M.rd (M.sp st i);.exact absurd (G.one _ _ i j mP hin Y XE (by rw[hO];exact WI) (by rw[q.2];exact I)).symm H
       .rfl
     refine .enter i _ _ hg (λj Y=>?_) (λS0 j Y=>?_)
     .obtain⟨Mu,he⟩:=qR Y;injection he with e1 e2;have U3:=(iz (G.pcs st N j h Mu)).2.2.1.1 e1.symm;by_cases H:j=i;.subst H;omega
      .have:=(one j Mu H U3).1;rw[<-j5 (M:=M) ahy,<-e2]at this;cases this
     .obtain⟨Mu,he⟩:=qR Y;injection he with e1 e2;have U3:=(iz (G.pcs st N j h Mu)).2.2.1.1 e1.symm;by_cases H:j=i;.subst H;omega
      .have:=(one j Mu H U3).2;rw[<-V,S0]at this;cases this
   .split
    .rename_i hs;have MB:=z3.1 hs;have q:=gs.s3 st N i h hN hin MB;have V:=j5 (M:=M) (st:=st) (i:=i) ahy;rw[hs]at hg;cases hc:dm (M.sp st i) (M.sp (M.step st i) i)
     .have MI:=of_decide_eq_false hc;rcases q with q|q
      .omega
      have KT:=j5 (M:=M) (st:=M.step st i) (i:=i) ahy;have e:M.rds (M.step st i) i=M.rds st i:=(by rw[V,KT,q.2]);have s3:M.stt (M.step st i) i=3:=(iz (pc:=(M.sp (M.step st i) i).pc) ahy).2.2.2.2 q.1;refine⟨?_,λq=>absurd rfl q⟩
      have O:M.view (M.step st i)=M.view st:=by
       rw[jl (M:=M) (st:=st) (st':=M.step st i) hin (y:=(3,M.rds st i)) (by rw[s3,e]) (λj Y H=>gs.sO st N i j h hN hin Y H)];apply List.ext_getElem?;intro j;rw[List.getElem?_set];split;.exact aah
       .rfl
      simp only;rw[O];exact .none 0 i _ 0 (.inl rfl)
     .have MI:=of_decide_eq_true hc;rcases q with q|q
      .have s0:M.stt (M.step st i) i=0:=(iz (pc:=(M.sp (M.step st i) i).pc) ahy).1.2 q;refine⟨?_,λ_=>rfl⟩;simp only;rw[jl (M:=M) (st:=st) (st':=M.step st i) hin (y:=(0,false)) (by rw[s0,ui q]) (λj Y H=>gs.sO st N i j h hN hin Y H)];exact .rest i _ 0 hg
      .omega
    .exact⟨.none 0 i _ 0 (.inl rfl),λq=>absurd rfl q⟩
  .split
   .unfold LkM.askE;split;.exact aai
    .rename_i MX;generalize decide (k=3)=r at MX ⊢;by_cases hc:(M.sp st i).pc=0/\(r=true->M.rd=true);.rw[decide_eq_true hc,if_pos rfl];have q:=gs.a1 st N i r h hN hin hc.1 hc.2;have KT:=j5 (M:=M) (st:=M.ask st i r) (i:=i) ahy;refine⟨?_,λ_=>rfl⟩;simp only;rw[jl (M:=M) (st:=st) (st':=M.ask st i r) hin (y:=(1,r)) (by rw[KT,q.2,show M.stt (M.ask st i r) i=1 from(iz (pc:=(M.sp (M.ask st i r) i).pc) ahy).2.1.2 q.1]) (λj Y H=>gs.aO st N i r j h hN hin Y H)];refine .ask i r (M.rds st i) 0 ?_;rw[hg,show M.stt st i=0 from z0.2 hc.1]
     .rw[decide_eq_false hc,if_neg ahA];have I':(M.sp st i).pc≠0:=λe=>hc ⟨e,λer=>by subst er;simpa using MX⟩;refine⟨?_,λ_=>rfl⟩;simp only;rw[qQ (M:=M) (st:=st) (st':=M.ask st i r) (gs.aN st N i r h hN hin I') (λj Y H=>gs.aO st N i r j h hN hin Y H)];exact .none 5 i _ 0 (.inr rfl)
   .split
    .unfold LkM.leaveE;split;.exact aai
     .rename_i MX;generalize decide (k=4)=r at MX ⊢;have er:M.rds st i=r:=(by simpa using MX);by_cases hc:(M.sp st i).pc=10;.rw[decide_eq_true hc,if_pos rfl];have q:=gs.l1 st N i h hN hin hc;have KT:=j5 (M:=M) (st:=M.leave st i) (i:=i) ahy;have V:=j5 (M:=M) (st:=st) (i:=i) ahy;refine⟨?_,λ_=>rfl⟩;simp only;rw[jl (M:=M) (st:=st) (st':=M.leave st i) hin (y:=(3,r)) (by rw[KT,q.2,<-V,er,show M.stt (M.leave st i) i=3 from(iz (pc:=(M.sp (M.leave st i) i).pc) ahy).2.2.2.2 q.1]) (λj Y H=>gs.lO st N i j h hN hin Y H)];refine .exit i r 0 ?_;rw[hg,show M.stt st i=2 from z2.2 hc,er]
      .rw[decide_eq_false hc,if_neg ahA];refine⟨?_,λ_=>rfl⟩;simp only;rw[qQ (M:=M) (st:=st) (st':=M.leave st i) (gs.lN st N i h hN hin hc) (λj Y H=>gs.lO st N i j h hN hin Y H)];exact .none 5 i _ 0 (.inr rfl)
    .exact aai
 .rw[if_neg hi];exact⟨.none 0 0 _ 0 (.inl rfl),λq=>absurd rfl q⟩
end
end
section
open Go.RowKit
def FE(w:World)(b o:Nat)(x y:Int)(hc:Z w b o (J x))(h:w.frozen? ⟨b,o,none⟩=false):E 188 #[pointer (some ⟨b,o,none⟩),J y] w λe w'=>e= returned (tuple #[])/\w'=w.setCell ⟨b,o,none⟩ (J y):=by have H:=run_call_store (P:=prog) func195 ahB ahB ahB ahB (k:= .i64) (y:=y) hc h;go_enter func188,ntmps188;go_wp2;go_end0;exact⟨rfl,rfl⟩
def an{s:Ar}(h:aB w a g s)(x v:Int)(Y:s.ops+1<=1000000000000):E 177 #[↑a,J x,J v] w (fh w a g (ae s x v) (tuple #[])):=by
  have H:=qh h;cases I:inR s.W x;. have e:fh w a g (ae s x v) (tuple #[]) (returned (tuple #[])) w:=⟨rfl,by unfold ae;rw[i4 s _ _ _ I,si s _ _ I];exact h,aa.refl _ _⟩;have HX:=qh I;clear h I;go_enter func177,ntmps177;go_wp2_with fail;refine LT (kx H.o x HX.o) ?_;go_wp2;go_end0;exact e
  . have HX:=qh I;have PJ:=aT.1 I;have MU:x.toNat-1<s.W.length:=(by omega);clear h I;go_enter func177,ntmps177;go_wp2_with fail;refine LT (kI H.o x HX.o) ?_;go_wp2_with fail;refine Pi (i5 H.o 2 x true HX.o Y) λw1 h1=>?_;have hc:=h1.o.1.word (i:=x.toNat-1) (by rw[dO];exact MU);have V:=h1.o.1.put (x:=x) (by rw[dO];exact HX.o) v;have H1:=qh (And.intro V h1.o.2);have O:=qh hc;clear V hc;go_wp2_with fail;refine LT (FE _ _ _ _ _ O.o.1 O.o.2) ?_;go_wp2;go_end0;exact⟨rfl,H1.o.1.1,(jj H1.o.2).trans H1.o.1.2⟩
end
section
open Go.RowKit
def Ai(w:World)(b o:Nat)(x y:Int)(hc:Z w b o (J x))(h:w.frozen? ⟨b,o,none⟩=false):E 274 #[pointer (some ⟨b,o,none⟩),J x,J y] w λe w'=>e= returned (bool true)/\w'=w.setCell ⟨b,o,none⟩ (J y):=by have H:=run_call_cas_hit (P:=prog) func276 ahB ahB ahB .i64 ahB (y:=y) hc h;go_enter func274,ntmps274;go_wp2;go_ret;exact⟨rfl,rfl⟩
def yf(w:World)(b o:Nat)(x old y:Int)(hc:Z w b o (J x))(H:w.frozen? ⟨b,o,none⟩=false)(h:¬x=old):E 274 #[pointer (some ⟨b,o,none⟩),J old,J y] w λe w'=>e= returned (bool false)/\w=w':=by have I:=run_call_cas_miss (P:=prog) func276 ahB ahB ahB .i64 ahB (o:=old) (y:=y) hc H h;clear h;go_enter func274,ntmps274;go_wp2;go_ret;exact⟨rfl,rfl⟩
def jo{s:Ar}(h:aB w a g s)(x old v:Int)(Y:s.ops+1<=1000000000000):E 272 #[↑a,J x,J old,J v] w (fh w a g (dY s x old v) (bool (cK s x old))):=by
  have H:=qh h;cases O:inR s.W x
  . have e:fh w a g (dY s x old v) (bool (cK s x old)) (returned (bool false)) w:=⟨by unfold cK;rw[O];rfl,by
      have I:cK s x old=false:=by unfold cK;rw[O];rfl
      unfold dY;rw[I,i4 s 4 x false O];exact h,aa.refl _ _⟩
    have HX:=qh O;clear h O;go_enter func272,ntmps272;go_wp2_with fail;refine LT (kx H.o x HX.o) ?_;go_wp2;go_ret;exact e
  . have HX:=qh O;have PJ:=aT.1 O;have MU:x.toNat-1<s.W.length:=(by omega);have hc:=h.word (i:=x.toNat-1) MU;rw[<-jt O]at hc;by_cases Qg:ldW s.W x=old;. have I:cK s x old=true:=(by unfold cK;rw[O,Qg];simp);have hp:=h.put O v;have HP:=qh (And.intro hp I);rw[Qg]at hc;have V:=qh hc;clear h O hc hp Qg I;go_enter func272,ntmps272;go_wp2_with fail;refine LT (kI H.o x HX.o) ?_;go_wp2_with fail;refine LT (Ai _ _ _ _ _ V.o.1 V.o.2) ?_;have h2:=HP.o.1.1;have t2:=HP.o.1.2;generalize (w.setCell ⟨g,x.toNat-1,none⟩ (J v))=w2 at h2 t2 ⊢;have H2:=qh (And.intro h2 t2);clear h2 t2;go_wp2_with fail;refine Pi (i5 H2.o.1 4 x true (by unfold inR wrA;rw[bQ];exact HX.o) Y) λw3 H3=>?_;go_wp2;go_ret;refine⟨by rw[HP.o.2];rfl,?_,H2.o.2.trans (jj H3.o.2)⟩;have e:dY s x old v=fD (wrA s x v) 4 x true:=(by unfold dY;rw[HP.o.2,if_pos rfl];unfold fD;rw[if_pos HX.o,if_pos (by unfold inR wrA;rw[bQ];exact HX.o)];rfl);rw[e];exact H3.o.1
    . have I:cK s x old=false:=(by unfold cK;rw[O];simpa using Qg);have V:=qh (And.intro hc (And.intro Qg I));clear h O hc Qg I;go_enter func272,ntmps272;go_wp2_with fail;refine LT (kI H.o x HX.o) ?_;go_wp2_with fail;refine LT (yf _ _ _ _ _ _ V.o.1.1 V.o.1.2 V.o.2.1) ?_;go_wp2_with fail;refine Pi (i5 H.o 4 x false HX.o Y) λw3 H3=>?_;go_wp2;go_ret;refine⟨by rw[V.o.2.2];rfl,?_,jj H3.o.2⟩;unfold dY;rw[V.o.2.2];exact H3.o.1
end
section
open Go.RowKit
def JO(w:World)(b o:Nat)(x y:Int)(hc:Z w b o (J x))(h:w.frozen? ⟨b,o,none⟩=false):E 303 #[pointer (some ⟨b,o,none⟩),J y] w λe w'=>e= returned (J (IntKind.i64.wrap (x+y)))/\w'=w.setCell ⟨b,o,none⟩ (J (IntKind.i64.wrap (x+y))):=by obtain⟨s,hs⟩:=LE (IntKind.i64.wrap (x+y));rw[<-hs];have H:=run_call_add (P:=prog) func305 ahB ahB ahB .i64 ahB (y:=y) (s:=s) hc h (by rw[hs];rfl);clear hs;go_enter func303,ntmps303;go_wp2;go_ret;exact⟨rfl,rfl⟩
def iq{s:Ar}(h:aB w a g s)(x d:Int)(Y:s.ops+1<=1000000000000):E 298 #[↑a,J x,J d] w (fh w a g (addA s x d) (J (if inR s.W x then IntKind.i64.wrap (ldW s.W x+d)else 0))):=by
  have H:=qh h;cases I:inR s.W x;. have e:fh w a g (addA s x d) (J (if false=true then IntKind.i64.wrap (ldW s.W x+d)else 0)) (returned (J 0)) w:=⟨rfl,by unfold addA;rw[i4 s _ _ _ I,si s _ _ I];exact h,aa.refl _ _⟩;have HX:=qh I;clear h I;go_enter func298,ntmps298;go_wp2_with fail;refine LT (kx H.o x HX.o) ?_;go_wp2;go_ret;exact e
  . have HX:=qh I;have HE:=qh (jt I);have PJ:=aT.1 I;have MU:x.toNat-1<s.W.length:=(by omega);clear h I;go_enter func298,ntmps298;go_wp2_with fail;refine LT (kI H.o x HX.o) ?_;go_wp2_with fail;refine Pi (i5 H.o 5 x true HX.o Y) λw1 h1=>?_;have hc:=h1.o.1.word (i:=x.toNat-1) (by rw[dO];exact MU);rw[dO,<-HE.o]at hc;have hp:=h1.o.1.put (x:=x) (by rw[dO];exact HX.o) (IntKind.i64.wrap (ldW s.W x+d));have H1:=qh (And.intro hp h1.o.2);have HC:=qh hc;clear hp hc;go_wp2_with fail;refine LT (JO _ _ _ _ _ HC.o.1 HC.o.2) ?_;obtain⟨r,V⟩:=LE (IntKind.i64.wrap (ldW s.W x+d));have Z9:-9223372036854775808<=r/\r<=9223372036854775807:=(by rw[V,IntKind.wrap_i64];omega);obtain⟨ab,UL⟩:=Z9;rw[<-V];have O:=qh V;clear V;go_wp2;go_ret;exact⟨by rw[O.o];rfl,by rw[O.o];exact H1.o.1.1,by rw[O.o];exact(jj H1.o.2).trans H1.o.1.2⟩
end
section
open Go.RowKit
variable{u:Value}
def SpR(w:World)(q:Nat)(S:List Sp):Prop:=∃Zz:List Value,Blk w q 113 (S.flatMap bm++Zz).toArray
section
variable{q:Nat}{S:List Sp}
def yO(S:List Sp):(S.flatMap bm).length=S.length*4:=by
 induction S with
 |nil=>rfl
 |cons a l h=>rw[List.flatMap_cons,List.length_append,h,iN,List.length_cons];omega
def SpR.cell(h:SpR w q S){p:Sp}(I:S[i]? =some p)(j:Nat)(u:Value)(O:(bm p)[j]? =some u):Z w q (i*4+j) u:=by obtain⟨V,h⟩:=h;rw[Blk.cell h];have h1:=ch bm 4 iN S i p j u I O;have H:i*4+j<(S.flatMap bm).length:=(List.getElem?_eq_some_iff.1 h1).1;simp only[List.getElem?_toArray];rw[List.getElem?_append_left H,h1]
def SpR.put(h:SpR w q S){p p':Sp}(H:S[i]? =some p)(V:j<4)(O:(bm p).set j u=bm p'):SpR (w.setCell ⟨q,i*4+j,none⟩ u) q (S.set i p'):=by obtain⟨I,h⟩:=h;have h1:=Blk.set_ h (i*4+j) u;have hi:=(List.getElem?_eq_some_iff.1 H).1;refine⟨I,?_⟩;rw[List.setIfInBounds_toArray,List.set_append_left _ _ (by rw[yO];omega),nJ bm 4 iN S i p p' j u H V O]at h1;exact h1
def SpR.lt(h:SpR w q S):q<w.heap.size:=by obtain⟨H,h⟩:=h;exact Blk.lt h
def SpR.free(h:SpR w q S)(i:Nat):w.frozen? ⟨q,i,none⟩=false:=by obtain⟨H,h⟩:=h;exact Blk.free h i
def SpR.turns(h:SpR w q S)(k:aa T w w')(I:q∉T):SpR w' q S:=by obtain⟨H,h⟩:=h;exact⟨H,k.blk h I⟩
end
structure Fx where
 p:Nat
 l:Nat
 q:Nat
 k:Nat
 t:Nat
 m:Nat
 n:Nat
 cap:Nat
def lkT:Nat->TypeId
 |1=>339
 |2=>343
 |3=>345
 |4=>348
 |_=>350
def lkC(k a:Nat)(x:Fx):Array Value:=
 match k with
 |1=>#[↑a,int i64 x.t,int i64 x.m,slice (some ⟨x.q,0,none⟩) x.n x.cap]
 |2=>#[slice (some ⟨x.q,0,none⟩) x.n x.cap,↑a,int i64 x.t]
 |3=>#[↑a,int i64 x.t,int i64 x.m,slice (some ⟨x.q,0,none⟩) x.n x.cap]
 |_=>#[↑a,int i64 x.t,slice (some ⟨x.q,0,none⟩) x.n x.cap]
structure KIs(w:World)(a g k:Nat)(x:Fx)(s:Ar)(S:List Sp):Prop where
 ar:aB w a g s
 lk:Blk w x.l (lkT k) (lkC k a x)
 sp:SpR w x.q S
 n:S.length=x.n
 la:x.l≠a
 lg:x.l≠g
 lq:x.l≠x.q
 qa:x.q≠a
 qg:x.q≠g
 n32:x.n<=32
 t0:1<=x.t
 t1:x.t<=5000
 m0:1<=x.m
 m1:x.m<=4
 cap:x.n<=x.cap
section
variable{k:Nat}{x:Fx}{s s':Ar}{S S':List Sp}
def KIs.turns(h:KIs w a g k x s S)(t:aa T w w')(h1:x.l∉T)(H:a∉T)(I:g∉T)(O:x.q∉T):KIs w' a g k x s S:=
 {h with ar:=h.ar.turns t H I,lk:=t.blk h.lk h1,sp:=h.sp.turns t O}
def KIs.below(h:KIs w a g k x s S)(t:Below w.heap.size w w'):KIs w' a g k x s S:=
 h.turns (T:=[]) (aa.of_below t) ahz ahz ahz ahz
def KIs.op(h:KIs w a g k x s S)(t:aa [a,g] w w')(H:aB w' a g s'):KIs w' a g k x s' S:=
 {h with ar:=H,lk:=t.blk h.lk (by simp[h.la,h.lg]),sp:=h.sp.turns t (by simp[h.qa,h.qg])}
def KIs.spt(h:KIs w a g k x s S)(t:aa [x.q] w w')(hs:SpR w' x.q S')(H:S'.length=S.length):KIs w' a g k x s S':=
 {h with ar:=h.ar.turns t (by simpa using λe=>h.qa e.symm) (by simpa using λe=>h.qg e.symm),lk:=t.blk h.lk (by simpa using h.lq),sp:=hs,n:=H.trans h.n}
def aW(q i:Nat)(u:Value):aa [q] w (w.setCell ⟨q,i,none⟩ u):=(aa.refl _ _).setCell (.inl ahz) _
def KIs.put(h:KIs w a g k x s S){p p':Sp}(O:S[i]? =some p)(I:j<4)(H:(bm p).set j u=bm p'):KIs (w.setCell ⟨x.q,i*4+j,none⟩ u) a g k x s (S.set i p'):=
 h.spt (aW _ _ _) (h.sp.put O I H) ahz
def KIs.put0(h:KIs w a g k x s S){p p':Sp}(I:S[i]? =some p)(H:(bm p).set 0 u=bm p'):KIs (w.setCell ⟨x.q,i*4,none⟩ u) a g k x s (S.set i p'):=
 h.put I (j:=0) ahA H
def ed(S:List Sp)(i:Nat)(p q:Sp):(S.set i p).set i q=S.set i q:=by simp
def au{S:List Sp}{p:Sp}(h:S[i]? =some p)(q:Sp):(S.set i q)[i]? =some q:=by have:=(List.getElem?_eq_some_iff.1 h).1;simp[this]
def cr{S:List Sp}{p:Sp}(hp:S[i]? =some p):S.set i p=S:=by exact aan
end
end
section
open Go.RowKit
def tuC(a:Nat)(f:Int)(n:Nat)(D:List Int):List Value:=[pointer (some ⟨a,0,none⟩),J f,J n]++D.map (Value.int .i64)
structure ez(w:World)(u a:Nat)(f:Int)(n:Nat)(D:List Int):Prop where
 blk:Blk w u 322 (tuC a f n D).toArray
 len:D.length=32
 n32:n<=32
 f0:0<=f/\f<=5000
section
variable{n:Nat}
def ez.c0(h:ez w u a f n D):w.cell? u=some ↑a:=h.blk.cell 0
def ez.c1(h:ez w u a f n D):Z w u 1 (J f):=h.blk.cell 1
def ez.c2(h:ez w u a f n D):Z w u 2 (J n):=h.blk.cell 2
def ez.c3(h:ez w u a f n D)(hi:i<32):Z w u (3+i) (J (dv D i)):=by rw[h.blk.cell (3+i)];have H:=h.len;unfold tuC dv;rw[List.getElem?_toArray,List.getElem?_append_right ahz];simp[List.getD_eq_getElem?_getD,List.getElem?_eq_getElem (show i<D.length by omega)]
def ez.turns(h:ez w u a f n D)(k:aa S w w')(H:u∉S):ez w' u a f n D:=⟨k.blk h.blk H,h.len,h.n32,h.f0⟩
def ez.below(h:ez w u a f n D)(k:Below w.heap.size w w'):ez w' u a f n D:=h.turns (aa.of_below (S:=[]) k) ahz
def GH(h:ez w u a f n D):E 299 #[↑u] w λe w'=>e= returned (J n)/\w=w':=by have c2:=h.c2;clear h;go_enter func299,ntmps299;exact aab
def D5(h:ez w u a f n D)(i:Int)(b:Bool)(I:decide (0<=i/\i<n)=b):E 293 #[↑u,J i] w λe w'=>e= returned (.bool b)/\w=w':=by
 have H:=qh h;have HB:=qh I;clear h I;go_enter func293,ntmps293;by_cases O:0<=i;.go_wp2_with fail;refine LT (GH H.o) ?_;go_wp2;go_ret;exact⟨az (by rw[<-HB.o];simp[O]),rfl⟩
 .exact aau
def IO(h:ez w u a f n D)(i:Nat)(hi:i<n)(hd:0<=dv D i/\dv D i<1000000000):E 290 #[↑u,J i] w λe w'=>e= returned (J (tokH i (dv D i+1)))/\Below w.heap.size w w':=by
 have O:=h.n32;have c3:=h.c3 (i:=i) ahy;have H:=qh (D5 h i true (decide_eq_true ahy));obtain⟨d,hd1⟩:=LE (dv D i);rw[<-hd1]at c3 hd ⊢;obtain⟨Y,Zr⟩:=hd;have I:(i:Int)<32:=by omega
 have V:i<32:=by omega
 clear h hd1;go_enter func290,ntmps290;go_wp2_with fail;refine LT H.o ?_;go_wp2_with fail;refine(Cz w _ _ ahy ahy ahy ahy).mono ?_;rintro en w1 ⟨rfl,b1⟩;have B1:=qh b1;clear b1 c3;exact aas
end
structure IsK(w W:World)(u a g:Nat)(f:Int)(n:Nat)(D:List Int)(s s':Ar):Prop where
 ar:aB W a g s'
 tu:ez W u a f n D
 tn:aa [a,g] w W
def IsK.below{W H:World}{n:Nat}{s s':Ar}(h:IsK w W u a g f n D s s')(k:Below W.heap.size W H):IsK w H u a g f n D s s':=
 ⟨h.ar.turns (S:=[]) (aa.of_below k) ahz ahz,h.tu.below k,h.tn.trans (aa.of_below k)⟩
def isU{n:Nat}{s:Ar}(h:aB w a g s)(k:ez w u a f n D)(Nh:u≠a)(Ni:u≠g)(x:Int)(V:0<=x)(h1:x<9223372036854775808)(Y:s.ops+1<=1000000000000):E 291 #[↑u,J x] w λe w'=>e= returned (bool (isB s.W f n x))/\aB w' a g (isA s f n x)/\aa [a,g] w w':=by
  have HI:=qh (λW=>Bp W x V h1);have HM:=qh (λW=>zb W x V h1);have Vr:=qh (λW=>Bw W x V h1);have K0:=qh (show IsK w w u a g f n D s s from⟨h,k,aa.refl _ _⟩);have HC:=qh (λW (h:ez W u a f n D)=>And.intro h.c0 h.c1);have Mp:u∉[a,g]:=by simp[Nh,Ni]
  obtain⟨f0,f1⟩:=k.f0;have n32:=k.n32;obtain⟨j,hj⟩:=LE (x%65536);have al:0<=j:=by omega
  have ax:j<65536:=by omega
  obtain⟨m,hm⟩:=LE (x/65536);rw[<-hj]at HI;rw[<-hm]at Vr;by_cases mP:1<=j/\j<=n
  . have H:BO n x=true:=decide_eq_true ⟨V,by omega,by omega⟩;obtain⟨v,O⟩:=LE (ldW s.W (f+(j-1)));have HE:Kq (isA s f n x=af s (f+(j-1))/\isB s.W f n x=decide (m<=v)):=qh ⟨by unfold isA;rw[H,<-hj];rfl,by unfold isB;rw[H,<-hj,<-hm,<-O];rfl⟩;have HL:=qh (λW (h:aB W a g s)=>aE h (f+(j-1)) Y);rw[<-O]at HL;have HH:=qh (λW (h:ez W u a f n D)=>D5 h (j-1) true (decide_eq_true ahy));obtain⟨ab,ad⟩:=mP;have HU:=qh Mp;clear h k V h1 hj hm H O Mp Nh Ni;go_enter func291,ntmps291;go_wp2_with fail;refine Pi (HI.o w) λw1 b1=>?_;have I:=qh ((K0.o.below b1.o).below ((Below.refl _ w1).drew));have x1:IntKind.i64.wrap (f+(j-1))=f+(j-1):=IntWalk.i64_in _ ahy;go_wp2_with fail
    go_region_held3 (λW=>W.cell? u=some ↑a/\Z W u 1 (J f))
      (first|with_reducible exact HC.o _ I.o.tu|with_reducible exact HC.o _ K2.o.tu|with_reducible exact HC.o _ K3.o.tu|with_reducible exact HC.o _ K4.o.tu)
      (first
        | (go_at_call 296;go_loud (refine Pi (HM.o _) λw2 q2=>?_);have K2:=qh (I.o.below (Qt.below q2.o _)))
        | (go_at_call 293;go_loud (refine LT (HH.o _ K2.o.tu) ?_))
        | (go_at_call 173;go_loud (refine Pi (HL.o _ K2.o.ar) λw3 a3=>?_);have K3:Kq (IsK w w3 u a g f n D s (af s (f+(j-1)))):=qh ⟨a3.o.1,K2.o.tu.turns a3.o.2 HU.o,K2.o.tn.trans a3.o.2⟩)
        | (go_at_call 297;go_loud (refine Pi (Vr.o _) λw4 b4=>?_);have K4:=qh (K3.o.below b4.o)))
    all_goals
      go_wp2;go_ret;refine⟨az ?_,?_,K4.o.tn⟩;. rw[HE.o.2]
      . rw[HE.o.1];exact K4.o.ar
  . have H:BO n x=false:=decide_eq_false ahy;have HE:Kq (isA s f n x=s/\isB s.W f n x=false):=qh ⟨by unfold isA;rw[H];rfl,by unfold isB;rw[H];rfl⟩;have HH:=qh (λW (h:ez W u a f n D)=>D5 h (j-1) false (decide_eq_false ahy));clear h k V h1 hj hm H Mp Nh Ni;go_enter func291,ntmps291;go_wp2_with fail;refine Pi (HI.o w) λw1 b1=>?_;have I:=qh (K0.o.below b1.o);clear mP;go_wp2_with fail
    go_quiet ((first
        | (go_at_call 296;exact CB (HM.o _))
        | (go_at_call 293;exact bN (HH.o _ (I.o.below (Qt.below ⟨_,rfl⟩ _)).tu))))
    go_wp2;go_ret;refine⟨az ?_,?_,I.o.tn.trans (aa.of_qt ⟨_,rfl⟩)⟩;. rw[HE.o.2]
    . rw[HE.o.1];exact(I.o.below (Qt.below ⟨_,rfl⟩ _)).ar
end
section
open Go.RowKit
variable{n:Nat}{s:Ar}
def ez.put(h:ez w u a f n D)(v:Int):ez (w.setCell ⟨u,3+i,none⟩ (J v)) u a f n (D.set i v):=by
 refine⟨?_,by simp[h.len],h.n32,h.f0⟩;have h1:=h.blk.set_ (3+i) (J v);have e:(tuC a f n D).toArray.setIfInBounds (3+i) (J v)=(tuC a f n (D.set i v)).toArray:=by rw[List.setIfInBounds_toArray];congr 1;unfold tuC;rw[List.set_append_right _ _ ahz];simp[List.map_set]
 rw[e]at h1;exact h1
def ez.drew(h:ez w u a f n D):ez w.drew u a f n D:=h.below ((Below.refl _ _).drew)
def aB.drew(h:aB w a g s):aB w.drew a g s:=h.turns (S:=[]) ((aa.refl _ _).drew) ahz ahz
def Hu(h:aB w a g s)(k:ez w u a f n D)(Nh:u≠a)(Ni:u≠g)(i:Nat)(hi:i<n)(hd:0<=dv D i/\dv D i<1000000000)(Y:s.ops+1<=1000000000000):E 292 #[↑u,J i] w λe w'=>e= returned (tuple #[])/\aB w' a g (addA s (f+i) 1)/\ez w' u a f n (D.set i (dv D i+1))/\aa [a,g,u] w w':=by
  have NN:=k.n32;obtain⟨f0,f1⟩:=k.f0;have Ux:i<32:=by omega
  have MK:(i:Int)<32:=by omega
  have c3:=k.c3 (i:=i) Ux;have z3:=k.blk.free (3+i);have Pr:=k.blk.lt;have HH:=qh (D5 k i true (decide_eq_true ahy));obtain⟨d,hd1⟩:=LE (dv D i);rw[<-hd1]at c3 hd ⊢;obtain⟨Zq,Zr⟩:=hd;have Ss:aB (w.setCell ⟨u,3+i,none⟩ (J (d+1))).drew a g s:=(h.turns (S:=[u]) ((aa.refl _ _).setCell (.inl ahz) _) (by simpa using Ne.symm Nh) (by simpa using Ne.symm Ni)).drew;have I:ez (w.setCell ⟨u,3+i,none⟩ (J (d+1))).drew u a f n (D.set i (d+1)):=(k.put (i:=i) (d+1)).drew;have Xd:aa [a,g,u] w (w.setCell ⟨u,3+i,none⟩ (J (d+1))).drew:=((aa.refl _ _).setCell (.inl ahz) _).drew;have H:=qh (And.intro Ss (And.intro I Xd));have HU:=qh (show u∉[a,g]by simp[Nh,Ni]);clear h k hd1 Ss I Xd Nh Ni;go_enter func292,ntmps292;go_wp2_with fail;refine LT HH.o ?_;go_wp2_with fail;refine wp_region_still_tail 10 ahB ahB ?_;refine akl ?_;change wpStill _ _ (World.drew _) _ _ _;repeat still_step
  refine wpStill_nil ?_;change wpList _ _ _ _ _ (World.drew w);go_wp2_with fail;generalize hW:(w.setCell ⟨u,3+i,none⟩ (J (d+1))).drew=W at H ⊢;have s0:=H.o.2.1.c0;have s1:=H.o.2.1.c1;have x1:IntKind.i64.wrap (f+i)=f+i:=IntWalk.i64_in _ ahy;have O:=(λgs (h:aB gs a g s)=>iq h (f+i) 1 Y);obtain⟨r,V⟩:∃r:Int,r=(if inR s.W (f+i)=true then IntKind.i64.wrap (ldW s.W (f+i)+1)else 0):=⟨_,rfl⟩;rw[<-V]at O;have HL:=qh O;clear O V;clear hW c3;refine wp_region_still_tail 10 ahB ahB ?_;refine akl ?_;change wpStill _ _ (World.drew _) _ _ _;repeat still_step
  refine wpStill_nil ?_;change wpList _ _ _ _ _ (World.drew W);go_wp2_with fail;refine Pi (HL.o _ H.o.1.drew) λw2 h2=>?_;have H2:=qh (And.intro h2.o.1 (And.intro (H.o.2.1.drew.turns h2.o.2 HU.o) ((H.o.2.2.drew).trans (h2.o.2.mono ahz))));go_wp2;go_end0;exact⟨rfl,H2.o⟩
def JZ(h:aB w a g s)(n:Nat)(h1:1<=n)(Y:n<=32)(V:(n:Int)<=(s.room:Int)-s.W.length):E 144 #[↑a,J n] w λe w'=>∃u,e= returned (tuple #[pointer (some ⟨u,0,none⟩),J 0])/\w.heap.size<=u/\aB w' a g {s with W:=s.W++List.replicate n 0}/\ez w' u a (s.W.length+1) n (List.replicate 32 0)/\aa [a] w w':=by
  have Nd:=h.le;have OO:=h.room;have O:Kq (ef s n=({s with W:=s.W++List.replicate n 0},(s.W.length:Int)+1,(0:Int))):=qh (by unfold ef;rw[if_neg ahy,if_neg ahy];simp);have H:=qh h;have e1:¬(n:Int)<1:=by omega
  have e2:¬32<(n:Int):=by omega
  clear h;go_enter func144,ntmps144;go_wp2_with fail;refine(gw H.o n).mono ?_;rintro en w1 ⟨rfl,k1,t1⟩;rw[O.o]at k1 ⊢;have I:=t1.size;have H1:=qh (And.intro k1 (And.intro t1 I));have Ku:(s.W.length:Int)<=4096:=by omega
  clear k1 t1 I;go_wp2;go_ret2;refine⟨w1.heap.size,rfl,H1.o.2.2,H1.o.1.turns (S:=[]) ((aa.refl _ _).alloc _) ahz ahz,⟨?_,by simp,Y,by omega,by omega⟩,(H1.o.2.1).alloc _⟩;have:=Blk.new w1 322 (tuC a (s.W.length+1) n (List.replicate 32 0)).toArray;exact this
end
section
open Go.RowKit
def bD(s:Ar)(n:Nat):Ar:={s with W:=s.W++List.replicate n 0}
def ni{s:Ar}(h:aB w a g s)(n:Nat)(O:s.W.length+n<=s.room):E 139 #[↑a,J n] w λe w'=>e= returned (tuple #[J ((s.W.length:Int)+1),J 0])/\aB w' a g (bD s n)/\aa [a] w w':=by
  refine(gw h n).mono ?_;have e:ef s n=(bD s n,(s.W.length:Int)+1,(0:Int)):=by unfold ef;rw[if_neg ahy,if_neg ahy,Int.toNat_natCast];rfl
  rw[e];rintro en w' ⟨h1,H,I⟩;exact⟨h1,H,I⟩
def ot(w:World)(xs:List Value)(t:TypeId):∀j u,xs[j]? =some u->(w.alloc (.cells xs.toArray t)).cell? ((⟨w.heap.size,0,none⟩:Addr).add j)=some u:=by
 intro j u H;have k:=Blk.new w t xs.toArray;have c:=k.cell j;have e:(⟨w.heap.size,0,none⟩:Addr).add j=⟨w.heap.size,j,none⟩:=by simp[Addr.add];exact λh=>h.symm
 rw[e,c];simpa using H
theorem Tryz.infoSpF:(prog.info? 113).map (λi=>(i.zero,i.size,i.bytes))=some (some (agg #[J 0,J 0,J 0,J 0]),4,32):=by kernel_rfl
def Gz{l:Nat}{va H:Value}(nx:Nat)(m:Nat)(hm:1<=m)(I:nx<=100000)(h:Blk w l 345 #[va,J nx,J m,H]):E 178 #[↑l,J 0] w λe w'=>e= returned (J ((nx:Int)+1))/\Below w.heap.size w w':=by
  have c1:Z w l 1 (J nx):=h.cell 1;have c2:Z w l 2 (J m):=h.cell 2;have t1:¬(m:Int)=0:=by omega
  have t2:((m:Int)==0)=false:=by simpa using t1
  have O:IntKind.i64.wrap ((nx:Int)+1)=(nx:Int)+1:=IntWalk.i64_in _ ahy;clear h;go_enter func178,ntmps178;go_wp2_with fail;go_quiet (fail);go_wp2;go_ret;exact⟨rfl,bO (Below.refl _ _) _⟩
def Ix(w:World)(n:Nat)(h1:1<=n)(h:n<=32):E 176 #[J n] w λe w'=>e= returned (bool true)/\w=w':=by
 have t1:(1:Int)<=n:=by omega
 have t2:(n:Int)<=32:=by omega
 go_enter func176,ntmps176;exact aab
end
section
open Go.RowKit
variable{s:Ar}
def rh(u:Value)(n:Nat):(madeCells #[u,u,u,u] n).toList=List.replicate n u:=by exact aax
def vk(n:Nat):(List.replicate n Sp.zero).flatMap bm=List.replicate (n*4) (J 0):=by exact aay
def j8{q n:Nat}(h:w.ownsRow base 113 4 (slice (some ⟨q,0,none⟩) n n) n (madeCells #[Value.int .i64 0,J 0,J 0,J 0] (n*4)).toList):SpR w q (List.replicate n Sp.zero):=by have:=fY h;refine⟨[],?_⟩;rw[List.append_nil,vk];have e:(madeCells #[Value.int .i64 0,J 0,J 0,J 0] (n*4)).toList=List.replicate (n*4) (J 0):=rh _ _;exact aa2
def szK(k n m:Nat):Nat:=if k=1 then 1 else if k=2 then 2 else if k=3 then 1+m else if k=4 then 1+2*n else n+2
def aG(k:Nat)(s:Ar)(n m:Nat):Ar:=
 if k=3 then ae (bD s (szK k n m)) ((s.W.length:Int)+2) 1 else if k=5 then ae (bD s (szK k n m)) ((s.W.length:Int)+1) ((n:Int)+1)else bD s (szK k n m)
def be(k n:Nat):List Sp:=if k=5 then(List.range n).map fun(i:Nat)=>(⟨0,(i:Int)+1,0,0⟩:Sp)else List.replicate n Sp.zero
def Ad(w:World)(a g k:Nat)(s:Ar)(n m:Nat)(e:Ending)(w':World):Prop:=
 ∃x:Fx,e= returned (tuple #[↑x.l,J 0])/\KIs w' a g k x (aG k s n m) (be k n)/\(w.heap.size<=x.l/\w.heap.size<=x.q/\x.n=n/\x.m=m/\x.t=s.W.length+1/\x.k=k)/\aa [a,g] w w'
def wR(h:aB w a g s)(n:Nat)(h1:1<=n)(h2:n<=32)(m:Nat)(H:1<=m)(O:m<=4)(V:s.W.length+(2)<=s.room):E 152 #[↑a,J n] w (Ad w a g 2 s n m):=by
  obtain⟨i0,hi,Kt,Kv,Y⟩:=info_parts Tryz.infoSpF;have HT:=qh (ni h (2) V);refine ajU ?_;intro t1 t2 HR HG;clear h V;go_enter func152,ntmps152;go_wp2_with fail;refine Pi HT.o λw1 H1=>?_;clear HT;go_wp2_with (refine wpList_make_full _ rfl _ _ 237 rfl w1.heap.size 113 i0 (agg #[J 0,J 0,J 0,J 0]) 4 Tryz.underlying237 hi Kt Kv .i64 .i64 n n n rfl rfl rfl rfl ?b2 ?b3 (Nat.le_refl _) ?_);case b2=>rw[Y];omega
  case b3=>unfold maxLen;omega
  intro w2 r' hg;refine ajq ?_;intro Lj H2;have HS:=qh (j8 r');clear r' hg Lj;go_wp2;go_ret2;have k2:=H1.o.1.turns H2.o ahz ahz;have s1:=H1.o.2.size;have s2:=H2.o.size;have hq:=HS.o.lt;have PM:=HG.o;have MX:=HR.o;have tA:aa [] w2 (w2.alloc (.cells (lkC 2 a ⟨0,w2.heap.size,w1.heap.size,2,s.W.length+1,m,n,n⟩) (lkT 2))):=(aa.refl _ _).alloc _;have I:=Blk.new w2 (lkT 2) (lkC 2 a ⟨0,w2.heap.size,w1.heap.size,2,s.W.length+1,m,n,n⟩);refine⟨⟨0,w2.heap.size,w1.heap.size,2,s.W.length+1,m,n,n⟩,rfl,?_,⟨by show w.heap.size<=w2.heap.size;omega,by show w.heap.size<=w1.heap.size;omega,rfl,rfl,rfl,rfl⟩,((H1.o.2.mono ahz).trans (H2.o.mono ahz)).alloc _⟩;exact⟨k2.turns tA ahz ahz,I,HS.o.turns tA ahz,by show(List.replicate n Sp.zero).length=n;simp,by show w2.heap.size≠a;omega,by show w2.heap.size≠g;omega,by show w2.heap.size≠w1.heap.size;omega,by show w1.heap.size≠a;omega,by show w1.heap.size≠g;omega,h2,by show 1<=s.W.length+1;omega,by show s.W.length+1<=5000;omega,H,O,Nat.le_refl _⟩
def Et(h:aB w a g s)(n:Nat)(h1:1<=n)(h2:n<=32)(m:Nat)(H:1<=m)(O:m<=4)(V:s.W.length+(1+2*n)<=s.room):E 154 #[↑a,J n] w (Ad w a g 4 s n m):=by
  obtain⟨i0,hi,Kt,Kv,Y⟩:=info_parts Tryz.infoSpF;have HT:=qh (ni h (1+2*n) V);refine ajU ?_;intro t1 t2 HR HG;have x1:IntKind.i64.wrap (2*(n:Int))=2*(n:Int):=IntWalk.i64_in _ ahy;have x2:IntKind.i64.wrap (1+2*(n:Int))=((1+2*n:Nat):Int):=by rw[IntWalk.i64_in _ ahy];omega
  clear h V;go_enter func154,ntmps154;go_wp2_with fail;refine Pi HT.o λw1 H1=>?_;clear HT;go_wp2_with (refine wpList_make_full _ rfl _ _ 237 rfl w1.heap.size 113 i0 (agg #[J 0,J 0,J 0,J 0]) 4 Tryz.underlying237 hi Kt Kv .i64 .i64 n n n rfl rfl rfl rfl ?b2 ?b3 (Nat.le_refl _) ?_);case b2=>rw[Y];omega
  case b3=>unfold maxLen;omega
  intro w2 r' hg;refine ajq ?_;intro Lj H2;have HS:=qh (j8 r');clear r' hg Lj;go_wp2;go_ret2;have k2:=H1.o.1.turns H2.o ahz ahz;have s1:=H1.o.2.size;have s2:=H2.o.size;have hq:=HS.o.lt;have PM:=HG.o;have MX:=HR.o;have tA:aa [] w2 (w2.alloc (.cells (lkC 4 a ⟨0,w2.heap.size,w1.heap.size,4,s.W.length+1,m,n,n⟩) (lkT 4))):=(aa.refl _ _).alloc _;have I:=Blk.new w2 (lkT 4) (lkC 4 a ⟨0,w2.heap.size,w1.heap.size,4,s.W.length+1,m,n,n⟩);refine⟨⟨0,w2.heap.size,w1.heap.size,4,s.W.length+1,m,n,n⟩,rfl,?_,⟨by show w.heap.size<=w2.heap.size;omega,by show w.heap.size<=w1.heap.size;omega,rfl,rfl,rfl,rfl⟩,((H1.o.2.mono ahz).trans (H2.o.mono ahz)).alloc _⟩;exact⟨k2.turns tA ahz ahz,I,HS.o.turns tA ahz,by show(List.replicate n Sp.zero).length=n;simp,by show w2.heap.size≠a;omega,by show w2.heap.size≠g;omega,by show w2.heap.size≠w1.heap.size;omega,by show w1.heap.size≠a;omega,by show w1.heap.size≠g;omega,h2,by show 1<=s.W.length+1;omega,by show s.W.length+1<=5000;omega,H,O,Nat.le_refl _⟩
def EZ(h:aB w a g s)(n:Nat)(h1:1<=n)(h2:n<=32)(m:Nat)(H:1<=m)(O:m<=4)(V:s.W.length+(1)<=s.room):E 151 #[↑a,J n,J m] w (Ad w a g 1 s n m):=by
  obtain⟨i0,hi,Kt,Kv,Y⟩:=info_parts Tryz.infoSpF;have HT:=qh (ni h (1) V);refine ajU ?_;intro t1 t2 HR HG;have t3:¬(m:Int)<1:=by omega
  have t4:¬1024<(m:Int):=by omega
  clear h V;go_enter func151,ntmps151;go_wp2_with fail;refine Pi HT.o λw1 H1=>?_;clear HT;go_wp2_with (refine wpList_make_full _ rfl _ _ 237 rfl w1.heap.size 113 i0 (agg #[J 0,J 0,J 0,J 0]) 4 Tryz.underlying237 hi Kt Kv .i64 .i64 n n n rfl rfl rfl rfl ?b2 ?b3 (Nat.le_refl _) ?_);case b2=>rw[Y];omega
  case b3=>unfold maxLen;omega
  intro w2 r' hg;refine ajq ?_;intro Lj H2;have HS:=qh (j8 r');clear r' hg Lj;go_wp2;go_ret2;have k2:=H1.o.1.turns H2.o ahz ahz;have s1:=H1.o.2.size;have s2:=H2.o.size;have hq:=HS.o.lt;have PM:=HG.o;have MX:=HR.o;have tA:aa [] w2 (w2.alloc (.cells (lkC 1 a ⟨0,w2.heap.size,w1.heap.size,1,s.W.length+1,m,n,n⟩) (lkT 1))):=(aa.refl _ _).alloc _;have I:=Blk.new w2 (lkT 1) (lkC 1 a ⟨0,w2.heap.size,w1.heap.size,1,s.W.length+1,m,n,n⟩);refine⟨⟨0,w2.heap.size,w1.heap.size,1,s.W.length+1,m,n,n⟩,rfl,?_,⟨by show w.heap.size<=w2.heap.size;omega,by show w.heap.size<=w1.heap.size;omega,rfl,rfl,rfl,rfl⟩,((H1.o.2.mono ahz).trans (H2.o.mono ahz)).alloc _⟩;exact⟨k2.turns tA ahz ahz,I,HS.o.turns tA ahz,by show(List.replicate n Sp.zero).length=n;simp,by show w2.heap.size≠a;omega,by show w2.heap.size≠g;omega,by show w2.heap.size≠w1.heap.size;omega,by show w1.heap.size≠a;omega,by show w1.heap.size≠g;omega,h2,by show 1<=s.W.length+1;omega,by show s.W.length+1<=5000;omega,H,O,Nat.le_refl _⟩
end
end Go.Proofs.YtglokdbiggbkjaaGreat
