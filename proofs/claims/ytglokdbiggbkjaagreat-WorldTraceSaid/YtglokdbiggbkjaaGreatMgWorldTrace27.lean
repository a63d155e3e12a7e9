/- Joined texts. -/
import Derived.Deep.DeepCutAuto
import Derived.Test.YtglokdbiggbkjaaGreatMgWorldTrace0
import Derived.Test.YtglokdbiggbkjaaGreatMgWorldTrace2
import Derived.Test.YtglokdbiggbkjaaGreatMgWorldTrace4
import Derived.Test.YtglokdbiggbkjaaGreatMgWorldTrace5
set_option linter.unusedVariables false
set_option linter.unusedSimpArgs false
set_option linter.defProp false
set_option maxRecDepth 100000
set_option maxHeartbeats 16000000
open Go.Proofs.Tryz
namespace Go.Proofs.YtglokdbiggbkjaaGreat
open Go.IntKind(i64)
open Go.Value(int bool slice agg tuple pointer)
open Go.Ending(returned)
open Go.Obj(cells)
variable{w w' w0:World}{b n N k bl off cap base q:Nat}{S:List Nat}{l:List (Int×Nat)}{row:Option Nat}{t:Int}{v:Value}{xs:List Value}
section
open Go Go.RowKit
structure Pl4 where
 rest:Int
 stay:Int
 times:Int
 read:Bool
structure Md where
 at_:Int
 picked:Int
 asked:Int
def plV(p:Pl4):Value:= agg #[J p.rest,J p.stay,J p.times,.bool p.read]
def By(b:Nat):Array Value:=#[pointer (some ⟨b+1,0,none⟩),pointer (some ⟨b+2,0,none⟩),pointer (some ⟨b+3,0,none⟩),↑b,pointer (some ⟨b+4,0,none⟩),pointer (some ⟨b+5,0,none⟩)]
def mw(b:Nat):Value:= .func (.func 156) #[] (By b)
def jE(p:Pl4)(m:Md)(s:Int):Int×Md:=
 let q:=if s=m.at_ then m.picked else 0
 if s=0/\m.asked<p.times/\p.rest<=q then(if p.read then 3 else 1,⟨s,q+1,m.asked+1⟩)
 else(if s=2/\p.stay<=q then(if p.read then 4 else 2)else 0,⟨s,q+1,m.asked⟩)
structure mj(w:World)(b:Nat)(p:Pl4)(m:Md):Prop where
 k0:Blk w b 78 #[int i64 p.rest,int i64 p.stay,int i64 p.times,.bool p.read]
 k1:Blk w (b+1) 3 #[int i64 m.at_]
 k2:Blk w (b+2) 3 #[int i64 m.picked]
 k3:Blk w (b+3) 3 #[int i64 m.asked]
 k4:Blk w (b+4) 3 #[int i64 (if p.read then 3 else 1)]
 k5:Blk w (b+5) 3 #[int i64 (if p.read then 4 else 2)]
section
variable{p:Pl4}{m:Md}
def mj.far(h:mj w b p m)(t:aa S w w')(H:∀x∈S,x<b\/b+6<=x):mj w' b p m:=
 ⟨t.blk h.k0 (λq=>by have:=H _ q;omega),t.blk h.k1 (λq=>by have:=H _ q;omega),t.blk h.k2 (λq=>by have:=H _ q;omega),t.blk h.k3 (λq=>by have:=H _ q;omega),t.blk h.k4 (λq=>by have:=H _ q;omega),t.blk h.k5 (λq=>by have:=H _ q;omega)⟩
def GW(w:World)(p:Pl4):E 110 #[plV p] w λe w'=>e= returned (mw w.heap.size)/\mj w' w.heap.size p ⟨-1,0,0⟩/\Below w.heap.size w w':=by
 have H:∀(h:Fn) (first cap:Array Value) (w:World),(Instr.makeFunc h first cap).run prog w= .ok (.func h first cap) w:=λ_ _ _ _=>rfl;obtain⟨r,s,t,read⟩:=p;unfold plV mw By;cases read
 all_goals
  go_enter func110,ntmps110;go_wp2;go_ret
  exact⟨rfl,⟨(((((Blk.new w _ _).alloc _).alloc _).alloc _).alloc _).alloc _,((((Blk.new' _ _ _ ahz).alloc _).alloc _).alloc _).alloc _,(((Blk.new' _ _ _ ahz).alloc _).alloc _).alloc _,((Blk.new' _ _ _ ahz).alloc _).alloc _,(Blk.new' _ _ _ ahz).alloc _,Blk.new' _ _ _ ahz⟩,
   ((((((Below.refl w.heap.size w).alloc ahz _).alloc ahz _).alloc ahD _).alloc ahD _).alloc ahD _).alloc ahD _⟩
def mj.cs(h:mj w b p m):(w.cell? b=some (J p.rest)/\Z w b 1 (J p.stay)/\Z w b 2 (J p.times))/\Z w (b+1) 0 (J m.at_)/\Z w (b+2) 0 (J m.picked)/\Z w (b+3) 0 (J m.asked)/\Z w (b+4) 0 (J (if p.read then 3 else 1))/\Z w (b+5) 0 (J (if p.read then 4 else 2)):=
 ⟨⟨h.k0.cell 0,h.k0.cell 1,h.k0.cell 2⟩,h.k1.cell 0,h.k2.cell 0,h.k3.cell 0,h.k4.cell 0,h.k5.cell 0⟩
def MdT(w0 w:World)(b:Nat)(p:Pl4)(m:Md):Prop:=mj w b p m/\aa [b+1,b+2,b+3] w0 w
def MdT.p1(h:MdT w0 w b p m)(s:Int):MdT w0 (w.setCell ⟨b+1,0,none⟩ (J s)) b p ⟨s,m.picked,m.asked⟩:=
 ⟨⟨h.1.k0.far ahz _,h.1.k1.set_ 0 _,h.1.k2.far ahz _,h.1.k3.far ahz _,h.1.k4.far ahz _,h.1.k5.far ahz _⟩,h.2.setCell (.inl ahz) _⟩
def MdT.p2(h:MdT w0 w b p m)(s:Int):MdT w0 (w.setCell ⟨b+2,0,none⟩ (J s)) b p ⟨m.at_,s,m.asked⟩:=
 ⟨⟨h.1.k0.far ahz _,h.1.k1.far ahz _,h.1.k2.set_ 0 _,h.1.k3.far ahz _,h.1.k4.far ahz _,h.1.k5.far ahz _⟩,h.2.setCell (.inl ahz) _⟩
def MdT.p3(h:MdT w0 w b p m)(s:Int):MdT w0 (w.setCell ⟨b+3,0,none⟩ (J s)) b p ⟨m.at_,m.picked,s⟩:=
 ⟨⟨h.1.k0.far ahz _,h.1.k1.far ahz _,h.1.k2.far ahz _,h.1.k3.set_ 0 _,h.1.k4.far ahz _,h.1.k5.far ahz _⟩,h.2.setCell (.inl ahz) _⟩
theorem JG(h:mj w b p m)(s:Int)(hq:0<=m.picked/\m.picked<=1000000)(ha:0<=m.asked/\m.asked<=1000000):E 156 (#[J s]++By b) w λe w'=>e= returned (J (jE p m s).1)/\mj w' b p (jE p m s).2/\aa [b+1,b+2,b+3] w w':=by
  obtain⟨⟨c0,c1,c2⟩,c3,c4,c5,c6,c7⟩:=h.cs;have f1:=h.k1.free 0;have f2:=h.k2.free 0;have f3:=h.k3.free 0;have H:=qh (show MdT w w b p m from⟨h,aa.refl _ _⟩);obtain⟨Y,I⟩:=LE (if s=m.at_ then m.picked else 0);have SY:0<=Y/\Y<=1000000:=by rw[I];split<;>omega
  have x1:IntKind.i64.wrap (m.picked+1)=m.picked+1:=IntWalk.i64_in _ ahy;have x2:IntKind.i64.wrap (m.asked+1)=m.asked+1:=IntWalk.i64_in _ ahy;obtain⟨at_,picked,asked⟩:=m;obtain⟨rest,stay,times,read⟩:=p;simp only at *;show Calls _ _ #[J s,pointer (some ⟨b+1,0,none⟩),pointer (some ⟨b+2,0,none⟩),pointer (some ⟨b+3,0,none⟩),↑b,pointer (some ⟨b+4,0,none⟩),pointer (some ⟨b+5,0,none⟩)] _ _;obtain⟨lk,Lh⟩:∃z:Int,z=if read then 3 else 1:=⟨_,rfl⟩
  obtain⟨ul,Pr⟩:∃z:Int,z=if read then 4 else 2:=⟨_,rfl⟩
  rw[<-Lh]at c6;rw[<-Pr]at c7;unfold jE;simp only;rw[<-I,<-Lh,<-Pr];clear h Lh Pr;by_cases e1:s=at_
  . rw[if_pos e1]at I;subst I;subst e1;by_cases O:s=0
    . subst O;by_cases e3:asked<times
      . by_cases e4:rest<=Y;. rw[if_pos ⟨rfl,e3,e4⟩];go_enter func156,ntmps156;go_wp2;go_ret;first| exact⟨rfl,H.o.p2 _⟩| exact⟨rfl,(H.o.p2 _).p3 _⟩| exact⟨rfl,((H.o.p1 _).p2 _).p2 _⟩| exact⟨rfl,(((H.o.p1 _).p2 _).p2 _).p3 _⟩
        . rw[if_neg (λq=>e4 q.2.2),if_neg (λq=>absurd q.1 ahA)];go_enter func156,ntmps156;go_wp2;go_ret;first| exact⟨rfl,H.o.p2 _⟩| exact⟨rfl,(H.o.p2 _).p3 _⟩| exact⟨rfl,((H.o.p1 _).p2 _).p2 _⟩| exact⟨rfl,(((H.o.p1 _).p2 _).p2 _).p3 _⟩
      . rw[if_neg (λq=>e3 q.2.1),if_neg (λq=>absurd q.1 ahA)];go_enter func156,ntmps156;go_wp2;go_ret;first| exact⟨rfl,H.o.p2 _⟩| exact⟨rfl,(H.o.p2 _).p3 _⟩| exact⟨rfl,((H.o.p1 _).p2 _).p2 _⟩| exact⟨rfl,(((H.o.p1 _).p2 _).p2 _).p3 _⟩
    . rw[if_neg (λq=>O q.1)];by_cases e5:s=2
      . subst e5;by_cases V:stay<=Y;. rw[if_pos ⟨rfl,V⟩];go_enter func156,ntmps156;go_wp2;go_ret;first| exact⟨rfl,H.o.p2 _⟩| exact⟨rfl,(H.o.p2 _).p3 _⟩| exact⟨rfl,((H.o.p1 _).p2 _).p2 _⟩| exact⟨rfl,(((H.o.p1 _).p2 _).p2 _).p3 _⟩
        . rw[if_neg (λq=>V q.2)];go_enter func156,ntmps156;go_wp2;go_ret;first| exact⟨rfl,H.o.p2 _⟩| exact⟨rfl,(H.o.p2 _).p3 _⟩| exact⟨rfl,((H.o.p1 _).p2 _).p2 _⟩| exact⟨rfl,(((H.o.p1 _).p2 _).p2 _).p3 _⟩
      . rw[if_neg (λq=>e5 q.1)];go_enter func156,ntmps156;go_wp2;go_ret;first| exact⟨rfl,H.o.p2 _⟩| exact⟨rfl,(H.o.p2 _).p3 _⟩| exact⟨rfl,((H.o.p1 _).p2 _).p2 _⟩| exact⟨rfl,(((H.o.p1 _).p2 _).p2 _).p3 _⟩
  . rw[if_neg e1]at I;subst I;rw[show(0:Int)+1=1 from rfl];by_cases O:s=0
    . subst O;by_cases e3:asked<times
      . by_cases e4:rest<=(0:Int);. rw[if_pos ⟨rfl,e3,e4⟩];go_enter func156,ntmps156;go_wp2;go_ret;first| exact⟨rfl,H.o.p2 _⟩| exact⟨rfl,(H.o.p2 _).p3 _⟩| exact⟨rfl,((H.o.p1 _).p2 _).p2 _⟩| exact⟨rfl,(((H.o.p1 _).p2 _).p2 _).p3 _⟩
        . rw[if_neg (λq=>e4 q.2.2),if_neg (λq=>absurd q.1 ahA)];go_enter func156,ntmps156;go_wp2;go_ret;first| exact⟨rfl,H.o.p2 _⟩| exact⟨rfl,(H.o.p2 _).p3 _⟩| exact⟨rfl,((H.o.p1 _).p2 _).p2 _⟩| exact⟨rfl,(((H.o.p1 _).p2 _).p2 _).p3 _⟩
      . rw[if_neg (λq=>e3 q.2.1),if_neg (λq=>absurd q.1 ahA)];go_enter func156,ntmps156;go_wp2;go_ret;first| exact⟨rfl,H.o.p2 _⟩| exact⟨rfl,(H.o.p2 _).p3 _⟩| exact⟨rfl,((H.o.p1 _).p2 _).p2 _⟩| exact⟨rfl,(((H.o.p1 _).p2 _).p2 _).p3 _⟩
    . rw[if_neg (λq=>O q.1)];by_cases e5:s=2
      . subst e5;by_cases V:stay<=(0:Int);. rw[if_pos ⟨rfl,V⟩];go_enter func156,ntmps156;go_wp2;go_ret;first| exact⟨rfl,H.o.p2 _⟩| exact⟨rfl,(H.o.p2 _).p3 _⟩| exact⟨rfl,((H.o.p1 _).p2 _).p2 _⟩| exact⟨rfl,(((H.o.p1 _).p2 _).p2 _).p3 _⟩
        . rw[if_neg (λq=>V q.2)];go_enter func156,ntmps156;go_wp2;go_ret;first| exact⟨rfl,H.o.p2 _⟩| exact⟨rfl,(H.o.p2 _).p3 _⟩| exact⟨rfl,((H.o.p1 _).p2 _).p2 _⟩| exact⟨rfl,(((H.o.p1 _).p2 _).p2 _).p3 _⟩
      . rw[if_neg (λq=>e5 q.1)];go_enter func156,ntmps156;go_wp2;go_ret;first| exact⟨rfl,H.o.p2 _⟩| exact⟨rfl,(H.o.p2 _).p3 _⟩| exact⟨rfl,((H.o.p1 _).p2 _).p2 _⟩| exact⟨rfl,(((H.o.p1 _).p2 _).p2 _).p3 _⟩
end
end
section
open Go Go.RowKit
def kN(w:World)(r:Nat)(l:List (Int×Nat)):Prop:=∃es NM,w.heap[r]? =some (.map es NM)/\es.toList.map (λe=>(e.key,e.val))=l.map (λx=>(Value.int .i64 x.1,mw x.2))
def gB:List (Int×Nat)->Int->Option Nat
 |[],_=>none
 |x :: l,n=>if n=x.1 then some x.2 else gB l n
def D3(n:Int):∀(l:List (Int×Nat)) (H:List MapEntry) (i:Nat),H.map (λe=>(e.key,e.val))=l.map (λx=>(Value.int .i64 x.1,mw x.2))->
    match gB l n with|none=>Instr.findNow (.int .i64) (J n) H i=some none|some b=>∃j,Instr.findNow (.int .i64) (J n) H i=some (some (j,mw b))
  | [],[],i,_=>rfl
  | [],_ :: _,_,h=>by simp at h
  | _ :: _,[],_,h=>by simp at h
  | x :: l,e :: H,i,h=>by
    simp only[List.map_cons,List.cons.injEq,Prod.mk.injEq]at h;obtain⟨⟨h1,V⟩,Y⟩:=h;have O:=D3 n l H (i+1) Y;unfold gB;by_cases I:n=x.1;. rw[if_pos I];refine⟨i,?_⟩;simp[Instr.findNow,h1,V,Instr.sameNow,I]
    . rw[if_neg I];have:Instr.findNow (.int .i64) (J n) (e :: H) i=Instr.findNow (.int .i64) (J n) H (i+1):=(by simp[Instr.findNow,h1,Instr.sameNow,(by simpa using I:(n==x.1)=false)]);split at O;. rw[this];exact O
      . rw[this];exact O
def mL{I:Array MapEntry}{H:Nat}(h:w.heap[b]? =some (.map I H)):(getObj b).run prog w= .ok (.map I H) w:=by simp[getObj,Sem.run,h]
def Ew{P:Program}{h:TypeId}(H:P.underlying h=some (.int .i64))(b:Bool)(m:Nat)(n:Int)(w:World):(Instr.checkKey b (m+1) h (J n)).run P w= .ok () w:=by simp only[Instr.checkKey,Sem.run_bind,run_underlying H,Result.andThen_ok,Sem.run_pure]
def vJ(b:Bool)(n:Int)(w:World):(Instr.checkKey b 10000 3 (J n)).run prog w= .ok () w:=Ew Tryz.underlying3 b 9999 n w
theorem Tryz.infoFn:(prog.info? 43).map (λi=>i.zero)=some (some .nilFunc):=by kernel_rfl
section
variable{r:Nat}
def kN.get(h:kN w r l){n:Int}(I:gB l n=some b):(Instr.lookup 196 (.map (some r)) (J n) true).run prog w= .ok (tuple #[mw b,bool true]) w:=by obtain⟨H,O,hg,hm⟩:=h;have hf:=D3 n l H.toList 0 hm;rw[I]at hf;obtain⟨j,hf⟩:=hf;refine ajY ?_;rfl
def kN.no(h:kN w r l){n:Int}(O:gB l n=none):(Instr.lookup 196 (.map (some r)) (J n) true).run prog w= .ok (tuple #[.nilFunc,bool false]) w:=by obtain⟨I,NM,hg,hm⟩:=h;have hf:=D3 n l I.toList 0 hm;rw[O]at hf;obtain⟨Y,H,V⟩:=Option.map_eq_some_iff.1 Tryz.infoFn;refine ajY ?_;simp[zeroValue,typeInfo,H,V,go_sem]
def kN.put(h:kN w r l){n:Int}(Y:gB l n=none):∃w',(Instr.mapUpdate 196 (.map (some r)) (J n) (mw b)).run prog w= .ok () w'/\kN w' r (l++[(n,b)])/\aa [r] w w':=by
 obtain⟨I,H,hg,hm⟩:=h;have O:=D3 n l I.toList 0 hm;rw[Y]at O;have V:r<w.heap.size:=(Array.getElem?_eq_some_iff.1 hg).1;refine⟨{w with heap:=w.heap.setIfInBounds r (.map (I.push {key:= J n,val:=mw b,born:=H}) (H+1))},?_,⟨_,_,by show(w.heap.setIfInBounds r _)[r]? =_;rw[Array.getElem?_setIfInBounds_self_of_lt V],?_⟩,⟨rfl,rfl,rfl,by simp,λi hi hn=>?_⟩⟩;.simp only[Instr.mapUpdate,Sem.run_bind,run_underlying Tryz.underlying196,Result.andThen_ok,mL hg,Sem.run_pure,vJ,Instr.findKey,run_underlying Tryz.underlying3,O];simp[setObj,Sem.run,hg]
 .rw[Array.toList_push,List.map_append,List.map_append,hm];rfl
 .show(w.heap.setIfInBounds r _)[i]? =_;rw[Array.getElem?_setIfInBounds_ne (λe=>hn (by simp[e]))]
def kN.far(h:kN w r l)(t:aa S w w')(O:r∉S):kN w' r l:=by obtain⟨I,H,hg,hm⟩:=h;exact⟨I,H,(t.block r (Array.getElem?_eq_some_iff.1 hg).1 O).trans hg,hm⟩
end
end
section
open Go Go.RowKit Go.Maps
theorem Tryz.infoEvt:(prog.info? 55).map (λi=>(i.zero,i.size,i.bytes))=some (some (agg #[J 0,J 0,bool false,J 0]),4,32):=by kernel_rfl
def iO(w:World)(e:Ev){g:Nat}(hg:g=w.heap.size):∀j u,(encE e)[j]? =some u->(w.alloc (cells #[J e.kind,J e.thread,.bool e.read,J e.count] 55)).cell? ((⟨g,0,none⟩:Addr).add j)=some u:=by intro j u h;subst hg;refine akb ?_;intro Mj;simpa[encE]using h
section
variable{M:LkM n}{X:WoB M}{st st':M.σ}
def aa.grownRow(h:aa S w0 w)(hg:w.grownBy w' row)(V:∀j,row=some j->w0.heap.size<=j):aa S w0 w':=
 ⟨hg.os.trans h.os,hg.tape.trans h.tape,hg.output.trans h.output,Nat.le_trans h.size hg.size,λi hi H=>(hg.block i (Nat.lt_of_lt_of_le hi h.size) (by intro e;have:=V i e.symm;omega)).trans (h.block i hi H)⟩
def bI.grown(G:M.Good)(h:bI X w st)(hg:w.grownBy w' row)(V:∀j,row=some j->X.hi<=j):bI X w' st:=by
 cases row with
 |none=>exact h.far G (S:=[]) ⟨hg.os,hg.tape,hg.output,hg.size,λi hi _=>hg.block i hi ahz⟩ ahz
 |some r=>exact h.far G (S:=[r]) (aa.grown hg) (λi hi=>by simp at hi;subst hi;exact V _ rfl)
def LkM.runA(M:LkM n)(st:M.σ)(l:List (Int×Int))(k:Nat):M.σ:=(l.take k).foldl (λs p=>(M.pick s p).2) st
def LkM.evs(M:LkM n)(st:M.σ):List (Int×Int)->List Ev
 |[]=>[]
 |p :: l=>(M.pick st p).1 :: M.evs (M.pick st p).2 l
def qH{l:List (Int×Int)}{p:Int×Int}(h:l[k]? =some p):M.runA st l (k+1)=(M.pick (M.runA st l k) p).2:=by unfold LkM.runA;rw[a9 h,List.foldl_append];rfl
def DW(l:List (Int×Int)):∀st:M.σ,(M.evs st l).length=l.length:=by
 induction l with
 |nil=>intro _;rfl
 |cons p l h=>intro st;simp[LkM.evs,h]
def DV{l:List (Int×Int)}:∀{st:M.σ} {k:Nat} {p:Int×Int},l[k]? =some p->(M.evs st l)[k]? =some (M.pick (M.runA st l k) p).1:=by
 induction l with
 |nil=>intro st k p h;simp at h
 |cons q l H=>
  intro st k p h;cases k with
  |zero=>simp at h;subst h;rfl
  |succ k=>exact H (st:=(M.pick st q).2) h
def LkM.Good.runA(G:M.Good)(h:M.ok st N)(l:List (Int×Int)):∀k,N+k<=lkB->M.ok (M.runA st l k) (N+k):=by
 intro k;induction k with
 |zero=>intro _;exact h
 |succ k I=>
  intro O;have h1:=I ahy;cases H:l[k]? with
  |none=>have e:M.runA st l (k+1)=M.runA st l k:=(by unfold LkM.runA;rw[List.take_add_one,H];simp);rw[e];exact G.okm _ _ h1
  |some p=>rw[qH H];exact(G.pick h1 ahy p).1
def I0(G:M.Good)(h:bI X w st)(hk:M.ok st N){L:List (Int×Int)}(hN:N+L.length<=lkB){A:Option Addr}(Mf:∀W,aa (M.fp X.b) w W->∀(k:Nat) (pk:Int×Int),L[k]? =some pk->Z W bl (off+k*2) (J pk.1)/\Z W bl (off+k*2+1) (J pk.2))(hA:L≠[]->A=some ⟨bl,off,none⟩:=by exact λ_=>rfl):E 44 #[lkP X.wb,.slice A L.length cap] w λe w'=>∃v,e= returned v/\RdL w' v 4 encE (M.evs st L)/\(∀q,v.ownBlock=some q->w.heap.size<=q)/\bI X w' (M.runA st L L.length)/\aa (M.fp X.b) w w':=by
  obtain⟨i0,hi,Kt,Kv,hz2⟩:=info_parts Tryz.infoEvt;have HI:=qh (And.intro hi (And.intro Kt (And.intro Kv hz2)));have Lu:=qh (h.lo G);refine akc ?_;intro HM;have H0:=qh h;have Od:=qh Mf;have XS:=qh hA;have OX:=qh (λk (q:k<=L.length)=>G.runA hk L k ahy);have HG:=qh G;obtain⟨m,hm⟩:=LE L.length;have PN:m<=1000000:=by unfold lkB at hN;omega
  have HN:=qh (show ∀k,k<m->N+k<lkB by omega);rw[<-hm]at OX ⊢;have QJ:=qh hm;clear h Mf hi Kt Kv hz2 hk G hm hN hA;unfold lkP;go_enter func44,ntmps44;go_wp2;go_loopw [5,7,10] (λo _ i wr=>∃k:Nat,i= J k/\k<=m/\bI X wr (M.runA st L k)/\aa (M.fp X.b) w wr/\wr.ownsRow w.heap.size 55 4 o k (((M.evs st L).take k).flatMap encE)) (λ_ _ i _=>m-(intOf i).toNat);case atStart=>exact⟨0,rfl,by omega,H0.o,aa.refl _ _,World.ownsRow_nil _ _ _ _⟩
  case round=>
    obtain⟨k,rfl,hk,LG,ht,r'⟩:=hrel;obtain⟨wo,rfl⟩:∃wo:World,wo=wr:=⟨_,rfl⟩;have KR:=ht.size;by_cases C':k<m
    . obtain⟨pk,hp⟩:=ai (show k<L.length by have:=QJ.o;omega);obtain rfl:=XS.o (λe=>by rw[e]at hp;cases hp);obtain⟨c0,c1⟩:=Od.o wo ht k pk hp;have Mc:=DV (M:=M) (st:=st) hp;have PX:=qH (M:=M) (st:=st) hp;have mP:=OX.o k ahy;have P9:=HN.o k C';obtain⟨t,u⟩:=pk;simp only at c0 c1;have KI:=(Below.refl wo.heap.size wo).alloc (Nat.le_refl _) (cells #[J t,J u] 58);have HD:=qh (doW HG.o (LG.below HG.o KI) mP P9 (t,u));have Sg:=qh (ht.trans (aa.of_below (S:=M.fp X.b) KI));have Vs:=qh (r'.alloc (cells #[J t,J u] 58));obtain⟨A5,c5,rfl⟩:=bC r';obtain⟨q,hq⟩:=LE (M.pick (M.runA st L k) (t,u));rw[<-hq]at Mc PX HD;obtain⟨ev,s2⟩:=q;simp only at Mc PX HD;have OA:=qh (show((M.evs st L).take (k+1)).flatMap encE=((M.evs st L).take k).flatMap encE++encE ev by rw[a9 Mc,List.flatMap_append];simp);have OE:=qh PX;unfold lkP evV at HD;clear hp Mc mP KI ht LG PX hq r' P9;go_wp2_with fail;refine Pi HD.o λw2 k2=>?_;have Ko:=k2.o.2.size;have Mh:=qh (aa.own Vs.o k2.o.2 (λq hq hm=>by have:=(Vs.o.lt q hq).1;have:=Lu.o q hm;have:=HM.o;omega));have Vl:=qh (And.intro k2.o.1 (Sg.o.trans k2.o.2));have hs02:=(Sg.o.trans k2.o.2).size;go_wp2_with (at_builtin;refine wpList_append_own _ rfl _ _ 70 rfl w.heap.size 55 i0 (agg #[J 0,J 0,bool false,J 0]) 4 32 Tryz.underlying70 HI.o.1 HI.o.2.1 HI.o.2.2.1 HI.o.2.2.2 rfl ahA _ _ _ rfl (Mh.o.alloc _) ⟨w2.heap.size,0,none⟩ 1 1 (encE ev) rfl rfl (iO w2 ev rfl) (jO _) ?c3 ?c4 ?c5 ?_);case c3=>unfold maxLen;omega
      case c4=>omega
      case c5=>simp;omega
      intro v' w3 h3 KQ _
      have HF:=qh (show bI X w3 (M.runA st L (k+1))/\aa (M.fp X.b) w w3/\w3.ownsRow w.heap.size 55 4 v' (k+1) (((M.evs st L).take (k+1)).flatMap encE)from by
        rw[OE.o,OA.o]
        exact⟨(Vl.o.1.below HG.o ((Below.refl _ _).alloc (Nat.le_refl _) _)).grown HG.o KQ (λj hj=>Nat.le_trans HM.o (Mh.o.lt j hj).1),(Vl.o.2.alloc _).grownRow KQ (λj hj=>(Mh.o.lt j hj).1),h3⟩)
      clear h3 KQ;go_wp2;go_roundw;case rel=>exact⟨k+1,by go_num,by omega,HF.o.1,HF.o.2.1,HF.o.2.2⟩
      case measure=>simp[intOf];omega
    . obtain rfl:k=m:=by omega
      have HF:=qh (And.intro LG (And.intro ht r'));clear LG ht r';go_wp2;go_ret;have hl:(M.evs st L).length=k:=(by rw[DW];exact QJ.o.symm);have e:(M.evs st L).take k=M.evs st L:=(by rw[<-hl,List.take_length]);have Y:=HF.o.2.2;rw[e]at Y;exact⟨_,rfl,RdL.of_own lr hl.symm ah1 Y,λq hq=>(Y.lt q hq).1,HF.o.1,HF.o.2.1⟩
end
end
section
open Go Go.RowKit Go.Maps
def Bi(p:Pl4):List Value:=[J p.rest,J p.stay,J p.times,.bool p.read]
def jw(pls:List Pl4)(rd:Bool)(t:Int):Pl4:=if 0<=t/\t<pls.length then {pls.getD t.toNat ⟨0,0,0,false⟩with read:=(pls.getD t.toNat ⟨0,0,0,false⟩).read&&rd} else⟨0,0,0,false⟩
section
variable{M:LkM n}
def LkM.sttI(M:LkM n)(st:M.σ)(t:Int):Int:=if 0<=t/\t<n then M.stt st t.toNat else 0
def LkM.runS(M:LkM n)(pls:List Pl4)(x:M.σ×(Int->Md))(t:Int):Ev×M.σ×(Int->Md):=
 ((M.pick x.1 (t,(jE (jw pls M.rd t) (x.2 t) (M.sttI x.1 t)).1)).1,(M.pick x.1 (t,(jE (jw pls M.rd t) (x.2 t) (M.sttI x.1 t)).1)).2,λj=>if j=t then(jE (jw pls M.rd t) (x.2 t) (M.sttI x.1 t)).2 else x.2 j)
def LkM.runB(M:LkM n)(pls:List Pl4)(x:M.σ×(Int->Md))(l:List Int)(k:Nat):M.σ×(Int->Md):=(l.take k).foldl (λx t=>(M.runS pls x t).2) x
def LkM.runE(M:LkM n)(pls:List Pl4)(x:M.σ×(Int->Md)):List Int->List Ev
 |[]=>[]
 |t :: l=>(M.runS pls x t).1 :: M.runE pls (M.runS pls x t).2 l
def qI{pls:List Pl4}{x:M.σ×(Int->Md)}{l:List Int}(h:l[k]? =some t):M.runB pls x l (k+1)=(M.runS pls (M.runB pls x l k) t).2:=by unfold LkM.runB;rw[a9 h,List.foldl_append];rfl
def CK{pls:List Pl4}(l:List Int):∀x:M.σ×(Int->Md),(M.runE pls x l).length=l.length:=by
 induction l with
 |nil=>intro _;rfl
 |cons p l h=>intro x;simp[LkM.runE,h]
def CJ{pls:List Pl4}{l:List Int}:∀{x:M.σ×(Int->Md)} {k:Nat} {t:Int},l[k]? =some t->(M.runE pls x l)[k]? =some (M.runS pls (M.runB pls x l k) t).1:=by
 induction l with
 |nil=>intro x k t h;simp at h
 |cons q l H=>
  intro x k t h;cases k with
  |zero=>simp at h;subst h;rfl
  |succ k=>exact H (x:=(M.runS pls x q).2) h
def Da(p:Pl4)(m:Md)(s:Int){k:Int}(h:(0<=m.picked/\m.picked<=k)/\0<=m.asked/\m.asked<=k):(0<=(jE p m s).2.picked/\(jE p m s).2.picked<=k+1)/\0<=(jE p m s).2.asked/\(jE p m s).2.asked<=k+1:=by unfold jE;simp only;split<;>split<;>(try split)<;>simp only<;>omega
end
structure RnR{n:Nat}{M:LkM n}(X:WoB M)(pls:List Pl4)(w0 w:World)(mb:Nat)(l:List (Int×Nat))(x:M.σ×(Int->Md))(N k:Nat):Prop where
 is:bI X w x.1
 ok:M.ok x.1 (N+k)
 mp:kN w mb l
 md:∀t b,gB l t=some b->mj w b (jw pls M.rd t) (x.2 t)/\w0.heap.size<=b/\b+6<=w.heap.size/\(mb<b\/b+6<=mb)
 di:∀t b t' b',gB l t=some b->gB l t'=some b'->t≠t'->b+6<=b'\/b'+6<=b
 no:∀t,gB l t=none->x.2 t=⟨-1,0,0⟩
 le:∀t,(0<=(x.2 t).picked/\(x.2 t).picked<=k)/\0<=(x.2 t).asked/\(x.2 t).asked<=k
 mb:w0.heap.size<=mb
 tn:aa (M.fp X.b) w0 w
 hi:X.hi<=w0.heap.size
def gN{n m:Int}(h:gB l n=none):gB (l++[(n,b)]) m=if m=n then some b else gB l m:=by
 induction l with
 |nil=>unfold gB;simp[gB]
 |cons x l O=>
  unfold gB at h;split at h;.cases h
  .rename_i e;have:=O h;simp only[List.cons_append,gB];rw[this];by_cases H:m=x.1;.rw[if_pos H,if_neg (λI=>e (by rw[<-I];exact H))];simp[H]
   .simp[H]
def aa.new{A:List Nat}{a b c:World}(h:aa A a b)(t:aa S b c)(H:∀i∈S,a.heap.size<=i):aa A a c:=
 ⟨t.os.trans h.os,t.tape.trans h.tape,t.output.trans h.output,Nat.le_trans h.size t.size,λi hi I=>(t.block i (Nat.lt_of_lt_of_le hi h.size) (λm=>by have:=H i m;omega)).trans (h.block i hi I)⟩
section
variable{M:LkM n}{X:WoB M}{pls:List Pl4}{mb:Nat}{x:M.σ×(Int->Md)}
def RnR.mlt(h:RnR X pls w0 w mb l x N k):mb<w.heap.size:=by obtain⟨_,_,hg,_⟩:=h.mp;exact(Array.getElem?_eq_some_iff.1 hg).1
def RnR.far(G:M.Good)(h:RnR X pls w0 w mb l x N k)(t:aa S w w')(H:∀q∈S,w0.heap.size<=q/\q≠mb/\∀u b,gB l u=some b->q<b\/b+6<=q):RnR X pls w0 w' mb l x N k:=
 ⟨h.is.far G t (λq I=>Nat.le_trans h.hi (H q I).1),h.ok,h.mp.far t (λq=>(H _ q).2.1 rfl),λu b q=>⟨(h.md u b q).1.far t (λy O=>(H y O).2.2 u b q),(h.md u b q).2.1,Nat.le_trans (h.md u b q).2.2.1 t.size,(h.md u b q).2.2.2⟩,h.di,h.no,h.le,h.mb,h.tn.new t (λi hi=>(H i hi).1),h.hi⟩
def RnR.below(G:M.Good)(h:RnR X pls w0 w mb l x N k)(b:Below w.heap.size w w'):RnR X pls w0 w' mb l x N k:=h.far G (S:=[]) (aa.of_below b) ahz
def RnR.add(G:M.Good)(h:RnR X pls w0 w mb l x N k)(V:gB l t=none)(t1:aa [mb] w w')(hm:kN w' mb (l++[(t,b)]))(hk:mj w' b (jw pls M.rd t) ⟨-1,0,0⟩)(I:w.heap.size<=b/\b+6<=w'.heap.size):RnR X pls w0 w' mb (l++[(t,b)]) x N k:=by
 have ab:=h.mlt;have Y:=h.mb;have hs:=h.tn.size;refine⟨h.is.far G t1 (λq hq=>by simp at hq;subst hq;exact Nat.le_trans h.hi Y),h.ok,hm,λu c q=>?_,λu c u' c' q H O=>?_,λu q=>?_,h.le,Y,h.tn.new t1 (by simpa using Y),h.hi⟩
 .rw[gN V]at q;split at q;.rename_i e;injection q with q;subst e q;rw[h.no _ V];exact⟨hk,by omega,I.2,by omega⟩
  .have:=h.md u c q;exact⟨this.1.far t1 (λy hy=>by simp at hy;subst hy;exact this.2.2.2),this.2.1,Nat.le_trans this.2.2.1 t1.size,this.2.2.2⟩
 .rw[gN V]at q H;split at q
  .injection q with q;split at H;.rename_i e1 e2;exact absurd (e1.trans e2.symm) O
   .have:=(h.md u' c' H).2.2.1;omega
  .split at H;.injection H with H;have:=(h.md u c q).2.2.1;omega
   .exact h.di u c u' c' q H O
 .rw[gN V]at q;split at q;.cases q
  .exact h.no u q
def RnR.next(G:M.Good)(h:RnR X pls w0 w mb l x N k)(Y:gB l t=some b){gs V':World}{O:Md}{st':M.σ}{x':M.σ×(Int->Md)}(t1:aa [b+1,b+2,b+3] w gs)(hk:mj gs b (jw pls M.rd t) O)(t2:aa (M.fp X.b) gs V')(hi:bI X V' st')(ok:M.ok st' (N+k+1))(Nd:(0<=O.picked/\O.picked<=k+1)/\0<=O.asked/\O.asked<=k+1)(hx:x'=(st',λj=>if j=t then O else x.2 j)):RnR X pls w0 V' mb l x' N (k+1):=by
 subst hx;have I:=h.md t b Y;have H:=h.is.lo G;have hs:=h.tn.size;have Uw:=h.hi;have PN:=h.mb;have TZ:∀q,q∈[b+1,b+2,b+3]->q=b+1\/q=b+2\/q=b+3:=λq hq=>by simpa using hq
 have s1:=t1.size;refine⟨hi,ok,(h.mp.far t1 (λq=>by have:=TZ _ q;omega)).far t2 (λq=>by have:=H _ q;omega),λu c q=>?_,h.di,λu q=>?_,λu=>?_,PN,(h.tn.new t1 (λq hq=>by have:=TZ q hq;omega)).trans t2,Uw⟩
 .have hc:=h.md u c q;have s2:=t2.size;refine⟨?_,hc.2.1,by omega,hc.2.2.2⟩;simp only;by_cases e:u=t;.subst e;rw[Y]at q;injection q with q;subst q;rw[if_pos rfl];exact hk.far t2 (λy V=>by have:=H y V;omega)
  .rw[if_neg e];have:=h.di u c t b q Y e;exact(hc.1.far t1 (λy V=>by have:=TZ y V;omega)).far t2 (λy V=>by have:=H y V;omega)
 .simp only;by_cases e:u=t;.subst e;rw[Y]at q;cases q
  .rw[if_neg e];exact h.no u q
 .simp only;by_cases e:u=t;.rw[if_pos e];exact_mod_cast Nd
  .rw[if_neg e];have:=h.le u;push_cast;omega
end
end
section
open Go Go.RowKit Go.Maps
def CI:Option Nat->List Nat
 |none=>[]
 |some j=>[j]
def i9{i:Nat}(h:i∈CI row):∃j,row=some j/\i=j:=by
 cases row with
 |none=>cases h
 |some j=>exact⟨j,rfl,by simpa[CI]using h⟩
def aa.ofRow(hg:w.grownBy w' row):aa (CI row) w w':=by
 cases row with
 |none=>exact⟨hg.os,hg.tape,hg.output,hg.size,λi hi _=>hg.block i hi ahz⟩
 |some r=>exact aa.grown hg
def Gw{e:TypeId}{sz:Nat}(h:w.ownsRow base e sz v n xs)(H:v.ownBlock=some q):∃cs fr,w.heap[q]? =some (.cells cs e fr):=by
 rcases h.2 with⟨rfl,_⟩|⟨g,cap,O,rfl,I,hc,r⟩
 .simp[Value.ownBlock]at H
 .have e:g=q:=by simpa[Value.ownBlock]using H
  subst e;exact⟨_,_,hc⟩
section
variable{M:LkM n}{X:WoB M}{pls:List Pl4}{mb:Nat}{x:M.σ×(Int->Md)}{Pu:M.σ}
def RnR.apart(h:RnR X pls w0 w mb l x N k){m:Nat}(Y:w.ownsRow base 55 4 v m xs)(O:v.ownBlock=some q):q≠mb/\∀u b,gB l u=some b->q<b\/b+6<=q:=by
 obtain⟨cs,fr,hg⟩:=Gw Y O;constructor;.rintro rfl;obtain⟨_,_,hm,_⟩:=h.mp;rw[hg]at hm;cases hm
 .intro u b I;have H:=(h.md u b I).1;apply Classical.byContradiction;intro V;have hc:q=b\/q=b+1\/q=b+2\/q=b+3\/q=b+4\/q=b+5:=by omega
  have k0:=H.k0;have k1:=H.k1;have k2:=H.k2;have k3:=H.k3;have k4:=H.k4;have k5:=H.k5;unfold Blk at k0 k1 k2 k3 k4 k5;rcases hc with rfl|rfl|rfl|rfl|rfl|rfl
  .rw[hg]at k0;cases k0
  .rw[hg]at k1;cases k1
  .rw[hg]at k2;cases k2
  .rw[hg]at k3;cases k3
  .rw[hg]at k4;cases k4
  .rw[hg]at k5;cases k5
def ER(G:M.Good)(x:M.σ×(Int->Md))(t:Int):∃r,∀W,bI X W x.1->E 28 #[lkP X.wb,J t] W λe w'=>e= returned (tuple #[J (M.sttI x.1 t),.bool r])/\Below W.heap.size W w':=by
 unfold LkM.sttI;by_cases hi:0<=t/\t<n;.obtain⟨j,rfl⟩:=Int.eq_ofNat_of_zero_le hi.1;rw[if_pos hi];exact⟨_,λW k=>kZ G k j ahy⟩
 .rw[if_neg hi];exact⟨false,λW k=>xV G k t hi⟩
def J7(G:M.Good)(h:bI X w Pu)(hk:M.ok Pu N){pls:List Pl4}{L:List Int}(hN:N+L.length<=lkB){pbl poff al:Nat}(Mf:∀W,aa (M.fp X.b) w W->∀(k:Nat) (t:Int),L[k]? =some t->Z W bl (off+k) (J t))(PS:∀W,aa (M.fp X.b) w W->∀(k:Nat) (p:Pl4),pls[k]? =some p->Z W pbl (poff+k*4) (J p.rest)/\Z W pbl (poff+k*4+1) (J p.stay)/\Z W pbl (poff+k*4+2) (J p.times)/\Z W pbl (poff+k*4+3) (.bool p.read))(RG:pls.length<=1000000):E 60 #[lkP X.wb,slice (some ⟨pbl,poff,none⟩) pls.length al,slice (some ⟨bl,off,none⟩) L.length cap] w λe w'=>∃v,e= returned v/\RdL w' v 4 encE (M.runE pls (Pu,λ_=>⟨-1,0,0⟩) L)/\(∀q,v.ownBlock=some q->w.heap.size<=q)/\bI X w' (M.runB pls (Pu,λ_=>⟨-1,0,0⟩) L L.length).1/\aa (M.fp X.b) w w':=by
  obtain⟨i0,hi,Kt,Kv,ad⟩:=info_parts Tryz.infoEvt;have HI:=qh (And.intro hi (And.intro Kt (And.intro Kv ad)));have Lu:=qh (h.lo G);refine akc ?_;intro HM;have Od:=qh Mf;have Vw:=qh PS;have HG:=qh G;have HH:=qh (And.intro h hk);obtain⟨m,hm⟩:=LE L.length;have PN:m<=1000000:=by unfold lkB at hN;omega
  have HN:=qh (show ∀k,k<m->N+k<lkB by omega);rw[<-hm];have QJ:=qh hm;obtain⟨I,U1⟩:=LE ((Pu,λ_:Int=>(⟨-1,0,0⟩:Md)));rw[<-U1];obtain⟨pn,UI⟩:=LE pls.length;rw[<-UI]at RG ⊢;have ab:=qh UI;have YC:=qh U1;clear h Mf PS hi Kt Kv ad hk G hm hN U1 UI;unfold lkP;have ZT:(Instr.makeMap 196 none).run prog w= .ok (.map (some w.heap.size)) (w.alloc (.map #[] 0)):=rfl;go_enter func60,ntmps60;go_wp2;clear ZT
  have HS:=qh (show ∃l,RnR X pls w (w.alloc (.map #[] 0)) w.heap.size l (M.runB pls I L 0) N 0 from⟨[],by
    have b0:=(Below.refl w.heap.size w).alloc (Nat.le_refl _) (.map #[] 0);rw[show M.runB pls I L 0=I from rfl,YC.o]
    exact⟨HH.o.1.below HG.o b0,HH.o.2,⟨#[],0,heap_alloc_new w _,rfl⟩,λ_ _ q=>(by cases q),λ_ _ _ _ q=>(by cases q),λ_ _=>rfl,λ_=>by simp,Nat.le_refl _,aa.of_below b0,HM.o⟩⟩)
  go_loopw [8,10,11,12,13,14,15,19] (λo _ _ _ _ _ _ i wr=>∃(k:Nat) (l:List (Int×Nat)),i= J k/\k<=m/\RnR X pls w wr w.heap.size l (M.runB pls I L k) N k/\wr.ownsRow w.heap.size 55 4 o k (((M.runE pls I L).take k).flatMap encE)) (λ_ _ _ _ _ _ _ i _=>m-(intOf i).toNat);case atStart=>obtain⟨l,hl⟩:=HS.o;exact⟨0,l,rfl,by omega,hl,World.ownsRow_nil _ _ _ _⟩
  case round=>
    clear HS;obtain⟨k,l,rfl,hk,O,r'⟩:=hrel;obtain⟨H,rfl⟩:∃H:World,H=wr:=⟨_,rfl⟩;by_cases C':k<m
    . obtain⟨t,hp⟩:=ai (show k<L.length by have:=QJ.o;omega);have c0:=Od.o H O.tn k t hp;have Mc:=CJ (M:=M) (pls:=pls) (x:=I) hp;have PX:=qI (M:=M) (pls:=pls) (x:=I) hp;have OA:=qh (show((M.runE pls I L).take (k+1)).flatMap encE=((M.runE pls I L).take k).flatMap encE++encE (M.runS pls (M.runB pls I L k) t).1 by rw[a9 Mc,List.flatMap_append];simp);have OE:=qh PX;have P9:=HN.o k C';obtain⟨xk,Xo⟩:=LE (M.runB pls I L k);rw[<-Xo]at O OA OE;obtain⟨rs,Wi⟩:=ER (X:=X) HG.o xk t;have Ly:=qh Wi;obtain⟨z,hz⟩:=LE (M.sttI xk.1 t);rw[<-hz]at Ly;obtain⟨A5,c5,rfl⟩:=bC r';obtain⟨P,hP⟩:=LE (jw pls M.rd t);obtain⟨⟨wt,m2⟩,S5⟩:∃q,q=jE P (xk.2 t) z:=⟨_,rfl⟩;obtain⟨⟨ev,s2⟩,PR⟩:∃q,q=M.pick xk.1 (t,wt):=⟨_,rfl⟩;have Wg:M.runS pls xk t=(ev,s2,λj=>if j=t then m2 else xk.2 j):=(by unfold LkM.runS;rw[<-hP,<-hz,<-S5];simp only;rw[<-PR]);rw[Wg]at OA OE;simp only at OA OE;have Nd:=Da P (xk.2 t) z (k:=k) (O.le t);rw[<-S5]at Nd;have Nm:=qh (And.intro (O.le t) Nd);have OX:=qh (HG.o.pick O.ok P9 (t,wt)).1;rw[<-PR]at OX;have PA:=qh (λW (h:bI X W xk.1)=>doW HG.o h O.ok P9 (t,wt));rw[<-PR]at PA;unfold evV lkP at PA;simp only at PA;have HP:=qh hP;have O0:=qh (λW b (h:mj W b P (xk.2 t)) (hk:0<=(xk.2 t).picked/\(xk.2 t).picked<=1000000) (ha:0<=(xk.2 t).asked/\(xk.2 t).asked<=1000000)=>JG h z hk ha);rw[<-S5]at O0;simp only at O0;have HR:=qh (And.intro O r');have UZ:=O.tn.size;have UY:=O.mlt;clear hp Mc PX Xo Wi hz hP r' S5 PR Wg Nd P9;unfold lkP at Ly;cases Lh:gB l t
      . have SP:=O.mp.no Lh;have NJ:=qh Lh;have HW:=qh (λgs=>GW gs P);unfold plV mw at HW;have Tj:=qh (λq hq=>O.apart HR.o.2 (q:=q) hq);have c3:=O.is.wd.cell 3;have Lk:=qh (λgs (b:Below H.heap.size H gs)=>show gs.cell? ⟨X.wb,3,none⟩=some (.bool M.rd)from(O.is.below HG.o b).wd.cell 3);by_cases hi:0<=t/\t<pn
        . obtain⟨j,rfl⟩:=Int.eq_ofNat_of_zero_le hi.1;obtain⟨p,hp⟩:=ai (show j<pls.length by have:=ab.o;omega);obtain⟨p0,p1,p2,p3⟩:=Vw.o H O.tn j p hp;have O8:P={p with read:=p.read&&M.rd}:=(by rw[HP.o];unfold jw;rw[if_pos (by have:=ab.o;omega),Int.toNat_natCast,List.getD_eq_getElem?_getD,hp];rfl);obtain⟨r1,r2,r3,r4⟩:=p;simp only at p0 p1 p2 p3 O8;have t1:(0:Int)<=j:=(by omega);have t2:(j:Int)<pn:=hi.2;rw[O8]at HW;simp only at HW;have Ob:=qh (λgs (b:Below H.heap.size H gs)=>Vw.o gs (O.tn.trans (aa.of_below b)) j _ hp);have Mm:=qh O;have LM:=qh O8;clear hp hi O Lh O8 p0 p1 p2 p3;go_upto_region 10 with fail;have b1:=(Below.refl H.heap.size H).alloc (Nat.le_refl _) (cells #[J 0,J 0,J 0,bool false] 78);have k1:=Blk.new H 78 #[J 0,J 0,J 0,bool false];obtain⟨V1,Uf⟩:=LE (H.alloc (cells #[J 0,J 0,J 0,bool false] 78));rw[<-Uf]at b1 k1 ⊢;obtain⟨p0,p1,p2,p3⟩:=Ob.o V1 b1;have z0:=k1.free 0;have z1:=k1.free 1;have z2:=k1.free 2;have z3:=k1.free 3;have y0:=k1.cell 0;have y1:=k1.cell 1;have y2:=k1.cell 2;have y3:=k1.cell 3;have VN:=qh (And.intro b1 k1);have ax:=qh Uf;clear b1 k1 Uf;simp only at p0 p1 p2 p3;go_upto_region 11 with fail
          have h2:Below H.heap.size H ((((V1.setCell ⟨H.heap.size,0,none⟩ (J r1)).setCell ⟨H.heap.size,1,none⟩ (J r2)).setCell ⟨H.heap.size,2,none⟩ (J r3)).setCell ⟨H.heap.size,3,none⟩ (.bool r4))/\Blk ((((V1.setCell ⟨H.heap.size,0,none⟩ (J r1)).setCell ⟨H.heap.size,1,none⟩ (J r2)).setCell ⟨H.heap.size,2,none⟩ (J r3)).setCell ⟨H.heap.size,3,none⟩ (.bool r4)) H.heap.size 78 #[J r1,J r2,J r3,.bool r4]:=
            ⟨(((VN.o.1.setCell (Nat.le_refl _) _).setCell (Nat.le_refl _) _).setCell (Nat.le_refl _) _).setCell (Nat.le_refl _) _,VN.o.2.set4⟩
          obtain⟨V2,Rd⟩:=LE ((((V1.setCell ⟨H.heap.size,0,none⟩ (J r1)).setCell ⟨H.heap.size,1,none⟩ (J r2)).setCell ⟨H.heap.size,2,none⟩ (J r3)).setCell ⟨H.heap.size,3,none⟩ (.bool r4));rw[<-Rd]at h2 ⊢;have M6:=qh h2;clear z0 z1 z2 z3 y0 y1 y2 y3 p0 p1 p2 p3 c3 h2 Rd;have c3:=Lk.o V2 M6.o.1;have y3:=M6.o.2.cell 3;have z3:=M6.o.2.free 3;cases r4;all_goals simp only[Bool.false_and,Bool.true_and]at HW LM;go_upto_region 12 with fail
          . have h3:Below H.heap.size H (V2.setCell ⟨H.heap.size,3,none⟩ (bool false))/\Blk (V2.setCell ⟨H.heap.size,3,none⟩ (bool false)) H.heap.size 78 #[J r1,J r2,J r3,bool false]:=⟨M6.o.1.setCell (Nat.le_refl _) _,M6.o.2.set_ 3 _⟩;obtain⟨V3,O9⟩:=LE (V2.setCell ⟨H.heap.size,3,none⟩ (bool false));rw[<-O9]at h3 ⊢;have L9:=qh h3;clear h3 O9 c3 y3 z3;have M1:=L9.o.1.size;have e0:=L9.o.2.cell 0;have e1:=L9.o.2.cell 1;have e2:=L9.o.2.cell 2;have e3:=L9.o.2.cell 3;go_wp2_with fail;refine(HW.o _).mono ?_;rintro en w6 ⟨rfl,k6,b6⟩;refine ajR ?_;intro NL w7 RH m7 t7 Qc
            have LA:=qh (show gB (l++[((j:Int),V3.heap.size)]) (j:Int)=some V3.heap.size/\RnR X pls w w7 w.heap.size (l++[((j:Int),V3.heap.size)]) xk N k/\w7.ownsRow w.heap.size 55 4 (.slice A5 k c5) k (((M.runE pls I L).take k).flatMap encE)from by
              have tA:aa [w.heap.size] H w7:=(aa.of_below NL).trans t7;refine⟨by rw[gN NJ.o,if_pos rfl],Mm.o.add HG.o NJ.o tA m7 ?_ ⟨M1,Nat.le_trans ahy t7.size⟩,aa.own HR.o.2 tA (λq hq m=>(Tj.o q hq).1 (by simpa using m))⟩;rw[<-HP.o,LM.o]
              exact k6.far t7 (λy hy=>by simp at hy;subst hy;omega))
            clear k6 b6 NL m7 t7 Qc M1 e0 e1 e2 e3;unfold mw at RH;go_wp2_with fail;refine ajj ?_;intro w2 b2 K2;have LR:=qh (K2.o.1.md (j:Int) V3.heap.size LA.o.1);have NI:=qh (O0.o _ V3.heap.size ail ah2 ah2);go_wp2_with fail;refine ajB ?_;intro w3 k3 Lc K3;clear NI;go_wp2_with fail;refine ai2 ?_;intro w4 k4 Ml Ko K4;go_wp2_with (at_builtin;refine wpList_append_own _ rfl _ _ 70 rfl w.heap.size 55 i0 (agg #[J 0,J 0,bool false,J 0]) 4 32 Tryz.underlying70 HI.o.1 HI.o.2.1 HI.o.2.2.1 HI.o.2.2.2 rfl ahA _ _ _ rfl (K4.o.2.alloc _) ⟨w4.heap.size,0,none⟩ 1 1 (encE ev) rfl rfl (iO w4 ev rfl) (jO _) ?c3 ?c4 ?c5 ?_);case c3=>unfold maxLen;omega
            case c4=>omega
            case c5=>simp;omega
            intro v' w5 h5 MT _;refine aje ?_;intro b4
            have HF:=qh (show RnR X pls w w5 w.heap.size _ (M.runB pls I L (k+1)) N (k+1)/\w5.ownsRow w.heap.size 55 4 v' (k+1) (((M.runE pls I L).take (k+1)).flatMap encE)from by
              refine ajO ?_;intro r4 o4;refine⟨r4.far HG.o (aa.ofRow MT) (λq hq=>?_),h5⟩;obtain⟨j,hj,rfl⟩:=i9 hq;have:=r4.apart o4 hj
              exact⟨(o4.lt _ hj).1,this⟩)
            clear h5 MT b4;go_wp2;go_roundw;case rel=>exact⟨k+1,_,by go_num,by omega,HF.o.1,HF.o.2⟩
            case measure=>simp[intOf];omega
          . have h3:Below H.heap.size H (V2.setCell ⟨H.heap.size,3,none⟩ (.bool M.rd))/\Blk (V2.setCell ⟨H.heap.size,3,none⟩ (.bool M.rd)) H.heap.size 78 #[J r1,J r2,J r3,.bool M.rd]:=⟨M6.o.1.setCell (Nat.le_refl _) _,M6.o.2.set_ 3 _⟩;obtain⟨V3,O9⟩:=LE (V2.setCell ⟨H.heap.size,3,none⟩ (.bool M.rd));rw[<-O9]at h3 ⊢;have L9:=qh h3;clear h3 O9 c3 y3 z3;have M1:=L9.o.1.size;have e0:=L9.o.2.cell 0;have e1:=L9.o.2.cell 1;have e2:=L9.o.2.cell 2;have e3:=L9.o.2.cell 3;go_wp2_with fail;refine(HW.o _).mono ?_;rintro en w6 ⟨rfl,k6,b6⟩;refine ajR ?_;intro NL w7 RH m7 t7 Qc
            have LA:=qh (show gB (l++[((j:Int),V3.heap.size)]) (j:Int)=some V3.heap.size/\RnR X pls w w7 w.heap.size (l++[((j:Int),V3.heap.size)]) xk N k/\w7.ownsRow w.heap.size 55 4 (.slice A5 k c5) k (((M.runE pls I L).take k).flatMap encE)from by
              have tA:aa [w.heap.size] H w7:=(aa.of_below NL).trans t7;refine⟨by rw[gN NJ.o,if_pos rfl],Mm.o.add HG.o NJ.o tA m7 ?_ ⟨M1,Nat.le_trans ahy t7.size⟩,aa.own HR.o.2 tA (λq hq m=>(Tj.o q hq).1 (by simpa using m))⟩;rw[<-HP.o,LM.o]
              exact k6.far t7 (λy hy=>by simp at hy;subst hy;omega))
            clear k6 b6 NL m7 t7 Qc M1 e0 e1 e2 e3;unfold mw at RH;go_wp2_with fail;refine ajj ?_;intro w2 b2 K2;have LR:=qh (K2.o.1.md (j:Int) V3.heap.size LA.o.1);have NI:=qh (O0.o _ V3.heap.size ail ah2 ah2);go_wp2_with fail;refine ajB ?_;intro w3 k3 Lc K3;clear NI;go_wp2_with fail;refine ai2 ?_;intro w4 k4 Ml Ko K4;go_wp2_with (at_builtin;refine wpList_append_own _ rfl _ _ 70 rfl w.heap.size 55 i0 (agg #[J 0,J 0,bool false,J 0]) 4 32 Tryz.underlying70 HI.o.1 HI.o.2.1 HI.o.2.2.1 HI.o.2.2.2 rfl ahA _ _ _ rfl (K4.o.2.alloc _) ⟨w4.heap.size,0,none⟩ 1 1 (encE ev) rfl rfl (iO w4 ev rfl) (jO _) ?c3 ?c4 ?c5 ?_);case c3=>unfold maxLen;omega
            case c4=>omega
            case c5=>simp;omega
            intro v' w5 h5 MT _;refine aje ?_;intro b4
            have HF:=qh (show RnR X pls w w5 w.heap.size _ (M.runB pls I L (k+1)) N (k+1)/\w5.ownsRow w.heap.size 55 4 v' (k+1) (((M.runE pls I L).take (k+1)).flatMap encE)from by
              refine ajO ?_;intro r4 o4;refine⟨r4.far HG.o (aa.ofRow MT) (λq hq=>?_),h5⟩;obtain⟨j,hj,rfl⟩:=i9 hq;have:=r4.apart o4 hj
              exact⟨(o4.lt _ hj).1,this⟩)
            clear h5 MT b4;go_wp2;go_roundw;case rel=>exact⟨k+1,_,by go_num,by omega,HF.o.1,HF.o.2⟩
            case measure=>simp[intOf];omega
        . have O8:P=⟨0,0,0,false⟩:=(by rw[HP.o];unfold jw;rw[if_neg (by rw[<-ab.o];exact hi)]);rw[O8]at HW;simp only at HW;have Mm:=qh O;have LM:=qh O8;have V:(0<=t/\¬t<(pn:Int))\/¬0<=t:=(by omega);clear O Lh O8 hi;rcases V with⟨t0,t1⟩|t0
          all_goals
            go_upto_region 11 with fail
            have h2:Below H.heap.size H (H.alloc (cells #[J 0,J 0,J 0,bool false] 78))/\Blk (H.alloc (cells #[J 0,J 0,J 0,bool false] 78)) H.heap.size 78 #[J 0,J 0,J 0,bool false]:=
              ⟨(Below.refl H.heap.size H).alloc (Nat.le_refl _) _,Blk.new H 78 #[J 0,J 0,J 0,bool false]⟩
            obtain⟨V2,Rd⟩:=LE (H.alloc (cells #[J 0,J 0,J 0,bool false] 78));rw[<-Rd]at h2 ⊢;have M6:=qh h2;clear c3 h2 Rd;have c3:=Lk.o V2 M6.o.1;have y3:=M6.o.2.cell 3;have z3:=M6.o.2.free 3;go_upto_region 12 with fail;have h3:Below H.heap.size H (V2.setCell ⟨H.heap.size,3,none⟩ (bool false))/\Blk (V2.setCell ⟨H.heap.size,3,none⟩ (bool false)) H.heap.size 78 #[J 0,J 0,J 0,bool false]:=⟨M6.o.1.setCell (Nat.le_refl _) _,M6.o.2.set_ 3 _⟩;obtain⟨V3,O9⟩:=LE (V2.setCell ⟨H.heap.size,3,none⟩ (bool false));rw[<-O9]at h3 ⊢;have L9:=qh h3;clear h3 O9 c3 y3 z3;have M1:=L9.o.1.size;have e0:=L9.o.2.cell 0;have e1:=L9.o.2.cell 1;have e2:=L9.o.2.cell 2;have e3:=L9.o.2.cell 3;go_wp2_with fail;refine(HW.o _).mono ?_;rintro en w6 ⟨rfl,k6,b6⟩;refine ajR ?_;intro NL w7 RH m7 t7 Qc
            have LA:=qh (show gB (l++[(t,V3.heap.size)]) t=some V3.heap.size/\RnR X pls w w7 w.heap.size (l++[(t,V3.heap.size)]) xk N k/\w7.ownsRow w.heap.size 55 4 (.slice A5 k c5) k (((M.runE pls I L).take k).flatMap encE)from by
              have tA:aa [w.heap.size] H w7:=(aa.of_below NL).trans t7;refine⟨by rw[gN NJ.o,if_pos rfl],Mm.o.add HG.o NJ.o tA m7 ?_ ⟨M1,Nat.le_trans ahy t7.size⟩,aa.own HR.o.2 tA (λq hq m=>(Tj.o q hq).1 (by simpa using m))⟩;rw[<-HP.o,LM.o]
              exact k6.far t7 (λy hy=>by simp at hy;subst hy;omega))
            clear k6 b6 NL m7 t7 Qc M1 e0 e1 e2 e3;unfold mw at RH;go_wp2_with fail;refine ajj ?_;intro w2 b2 K2;have LR:=qh (K2.o.1.md t V3.heap.size LA.o.1);have NI:=qh (O0.o _ V3.heap.size ail ah2 ah2);go_wp2_with fail;refine Pi NI.o λw3 k3=>?_;have Lc:=k3.o.2.size;have K3:=qh (And.intro k3.o.1 (And.intro k3.o.2 (And.intro (K2.o.1.is.far HG.o k3.o.2 (λq hq=>by have:=LR.o.2.1;have:=HM.o;simp at hq;omega)) (aa.own K2.o.2 k3.o.2 (λq hq m=>by have:=(K2.o.1.apart K2.o.2 hq).2 t V3.heap.size LA.o.1;simp at m;omega)))));clear NI;go_wp2_with fail;refine ai2 ?_;intro w4 k4 Ml Ko K4;go_wp2_with (at_builtin;refine wpList_append_own _ rfl _ _ 70 rfl w.heap.size 55 i0 (agg #[J 0,J 0,bool false,J 0]) 4 32 Tryz.underlying70 HI.o.1 HI.o.2.1 HI.o.2.2.1 HI.o.2.2.2 rfl ahA _ _ _ rfl (K4.o.2.alloc _) ⟨w4.heap.size,0,none⟩ 1 1 (encE ev) rfl rfl (iO w4 ev rfl) (jO _) ?c3 ?c4 ?c5 ?_);case c3=>unfold maxLen;omega
            case c4=>omega
            case c5=>simp;omega
            intro v' w5 h5 MT _;refine aje ?_;intro b4
            have HF:=qh (show RnR X pls w w5 w.heap.size _ (M.runB pls I L (k+1)) N (k+1)/\w5.ownsRow w.heap.size 55 4 v' (k+1) (((M.runE pls I L).take (k+1)).flatMap encE)from by
              refine ajO ?_;intro r4 o4;refine⟨r4.far HG.o (aa.ofRow MT) (λq hq=>?_),h5⟩;obtain⟨j,hj,rfl⟩:=i9 hq;have:=r4.apart o4 hj
              exact⟨(o4.lt _ hj).1,this⟩)
            clear h5 MT b4;go_wp2;go_roundw;case rel=>exact⟨k+1,_,by go_num,by omega,HF.o.1,HF.o.2⟩
            case measure=>simp[intOf];omega
      . rename_i b;have ZO:=O.mp.get Lh;have LA:=qh (And.intro Lh HR.o);have Py:=qh (show ∃gs l' b,gs=H/\l'=l from⟨H,l,b,rfl,rfl⟩);clear O Lh;unfold mw at ZO;go_wp2_with fail;refine ajj ?_;intro w2 b2 K2;have LR:=qh (K2.o.1.md t b LA.o.1);have NI:=qh (O0.o _ b ail ah2 ah2);go_wp2_with fail;refine Pi NI.o λw3 k3=>?_;have Lc:=k3.o.2.size;have K3:=qh (And.intro k3.o.1 (And.intro k3.o.2 (And.intro (K2.o.1.is.far HG.o k3.o.2 (λq hq=>by have:=LR.o.2.1;have:=HM.o;simp at hq;omega)) (aa.own K2.o.2 k3.o.2 (λq hq m=>by have:=(K2.o.1.apart K2.o.2 hq).2 t b LA.o.1;simp at m;omega)))));clear NI;go_wp2_with fail;refine ai2 ?_;intro w4 k4 Ml Ko K4;go_wp2_with (at_builtin;refine wpList_append_own _ rfl _ _ 70 rfl w.heap.size 55 i0 (agg #[J 0,J 0,bool false,J 0]) 4 32 Tryz.underlying70 HI.o.1 HI.o.2.1 HI.o.2.2.1 HI.o.2.2.2 rfl ahA _ _ _ rfl (K4.o.2.alloc _) ⟨w4.heap.size,0,none⟩ 1 1 (encE ev) rfl rfl (iO w4 ev rfl) (jO _) ?c3 ?c4 ?c5 ?_);case c3=>unfold maxLen;omega
        case c4=>omega
        case c5=>simp;omega
        intro v' w5 h5 MT _;refine aje ?_;intro b4
        have HF:=qh (show RnR X pls w w5 w.heap.size l (M.runB pls I L (k+1)) N (k+1)/\w5.ownsRow w.heap.size 55 4 v' (k+1) (((M.runE pls I L).take (k+1)).flatMap encE)from by
          refine ajO ?_;intro r4 o4;refine⟨r4.far HG.o (aa.ofRow MT) (λq hq=>?_),h5⟩;obtain⟨j,hj,rfl⟩:=i9 hq;have:=r4.apart o4 hj
          exact⟨(o4.lt _ hj).1,this⟩)
        clear h5 MT b4;go_wp2;go_roundw;case rel=>exact⟨k+1,_,by go_num,by omega,HF.o.1,HF.o.2⟩
        case measure=>simp[intOf];omega
    . obtain rfl:k=m:=by omega
      have HF:=qh (And.intro O r');clear O r';go_wp2;go_ret;have hl:(M.runE pls I L).length=k:=(by rw[CK];exact QJ.o.symm);have e:(M.runE pls I L).take k=M.runE pls I L:=(by rw[<-hl,List.take_length]);have Y:=HF.o.2;rw[e]at Y;exact⟨_,rfl,RdL.of_own lr hl.symm ah1 Y,λq hq=>(Y.lt q hq).1,HF.o.1.is,HF.o.1.tn⟩
end
end
end Go.Proofs.YtglokdbiggbkjaaGreat
