/- Joined texts. -/
import Derived.Test.YtglokdbiggbkjaaGreatMgWorldAgain0
import Derived.Test.YtglokdbiggbkjaaGreatMgWorldAgain2
set_option linter.unusedVariables false
set_option linter.unusedSimpArgs false
set_option linter.defProp false
set_option maxRecDepth 100000
set_option maxHeartbeats 16000000
open Go.Proofs.Tryz
namespace Go.Proofs.YtglokdbiggbkjaaGreat
open Go.IntKind(i64)
open Go.Value(int bool slice agg tuple pointer)
open Go.Ending(returned)
open Go.Obj(cells)
variable{w w' w0:World}{b:Nat}{S:List Nat}{n:Int}
section
open Go Go.RowKit
structure Pl4 where
 rest:Int
 stay:Int
 times:Int
 read:Bool
structure Md where
 at_:Int
 picked:Int
 asked:Int
def plV(p:Pl4):Value:= agg #[J p.rest,J p.stay,J p.times,.bool p.read]
def Bo(b:Nat):Array Value:=#[pointer (some ⟨b+1,0,none⟩),pointer (some ⟨b+2,0,none⟩),pointer (some ⟨b+3,0,none⟩),↑b,pointer (some ⟨b+4,0,none⟩),pointer (some ⟨b+5,0,none⟩)]
def lO(b:Nat):Value:= .func (.func 156) #[] (Bo b)
def ju(p:Pl4)(m:Md)(s:Int):Int×Md:=
 let q:=if s=m.at_ then m.picked else 0
 if s=0/\m.asked<p.times/\p.rest<=q then(if p.read then 3 else 1,⟨s,q+1,m.asked+1⟩)
 else(if s=2/\p.stay<=q then(if p.read then 4 else 2)else 0,⟨s,q+1,m.asked⟩)
structure lD(w:World)(b:Nat)(p:Pl4)(m:Md):Prop where
 k0:Blk w b 78 #[int i64 p.rest,int i64 p.stay,int i64 p.times,.bool p.read]
 k1:Blk w (b+1) 3 #[int i64 m.at_]
 k2:Blk w (b+2) 3 #[int i64 m.picked]
 k3:Blk w (b+3) 3 #[int i64 m.asked]
 k4:Blk w (b+4) 3 #[int i64 (if p.read then 3 else 1)]
 k5:Blk w (b+5) 3 #[int i64 (if p.read then 4 else 2)]
section
variable{p:Pl4}{m:Md}
def lD.far(h:lD w b p m)(t:aa S w w')(H:∀x∈S,x<b\/b+6<=x):lD w' b p m:=
 ⟨t.blk h.k0 (λq=>by have:=H _ q;omega),t.blk h.k1 (λq=>by have:=H _ q;omega),t.blk h.k2 (λq=>by have:=H _ q;omega),t.blk h.k3 (λq=>by have:=H _ q;omega),t.blk h.k4 (λq=>by have:=H _ q;omega),t.blk h.k5 (λq=>by have:=H _ q;omega)⟩
def GK(w:World)(p:Pl4):E 110 #[plV p] w λe w'=>e= returned (lO w.heap.size)/\lD w' w.heap.size p ⟨-1,0,0⟩/\Below w.heap.size w w':=by
 have H:∀(h:Fn) (first cap:Array Value) (w:World),(Instr.makeFunc h first cap).run prog w= .ok (.func h first cap) w:=λ_ _ _ _=>rfl;obtain⟨r,s,t,read⟩:=p;unfold plV lO Bo;cases read
 all_goals
  go_enter func110,ntmps110;go_wp2;go_ret
  exact⟨rfl,⟨(((((Blk.new w _ _).alloc _).alloc _).alloc _).alloc _).alloc _,((((Blk.new' _ _ _ ahq).alloc _).alloc _).alloc _).alloc _,(((Blk.new' _ _ _ ahq).alloc _).alloc _).alloc _,((Blk.new' _ _ _ ahq).alloc _).alloc _,(Blk.new' _ _ _ ahq).alloc _,Blk.new' _ _ _ ahq⟩,
   ((((((Below.refl w.heap.size w).alloc ahq _).alloc ahq _).alloc ahu _).alloc ahu _).alloc ahu _).alloc ahu _⟩
def lD.cs(h:lD w b p m):(w.cell? b=some (J p.rest)/\Z w b 1 (J p.stay)/\Z w b 2 (J p.times))/\Z w (b+1) 0 (J m.at_)/\Z w (b+2) 0 (J m.picked)/\Z w (b+3) 0 (J m.asked)/\Z w (b+4) 0 (J (if p.read then 3 else 1))/\Z w (b+5) 0 (J (if p.read then 4 else 2)):=
 ⟨⟨h.k0.cell 0,h.k0.cell 1,h.k0.cell 2⟩,h.k1.cell 0,h.k2.cell 0,h.k3.cell 0,h.k4.cell 0,h.k5.cell 0⟩
def MdT(w0 w:World)(b:Nat)(p:Pl4)(m:Md):Prop:=lD w b p m/\aa [b+1,b+2,b+3] w0 w
def MdT.p1(h:MdT w0 w b p m)(s:Int):MdT w0 (w.setCell ⟨b+1,0,none⟩ (J s)) b p ⟨s,m.picked,m.asked⟩:=
 ⟨⟨h.1.k0.far ahq _,h.1.k1.set_ 0 _,h.1.k2.far ahq _,h.1.k3.far ahq _,h.1.k4.far ahq _,h.1.k5.far ahq _⟩,h.2.setCell (.inl ahq) _⟩
def MdT.p2(h:MdT w0 w b p m)(s:Int):MdT w0 (w.setCell ⟨b+2,0,none⟩ (J s)) b p ⟨m.at_,s,m.asked⟩:=
 ⟨⟨h.1.k0.far ahq _,h.1.k1.far ahq _,h.1.k2.set_ 0 _,h.1.k3.far ahq _,h.1.k4.far ahq _,h.1.k5.far ahq _⟩,h.2.setCell (.inl ahq) _⟩
def MdT.p3(h:MdT w0 w b p m)(s:Int):MdT w0 (w.setCell ⟨b+3,0,none⟩ (J s)) b p ⟨m.at_,m.picked,s⟩:=
 ⟨⟨h.1.k0.far ahq _,h.1.k1.far ahq _,h.1.k2.far ahq _,h.1.k3.set_ 0 _,h.1.k4.far ahq _,h.1.k5.far ahq _⟩,h.2.setCell (.inl ahq) _⟩
def Jk(h:lD w b p m)(s:Int)(hq:0<=m.picked/\m.picked<=1000000)(ha:0<=m.asked/\m.asked<=1000000):E 156 (#[J s]++Bo b) w λe w'=>e= returned (J (ju p m s).1)/\lD w' b p (ju p m s).2/\aa [b+1,b+2,b+3] w w':=by
  obtain⟨⟨c0,c1,c2⟩,c3,c4,c5,c6,c7⟩:=h.cs;have f1:=h.k1.free 0;have f2:=h.k2.free 0;have f3:=h.k3.free 0;have H:=qh (show MdT w w b p m from⟨h,aa.refl _ _⟩);obtain⟨Y,I⟩:=LE (if s=m.at_ then m.picked else 0);have SC:0<=Y/\Y<=1000000:=by rw[I];split<;>omega
  have x1:IntKind.i64.wrap (m.picked+1)=m.picked+1:=IntWalk.i64_in _ ahp;have x2:IntKind.i64.wrap (m.asked+1)=m.asked+1:=IntWalk.i64_in _ ahp;obtain⟨at_,picked,asked⟩:=m;obtain⟨rest,stay,times,read⟩:=p;simp only at *;show Calls _ _ #[J s,pointer (some ⟨b+1,0,none⟩),pointer (some ⟨b+2,0,none⟩),pointer (some ⟨b+3,0,none⟩),↑b,pointer (some ⟨b+4,0,none⟩),pointer (some ⟨b+5,0,none⟩)] _ _;obtain⟨lk,KF⟩:∃z:Int,z=if read then 3 else 1:=⟨_,rfl⟩
  obtain⟨ul,O5⟩:∃z:Int,z=if read then 4 else 2:=⟨_,rfl⟩
  rw[<-KF]at c6;rw[<-O5]at c7;unfold ju;simp only;rw[<-I,<-KF,<-O5];clear h KF O5;by_cases e1:s=at_
  . rw[if_pos e1]at I;subst I;subst e1;by_cases O:s=0
    . subst O;by_cases e3:asked<times
      . by_cases e4:rest<=Y;. rw[if_pos ⟨rfl,e3,e4⟩];go_enter func156,ntmps156;go_wp2;go_ret;first| exact⟨rfl,H.o.p2 _⟩| exact⟨rfl,(H.o.p2 _).p3 _⟩| exact⟨rfl,((H.o.p1 _).p2 _).p2 _⟩| exact⟨rfl,(((H.o.p1 _).p2 _).p2 _).p3 _⟩
        . rw[if_neg (λq=>e4 q.2.2),if_neg (λq=>absurd q.1 ahr)];go_enter func156,ntmps156;go_wp2;go_ret;first| exact⟨rfl,H.o.p2 _⟩| exact⟨rfl,(H.o.p2 _).p3 _⟩| exact⟨rfl,((H.o.p1 _).p2 _).p2 _⟩| exact⟨rfl,(((H.o.p1 _).p2 _).p2 _).p3 _⟩
      . rw[if_neg (λq=>e3 q.2.1),if_neg (λq=>absurd q.1 ahr)];go_enter func156,ntmps156;go_wp2;go_ret;first| exact⟨rfl,H.o.p2 _⟩| exact⟨rfl,(H.o.p2 _).p3 _⟩| exact⟨rfl,((H.o.p1 _).p2 _).p2 _⟩| exact⟨rfl,(((H.o.p1 _).p2 _).p2 _).p3 _⟩
    . rw[if_neg (λq=>O q.1)];by_cases e5:s=2
      . subst e5;by_cases V:stay<=Y;. rw[if_pos ⟨rfl,V⟩];go_enter func156,ntmps156;go_wp2;go_ret;first| exact⟨rfl,H.o.p2 _⟩| exact⟨rfl,(H.o.p2 _).p3 _⟩| exact⟨rfl,((H.o.p1 _).p2 _).p2 _⟩| exact⟨rfl,(((H.o.p1 _).p2 _).p2 _).p3 _⟩
        . rw[if_neg (λq=>V q.2)];go_enter func156,ntmps156;go_wp2;go_ret;first| exact⟨rfl,H.o.p2 _⟩| exact⟨rfl,(H.o.p2 _).p3 _⟩| exact⟨rfl,((H.o.p1 _).p2 _).p2 _⟩| exact⟨rfl,(((H.o.p1 _).p2 _).p2 _).p3 _⟩
      . rw[if_neg (λq=>e5 q.1)];go_enter func156,ntmps156;go_wp2;go_ret;first| exact⟨rfl,H.o.p2 _⟩| exact⟨rfl,(H.o.p2 _).p3 _⟩| exact⟨rfl,((H.o.p1 _).p2 _).p2 _⟩| exact⟨rfl,(((H.o.p1 _).p2 _).p2 _).p3 _⟩
  . rw[if_neg e1]at I;subst I;rw[show(0:Int)+1=1 from rfl];by_cases O:s=0
    . subst O;by_cases e3:asked<times
      . by_cases e4:rest<=(0:Int);. rw[if_pos ⟨rfl,e3,e4⟩];go_enter func156,ntmps156;go_wp2;go_ret;first| exact⟨rfl,H.o.p2 _⟩| exact⟨rfl,(H.o.p2 _).p3 _⟩| exact⟨rfl,((H.o.p1 _).p2 _).p2 _⟩| exact⟨rfl,(((H.o.p1 _).p2 _).p2 _).p3 _⟩
        . rw[if_neg (λq=>e4 q.2.2),if_neg (λq=>absurd q.1 ahr)];go_enter func156,ntmps156;go_wp2;go_ret;first| exact⟨rfl,H.o.p2 _⟩| exact⟨rfl,(H.o.p2 _).p3 _⟩| exact⟨rfl,((H.o.p1 _).p2 _).p2 _⟩| exact⟨rfl,(((H.o.p1 _).p2 _).p2 _).p3 _⟩
      . rw[if_neg (λq=>e3 q.2.1),if_neg (λq=>absurd q.1 ahr)];go_enter func156,ntmps156;go_wp2;go_ret;first| exact⟨rfl,H.o.p2 _⟩| exact⟨rfl,(H.o.p2 _).p3 _⟩| exact⟨rfl,((H.o.p1 _).p2 _).p2 _⟩| exact⟨rfl,(((H.o.p1 _).p2 _).p2 _).p3 _⟩
    . rw[if_neg (λq=>O q.1)];by_cases e5:s=2
      . subst e5;by_cases V:stay<=(0:Int);. rw[if_pos ⟨rfl,V⟩];go_enter func156,ntmps156;go_wp2;go_ret;first| exact⟨rfl,H.o.p2 _⟩| exact⟨rfl,(H.o.p2 _).p3 _⟩| exact⟨rfl,((H.o.p1 _).p2 _).p2 _⟩| exact⟨rfl,(((H.o.p1 _).p2 _).p2 _).p3 _⟩
        . rw[if_neg (λq=>V q.2)];go_enter func156,ntmps156;go_wp2;go_ret;first| exact⟨rfl,H.o.p2 _⟩| exact⟨rfl,(H.o.p2 _).p3 _⟩| exact⟨rfl,((H.o.p1 _).p2 _).p2 _⟩| exact⟨rfl,(((H.o.p1 _).p2 _).p2 _).p3 _⟩
      . rw[if_neg (λq=>e5 q.1)];go_enter func156,ntmps156;go_wp2;go_ret;first| exact⟨rfl,H.o.p2 _⟩| exact⟨rfl,(H.o.p2 _).p3 _⟩| exact⟨rfl,((H.o.p1 _).p2 _).p2 _⟩| exact⟨rfl,(((H.o.p1 _).p2 _).p2 _).p3 _⟩
end
end
section
open Go Go.RowKit
def kC(w:World)(r:Nat)(l:List (Int×Nat)):Prop:=∃es Np,w.heap[r]? =some (.map es Np)/\es.toList.map (λe=>(e.key,e.val))=l.map (λx=>(Value.int .i64 x.1,lO x.2))
def gk:List (Int×Nat)->Int->Option Nat
 |[],_=>none
 |x :: l,n=>if n=x.1 then some x.2 else gk l n
def DV(n:Int):∀(l:List (Int×Nat)) (H:List MapEntry) (i:Nat),H.map (λe=>(e.key,e.val))=l.map (λx=>(Value.int .i64 x.1,lO x.2))->
    match gk l n with|none=>Instr.findNow (.int .i64) (J n) H i=some none|some b=>∃j,Instr.findNow (.int .i64) (J n) H i=some (some (j,lO b))
  | [],[],i,_=>rfl
  | [],_ :: _,_,h=>by simp at h
  | _ :: _,[],_,h=>by simp at h
  | x :: l,e :: H,i,h=>by
    simp only[List.map_cons,List.cons.injEq,Prod.mk.injEq]at h;obtain⟨⟨h1,V⟩,Y⟩:=h;have O:=DV n l H (i+1) Y;unfold gk;by_cases I:n=x.1;. rw[if_pos I];refine⟨i,?_⟩;simp[Instr.findNow,h1,V,Instr.sameNow,I]
    . rw[if_neg I];have:Instr.findNow (.int .i64) (J n) (e :: H) i=Instr.findNow (.int .i64) (J n) H (i+1):=(by simp[Instr.findNow,h1,Instr.sameNow,(by simpa using I:(n==x.1)=false)]);split at O;. rw[this];exact O
      . rw[this];exact O
def mt{I:Array MapEntry}{H:Nat}(h:w.heap[b]? =some (.map I H)):(getObj b).run prog w= .ok (.map I H) w:=by simp[getObj,Sem.run,h]
def Ei{P:Program}{h:TypeId}(H:P.underlying h=some (.int .i64))(b:Bool)(m:Nat)(n:Int)(w:World):(Instr.checkKey b (m+1) h (J n)).run P w= .ok () w:=by simp only[Instr.checkKey,Sem.run_bind,run_underlying H,Result.andThen_ok,Sem.run_pure]
def vu(b:Bool)(n:Int)(w:World):(Instr.checkKey b 10000 3 (J n)).run prog w= .ok () w:=Ei Tryz.underlying3 b 9999 n w
theorem Tryz.infoFn:(prog.info? 43).map (λi=>i.zero)=some (some .nilFunc):=by kernel_rfl
section
variable{r:Nat}{l:List (Int×Nat)}
def kC.get(h:kC w r l)(I:gk l n=some b):(Instr.lookup 196 (.map (some r)) (J n) true).run prog w= .ok (tuple #[lO b,bool true]) w:=by obtain⟨H,O,hg,hm⟩:=h;have hf:=DV n l H.toList 0 hm;rw[I]at hf;obtain⟨j,hf⟩:=hf;refine ajK ?_;rfl
def kC.no(h:kC w r l)(O:gk l n=none):(Instr.lookup 196 (.map (some r)) (J n) true).run prog w= .ok (tuple #[.nilFunc,bool false]) w:=by obtain⟨I,Np,hg,hm⟩:=h;have hf:=DV n l I.toList 0 hm;rw[O]at hf;obtain⟨Y,H,V⟩:=Option.map_eq_some_iff.1 Tryz.infoFn;refine ajK ?_;simp[zeroValue,typeInfo,H,V,go_sem]
def kC.put(h:kC w r l)(Y:gk l n=none):∃w',(Instr.mapUpdate 196 (.map (some r)) (J n) (lO b)).run prog w= .ok () w'/\kC w' r (l++[(n,b)])/\aa [r] w w':=by
 obtain⟨I,H,hg,hm⟩:=h;have O:=DV n l I.toList 0 hm;rw[Y]at O;have V:r<w.heap.size:=(Array.getElem?_eq_some_iff.1 hg).1;refine⟨{w with heap:=w.heap.setIfInBounds r (.map (I.push {key:= J n,val:=lO b,born:=H}) (H+1))},?_,⟨_,_,by show(w.heap.setIfInBounds r _)[r]? =_;rw[Array.getElem?_setIfInBounds_self_of_lt V],?_⟩,⟨rfl,rfl,rfl,by simp,λi hi hn=>?_⟩⟩;.simp only[Instr.mapUpdate,Sem.run_bind,run_underlying Tryz.underlying196,Result.andThen_ok,mt hg,Sem.run_pure,vu,Instr.findKey,run_underlying Tryz.underlying3,O];simp[setObj,Sem.run,hg]
 .rw[Array.toList_push,List.map_append,List.map_append,hm];rfl
 .show(w.heap.setIfInBounds r _)[i]? =_;rw[Array.getElem?_setIfInBounds_ne (λe=>hn (by simp[e]))]
def kC.far(h:kC w r l)(t:aa S w w')(O:r∉S):kC w' r l:=by obtain⟨I,H,hg,hm⟩:=h;exact⟨I,H,(t.block r (Array.getElem?_eq_some_iff.1 hg).1 O).trans hg,hm⟩
end
end
end Go.Proofs.YtglokdbiggbkjaaGreat
