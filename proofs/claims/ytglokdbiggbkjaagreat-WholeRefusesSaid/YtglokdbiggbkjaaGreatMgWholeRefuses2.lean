/- Joined texts. -/
import Derived.Test.YtglokdbiggbkjaaGreatMgWholeRefuses0
import Derived.Test.YtglokdbiggbkjaaGreatMgWholeRefuses1
set_option linter.unusedVariables false
set_option linter.unusedSimpArgs false
set_option linter.defProp false
set_option maxRecDepth 100000
set_option maxHeartbeats 16000000
open Go.Proofs.Tryz
namespace Go.Proofs.YtglokdbiggbkjaaGreat
open Go.IntKind(i64)
open Go.Value(int bool slice agg tuple pointer)
open Go.Ending(returned)
open Go.Obj(cells)
variable{l n lb i:Nat}{gs U:Value}{t:TypeId}{fp:FuncId}{w w':World}{R:Bool->World->Prop}{P:Prop}
section
open Go Go.RowKit
def BR(R:Bool->World->Prop)(e:Ending)(w':World):Prop:=∃r,e= returned (.bool r)/\R r w'
abbrev pL(l:Nat):Value:= ↑l
inductive InK(l:Nat):Value->Value->FuncId->FuncId->FuncId->FuncId->Prop
 |fl:InK l (.iface 181 (agg #[.iface 193 (pL l)])) (.iface 193 (pL l)) 245 248 241 360
 |hc:InK l (.iface 181 (agg #[.iface 177 (pL l)])) (.iface 177 (pL l)) 280 278 277 279
 |cn:InK l (.iface 181 (agg #[.iface 182 (pL l)])) (.iface 182 (pL l)) 312 310 309 311
 |ma:InK l (.iface 181 (agg #[.iface 185 (pL l)])) (.iface 185 (pL l)) 333 331 330 332
 |co:InK l (.iface 173 (agg #[.iface 169 (pL l)])) (.iface 169 (pL l)) 237 235 233 236
 |hm:InK l (.iface 173 (agg #[.iface 174 (pL l)])) (.iface 174 (pL l)) 254 252 250 253
 |rw:InK l (.iface 192 (agg #[pL l])) (.iface 188 (pL l)) 356 353 352 355
inductive InW(l:Nat):Value->Value->TypeId->FuncId->FuncId->FuncId->Option FuncId->Prop
 |fl:InW l (.iface 181 (agg #[.iface 193 (pL l)])) (.iface 193 (pL l)) 181 306 241 360 none
 |hc:InW l (.iface 181 (agg #[.iface 177 (pL l)])) (.iface 177 (pL l)) 181 306 277 279 none
 |cn:InW l (.iface 181 (agg #[.iface 182 (pL l)])) (.iface 182 (pL l)) 181 306 309 311 none
 |ma:InW l (.iface 181 (agg #[.iface 185 (pL l)])) (.iface 185 (pL l)) 181 306 330 332 none
 |co:InW l (.iface 173 (agg #[.iface 169 (pL l)])) (.iface 169 (pL l)) 173 249 233 236 (some 234)
 |hm:InW l (.iface 173 (agg #[.iface 174 (pL l)])) (.iface 174 (pL l)) 173 249 250 253 (some 251)
inductive InS(l:Nat):Value->Value->TypeId->Value->FuncId->FuncId->Prop
 |fl:InS l (.iface 181 (agg #[.iface 193 (pL l)])) (.iface 193 (pL l)) 181 (.iface 193 (pL l)) 307 360
 |hc:InS l (.iface 181 (agg #[.iface 177 (pL l)])) (.iface 177 (pL l)) 181 (.iface 177 (pL l)) 307 279
 |cn:InS l (.iface 181 (agg #[.iface 182 (pL l)])) (.iface 182 (pL l)) 181 (.iface 182 (pL l)) 307 311
 |ma:InS l (.iface 181 (agg #[.iface 185 (pL l)])) (.iface 185 (pL l)) 181 (.iface 185 (pL l)) 307 332
 |rw:InS l (.iface 192 (agg #[pL l])) (.iface 188 (pL l)) 192 (pL l) 358 355
def InS.k{H:Value}{I:FuncId}(h:InS l gs U t H I fp):∃a b c,InK l gs U a b c fp:=by cases h<;>exact⟨_,_,_,by constructor⟩
section
variable{fs fl fq fa ct:FuncId}{U':Value}{fc:FuncId}{oc:Option FuncId}
def Gs(h:P:=by
    go_wp2_with fail
    refine HS.o.mono ?_
    rintro en w2 ⟨r,rfl,k2⟩
    have K2:=qh k2
    clear k2
    go_wp2
    go_ret
    exact⟨_,rfl,K2.o⟩):P:=h
def dTop(h:P:=by
    unfold lkP at HM ⊢
    first
      | go_enter func51,ntmps51
      | go_enter func52,ntmps52
      | go_enter func50,ntmps50
    go_wp2_with fail
    refine HM.o.mono ?_
    rintro en w1 ⟨rfl,rfl⟩
    exact Gs):P:=h
def En(h:P:=by
    unfold lkP at HM ⊢
    go_enter func18,ntmps18
    go_wp2_with fail
    refine HM.o.mono ?_
    rintro en w1 ⟨rfl,rfl⟩
    go_wp2_with fail
    refine HS.o.mono ?_
    rintro en w2 ⟨rfl,k2⟩
    have K2:=qh k2
    clear k2
    go_wp2
    go_ret
    exact⟨rfl,K2.o⟩):P:=h
def nQ(K:InK l gs U fs fl fq fp)(hc:Z w lb 1 (J n))(Y:Z w lb 2 gs)(hi:i<n)(H:∀W,Below w.heap.size w W->Calls prog fs #[pL l,J i] W (BR R)):E 51 #[lkP lb,J i] w (BR R):=by refine ajH ?_;intro HM HS;clear H hi;cases K<;>exact dTop
def kA(K:InK l gs U fs fl fq fp)(hc:Z w lb 1 (J n))(Y:Z w lb 2 gs)(hi:i<n)(H:∀W,Below w.heap.size w W->Calls prog fl #[pL l,J i] W (BR R)):E 52 #[lkP lb,J i] w (BR R):=by refine ajH ?_;intro HM HS;clear H hi;cases K<;>exact dTop
def x9(K:InW l gs U t fa fq fp oc)(hc:Z w lb 1 (J n))(Y:Z w lb 2 gs)(hi:i<n)(q:Bool)(H:q=false->∀W,Below w.heap.size w W->Calls prog fq #[pL l,J i] W (BR R))(O:q=true->∀W,Below w.heap.size w W->R false W):E 50 #[lkP lb,J i,.bool q] w (BR R):=by
  have HM:=qh (uH hc i true (decide_eq_true ⟨by omega,by omega⟩));have I:=(Below.refl w.heap.size w).alloc (Nat.le_refl _) (cells #[U] t)
  have V:Calls prog fa #[agg #[U],J i,.bool q] w (BR R):=by
    clear HM hc Y hi;cases q
    . have HS:=qh (H rfl _ I);clear H O I;cases K
      all_goals
        first| go_enter func306,ntmps306| go_enter func249,ntmps249
        exact Gs
    . have HS:=qh (O rfl _ I);clear H O I;cases K
      all_goals
        first| go_enter func306,ntmps306| go_enter func249,ntmps249
        go_wp2;go_ret;exact⟨_,rfl,HS.o⟩
  have HS:=qh V;clear H O V I hi;cases K<;>exact dTop
def CY(hc:Z w lb 1 (J n))(Y:Z w lb 2 (.iface 192 (agg #[pL l])))(hi:i<n)(q:Bool)(H:∀W,Below w.heap.size w W->E 352 #[pL l,J i,.bool q] W (BR R)):E 50 #[lkP lb,J i,.bool q] w (BR R):=by refine ajH ?_;intro HM HS;clear H hi;exact dTop
def nO(K:InK l gs U fs fl fq fp)(hc:Z w lb 1 (J n))(Y:Z w lb 2 gs)(hi:i<n)(p:Sp)(H:∀W,Below w.heap.size w W->Calls prog fp #[pL l,J i] W λe w'=>e= returned (aF p)/\Below W.heap.size W w'):E 57 #[lkP lb,J i] w λe w'=>e= returned (aF p)/\Below w.heap.size w w':=by
  refine ai8 ?_;intro b1;have V:=aT hc;have HS:=qh (H _ b1);have c1:(w.alloc (cells #[J 0,J 0,J 0,J 0] 113)).cell? ⟨lb,2,none⟩=some gs:=by rw[(aa.of_below (S:=[]) b1).cellC (p:=⟨lb,2,none⟩) V ahF];exact Y
  have O:=qh (uH (w:=w.alloc (cells #[J 0,J 0,J 0,J 0] 113)) (by rw[(aa.of_below (S:=[]) b1).cellC (p:=⟨lb,1,none⟩) V ahF];exact hc) i true (decide_eq_true ⟨by omega,by omega⟩));have HB:=qh b1;clear H b1 hc Y hi;unfold lkP at O ⊢;cases K;all_goals go_enter func57,ntmps57;go_wp2_with fail;refine LT O.o ?_;go_wp2_with fail;refine Pi HS.o λw2 b2=>?_;exact rr
def si(K:InW l gs U t fa fq fp (some ct))(hc:Z w lb 1 (J n))(Y:Z w lb 2 gs)(hi:i<n)(z:Int)(H:∀W,Below w.heap.size w W->Calls prog ct #[pL l,J i] W λe w'=>e= returned (J z)/\Below W.heap.size W w'):E 18 #[lkP lb,J i] w λe w'=>e= returned (J z)/\Below w.heap.size w w':=by refine ajH ?_;intro HM HS;clear H hi;cases K<;>exact En
def I1(K:InK l gs U fs fl fq fp)(p:Sp)(H:∀W,Below w.heap.size w W->Calls prog fp #[pL l,J i] W λe w'=>e= returned (aF p)/\Below W.heap.size W w'):E 308 #[U,J i] w λe w'=>e= returned (J (if p.pc=10 then 1 else 0))/\Below w.heap.size w w':=by have KE:=aM;have O:=qh (H w (Below.refl _ _));clear H;obtain⟨pc,u,v,z⟩:=p;unfold aF at O;simp only;obtain⟨k,h⟩:=LE ((if pc=10 then(1:Int)else 0));obtain⟨b,I⟩:∃b,(pc==10)=b:=⟨_,rfl⟩;have Y:Kq ((if b then(1:Int)else 0)=k):=qh (by rw[h,<-I];by_cases e:pc=10<;>simp[e]);rw[<-h];clear h;cases b;all_goals cases K;all_goals go_enter func308,ntmps308;go_wp2_with fail;refine Op O.o λw2 V=>?_;go_wp2;go_ret;exact⟨by rw[<-Y.o];rfl,V.o⟩
def nM(K:InS l gs U t U' fc fp)(hc:Z w lb 1 (J n))(Y:Z w lb 2 gs)(hi:i<n)(p:Sp)(H:∀W,Below w.heap.size w W->Calls prog fp #[pL l,J i] W λe w'=>e= returned (aF p)/\Below W.heap.size W w'):E 18 #[lkP lb,J i] w λe w'=>e= returned (J (if p.pc=10 then 1 else 0))/\Below w.heap.size w w':=by
  have HM:=qh (uH hc i true (decide_eq_true ⟨by omega,by omega⟩));have I:=(Below.refl w.heap.size w).alloc (Nat.le_refl _) (cells #[U'] t);obtain⟨z,V⟩:∃z:Int,z=if p.pc=10 then 1 else 0:=⟨_,rfl⟩
  obtain⟨_,_,_,K1⟩:=K.k;have O:=I1 K1 (w:=w.alloc (cells #[U'] t)) (i:=i) p (λW b=>H W (I.trans (b.mono I.size)));rw[<-V]at O ⊢;clear K1
  have HA:Calls prog fc #[agg #[U'],J i] w λe w'=>e= returned (J z)/\Below w.heap.size w w':=by
    have HO:=qh O;have I:=qh I;clear HM hc Y hi H O V;cases K
    all_goals
      first| go_enter func307,ntmps307| go_enter func358,ntmps358
      go_wp2_with fail;refine Op HO.o λw2 k2=>?_;have K2:=qh (I.o.trans (k2.o.mono I.o.size));go_wp2;go_ret;exact⟨rfl,K2.o⟩
  have HS:=qh HA;clear H HA I O V hi;cases K<;>exact En
end
end
section
open Go Go.RowKit
structure jt(w:World)(lb n:Nat)(k:Int)(v:Value)(fp:List Nat)(bt hi:Nat):Prop where
 blk:Blk w lb 110 #[int i64 k,int i64 n,v]
 nin:lb∉fp
 lt:bt<=lb/\lb<hi
 fl:∀x∈fp,bt<=x/\x<hi
 hw:hi<=w.heap.size
section
variable{bt hi:Nat}{k:Int}{v:Value}{fp S:List Nat}
def jt.own(h:jt w lb n k v fp bt hi)(t:aa fp w w'):jt w' lb n k v fp bt hi:={h with blk:=t.blk h.blk h.nin,hw:=Nat.le_trans h.hw t.size}
def jt.far(h:jt w lb n k v fp bt hi)(t:aa S w w')(H:∀x∈S,hi<=x\/x<bt):jt w' lb n k v fp bt hi:=
 {h with blk:=t.blk h.blk (λm=>by have:=H _ m;have:=h.lt;omega),hw:=Nat.le_trans h.hw t.size}
def jt.c1(h:jt w lb n k v fp bt hi):Z w lb 1 (J n):=h.blk.cell 1
def jt.c2(h:jt w lb n k v fp bt hi):Z w lb 2 v:=h.blk.cell 2
def BR.to{H:Bool}{Q:World->Prop}{e:Ending}(h:BR R e w')(V:∀r w',R r w'->r=H/\Q w'):e= returned (.bool H)/\Q w':=by obtain⟨r,rfl,I⟩:=h;obtain⟨rfl,q⟩:=V r w' I;exact⟨rfl,q⟩
end
theorem fZ{S:List Sp}(hi:i<S.length)(p:Sp)(j:Nat):sv (S.set i p) j=if j=i then p else sv S j:=by rw[ba];grind
def qj{S:List Sp}(hi:i<S.length):S[i]? =some (sv S i):=by unfold sv;rw[List.getD_eq_getElem?_getD,List.getElem?_eq_getElem hi];rfl
end
section
open Go Go.RowKit
section
variable{q:Nat}{Q:Ending->World->Prop}
def mM(I:Blk w q 273 #[J 1,.iface 274 ↑l]):E 357 #[↑q] w λe w'=>e= returned (bool true)/\w=w':=by have c0:w.cell? q=some (J 1):=I.cell 0;exact ab4
def C7(Jt:Blk w q 273 #[J 1,.iface 274 ↑l])(i:Int)(p:Sp)(H:∀W,Below w.heap.size w W->E 364 #[↑l,J i] W λe w'=>e= returned (aF p)/\Below W.heap.size W w'):E 355 #[↑q,J i] w λe w'=>e= returned (aF p)/\Below w.heap.size w w':=by have h:=Jt.lt;refine ai8 ?_;intro b1;have h1:=Jt.below b1 h;have c1:(w.alloc (cells #[J 0,J 0,J 0,J 0] 113)).cell? ⟨q,1,none⟩=some (.iface 274 ↑l):=h1.cell 1;have HM:=qh (mM h1);exact ab5
def Da(I:Blk w q 273 #[J 1,.iface 274 ↑l])(i:Int)(hD:E 365 #[↑l,J i] w (BR R)):E 356 #[↑q,J i] w (BR R):=by have HM:=qh (mM I);have c1:Z w q 1 (.iface 274 ↑l):=I.cell 1;exact ab6
def An(I:Blk w q 273 #[J 1,.iface 274 ↑l])(i:Int)(hD:E 362 #[↑l,J i] w (BR R)):E 353 #[↑q,J i] w (BR R):=by have HM:=qh (mM I);have c1:Z w q 1 (.iface 274 ↑l):=I.cell 1;exact ab7
def E8(I:Blk w q 273 #[J 1,.iface 274 ↑l])(i:Int)(r:Bool)(hD:E 361 #[↑l,J i,.bool r] w (BR R)):E 352 #[↑q,J i,.bool r] w (BR R):=by have HM:=qh (mM I);have c1:Z w q 1 (.iface 274 ↑l):=I.cell 1;exact ab8
def mN(I:Blk w q 273 #[J 2,.iface 277 ↑l]):E 357 #[↑q] w λe w'=>e= returned (bool true)/\w=w':=by have c0:w.cell? q=some (J 2):=I.cell 0;exact ab4
def C8(Jt:Blk w q 273 #[J 2,.iface 277 ↑l])(i:Int)(p:Sp)(H:∀W,Below w.heap.size w W->E 388 #[↑l,J i] W λe w'=>e= returned (aF p)/\Below W.heap.size W w'):E 355 #[↑q,J i] w λe w'=>e= returned (aF p)/\Below w.heap.size w w':=by have h:=Jt.lt;refine ai8 ?_;intro b1;have h1:=Jt.below b1 h;have c1:(w.alloc (cells #[J 0,J 0,J 0,J 0] 113)).cell? ⟨q,1,none⟩=some (.iface 277 ↑l):=h1.cell 1;have HM:=qh (mN h1);exact ab5
def Db(I:Blk w q 273 #[J 2,.iface 277 ↑l])(i:Int)(hD:E 389 #[↑l,J i] w (BR R)):E 356 #[↑q,J i] w (BR R):=by have HM:=qh (mN I);have c1:Z w q 1 (.iface 277 ↑l):=I.cell 1;exact ab6
def Ao(I:Blk w q 273 #[J 2,.iface 277 ↑l])(i:Int)(hD:E 386 #[↑l,J i] w (BR R)):E 353 #[↑q,J i] w (BR R):=by have HM:=qh (mN I);have c1:Z w q 1 (.iface 277 ↑l):=I.cell 1;exact ab7
def E9(I:Blk w q 273 #[J 2,.iface 277 ↑l])(i:Int)(r:Bool)(hD:E 385 #[↑l,J i,.bool r] w (BR R)):E 352 #[↑q,J i,.bool r] w (BR R):=by have HM:=qh (mN I);have c1:Z w q 1 (.iface 277 ↑l):=I.cell 1;exact ab8
def mO(I:Blk w q 273 #[J 3,.iface 280 ↑l]):E 357 #[↑q] w λe w'=>e= returned (bool true)/\w=w':=by have c0:w.cell? q=some (J 3):=I.cell 0;exact ab4
def C9(Jt:Blk w q 273 #[J 3,.iface 280 ↑l])(i:Int)(p:Sp)(H:∀W,Below w.heap.size w W->E 399 #[↑l,J i] W λe w'=>e= returned (aF p)/\Below W.heap.size W w'):E 355 #[↑q,J i] w λe w'=>e= returned (aF p)/\Below w.heap.size w w':=by have h:=Jt.lt;refine ai8 ?_;intro b1;have h1:=Jt.below b1 h;have c1:(w.alloc (cells #[J 0,J 0,J 0,J 0] 113)).cell? ⟨q,1,none⟩=some (.iface 280 ↑l):=h1.cell 1;have HM:=qh (mO h1);exact ab5
def Dc(I:Blk w q 273 #[J 3,.iface 280 ↑l])(i:Int)(hD:E 400 #[↑l,J i] w (BR R)):E 356 #[↑q,J i] w (BR R):=by have HM:=qh (mO I);have c1:Z w q 1 (.iface 280 ↑l):=I.cell 1;exact ab6
def Ap(I:Blk w q 273 #[J 3,.iface 280 ↑l])(i:Int)(hD:E 397 #[↑l,J i] w (BR R)):E 353 #[↑q,J i] w (BR R):=by have HM:=qh (mO I);have c1:Z w q 1 (.iface 280 ↑l):=I.cell 1;exact ab7
def Fa(I:Blk w q 273 #[J 3,.iface 280 ↑l])(i:Int)(r:Bool)(hD:E 396 #[↑l,J i,.bool r] w (BR R)):E 352 #[↑q,J i,.bool r] w (BR R):=by have HM:=qh (mO I);have c1:Z w q 1 (.iface 280 ↑l):=I.cell 1;exact ab8
end
end
end Go.Proofs.YtglokdbiggbkjaaGreat
