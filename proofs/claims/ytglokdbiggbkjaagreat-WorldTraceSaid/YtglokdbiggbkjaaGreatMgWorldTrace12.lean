/- Joined texts. -/
import Derived.Laws.EntriesVeiled
import Derived.Laws.CopyOwn
import Derived.Deep.RegionLaw
import Derived.Deep.AppendLies
import Derived.Test.YtglokdbiggbkjaaGreatMgWorldTrace0
import Derived.Test.YtglokdbiggbkjaaGreatMgWorldTrace2
import Derived.Test.YtglokdbiggbkjaaGreatMgWorldTrace3
import Derived.Test.YtglokdbiggbkjaaGreatMgWorldTrace4
import Derived.Test.YtglokdbiggbkjaaGreatMgWorldTrace5
import Derived.Test.YtglokdbiggbkjaaGreatMgWorldTrace7
import Derived.Test.YtglokdbiggbkjaaGreatMgWorldTrace8
import Derived.Test.YtglokdbiggbkjaaGreatMgWorldTrace9
import Derived.Test.YtglokdbiggbkjaaGreatMgWorldTrace10
import Derived.Test.YtglokdbiggbkjaaGreatMgWorldTrace11
set_option linter.unusedVariables false
set_option linter.unusedSimpArgs false
set_option linter.defProp false
set_option maxRecDepth 100000
set_option maxHeartbeats 16000000
open Go.Proofs.Tryz
namespace Go.Proofs.YtglokdbiggbkjaaGreat
open Go.IntKind(i64)
open Go.Value(int bool slice agg tuple pointer)
open Go.Ending(returned)
open Go.Obj(cells)
variable{w w':World}{dl bud:Int}{P T:List Int}{i n N:Nat}{S:List Nat}{node:Nat->Nat}{G:Nat->List Nat}
section
open Go.RowKit
def du(P T:List Int)(i:Nat):Nat:=(fM (ac P) (T.getD i 0)).toNat
structure bE(w:World)(l a g q b u lo hi:Nat)(dl:Int)(P T:List Int)(h:Hc):Prop where
 ar:aB w a g h.ar
 lk:Blk w l 260 #[↑a,↑b,int i64 1,↑u,int i64 dl,slice (some ⟨q,0,none⟩) T.length T.length]
 sp:dE w q h.S
 tu:ez w u a (2+(ac P).length) T.length h.D
 tab:mo lo hi w b P T
 sl:h.S.length=T.length
 hs:hi<=w.heap.size
 nd:[l,a,g,q,u].Nodup
 o:∀x∈[l,a,g,q,u],x<lo\/hi<=x
section
variable{l a g q b u lo hi:Nat}{h:Hc}
def bE.n32(k:bE w l a g q b u lo hi dl P T h):1<=T.length/\T.length<=32/\(ac P).length<=32:=by have:=bj (aR k.tab.ok).1;have H:=a8 P P.length;exact⟨this.2.2.1,this.2.2.2,by show(am P P.length).length<=32;omega⟩
def bE.next(k:bE w l a g q b u lo hi dl P T h){H:Ar}{V:List Int}{I:List Sp}(t:aa [a,g,q,u] w w')(h1:aB w' a g H)(Y:dE w' q I)(h3:ez w' u a (2+(ac P).length) T.length V)(h4:I.length=T.length):bE w' l a g q b u lo hi dl P T ⟨H,V,I⟩:=by
 have O:=k.nd;refine⟨h1,t.blk k.lk ?_,Y,h3,k.tab.keep (λi Zy MK=>t.block i (by have:=k.hs;omega) λhm=>?_) (Nat.le_trans k.hs t.size),h4,Nat.le_trans k.hs t.size,k.nd,k.o⟩;.exact(List.nodup_cons.1 O).1
 .have:=k.o i (List.mem_cons_of_mem _ hm);omega
def bE.below(k:bE w l a g q b u lo hi dl P T h)(t:Below w.heap.size w w'):bE w' l a g q b u lo hi dl P T h:=by have t0:=aa.of_below (S:=[]) t;exact k.next (t0.mono ahz) (k.ar.turns t0 ahz ahz) (k.sp.turns t0 ahz) (k.tu.turns t0 ahz) k.sl
def bE.spot(k:bE w l a g q b u lo hi dl P T h){H:List Sp}(hs:dE w' q H)(O:H.length=T.length)(t:aa [q] w w'):bE w' l a g q b u lo hi dl P T ⟨h.ar,h.D,H⟩:=by have I:=k.nd;simp at I;exact k.next (t.mono ahz) (k.ar.turns t ahD ahD) hs (k.tu.turns t ahD) O
def bE.c0(k:bE w l a g q b u lo hi dl P T h):w.cell? l=some ↑a:=k.lk.cell 0
def bE.c1(k:bE w l a g q b u lo hi dl P T h):Z w l 1 ↑b:=k.lk.cell 1
def bE.c2(k:bE w l a g q b u lo hi dl P T h):Z w l 2 (J 1):=k.lk.cell 2
def bE.c3(k:bE w l a g q b u lo hi dl P T h):Z w l 3 ↑u:=k.lk.cell 3
def bE.c4(k:bE w l a g q b u lo hi dl P T h):Z w l 4 (J dl):=k.lk.cell 4
def bE.c5(k:bE w l a g q b u lo hi dl P T h):Z w l 5 (slice (some ⟨q,0,none⟩) T.length T.length):=k.lk.cell 5
def kr(k:bE w l a g q b u lo hi dl P T h):E 281 #[↑l] w λe w'=>e= returned (J T.length)/\w=w':=by have c5:=k.c5;clear k;go_enter func281,ntmps281;exact aab
def xU(k:bE w l a g q b u lo hi dl P T h)(i:Int):E 279 #[↑l,J i] w λe w'=>e= returned (aC (getS h.S i))/\Below w.heap.size w w':=by
  obtain⟨_,HN,_⟩:=k.n32;have O:=k.sl;by_cases I:okI h.S i;. have hp:=dM I;obtain⟨p,Y⟩:=LE (getS h.S i);rw[<-Y]at hp ⊢;have c2:=k.c5;refine aj7 ?_;intro a0 a1 a2 a3;obtain⟨V,h1⟩:=I;rw[O]at h1;obtain⟨n,rfl⟩:=Int.eq_ofNat_of_zero_le V;simp only[Int.toNat_natCast]at a0 a1 a2 a3;have Kl:=k.lk.lt;have Ko:=k.sp.lt;have t2:¬(n:Int)<0:=(by omega);have t3:¬((T.length:Nat):Int)<=(n:Int):=(by omega);have t4:n<T.length:=(by omega);have H:Kq (bE (w.alloc (cells #[J 0,J 0,J 0,J 0] 113)) l a g q b u lo hi dl P T h):=qh (k.below ((Below.refl _ _).alloc (Nat.le_refl _) _));clear k hp Y V h1 O;go_enter func279,ntmps279;go_wp2_with (go_at_call 281;refine(kr H.o).mono ?_;rintro e w' ⟨rfl,rfl⟩);exact bodyPost_ret (results_cell_row ahC _ _ w.heap.size 113 _ (0,0) _ ahC (heap_alloc_new w _) Tryz.underlying113 rfl ahB) rfl ⟨rfl,(Below.refl _ _).alloc (Nat.le_refl _) _⟩
  . have H:Kq (bE (w.alloc (cells #[J 0,J 0,J 0,J 0] 113)) l a g q b u lo hi dl P T h):=qh (k.below ((Below.refl _ _).alloc (Nat.le_refl _) _));rw[dF I];unfold okI at I;rw[O]at I;clear k O;by_cases V:i<0;. go_enter func279,ntmps279;go_wp2;exact bodyPost_ret (results_cell_row ahC _ _ w.heap.size 113 _ (0,0) _ ahC (heap_alloc_new w _) Tryz.underlying113 rfl ahB) rfl ⟨rfl,(Below.refl _ _).alloc (Nat.le_refl _) _⟩
    . have t3:((T.length:Nat):Int)<=i:=(by omega);clear I;go_enter func279,ntmps279;go_wp2_with (go_at_call 281;refine(kr H.o).mono ?_;rintro e w' ⟨rfl,rfl⟩);exact bodyPost_ret (results_cell_row ahC _ _ w.heap.size 113 _ (0,0) _ ahC (heap_alloc_new w _) Tryz.underlying113 rfl ahB) rfl ⟨rfl,(Below.refl _ _).alloc (Nat.le_refl _) _⟩
def HOp(w:World)(l a g q b u lo hi:Nat)(dl:Int)(P T:List Int)(x:Hc×Bool)(e:Ending)(w':World):Prop:=e= returned (.bool x.2)/\bE w' l a g q b u lo hi dl P T x.1/\aa [a,g,q,u] w w'
def xb(k:bE w l a g q b u lo hi dl P T h)(i O V:Int):E 282 #[↑l,J i,J O,J V] w (HOp w l a g q b u lo hi dl P T (bv h i O V)):=by
  have H:=qh k;obtain⟨_,KX,_⟩:=k.n32;have Ku:=k.sl;by_cases hi:okI h.S i
  . have Y:=dM hi;obtain⟨p,i'⟩:=LE (getS h.S i);rw[<-i']at Y;have c2:=k.c5;have a0:=aaa (k.sp.cell Y 0 _ rfl);have f0:=k.sp.free (i.toNat*4);obtain⟨h0,h1⟩:=id hi;rw[Ku]at h1;obtain⟨n,rfl⟩:=Int.eq_ofNat_of_zero_le h0;simp only[Int.toNat_natCast]at a0 f0 Y;have t2:¬(n:Int)<0:=(by omega);have t3:¬((T.length:Nat):Int)<=(n:Int):=(by omega);have t4:n<T.length:=(by omega);have HP:=qh (And.intro hi (And.intro i' Y));clear k Y i' h0 h1 hi Ku;cases hc:(p.pc !=O)
    . have I:Kq (bv h n O V=(⟨h.ar,h.D,h.S.set n {p with pc:=V}⟩,true)):=qh (by
        unfold bv;have e:p.pc=O:=by simpa using hc
        rw[<-HP.o.2.1,if_pos ⟨HP.o.1,e⟩];simp)
      go_enter func282,ntmps282;go_wp2_with (go_at_call 281;refine(kr H.o).mono ?_;rintro e w' ⟨rfl,rfl⟩);go_ret;rw[I.o];have ht:aa [q] w (w.setCell ⟨q,n*4,none⟩ (J V)):=(aa.refl _ _).setCell (.inl ahz) _;exact⟨rfl,H.o.spot (H.o.sp.put HP.o.2.2 (j:=0) ahA rfl) (by simp[H.o.sl]) ht,ht.mono ahz⟩
    . have I:Kq (bv h n O V=(h,false)):=qh (by
        unfold bv;have e:¬p.pc=O:=by simpa using hc
        rw[<-HP.o.2.1,if_neg (λh=>e h.2)])
      go_enter func282,ntmps282;go_wp2_with (go_at_call 281;refine(kr H.o).mono ?_;rintro e w' ⟨rfl,rfl⟩);go_ret;rw[I.o];exact⟨rfl,H.o,aa.refl _ _⟩
  . have I:Kq (bv h i O V=(h,false)):=qh (by
      unfold bv
      rw[if_neg (λh=>hi h.1)])
    unfold okI at hi;rw[Ku]at hi;clear k Ku;by_cases h0:i<0;. go_enter func282,ntmps282;go_wp2;go_ret;rw[I.o];exact⟨rfl,H.o,aa.refl _ _⟩
    . have t3:((T.length:Nat):Int)<=i:=(by omega);clear hi;go_enter func282,ntmps282;go_wp2_with (go_at_call 281;refine(kr H.o).mono ?_;rintro e w' ⟨rfl,rfl⟩);go_ret;rw[I.o];exact⟨rfl,H.o,aa.refl _ _⟩
def Hb(k:bE w l a g q b u lo hi dl P T h)(i:Int):E 277 #[↑l,J i] w (HOp w l a g q b u lo hi dl P T (bv h i 0 1)):=by obtain⟨x,I⟩:=LE (bv h i 0 1);have H:=qh (xb k i 0 1);rw[<-I]at H ⊢;obtain⟨O,V⟩:=x;clear k I;go_enter func277,ntmps277;go_wp2_with fail;refine Pi H.o λw1 H1=>?_;go_wp2;go_ret;exact⟨rfl,H1.o⟩
def Eb(k:bE w l a g q b u lo hi dl P T h)(i:Int):E 278 #[↑l,J i] w (HOp w l a g q b u lo hi dl P T (bv h i 10 11)):=by obtain⟨x,I⟩:=LE (bv h i 10 11);have H:=qh (xb k i 10 11);rw[<-I]at H ⊢;obtain⟨O,V⟩:=x;clear k I;go_enter func278,ntmps278;go_wp2_with fail;refine Pi H.o λw1 H1=>?_;go_wp2;go_ret;exact⟨rfl,H1.o⟩
def ua(k:bE w l a g q b u lo hi dl P T h)(hi:i<T.length):(ao P T T.length)[i]? =some ((du P T i:Nat):Int)/\du P T i<(ac P).length:=by have hm:T.getD i 0∈ac P:=jA (aR k.tab.ok).2.2.2 (i:=i) (by rw[List.getD_eq_getElem?_getD,List.getElem?_eq_getElem hi];rfl);have h1:=eV (ac P) (T.getD i 0);have H:=h1.1.2 hm;have I:=h1.2.1;unfold du;refine⟨?_,by omega⟩;unfold ao;rw[List.getElem?_map,List.getElem?_take,if_pos hi,List.getElem?_eq_getElem hi];simp only[Option.map_some,Option.some.injEq];rw[show T.getD i 0=T[i]by rw[List.getD_eq_getElem?_getD,List.getElem?_eq_getElem hi];rfl]at H ⊢;omega
def B5(k:bE w l a g q b u lo hi dl P T h)(i:Nat)(hi:i<T.length):E 289 #[↑l,J i] w λe w'=>e= returned (J (2+(du P T i:Nat)))/\Qt w w':=by obtain⟨H,I⟩:=ua k hi;obtain⟨_,_,NN⟩:=k.n32;obtain⟨v,O⟩:=LE (du P T i);rw[<-O]at H I ⊢;have V:=qh (λW (h:iJ W b P T)=>jZ W b P T i hi h v H);have Y:=qh k.tab;have HS:=qh k.hs;have c1:=k.c1;have c2:=k.c2;have x1:IntKind.i64.wrap (2+(v:Int))=2+v:=IntWalk.i64_in _ ahy;clear k O H;go_enter func289,ntmps289;go_wp2;go_quiet ((go_at_call 100;exact bN (V.o _ (Y.o.f.below (Qt.below ⟨_,rfl⟩ _)))));go_wp2;go_ret;exact⟨rfl,⟨_,rfl⟩⟩
end
end
section
open Go.RowKit
section
variable{l a g q b u lo hi:Nat}{h:Hc}
def qc(w:World)(l a g q b u lo hi:Nat)(dl:Int)(P T:List Int)(h:Hc)(i:Nat)(p:Sp)(x:Ar×List Int×Sp)(e:Ending)(w':World):Prop:=
 e= returned (J x.2.2.pc)/\bE w' l a g q b u lo hi dl P T ⟨x.1,x.2.1,h.S.set i {x.2.2 with pc:=p.pc}⟩/\aa [a,g,q,u] w w'
def bE.op(k:bE w l a g q b u lo hi dl P T h){H:Ar}(t:aa [a,g] w w')(h1:aB w' a g H):bE w' l a g q b u lo hi dl P T ⟨H,h.D,h.S⟩:=by have I:=k.nd;simp at I;exact k.next (t.mono ahz) h1 (k.sp.turns t ahD) (k.tu.turns t ahD) k.sl
def bE.putS(k:bE w l a g q b u lo hi dl P T h){p p':Sp}(O:h.S[i]? =some p){j:Nat}{v:Value}(I:j<4)(H:(bm p).set j v=bm p'):bE (w.setCell ⟨q,i*4+j,none⟩ v) l a g q b u lo hi dl P T ⟨h.ar,h.D,h.S.set i p'⟩:=
 k.spot (k.sp.put O I H) (by simp[k.sl]) ((aa.refl _ _).setCell (.inl ahz) _)
def eh{a g q u:Nat}(p:Addr)(v:Value)(H:p.block=q):aa [a,g,q,u] w (w.setCell p v):=(aa.refl _ _).setCell (.inl (by simp[H])) _
def GM(k:bE w l a g q b u lo hi dl P T h)(i:Nat)(hin:i<T.length)(p:Sp)(hp:h.S[i]? =some p)(Y:h.ar.ops+1<=1000000000000)(hd:0<=dv h.D i/\dv h.D i<1000000000)(I':p.pc=1):E 283 #[↑l,J i] w (qc w l a g q b u lo hi dl P T h i p (bz (ac P).length T.length dl h (du P T i) i p)):=by
  obtain⟨_,HN,_⟩:=k.n32;have MK:(i:Int)<T.length:=by omega
  have c5:=k.c5;obtain⟨v,O⟩:=LE (ldW h.ar.W (2+(du P T i:Int)));obtain⟨ab,hv⟩:=LE (cz h.ar (2+(du P T i:Int)) (tokH i (dv h.D i+1)))
  have HX:Kq (bz (ac P).length T.length dl h (du P T i) i p=(ab,h.D,if v≠0 then {p with a:=v,pc:=5} else if 0<dl then {p with a:=v,b:=dl,pc:=2} else {p with a:=v,b:=0,pc:=3})):=qh (by
    unfold bz
    rw[if_pos I',<-O,<-hv])
  have HL:=qh (λW (k:bE W l a g q b u lo hi dl P T h)=>B5 k i hin);have Tw:=qh (λW (k:bE W l a g q b u lo hi dl P T h)=>IO k.tu i hin hd);have NK:=(λW (k:bE W l a g q b u lo hi dl P T h)=>fw k.ar (2+(du P T i:Int)) (tokH i (dv h.D i+1)) Y);rw[<-O,<-hv]at NK;have PG:=qh NK;have H:=qh (λW (h:Hc) (k:bE W l a g q b u lo hi dl P T h)=>And.intro k.c0 (And.intro k.c3 k.c4));have K1:=qh (k.below ((Below.refl _ w).drew));have HP:=qh (And.intro hp I');clear NK k hp I' hd O hv;by_cases KL:v=0
  . have t0:(v !=0)=false:=(by simpa using KL);have HV:=qh KL;clear KL;by_cases OI:0<dl
    . have HD:=qh OI;go_enter func283,ntmps283;go_wp2_with fail
      go_region_held3 (λW=>W.cell? l=some ↑a/\Z W l 3 ↑u/\Z W l 4 (J dl))
        (first|with_reducible exact H.o _ _ K1.o|with_reducible exact H.o _ _ V.o|with_reducible exact H.o _ _ K3.o|with_reducible exact H.o _ _ K4.o|with_reducible exact H.o _ _ I.o)
        (first
          | (go_at_call 289;go_loud (refine Pi (HL.o _ K1.o) λw2 q2=>?_);have V:=qh (K1.o.below (Qt.below q2.o _));have T2:=qh (((aa.refl [a,g,q,u] w).drew).trans (aa.of_qt q2.o)))
          | (go_at_call 290;go_loud (refine Pi (Tw.o _ V.o) λw3 b3=>?_);have K3:=qh (V.o.below b3.o);have T3:=qh (T2.o.trans (aa.of_below b3.o)))
          | (go_at_call 271;go_loud (refine Pi (PG.o _ K3.o) λw4 a4=>?_);have K4:=qh (K3.o.op a4.o.2 a4.o.1);have T4:=qh (T3.o.trans (a4.o.2.mono (T:=[a,g,q,u]) ahz));have I:=qh (K4.o.putS (p':={p with a:=v}) HP.o.1 (j:=1) (v:= J v) ahA rfl);have e1:=K4.o.sp.cell HP.o.1 1 _ rfl;have z1:=K4.o.sp.free (i*4+1)))
      all_goals have c4:=(H.o _ _ I.o).2.2;have e2:=I.o.sp.cell (i:=i) (p:={p with a:=v}) aih 2 _ rfl;have z2:=I.o.sp.free (i*4+2);have K6:=I.o.putS (i:=i) (p:={p with a:=v}) (p':={p with a:=v,b:=dl}) aih (j:=2) (v:= J dl) ahA rfl;simp only[List.set_set]at K6;have TL:=qh K6;clear K6;go_wp2;go_ret;rw[HX.o,if_neg (λh=>h HV.o),if_pos HD.o];exact⟨rfl,by rw[show({({p with a:=v,b:=dl,pc:=2}:Sp)with pc:=p.pc}:Sp)={p with a:=v,b:=dl} from rfl];exact TL.o,(T4.o.trans (eh ⟨q,i*4+1,none⟩ _ rfl)).trans (eh ⟨q,i*4+2,none⟩ _ rfl)⟩
    . have HD:=qh OI;go_enter func283,ntmps283;go_wp2_with fail
      go_region_held3 (λW=>W.cell? l=some ↑a/\Z W l 3 ↑u/\Z W l 4 (J dl))
        (first|with_reducible exact H.o _ _ K1.o|with_reducible exact H.o _ _ V.o|with_reducible exact H.o _ _ K3.o|with_reducible exact H.o _ _ K4.o|with_reducible exact H.o _ _ I.o)
        (first
          | (go_at_call 289;go_loud (refine Pi (HL.o _ K1.o) λw2 q2=>?_);have V:=qh (K1.o.below (Qt.below q2.o _));have T2:=qh (((aa.refl [a,g,q,u] w).drew).trans (aa.of_qt q2.o)))
          | (go_at_call 290;go_loud (refine Pi (Tw.o _ V.o) λw3 b3=>?_);have K3:=qh (V.o.below b3.o);have T3:=qh (T2.o.trans (aa.of_below b3.o)))
          | (go_at_call 271;go_loud (refine Pi (PG.o _ K3.o) λw4 a4=>?_);have K4:=qh (K3.o.op a4.o.2 a4.o.1);have T4:=qh (T3.o.trans (a4.o.2.mono (T:=[a,g,q,u]) ahz));have I:=qh (K4.o.putS (p':={p with a:=v}) HP.o.1 (j:=1) (v:= J v) ahA rfl);have e1:=K4.o.sp.cell HP.o.1 1 _ rfl;have z1:=K4.o.sp.free (i*4+1)))
      all_goals have c4:=(H.o _ _ I.o).2.2;have e2:=I.o.sp.cell (i:=i) (p:={p with a:=v}) aih 2 _ rfl;have z2:=I.o.sp.free (i*4+2);have K6:=I.o.putS (i:=i) (p:={p with a:=v}) (p':={p with a:=v,b:=0}) aih (j:=2) (v:= J 0) ahA rfl;simp only[List.set_set]at K6;have TL:=qh K6;clear K6;go_wp2;go_ret;rw[HX.o,if_neg (λh=>h HV.o),if_neg (show ¬0<dl by have:=HD.o;omega)];exact⟨rfl,by rw[show({({p with a:=v,b:=0,pc:=3}:Sp)with pc:=p.pc}:Sp)={p with a:=v,b:=0} from rfl];exact TL.o,(T4.o.trans (eh ⟨q,i*4+1,none⟩ _ rfl)).trans (eh ⟨q,i*4+2,none⟩ _ rfl)⟩
  . have t0:(v !=0)=true:=(by simpa using KL);have HV:=qh KL;clear KL;go_enter func283,ntmps283;go_wp2_with fail
    go_region_held3 (λW=>W.cell? l=some ↑a/\Z W l 3 ↑u/\Z W l 4 (J dl))
      (first|with_reducible exact H.o _ _ K1.o|with_reducible exact H.o _ _ V.o|with_reducible exact H.o _ _ K3.o|with_reducible exact H.o _ _ K4.o|with_reducible exact H.o _ _ I.o)
      (first
        | (go_at_call 289;go_loud (refine Pi (HL.o _ K1.o) λw2 q2=>?_);have V:=qh (K1.o.below (Qt.below q2.o _));have T2:=qh (((aa.refl [a,g,q,u] w).drew).trans (aa.of_qt q2.o)))
        | (go_at_call 290;go_loud (refine Pi (Tw.o _ V.o) λw3 b3=>?_);have K3:=qh (V.o.below b3.o);have T3:=qh (T2.o.trans (aa.of_below b3.o)))
        | (go_at_call 271;go_loud (refine Pi (PG.o _ K3.o) λw4 a4=>?_);have K4:=qh (K3.o.op a4.o.2 a4.o.1);have T4:=qh (T3.o.trans (a4.o.2.mono (T:=[a,g,q,u]) ahz));have I:=qh (K4.o.putS (p':={p with a:=v}) HP.o.1 (j:=1) (v:= J v) ahA rfl);have e1:=K4.o.sp.cell HP.o.1 1 _ rfl;have z1:=K4.o.sp.free (i*4+1)))
    all_goals go_wp2;go_ret;rw[HX.o,if_pos HV.o];exact⟨rfl,by rw[show({({p with a:=v,pc:=5}:Sp)with pc:=p.pc}:Sp)={p with a:=v} from rfl];exact I.o,T4.o.trans (eh ⟨q,i*4+1,none⟩ _ rfl)⟩
end
end
section
open Go.RowKit
section
variable{l a g q b u lo hi:Nat}{h:Hc}
def pB{S:List Sp}{p:Sp}(hp:S[i]? =some p):S.set i p=S:=by exact aan
def JF(k:bE w l a g q b u lo hi dl P T h)(i:Nat)(ab:i<T.length)(p:Sp)(O:h.S[i]? =some p)(I:1<=p.b/\p.b<=100000)(V:p.pc=2):E 284 #[↑l,J i] w (qc w l a g q b u lo hi dl P T h i p (bz (ac P).length T.length dl h (du P T i) i p)):=by
  obtain⟨_,HN,_⟩:=k.n32;have MK:(i:Int)<T.length:=by omega
  have c5:=k.c5;have e2:=k.sp.cell O 2 _ rfl;have z2:=k.sp.free (i*4+2);obtain⟨KI,Nv⟩:=I
  have HX:Kq (bz (ac P).length T.length dl h (du P T i) i p=(h.ar,h.D,{p with b:=p.b-1,pc:=if 0<p.b-1 then 2 else 3})):=qh (by
    unfold bz
    rw[if_neg ahy,if_pos V])
  have Y:=k.putS (p':={p with b:=p.b-1}) O (j:=2) (v:= J (p.b-1)) ahA rfl;have KH:=qh Y;have SZ:=k.sp.lt;clear k O V Y;by_cases hg:0<p.b-1;. have H:=qh hg;go_enter func284,ntmps284;go_wp2;go_ret;rw[HX.o];exact⟨by rw[if_pos H.o];rfl,KH.o,eh ⟨q,i*4+2,none⟩ _ rfl⟩
  . have H:=qh hg;go_enter func284,ntmps284;go_wp2;go_ret;rw[HX.o];exact⟨by rw[if_neg (by have:=H.o;omega)];rfl,KH.o,eh ⟨q,i*4+2,none⟩ _ rfl⟩
def JQ(k:bE w l a g q b u lo hi dl P T h)(i:Nat)(ad:i<T.length)(p:Sp)(hp:h.S[i]? =some p)(Y:h.ar.ops+1<=1000000000000)(V:p.pc=3):E 285 #[↑l,J i] w (qc w l a g q b u lo hi dl P T h i p (bz (ac P).length T.length dl h (du P T i) i p)):=by
  obtain⟨_,HN,_⟩:=k.n32;have MK:(i:Int)<T.length:=by omega
  obtain⟨v,O⟩:=LE (ldW h.ar.W (2+(du P T i:Int)));obtain⟨ab,hv⟩:=LE (cz h.ar (2+(du P T i:Int)) 0)
  have HX:Kq (bz (ac P).length T.length dl h (du P T i) i p=(ab,h.D,{p with c:=v,pc:=4})):=qh (by
    unfold bz
    rw[if_neg ahy,if_neg ahy,if_pos V,<-O,<-hv])
  have HL:=qh (λW (k:bE W l a g q b u lo hi dl P T h)=>B5 k i ad);have NK:=(λW (k:bE W l a g q b u lo hi dl P T h)=>fw k.ar (2+(du P T i:Int)) 0 Y);rw[<-O,<-hv]at NK;have PG:=qh NK;have H:=qh (λW (h:Hc) (k:bE W l a g q b u lo hi dl P T h)=>And.intro k.c0 k.c5);have K1:=qh (k.below ((Below.refl _ w).drew));have HP:=qh (And.intro hp V);clear NK k hp V O hv;go_enter func285,ntmps285;go_wp2_with fail
  go_region_held3 (λW=>W.cell? l=some ↑a/\Z W l 5 (slice (some ⟨q,0,none⟩) T.length T.length))
    (first|with_reducible exact H.o _ _ K1.o|with_reducible exact H.o _ _ K2.o|with_reducible exact H.o _ _ I.o|with_reducible exact H.o _ _ K5.o)
    (first
      | (go_at_call 289;go_loud (refine Pi (HL.o _ K1.o) λw2 q2=>?_);have K2:=qh (K1.o.below (Qt.below q2.o _));have T2:=qh (((aa.refl [a,g,q,u] w).drew).trans (aa.of_qt q2.o)))
      | (go_at_call 271;go_loud (refine Pi (PG.o _ K2.o) λw4 a4=>?_);have I:=qh (K2.o.op a4.o.2 a4.o.1);have T4:=qh (T2.o.trans (a4.o.2.mono (T:=[a,g,q,u]) ahz));have K5:=qh (I.o.putS (p':={p with c:=v}) HP.o.1 (j:=3) (v:= J v) ahA rfl);have e1:=I.o.sp.cell HP.o.1 3 _ rfl;have z1:=I.o.sp.free (i*4+3)))
  all_goals go_wp2;go_ret;rw[HX.o];exact⟨rfl,K5.o,T4.o.trans (eh ⟨q,i*4+3,none⟩ _ rfl)⟩
def EO(k:bE w l a g q b u lo hi dl P T h)(i:Nat)(ad:i<T.length)(p:Sp)(hp:h.S[i]? =some p)(Y:h.ar.ops+1<=1000000000000)(I':p.pc=4):E 286 #[↑l,J i] w (qc w l a g q b u lo hi dl P T h i p (bz (ac P).length T.length dl h (du P T i) i p)):=by
  obtain⟨_,HN,_⟩:=k.n32;have MK:(i:Int)<T.length:=by omega
  have c5:=k.c5;obtain⟨v,O⟩:=LE (ldW h.ar.W 1);obtain⟨ab,hv⟩:=LE (cz h.ar 1 p.c)
  have HX:Kq (bz (ac P).length T.length dl h (du P T i) i p=(ab,h.D,{p with a:=v,pc:=if v=0 then 10 else 5})):=qh (by
    unfold bz
    rw[if_neg ahy,if_neg ahy,if_neg ahy,if_pos I',<-O,<-hv])
  have NK:=(λW (k:bE W l a g q b u lo hi dl P T h)=>fw k.ar 1 p.c Y);rw[<-O,<-hv]at NK;have PG:=qh NK;have HC:=qh (λW (h:Hc) (k:bE W l a g q b u lo hi dl P T h) (p':Sp) (hp:h.S[i]? =some p') (hc:p'.c=p.c)=>And.intro k.c0 (And.intro k.c2 (show W.cell? ⟨q,i*4+3,none⟩=some (J p.c)by rw[<-hc];exact k.sp.cell hp 3 _ rfl)));have K1:=qh (k.below ((Below.refl _ w).drew));have H:=qh (And.intro hp I');have Wj:=k.sl;have Ys:=qh Wj;clear NK k hp I' O hv Wj;by_cases V:v=0
  all_goals
    have t0:(v==0)=decide (v=0):=(by by_cases h:v=0<;>simp[h]);first| rw[decide_eq_true V]at t0| rw[decide_eq_false V]at t0
    have HV:=qh V;clear V;go_enter func286,ntmps286;go_wp2_with fail
    go_region_held3 (λW=>W.cell? l=some ↑a/\Z W l 2 (J 1)/\Z W q (i*4+3) (J p.c))
      (first|with_reducible exact HC.o _ _ K1.o p H.o.1 rfl|with_reducible exact HC.o _ _ I.o p H.o.1 rfl|with_reducible exact XZ.o)
      (first
        | (go_at_call 271;go_loud (refine Pi (PG.o _ K1.o) λw4 a4=>?_);have I:=qh (K1.o.op a4.o.2 a4.o.1);have T4:=qh (((aa.refl [a,g,q,u] w).drew).trans (a4.o.2.mono (T:=[a,g,q,u]) ahz));have K5:=qh (I.o.putS (p':={p with a:=v}) H.o.1 (j:=1) (v:= J v) ahA rfl);have XZ:=qh (HC.o _ _ K5.o {p with a:=v} (by simp[Ys.o,ad]) rfl);have e1:=I.o.sp.cell H.o.1 1 _ rfl;have z1:=I.o.sp.free (i*4+1)))
    all_goals go_wp2;go_ret;rw[HX.o];first| exact⟨by rw[if_pos HV.o];rfl,K5.o,T4.o.trans (eh ⟨q,i*4+1,none⟩ _ rfl)⟩| exact⟨by rw[if_neg HV.o];rfl,K5.o,T4.o.trans (eh ⟨q,i*4+1,none⟩ _ rfl)⟩
def Iq(k:bE w l a g q b u lo hi dl P T h)(i:Nat)(ab:i<T.length)(p:Sp)(hp:h.S[i]? =some p)(Y:h.ar.ops+1<=1000000000000)(ha:0<=p.a/\p.a<9223372036854775808)(O:p.pc=5):E 287 #[↑l,J i] w (qc w l a g q b u lo hi dl P T h i p (bz (ac P).length T.length dl h (du P T i) i p)):=by
  obtain⟨_,HN,_⟩:=k.n32;have H:=k.nd;have Nh:u≠a:=by simp at H;omega
  have Ni:u≠g:=by simp at H;omega
  have MK:(i:Int)<T.length:=by omega
  have c3:=k.c3;have c5:=k.c5;have e1:=k.sp.cell hp 1 _ rfl;obtain⟨bb,V⟩:=LE (isB h.ar.W (2+((ac P).length:Int)) T.length p.a)
  have HX:Kq (bz (ac P).length T.length dl h (du P T i) i p=(isA h.ar (2+((ac P).length:Int)) T.length p.a,h.D,{p with pc:=if bb then 10 else 5})):=qh (by
    unfold bz
    rw[if_neg ahy,if_neg ahy,if_neg ahy,if_neg ahy,if_pos O,<-V])
  have I:=k.below ((Below.refl _ w).drew);have Tp:=isU I.ar I.tu Nh Ni p.a ha.1 ha.2 Y;rw[<-V]at Tp;have HI:=qh Tp;have YG:=qh I;have HP:=qh (And.intro hp O);clear k hp O Tp I H Nh Ni V ha;go_enter func287,ntmps287;go_wp2_with fail;refine wp_region_still_tail 12 ahB ahB ?_;refine akl ?_;change wpStill _ _ (World.drew _) _ _ _;repeat still_step
  refine wpStill_nil ?_;change wpList _ _ _ _ _ (World.drew w);go_wp2_with fail;refine Pi HI.o λw2 a2=>?_;have K2:=qh (YG.o.op a2.o.2 a2.o.1);have T2:=qh (((aa.refl [a,g,q,u] w).drew).trans (a2.o.2.mono (T:=[a,g,q,u]) ahz));cases bb;all_goals go_wp2;go_ret;rw[HX.o];refine⟨rfl,?_,T2.o⟩;have e:h.S.set i ({({p with pc:=0}:Sp)with pc:=p.pc}:Sp)=h.S:=pB HP.o.1;rw[show ∀x:Int,({({p with pc:=x}:Sp)with pc:=p.pc}:Sp)=p from λ_=>rfl,pB HP.o.1];exact K2.o
def Hv(k:bE w l a g q b u lo hi dl P T h)(i:Nat)(V:i<T.length)(p:Sp)(hp:h.S[i]? =some p)(Y:h.ar.ops+1<=1000000000000)(hd:0<=dv h.D i/\dv h.D i<1000000000)(I':p.pc=11):E 288 #[↑l,J i] w (qc w l a g q b u lo hi dl P T h i p (bz (ac P).length T.length dl h (du P T i) i p)):=by
  have H:=k.nd;have Nh:u≠a:=by simp at H;omega
  have Ni:u≠g:=by simp at H;omega
  have W7:q∉[a,g,u]:=by simp at H ⊢;omega
  have c3:=k.c3
  have HX:Kq (bz (ac P).length T.length dl h (du P T i) i p=(addA h.ar (2+((ac P).length:Int)+i) 1,h.D.set i (dv h.D i+1),{p with pc:=0})):=qh (by
    unfold bz
    rw[if_neg ahy,if_neg ahy,if_neg ahy,if_neg ahy,if_neg ahy])
  have HI:=qh (Hu k.ar k.tu Nh Ni i V hd Y);have O:=qh (And.intro k W7);have HP:=qh hp;clear k hp I' H Nh Ni W7;go_enter func288,ntmps288;go_wp2_with fail;refine Pi HI.o λw2 I=>?_;have K2:=qh (And.intro (O.o.1.next (I.o.2.2.mono (T:=[a,g,q,u]) ahz) I.o.1 (O.o.1.sp.turns I.o.2.2 O.o.2) I.o.2.1 O.o.1.sl) (I.o.2.2.mono (T:=[a,g,q,u]) ahz));go_wp2;go_ret;rw[HX.o];refine⟨rfl,?_,K2.o.2⟩;rw[show({({p with pc:=0}:Sp)with pc:=p.pc}:Sp)=p from rfl,pB HP.o];exact K2.o.1
end
end
section
open Go.RowKit
def E5(h:Hc):Prop:=h.ar.ops+1<=1000000000000/\∀j p,h.S[j]? =some p->(0<=dv h.D j/\dv h.D j<1000000000)/\(p.pc=2->1<=p.b/\p.b<=100000)/\(p.pc=5->0<=p.a/\p.a<9223372036854775808)
section
variable{l a g q b u lo hi:Nat}{h:Hc}
def GP(k:bE w l a g q b u lo hi dl P T h)(i:Int)(C:E5 h):E 280 #[↑l,J i] w (HOp w l a g q b u lo hi dl P T (fb (ac P).length T.length dl (du P T) h i)):=by
  have LN:=aP;have H:=qh k;obtain⟨_,HN,_⟩:=k.n32;have Ku:=k.sl;obtain⟨Y,Uo⟩:=C;obtain⟨p,hp⟩:=LE (getS h.S i);have HP:=qh hp;by_cases hc:okI h.S i/\iu p=true
  . obtain⟨V,hg⟩:=hc;have I:=dM V;rw[<-hp]at I;obtain⟨hd,Nv,Ug⟩:=Uo _ _ I;obtain⟨h0,h9⟩:=id V;obtain⟨n,rfl⟩:=Int.eq_ofNat_of_zero_le h0;simp only[Int.toNat_natCast]at I hd;rw[Ku]at h9;have hn:n<T.length:=(by omega);have PP:(n:Int)<T.length:=(by omega);obtain⟨y,hy⟩:=LE (bz (ac P).length T.length dl h (du P T n) n p)
    have HS:Kq (fb (ac P).length T.length dl (du P T) h n=(⟨y.1,y.2.1,h.S.set n y.2.2⟩,decide (y.2.2.pc=10\/y.2.2.pc=0))):=qh (by
      unfold fb;rw[<-HP.o,if_pos ⟨V,hg⟩];simp only[Int.toNat_natCast]
      rw[hy])
    rcases tp.1 hg with e|e|e|e|e|e
    all_goals
      first| have O:=λW (k:bE W l a g q b u lo hi dl P T h)=>GM k n hn p I Y hd e| have O:=λW (k:bE W l a g q b u lo hi dl P T h)=>JF k n hn p I (Nv e) e| have O:=λW (k:bE W l a g q b u lo hi dl P T h)=>JQ k n hn p I Y e| have O:=λW (k:bE W l a g q b u lo hi dl P T h)=>EO k n hn p I Y e| have O:=λW (k:bE W l a g q b u lo hi dl P T h)=>Iq k n hn p I Y (Ug e) e| have O:=λW (k:bE W l a g q b u lo hi dl P T h)=>Hv k n hn p I Y hd e
      rw[<-hy]at O;have HM:=qh O;first|(have u1:(p.pc==1)=true:=by simp[e])|(have u1:(p.pc==1)=false:=by simp[e])
      first|(have u2:(p.pc==2)=true:=by simp[e])|(have u2:(p.pc==2)=false:=by simp[e])
      first|(have u3:(p.pc==3)=true:=by simp[e])|(have u3:(p.pc==3)=false:=by simp[e])
      first|(have u4:(p.pc==4)=true:=by simp[e])|(have u4:(p.pc==4)=false:=by simp[e])
      first|(have u5:(p.pc==5)=true:=by simp[e])|(have u5:(p.pc==5)=false:=by simp[e])
      first|(have u6:(p.pc==11)=true:=by simp[e])|(have u6:(p.pc==11)=false:=by simp[e])
      have HG:=qh I;clear k hp I h0 h9 V hg hd Nv Ug Uo hy O e Ku;go_enter func280,ntmps280;go_wp2_with fail;refine ST (xU H.o n) λw1 b1=>?_;refine ajy ?_;intro H1;clear b1;go_wp2_with fail;refine(HM.o _ H1.o.1).mono ?_;rintro en w2 ⟨rfl,K2,t2⟩;have LW:(h.S.set n {y.2.2 with pc:=p.pc})[n]? =some {y.2.2 with pc:=p.pc}:=(by have:=(List.getElem?_eq_some_iff.1 HG.o).1;simp[this]);have c5:=K2.c5;have d0:=aaa (K2.sp.cell LW 0 _ rfl);have f0:=K2.sp.free (n*4);have hq:=K2.sp.lt;have K3:=K2.putS LW (j:=0) (v:= J y.2.2.pc) (p':=y.2.2) ahA rfl;simp only[Nat.add_zero,List.set_set]at K3;have H2:=qh (And.intro K3 (((aa.of_below H1.o.2).trans t2).trans (eh ⟨q,n*4,none⟩ (J y.2.2.pc) rfl)));clear K2 t2 LW K3;cases z1:(y.2.2.pc==10)
      . cases z0:(y.2.2.pc==0);. have HD:Kq (decide (y.2.2.pc=10\/y.2.2.pc=0)=false):=qh aie;go_wp2;go_ret;rw[HS.o];exact⟨az HD.o.symm,H2.o.1,H2.o.2⟩
        . have HD:Kq (decide (y.2.2.pc=10\/y.2.2.pc=0)=true):=qh aig;go_wp2;go_ret;rw[HS.o];exact⟨az HD.o.symm,H2.o.1,H2.o.2⟩
      . have HD:Kq (decide (y.2.2.pc=10\/y.2.2.pc=0)=true):=qh aif;go_wp2;go_ret;rw[HS.o];exact⟨az HD.o.symm,H2.o.1,H2.o.2⟩
  . have HS:Kq (fb (ac P).length T.length dl (du P T) h i=(h,false)):=qh (by unfold fb;rw[<-hp,if_neg hc])
    have hz:iu p=false:=by
      by_cases V:okI h.S i
      . cases hg:iu p;. rfl
        . exact absurd ⟨V,hg⟩ hc
      . rw[hp,dF V];rfl
    unfold iu at hz;simp only[Bool.or_eq_false_iff]at hz;obtain⟨⟨⟨⟨⟨u1,u2⟩,u3⟩,u4⟩,u5⟩,u6⟩:=hz;clear k hp hc Uo Ku;go_enter func280,ntmps280;go_wp2_with fail;refine ST (xU H.o i) λw1 b1=>?_;refine ajy ?_;intro H1;clear b1;go_wp2;go_ret;rw[HS.o];exact⟨rfl,H1.o.1,aa.of_below H1.o.2⟩
end
end
section
open Go.RowKit
theorem Tryz.infoSp:(prog.info? 113).map (λi=>(i.zero,i.size,i.bytes))=some (some (agg #[J 0,J 0,J 0,J 0]),4,32):=by kernel_rfl
def jV(u:Value)(n:Nat):(madeCells #[u,u,u,u] n).toList=List.replicate n u:=by exact aax
def mE(n:Nat):(List.replicate n Sp.zero).flatMap bm=List.replicate (n*4) (J 0):=by exact aay
def hc0(s:Ar)(nd n:Nat):Hc:=⟨{s with W:=List.replicate (1+nd+n) 0},List.replicate 32 0,List.replicate n Sp.zero⟩
def Fu(w:World)(a g:Nat)(s:Ar)(d:Int)(P T:List Int)(e:Ending)(w':World):Prop:=
 ∃l q b u lo hi,e= returned (tuple #[pointer (some ⟨l,0,none⟩),J 0])/\bE w' l a g q b u lo hi d P T (hc0 s (ac P).length T.length)/\w.heap.size<=l/\w.heap.size<=q/\w.heap.size<=b/\w.heap.size<=u/\aa [a] w w'/\w.heap.size<=lo
def Gn{a g:Nat}{s:Ar}(h:aB w a g s)(hs:s.W=[])(L4:a≠g)(vP vT:Value)(P T:List Int)(hP:RdL w vP 1 encI P)(hT:RdL w vT 1 encI T)(hc:a5 P T=0)(d:Int)(M':0<=d)(hd1:d<=1000)(V:s.room=4096):E 105 #[↑a,agg #[vP,vT],J d] w (Fu w a g s d P T):=by
  obtain⟨i0,hi,Kt,Kv,ab⟩:=info_parts Tryz.infoSp;have KY:=bj (aR hc).1;have NN:(ac P).length<=32:=by exact aaz
  refine ajz ?_;intro LV Me MG Mz;obtain⟨nd,O⟩:=LE ((ac P).length);have MD:=qh O;rw[<-O]at NN;have H:=qh (And.intro h (And.intro LV Me));have HN:=qh (i2 (w.alloc (cells #[vP,vT] 24)) vP vT P T (hP.alloc _) (hT.alloc _) hc);have OB:=λlo W b h=>Gt lo W b P T hc h;rw[<-O]at OB;have NJ:=qh OB;have HS:=qh (And.intro hs V);have HR:=qh (λW=>py d W M' hd1);refine akj ?_;intro hlo B0;have x1:IntKind.i64.wrap (1+(nd:Int))=1+nd:=IntWalk.i64_in _ ahy;clear h hs hP hT M' hd1 V KY OB O LV Me;go_enter func105,ntmps105;go_wp2_with fail;refine HN.o.mono ?_;rintro en w1 ⟨b,rfl,I,t1,b1⟩;rw[hlo]at I t1 b1;have K1:=qh (And.intro t1 (B0.o.trans (b1.mono ahy)));have HB:=qh I;clear t1 b1 I HN;go_wp2_with fail;refine LT (HR.o _) ?_;go_wp2_with fail;refine Pi (NJ.o _ _ _ K1.o.1) λw2 t2=>?_;have Kl:=K1.o.2.size;have Ko:=t2.o.2.size;have T2:aa [] w w2:=((aa.of_below (S:=[b]) K1.o.2).trans t2.o.2).fresh (by have:=HB.o;simp;omega);have A2:=H.o.1.turns T2 ahz ahz;have K2:=qh (And.intro t2.o.1 (And.intro T2 (And.intro A2 (Nat.le_trans Kl Ko))));clear Kl Ko T2 A2;go_wp2_with fail
  have HT:Kq (ef s (1+(nd:Int))=({s with W:=List.replicate (1+nd) 0},(1:Int),(0:Int))):=qh (by
    unfold ef
    rw[HS.o.1,HS.o.2,if_neg ahy,if_neg ahD,show(1+(nd:Int)).toNat=1+nd by omega];rfl)
  refine(gw K2.o.2.2.1 (1+(nd:Int))).mono ?_;rintro en w3 ⟨rfl,k3,t3⟩;rw[HT.o]at k3 ⊢;have Lc:=t3.size;have Q3:mo (w.heap.size+1) w2.heap.size w3 b P T:=K2.o.1.keep (λi h1 h2=>t3.block i h2 (by have:=H.o.2.1;simp;omega)) Lc;have K3:=qh (And.intro Q3 (And.intro (K2.o.2.1.mono (T:=[a]) ahz |>.trans t3) (And.intro k3 (Nat.le_trans K2.o.2.2.2 Lc))));have S2:=qh Lc;clear k3 t3 Q3 Lc;go_wp2_with fail;refine LT (eg _ _ _ _ K3.o.1.f.tab) ?_;go_wp2_with fail;refine(JZ K3.o.2.2.1 T.length MG Mz (by have:=HS.o.2;simp;omega)).mono ?_;rintro en w4 ⟨u,rfl,hu,k4,v4,t4⟩;have Ml:=t4.size;have Lf:=K3.o.1.high;have Q4:mo (w.heap.size+1) w2.heap.size w4 b P T:=K3.o.1.keep (λi h1 h2=>t4.block i (by have:=S2.o;omega) (by have:=H.o.2.1;simp;omega)) (by have:=S2.o;omega);have Y:=qh (And.intro Q4 (And.intro (K3.o.2.1.trans t4) (And.intro k4 (And.intro v4 (And.intro (show w3.heap.size<=u from hu) (show w3.heap.size<=w4.heap.size from Ml))))));have H4:=qh (show w2.heap.size<=w4.heap.size by have:=S2.o;omega);clear k4 v4 t4 Q4 Ml hu;go_wp2_with fail;refine LT (eg _ _ _ _ Y.o.1.f.tab) ?_;go_wp2_with (refine wpList_make_full _ rfl (.tmp 52) (.tmp 52) 237 rfl w4.heap.size 113 i0 (agg #[J 0,J 0,J 0,J 0]) 4 Tryz.underlying237 hi Kt Kv .i64 .i64 T.length T.length T.length rfl rfl rfl rfl ?b2 ?b3 (Nat.le_refl _) ?_);case b2=>rw[ab];omega
  case b3=>unfold maxLen;omega
  intro w5 r' hg;have I:dE w5 w4.heap.size (List.replicate T.length Sp.zero):=by exact aaA
  have t5:aa [] w4 w5:=aa.of_below ((Below.refl w4.heap.size w4).grown hg (Nat.le_refl _) (λj hj=>by cases hj));have NF:=I.lt;have H5:=qh (And.intro I t5);clear r' hg I t5;go_wp2;go_ret2;have t6:aa [] w4 (w5.alloc (cells #[↑a,pointer (some ⟨b,0,none⟩),J 1,↑u,J d,slice (some ⟨w4.heap.size,0,none⟩) T.length T.length] 260)):=H5.o.2.alloc _;have al:=S2.o;have ax:=Y.o.2.2.2.2.2;have ba:=Y.o.2.2.2.2.1;have bc:=K2.o.2.2.2;have Nw:=HB.o;have PZ:=Y.o.2.2.2.1.blk.lt;have NP:=H.o.2.1;have ad:=H.o.2.2;have XH:w5.heap.size+1=(w5.alloc (cells #[↑a,pointer (some ⟨b,0,none⟩),J 1,↑u,J d,slice (some ⟨w4.heap.size,0,none⟩) T.length T.length] 260)).heap.size:=by simp
  have k6:=Y.o.2.2.1.turns t6 ahz ahz;have u6:=Y.o.2.2.2.1.turns t6 ahz;have e1:(List.replicate (1+nd) (0:Int))++List.replicate T.length 0=List.replicate (1+(ac P).length+T.length) 0:=by rw[List.replicate_append_replicate,<-MD.o]
  refine⟨w5.heap.size,w4.heap.size,b,u,w.heap.size+1,w2.heap.size,rfl,⟨?_,?_,?_,?_,?_,?_,?_,?_,?_⟩,?_,?_,?_,?_,?_,by omega⟩;. unfold hc0;rw[<-e1];exact k6
  . exact Blk.new w5 _ _
  . exact H5.o.1.turns (T:=[]) ((aa.refl _ _).alloc _) ahz
  . have:(((List.replicate (1+nd) (0:Int)).length:Int)+1)=2+((ac P).length:Int):=(by rw[<-MD.o];simp;omega);rw[<-this];exact u6
  . exact Y.o.1.keep (λi h1 h2=>t6.block i ahy ahz) (by rw[<-XH];omega)
  . simp[hc0]
  . omega
  . simp;omega
  . simp;omega
  . omega
  . omega
  . omega
  . omega
  . exact Y.o.2.1.trans (t6.mono ahz)
end
section
open Go.RowKit
variable{a g:Nat}{s:Ar}
def G3(w:World)(a g:Nat)(s:Ar)(n:Nat)(e:Ending)(w':World):Prop:=
 ∃k,e= returned (tuple #[pointer (some ⟨k,0,none⟩),J 0])/\BnA w' ⟨k,a,g,s.W.length+1,n⟩ {s with W:=s.W++List.replicate (2+n) 0} ⟨0,0,0,0⟩/\w.heap.size<=k/\k<w'.heap.size/\aa [a] w w'
def JX(h:aB w a g s)(n:Nat)(h1:1<=n)(Y:n<=32)(V:s.W.length+(2+n)<=s.room):E 147 #[↑a,J n] w (G3 w a g s n):=by
  have t1:¬(n:Int)<1:=by omega
  have t2:¬32<(n:Int):=by omega
  have OO:=h.room;have x1:IntKind.i64.wrap (2+(n:Int))=2+(n:Int):=IntWalk.i64_in _ ahy
  have O:Kq (ef s (2+(n:Int))=({s with W:=s.W++List.replicate (2+n) 0},(s.W.length:Int)+1,(0:Int))):=qh (by
    unfold ef
    rw[if_neg ahy,if_neg ahy,show(2+(n:Int)).toNat=2+n by omega])
  have H:=qh (And.intro h (And.intro h.blk.lt h.wds.lt));have I:=qh V;clear h V;go_enter func147,ntmps147;go_wp2_with fail;refine(gw H.o.1 (2+(n:Int))).mono ?_;rintro en w1 ⟨rfl,k1,u1⟩;rw[O.o]at k1 ⊢;have H1:=qh (And.intro k1 u1);clear k1 u1;go_wp2;go_ret2;have hs:=H1.o.2.size;have t:aa [] w1 (w1.alloc (cells #[↑a,J ((s.W.length:Int)+1),J n,J 0,J 0,J 0,J 0] 326)):=(aa.refl _ _).alloc _;refine⟨w1.heap.size,rfl,⟨H1.o.1.turns t ahz ahz,Blk.new _ _ _,⟨by have:=H.o.2.1;show w1.heap.size≠a;omega,by have:=H.o.2.2;show w1.heap.size≠g;omega⟩,⟨by have:=I.o;show s.W.length+1<=5000;omega,Y⟩,by unfold BnB;simp⟩,hs,by simp,H1.o.2.alloc _⟩
def ma0(s:Ar)(n:Nat):Mal:=⟨{s with W:=List.replicate (4+3*n) 0},⟨0,0,0,0⟩,0,List.replicate n Sp.zero⟩
def G6(w:World)(a g:Nat)(s:Ar)(bud:Int)(n:Nat)(e:Ending)(w':World):Prop:=
 ∃c:Mx,e= returned (tuple #[↑c.l,J 0])/\bV w' c bud (ma0 s n)/\(c.b.a=a/\c.b.g=g/\c.b.n=n/\(c.b.F:Int)=maF n)/\w.heap.size<=c.l/\w.heap.size<=c.q/\w.heap.size<=c.b.k/\aa [a] w w'
def JY(h:aB w a g s)(hs:s.W=[])(L4:a≠g)(H vT:Value)(P T:List Int)(hP:RdL w H 1 encI P)(hT:RdL w vT 1 encI T)(hc:a5 P T=0)(bud:Int)(Kn:0<=bud)(KI:bud<=1000)(V:s.room=4096):E 107 #[↑a,agg #[H,vT],J bud] w (G6 w a g s bud T.length):=by
  obtain⟨i0,hi,Kt,Kv,ab⟩:=info_parts Tryz.infoSp;obtain⟨h1,h2⟩:1<=T.length/\T.length<=32:=by have:=bj (aR hc).1;exact⟨this.2.2.1,this.2.2.2⟩
  have HC:=qh (kA (w.alloc (cells #[H,vT] 24)) H vT P T (hP.alloc _) (hT.alloc _));obtain⟨AT,cT,rfl,QA,QB⟩:=cj hT;have HA:=qh (And.intro h (And.intro h.blk.lt h.wds.lt));have HR:=qh (λW=>py bud W Kn KI);have Y:(w.alloc (cells #[H,.slice AT T.length cT] 24)).heap.size=w.heap.size+1:=by simp
  have B0:=qh ((Below.refl w.heap.size w).alloc (Nat.le_refl _) (cells #[H,.slice AT T.length cT] 24));obtain⟨n,hn⟩:=LE T.length;rw[<-hn]at h1 h2 HC B0 Y QA QB ⊢;have Mq:=qh (And.intro hc hn);have HH:=qh (And.intro hs (And.intro V (And.intro L4 (And.intro Kn KI))));have x1:IntKind.i64.wrap (2*(n:Int))=2*(n:Int):=IntWalk.i64_in _ ahy;have x2:IntKind.i64.wrap (2+2*(n:Int))=2+2*(n:Int):=IntWalk.i64_in _ ahy
  have HT:Kq (ef s (2+2*(n:Int))=({s with W:=List.replicate (2+2*n) 0},(1:Int),(0:Int))):=qh (by
    unfold ef
    rw[hs,V,if_neg ahy,if_neg ahD,show(2+2*(n:Int)).toNat=2+2*n by omega];rfl)
  clear h hP hT hc hs V L4 Kn KI hn;go_enter func107,ntmps107;go_wp2_with fail;refine ST HC.o λw1 b1=>?_;rw[Mq.o.1];have Ny:Z w1 w.heap.size 1 (.slice AT n cT):=by have:=(Blk.new w 24 #[H,.slice AT n cT]).cell 1;rw[<-(aa.of_below (S:=[]) b1).cellC (p:=⟨w.heap.size,1,none⟩) ahz ahz]at this;exact this
  rw[Y]at b1;have B1:=qh (B0.o.trans (b1.mono ahy));clear b1 HC;go_wp2_with fail;refine LT (HR.o _) ?_;go_wp2_with fail;refine(gw (HA.o.1.turns (aa.of_below (S:=[]) B1.o) ahz ahz) (2+2*(n:Int))).mono ?_;rintro en w2 ⟨rfl,k2,u2⟩;rw[HT.o]at k2 ⊢;have H2:=qh (And.intro k2 ((aa.of_below (S:=[a]) B1.o).trans u2));clear k2 u2 Ny;go_wp2_with fail;refine(JX H2.o.1 n h1 h2 (by have:=HH.o.2.1;simp;omega)).mono ?_;rintro en w3 ⟨k,rfl,kb,O,KJ,u3⟩;have H3:=qh (And.intro kb (And.intro O (And.intro KJ (H2.o.2.trans u3))));clear kb O KJ u3;go_wp2_with (refine wpList_make_full _ rfl (.tmp 48) (.tmp 48) 237 rfl w3.heap.size 113 i0 (agg #[J 0,J 0,J 0,J 0]) 4 Tryz.underlying237 hi Kt Kv .i64 .i64 n n n rfl rfl rfl rfl ?b2 ?b3 (Nat.le_refl _) ?_);case b2=>rw[ab];omega
  case b3=>unfold maxLen;omega
  intro w5 r' hg;have I:dE w5 w3.heap.size (List.replicate n Sp.zero):=by unfold dE;rw[mE];have:=fY r';rw[show(madeCells #[Value.int .i64 0,J 0,J 0,J 0] (n*4)).toList=List.replicate (n*4) (J 0)from jV _ _]at this;exact this
  have t5:aa [] w3 w5:=aa.of_below ((Below.refl w3.heap.size w3).grown hg (Nat.le_refl _) (λj hj=>by cases hj));have H5:=qh (And.intro I t5);clear r' hg I t5;go_wp2;go_ret2;have NF:=H5.o.1.lt;have Ko:=H2.o.2.size;have NP:=HA.o.2.1;have ad:=HA.o.2.2;obtain⟨_,O,KJ,Xh⟩:=H3.o;have Lc:=Xh.size;obtain⟨L,hL⟩:∃L:Obj,L=(cells #[↑a,J 1,J bud,↑k,J 0,slice (some ⟨w3.heap.size,0,none⟩) n n] 269):=⟨_,rfl⟩;have t6:aa [] w3 (w5.alloc L):=H5.o.2.alloc _;have k6:=H3.o.1.turns t6 ahz ahz ahz;have XK:=H5.o.1.turns (T:=[]) ((aa.refl _ _).alloc L) ahz;have tt:=Xh.trans (t6.mono (T:=[a]) ahz);have al:=Mq.o.2;rw[hL]at k6 XK tt;refine⟨⟨w5.heap.size,w3.heap.size,⟨k,a,g,3+2*n,n⟩⟩,rfl,⟨?_,Blk.new _ _ _,XK,by show(List.replicate n Sp.zero).length=n;simp,?_,HH.o.2.2.2⟩,⟨rfl,rfl,rfl,by unfold maF;simp⟩,by show w.heap.size<=w5.heap.size;omega,by show w.heap.size<=w3.heap.size;omega,by show w.heap.size<=k;omega,tt⟩;. have e:(List.replicate (2+2*n) (0:Int)).length+1=3+2*n:=(by simp;omega);have e2:List.replicate (2+2*n) (0:Int)++List.replicate (2+n) 0=List.replicate (4+3*n) 0:=(by rw[List.replicate_append_replicate,show 2+2*n+(2+n)=4+3*n by omega]);rw[e]at k6;simp only[e2]at k6;exact k6
  . unfold mS;have:=HH.o.2.2.1;simp;omega
def Iw(s:Ar)(h1:1<=n):MaS n (ma0 s n):=by
 have e:∀i,sv (List.replicate n Sp.zero) i=Sp.zero:=λi=>by unfold sv;simp[List.getD_eq_getElem?_getD,List.getElem?_replicate];split<;>rfl
 have w0:∀y,ldW (List.replicate (4+3*n) (0:Int)) y=0:=λy=>by
  unfold ldW;split;.simp[List.getD_eq_getElem?_getD,List.getElem?_replicate];split<;>rfl
  .rfl
 refine⟨⟨h1,?_,?_,?_,?_,?_,?_,?_,?_,?_,?_,?_,?_,?_⟩,by simp[ma0],by simp[ma0]⟩;all_goals simp only[ma0,e,w0,ku]
 all_goals try simp only[Sp.zero]
 all_goals first|omega|(intros;omega)
end
section
open Go Go.RowKit
def Dq(F:Int)(s:Ar)(b:Bn):(bnS F s b).1.ops<=s.ops+1:=by
 unfold bnS;repeat' split
 all_goals first|exact ij _ _ _|exact iW _ _|simp
theorem Em(n:Nat)(bud:Int)(h:Mal)(i:Nat)(p:Sp):(maP n bud h i p).1.ops<=h.ar.ops+1:=by
 have I:=Dq (maF n) h.ar h.bn;have h1:=λx v=>ij h.ar x v;have H:=λx=>iW h.ar x;have V:=λx o v=>oj h.ar x o v;have Y:=λx v=>jI h.ar x v;have O:=λx v=>fd h.ar x v;unfold maP;split
 .unfold fj;repeat' split
  all_goals first|exact h1 _ _|exact H _|exact O _ _
 .unfold dB;grind (splits:=40)
def ph(n:Nat)(bud:Int)(h:Mal)(i:Nat):(dU n bud h i).1.ar.ops<=h.ar.ops+1:=by
 unfold dU;split;.simp
 .exact Em n bud h i _
def nA(h:Mal)(i:Nat)(u v:Int):(io h i u v).ar=h.ar:=by unfold io;split<;>rfl
def maV(l:Nat):Value:= .iface 181 (agg #[.iface 185 ↑l])
def xH(n:Nat)(bud:Int):LkM n where
 σ:=Mal
 β:=Mx×Nat×Nat
 ok:=λst N=>MaS n st/\st.ar.ops<=N
 ar:=λst=>st.ar
 sp:=λst i=>sv st.S i
 cn:=λst i=>if (sv st.S i).pc=10 then 1 else 0
 rd:=false
 step:=λst i=>(dU n bud st i).1
 ask:=λst i r=>if r then st else io st i 0 1
 leave:=λst i=>io st i 10 11
 bt:=λb=>b.2.1
 hi:=λb=>b.2.2
 fp:=λb=>mS b.1
 is:=fun(b:Mx×Nat×Nat) w a g lb (st:Mal)=>bV w b.1 bud st/\(b.1.b.a=a/\b.1.b.g=g/\b.1.b.n=n/\(b.1.b.F:Int)=maF n)/\jH w lb n 10 (maV b.1.l) (mS b.1) b.2.1 b.2.2
def bV.far{c:Mx}{h:Mal}(k:bV w c bud h)(t:aa S w w')(H:∀x∈mS c,x∉S):bV w' c bud h:=by unfold mS at H;simp only[List.mem_cons,List.not_mem_nil,or_false,forall_eq_or_imp,forall_eq]at H;obtain⟨h1,I,O,V,Y⟩:=H;exact {k with bn:=k.bn.turns t V Y O,lk:=t.blk k.lk h1,sp:=k.sp.turns t I}
def tI(n:Nat)(bud:Int)(st:Mal)(i:Nat)(hi:i<st.S.length):(dU n bud st i).2=dm (sv st.S i) (sv (dU n bud st i).1.S i):=by
 unfold dU dm;by_cases h:(sv st.S i).pc=0\/(sv st.S i).pc=10;.rw[if_pos h];symm;exact decide_eq_false (λq=>by omega)
 .rw[if_neg h];simp only[bh,hi,and_true,if_true];by_cases c:(maP n bud st i (sv st.S i)).2.2.2.pc=0\/(maP n bud st i (sv st.S i)).2.2.2.pc=10;.exact aaB
  .exact aaC
def vC(bud:Int)(hn:1<=n/\n<=32):(xH n bud).Good where
 n32:=hn
 okS:=fun(st:Mal) N i h _ hi=>⟨h.1.step bud hi,Nat.le_trans (ph n bud st i) (by have:=h.2;omega)⟩
 okA:=fun(st:Mal) N i r h _ hi=>by
  show MaS n (if r then st else io st i 0 1)/\_
  cases r
  .refine⟨?_,?_⟩
   .show MaS n (io st i 0 1)
    unfold io
    split
    .rename_i e;exact h.1.beg e (.inl ⟨rfl,rfl⟩)
    .exact h.1
   .show(io st i 0 1).ar.ops<=_
    rw[nA];have:=h.2;omega
  .exact⟨h.1,by have:=h.2;show st.ar.ops<=_;omega⟩
 okL:=fun(st:Mal) N i h _ hi=>by
  refine⟨?_,?_⟩
  .show MaS n (io st i 10 11)
   unfold io
   split
   .rename_i e;exact h.1.beg e (.inr ⟨rfl,rfl⟩)
   .exact h.1
  .show(io st i 10 11).ar.ops<=_
   rw[nA];have:=h.2;omega
 okm:=fun(st:Mal) N h=>⟨h.1,by have:=h.2;omega⟩
 one:=fun(st:Mal) N i j h hi hj h1 h2 _=>h.1.one hi hj h1 h2
 pcs:=fun(st:Mal) N i h hi=>by have:=h.1.i.pcs i hi;show 0<=(sv st.S i).pc;omega
 cnt:=fun(st:Mal) N i h hi=>by
  exact aaD
 opsS:=fun(st:Mal) N i _ _ _=>ph n bud st i
 arA:=fun(st:Mal) i r=>by cases r;exact nA _ _ _ _;rfl
 arL:=fun(st:Mal) i=>nA _ _ _ _
 ais:=fun(b:Mx×Nat×Nat) w a g lb (st:Mal) h=>by obtain⟨k,⟨rfl,rfl,_⟩,_⟩:=h;exact k.bn.ar
 lk:=fun(b:Mx×Nat×Nat) w a g lb (st:Mal) h=>h.2.2.c1
 kd:=fun(b:Mx×Nat×Nat) w a g lb (st:Mal) h=>⟨10,h.2.2.blk.cell 0,rfl⟩
 fpa:=fun(b:Mx×Nat×Nat) w a g lb (st:Mal) h=>⟨λx O=>(h.2.2.fl x O).2,h.2.2.hw⟩
 far:=fun(b:Mx×Nat×Nat) w a g lb (st:Mal) w' S h t hS=>⟨h.1.far t (λx O m=>by have h9:b.2.2<=x\/x<b.2.1:=hS x m;have:=h.2.2.fl x O;omega),h.2.1,h.2.2.far t hS⟩
 cS:=fun(b:Mx×Nat×Nat) w a g lb (st:Mal) N i h hk hN hi=>by
  obtain⟨k,hc,hd⟩:=h
  refine(oJ .ma hd.c1 hd.c2 hi (R:=λr w'=>r=dm (sv st.S i) (sv (dU n bud st i).1.S i)/\bV w' b.1 bud (dU n bud st i).1/\aa (mS b.1) w w') λW bw=>?_).mono ?_
  .obtain⟨-,-,I,Y⟩:=hc
   have:=Jg (k.below bw) (by rw[I];exact hk.1) (by rw[I];exact Y) (by have:=hk.2;unfold lkB at hN;omega) i ahy
   rw[I]at this
   refine ST this λw' H=>?_
   exact⟨_,rfl,tI n bud st i (by rw[k.sl,I];exact hi),H.is,(aa.of_below bw).trans H.tn⟩
  .exact aaE
 cA:=fun(b:Mx×Nat×Nat) w a g lb (st:Mal) N i r h hk hN hi=>by
  obtain⟨k,hc,hd⟩:=h
  refine(yL .ma hd.c1 hd.c2 hi r (R:=λq w'=>q=decide ((sv st.S i).pc=0/\(r=true->(false:Bool)=true))/\bV w' b.1 bud (if r then st else io st i 0 1)/\aa (mS b.1) w w') (λV W bw=>?_) (λV W bw=>?_)).mono ?_
  .subst V
   refine ST (JP (k.below bw) i (by have:=hc.2.2.1;omega)) λw' H=>?_
   exact⟨_,rfl,by simp,H.is,(aa.of_below bw).trans H.tn⟩
  .exact aaF
  .exact aaE
 cL:=fun(b:Mx×Nat×Nat) w a g lb (st:Mal) N i h hk hN hi=>by
  obtain⟨k,hc,hd⟩:=h
  refine(kU .ma hd.c1 hd.c2 hi (R:=λq w'=>q=decide ((sv st.S i).pc=10)/\bV w' b.1 bud (io st i 10 11)/\aa (mS b.1) w w') λW bw=>?_).mono ?_
  .refine ST (F8 (k.below bw) i (by have:=hc.2.2.1;omega)) λw' H=>?_
   exact⟨_,rfl,rfl,H.is,(aa.of_below bw).trans H.tn⟩
  .exact aaE
 cP:=fun(b:Mx×Nat×Nat) w a g lb (st:Mal) i h hi=>oI .ma h.2.2.c1 h.2.2.c2 hi _ λW bw=>CV (h.1.below bw) i (by have:=h.2.1.2.2.1;omega)
 cC:=fun(b:Mx×Nat×Nat) w a g lb (st:Mal) i h hi=>oH .ma h.2.2.c1 h.2.2.c2 hi _ λW bw=>CV (h.1.below bw) i (by have:=h.2.1.2.2.1;omega)
end
section
open Go.RowKit
def HOk.cond{nd:Nat}{h:Hc}(k:HOk nd n dl node h N G)(hN:N<1000000)(hd:dl<=3):E5 h:=by
 refine⟨by have:=k.ops;omega,λj p H=>?_⟩;have V:j<n:=by rw[<-k.iv.sl];exact(List.getElem?_eq_some_iff.1 H).1
 have e:sv h.S j=p:=by unfold sv;rw[List.getD_eq_getElem?_getD,H];rfl
 subst e;have hn:=k.iv.n32;refine⟨⟨k.iv.d0 j,by have:=k.dn j;omega⟩,λI=>?_,λh5=>?_⟩;.have h1:=k.bb j V I;have Y:=k.iv.at234 V (.inl I);rcases k.iv.mast j (ib Y)with⟨h4|h4,_⟩|⟨h4,_⟩<;>omega
 .rcases k.iv.at5 V h5 with⟨q,p,_,H,O⟩|⟨_,t,d,ht,h1,I,O⟩
  .rw[O];have:=k.iv.d0 p;have:=k.dn p;have:=k.iv.lt _ _ H;unfold tokH;omega
  .rw[O];have:=k.dn t;unfold tokH;omega
section
variable{w0:World}{l a g q b u lo hi:Nat}{d:Int}{h h':Hc}{M:Nat}{G':Nat->List Nat}
end
end
section
open Go Go.RowKit
def hcV(l:Nat):Value:= .iface 181 (agg #[.iface 177 ↑l])
structure HcB where
 l:Nat
 a:Nat
 g:Nat
 q:Nat
 b:Nat
 u:Nat
 lo:Nat
 h1:Nat
 bt:Nat
 hi:Nat
def lw(p:Sp):Prop:=(0<=p.pc/\p.pc<=5)\/p.pc=10\/p.pc=11
def nW(dl:Int)(P T:List Int)(st:Hc)(N:Nat):Prop:=(∃G,HOk (ac P).length T.length dl (du P T) st N G)/\∀i,lw (sv st.S i)
def hcS(dl:Int)(P T:List Int)(st:Hc)(i:Nat):Hc:=(fb (ac P).length T.length dl (du P T) st i).1
def Eg(dl:Int)(P T:List Int):LkM T.length where
 σ:=Hc
 β:=HcB
 ok:=nW dl P T
 ar:=λst=>st.ar
 sp:=λst i=>sv st.S i
 cn:=λst i=>if (sv st.S i).pc=10 then 1 else 0
 rd:=false
 step:=hcS dl P T
 ask:=λst i r=>if r then st else(bv st i 0 1).1
 leave:=λst i=>(bv st i 10 11).1
 bt:=λb=>b.bt
 hi:=λb=>b.hi
 fp:=λb=>[b.a,b.g,b.q,b.u]
 is:=λb w a g lb st=>bE w b.l a g b.q b.b b.u b.lo b.h1 dl P T st/\(b.a=a/\b.g=g)/\jH w lb T.length 8 (hcV b.l) [b.a,b.g,b.q,b.u] b.bt b.hi/\(b.bt<=b.l/\b.l<b.hi)/\b.bt<=b.lo/\b.h1<=b.hi
def qX(st:Hc)(i:Nat)(hi:i<st.S.length)(u v:Int):(bv st i u v).1=(if (sv st.S i).pc=u then⟨st.ar,st.D,st.S.set i {sv st.S i with pc:=v}⟩else st)/\(bv st i u v).2=decide ((sv st.S i).pc=u):=by unfold bv;rw[gn hi,Int.toNat_natCast];exact aa9
def tx{nd:Nat}(st:Hc)(i:Nat)(hi:i<st.S.length):(fb nd n dl node st i).2=dm (sv st.S i) (sv (fb nd n dl node st i).1.S i):=by
 unfold fb;rw[gn hi,Int.toNat_natCast];unfold dm;split
 .rename_i h;have hg:=h.2;unfold iu at hg;simp only[Bool.or_eq_true,beq_iff_eq]at hg;simp only[gh hi,if_true];by_cases c:(bz nd n dl st (node i) i (sv st.S i)).2.2.pc=10\/(bz nd n dl st (node i) i (sv st.S i)).2.2.pc=0;.exact aaB
  .exact aaC
 .exact aba
theorem zy(nd n:Nat)(dl:Int)(h:Hc)(I i:Nat)(p:Sp)(H:iu p=true):lw (bz nd n dl h I i p).2.2:=by
 unfold iu at H;simp only[Bool.or_eq_true,beq_iff_eq]at H;unfold bz lw;repeat' split
 all_goals (simp only;grind)
def nW.le{st:Hc}(h:nW dl P T st N):nW dl P T st (N+1):=⟨h.1.imp λ_ k=>k.le ahy,h.2⟩
def bE.far{l a g q b u lo hi:Nat}{h:Hc}(k:bE w l a g q b u lo hi dl P T h)(t:aa S w w')(H:∀x∈[l,a,g,q,u],x∉S)(hh:∀x∈S,x<lo\/hi<=x):bE w' l a g q b u lo hi dl P T h:=by simp only[List.mem_cons,List.not_mem_nil,or_false,forall_eq_or_imp,forall_eq]at H;obtain⟨h1,I,O,V,Y⟩:=H;exact⟨k.ar.turns t I O,t.blk k.lk h1,k.sp.turns t V,k.tu.turns t Y,k.tab.keep (λi Zy MK=>t.block i (by have:=k.hs;omega) λhm=>by have:=hh i hm;omega) (Nat.le_trans k.hs t.size),k.sl,Nat.le_trans k.hs t.size,k.nd,k.o⟩
def yZ(hc:a5 P T=0)(hd:0<=dl/\dl<=3):(Eg dl P T).Good where
 n32:=by have:=bj (aR hc).1;exact⟨this.2.2.1,this.2.2.2⟩
 okS:=fun(st:Hc) N i h hN hi=>by
  obtain⟨⟨G,k⟩,hp⟩:=h
  obtain⟨Y,k',KM⟩:=k.stepI hN (i:Int)
  refine⟨⟨Y,k'⟩,λj=>?_⟩
  show lw (sv (fb _ _ _ _ st i).1.S j)
  have hl:i<st.S.length:=by rw[k.iv.sl];exact hi
  unfold fb
  rw[gn hl,Int.toNat_natCast]
  split
  .rename_i e
   show lw (sv (st.S.set i _) j)
   rw[gh hl]
   split
   .exact zy _ _ _ _ _ _ _ e.2
   .exact hp j
  .exact hp j
 okA:=fun(st:Hc) N i r h hN hi=>by
  cases r
  .obtain⟨⟨G,k⟩,hp⟩:=h
   have hl:i<st.S.length:=by rw[k.iv.sl];exact hi
   refine⟨⟨G,(k.beginI (i:Int) 0 1 (.inl ⟨rfl,rfl⟩)).1.le ahy⟩,λj=>?_⟩
   show lw (sv (bv st i 0 1).1.S j)
   rw[(qX st i hl 0 1).1]
   exact abb
  .exact nW.le h
 okL:=fun(st:Hc) N i h hN hi=>by
  obtain⟨⟨G,k⟩,hp⟩:=h
  have hl:i<st.S.length:=by rw[k.iv.sl];exact hi
  refine⟨⟨G,(k.beginI (i:Int) 10 11 (.inr ⟨rfl,rfl⟩)).1.le ahy⟩,λj=>?_⟩
  show lw (sv (bv st i 10 11).1.S j)
  rw[(qX st i hl 10 11).1]
  exact abb
 okm:=fun(st:Hc) N h=>nW.le h
 one:=fun(st:Hc) N i j h hi hj h1 h2 _=>by obtain⟨⟨G,k⟩,_⟩:=h;exact k.hold1 hi hj h1 h2
 pcs:=fun(st:Hc) N i h hi=>by have:=h.2 i;unfold lw at this;show 0<=(sv st.S i).pc;omega
 cnt:=fun(st:Hc) N i h hi=>by
  exact aaD
 opsS:=fun(st:Hc) N i h hN hi=>by
  obtain⟨⟨G,k⟩,_⟩:=h
  obtain⟨Y,_,_,h3,_⟩:=k.act hN 0 (i:Int)
  exact h3
 arA:=fun(st:Hc) i r=>by
  cases r
  .show(bv st i 0 1).1.ar=st.ar
   unfold bv;split<;>rfl
  .rfl
 arL:=fun(st:Hc) i=>by
  show(bv st i 10 11).1.ar=st.ar
  unfold bv;split<;>rfl
 ais:=fun(b:HcB) w a g lb (st:Hc) h=>h.1.ar
 lk:=fun(b:HcB) w a g lb (st:Hc) h=>h.2.2.1.c1
 kd:=fun(b:HcB) w a g lb (st:Hc) h=>⟨8,h.2.2.1.blk.cell 0,rfl⟩
 fpa:=fun(b:HcB) w a g lb (st:Hc) h=>⟨λx H=>(h.2.2.1.fl x H).2,h.2.2.1.hw⟩
 far:=fun(b:HcB) w a g lb (st:Hc) w' S h t hS=>by
  obtain⟨k,⟨rfl,rfl⟩,hd,hl,hh⟩:=h
  have O:∀x∈S,b.hi<=x\/x<b.bt:=hS
  have hf:=hd.fl
  refine⟨k.far t (λx H m=>?_) (λx H=>by have:=O x H;omega),⟨rfl,rfl⟩,hd.far t O,hl,hh⟩
  have:=O x m
  rcases List.mem_cons.1 H with rfl|H
  .omega
  .have:=hf x H;omega
 cS:=fun(b:HcB) w a g lb (st:Hc) N i h hk hN hi=>by
  obtain⟨k,⟨rfl,rfl⟩,NT,hl,hh⟩:=h
  obtain⟨⟨G,ko⟩,_⟩:=hk
  refine(oJ .hc NT.c1 NT.c2 hi (R:=λr w'=>r=dm (sv st.S i) (sv (hcS dl P T st i).S i)/\bE w' b.l b.a b.g b.q b.b b.u b.lo b.h1 dl P T (hcS dl P T st i)/\aa [b.a,b.g,b.q,b.u] w w') λW bw=>?_).mono ?_
  .refine(GP (k.below bw) (i:Int) (ko.cond hN hd.2)).mono ?_
   rintro e w' ⟨rfl,k2,t2⟩
   exact⟨_,rfl,tx st i (by rw[k.sl];exact hi),k2,(aa.of_below bw).trans t2⟩
  .exact abc
 cA:=fun(b:HcB) w a g lb (st:Hc) N i r h hk hN hi=>by
  obtain⟨k,⟨rfl,rfl⟩,NT,hl,hh⟩:=h
  have I:i<st.S.length:=by rw[k.sl];exact hi
  refine(yL .hc NT.c1 NT.c2 hi r (R:=λq w'=>q=decide ((sv st.S i).pc=0/\(r=true->(false:Bool)=true))/\bE w' b.l b.a b.g b.q b.b b.u b.lo b.h1 dl P T (if r then st else(bv st i 0 1).1)/\aa [b.a,b.g,b.q,b.u] w w') (λV W bw=>?_) (λV W bw=>?_)).mono ?_
  .subst V
   refine(Hb (k.below bw) (i:Int)).mono ?_
   rintro e w' ⟨rfl,k2,t2⟩
   exact⟨_,rfl,by rw[(qX st i I 0 1).2];simp,k2,(aa.of_below bw).trans t2⟩
  .exact aaF
  .exact abc
 cL:=fun(b:HcB) w a g lb (st:Hc) N i h hk hN hi=>by
  obtain⟨k,⟨rfl,rfl⟩,NT,hl,hh⟩:=h
  have I:i<st.S.length:=by rw[k.sl];exact hi
  refine(kU .hc NT.c1 NT.c2 hi (R:=λq w'=>q=decide ((sv st.S i).pc=10)/\bE w' b.l b.a b.g b.q b.b b.u b.lo b.h1 dl P T (bv st i 10 11).1/\aa [b.a,b.g,b.q,b.u] w w') λW bw=>?_).mono ?_
  .refine(Eb (k.below bw) (i:Int)).mono ?_
   rintro e w' ⟨rfl,k2,t2⟩
   exact⟨_,rfl,(qX st i I 10 11).2,k2,(aa.of_below bw).trans t2⟩
  .exact abc
 cP:=fun(b:HcB) w a g lb (st:Hc) i h hi=>oI .hc h.2.2.1.c1 h.2.2.1.c2 hi _ λW bw=>by
  exact abd
 cC:=fun(b:HcB) w a g lb (st:Hc) i h hi=>oH .hc h.2.2.1.c1 h.2.2.1.c2 hi _ λW bw=>by
  exact abd
end
section
open Go.RowKit
theorem Tryz.infoInC:(prog.info? 3).map (λi=>(i.zero,i.size,i.bytes))=some (some (J 0),1,8):=by kernel_rfl
def G7(w:World)(a:Nat)(nd:List Int)(e:Ending)(w':World):Prop:=
 ∃k n1 b0 b1 b2,e= returned (pointer (some ⟨k,0,none⟩))/\cW w' k n1 (.func (.func 172) #[] #[pointer (some ⟨b0,0,none⟩),pointer (some ⟨b1,0,none⟩),pointer (some ⟨b2,0,none⟩)]) nd ⟨0,false,0,0,0⟩/\
  Blk w' b0 29 #[↑a]/\Blk w' b1 3 #[J 3]/\Blk w' b2 3 #[J 3]/\(w.heap.size<=b0/\w.heap.size<=b1/\w.heap.size<=b2/\w.heap.size<=n1/\b0<k/\b1<k/\b2<k/\n1<k)/\Below w.heap.size w w'
def IK(w:World)(a nb cap:Nat)(nd:List Int)(NN:1<=nd.length/\nd.length<=32)(PV:∀m,m<nd.length->Z w nb m (J (ndf nd m))):E 145 #[↑a,J 3,J 3,slice (some ⟨nb,0,none⟩) nd.length cap] w (G7 w a nd):=by
  have ZS:∀(fn:Fn) (first cap:Array Value) (w:World),(Instr.makeFunc fn first cap).run prog w= .ok (.func fn first cap) w:=λ_ _ _ _=>rfl;obtain⟨i0,ab,ad,al,ax⟩:=info_parts Tryz.infoInC;obtain⟨_,hn⟩:=NN;have HR:=qh PV;have WU:nb<w.heap.size:=aM (PV 0 ahy);obtain⟨h,Y⟩:=LE (((w.alloc (cells #[↑a] 29)).alloc (cells #[J 3] 3)).alloc (cells #[J 3] 3));have KR:h.heap.size=w.heap.size+3:=by rw[Y];simp
  have I:=qh (show Below w.heap.size w h/\Blk h w.heap.size 29 #[↑a]/\Blk h (w.heap.size+1) 3 #[J 3]/\Blk h (w.heap.size+1+1) 3 #[J 3]from by
    rw[Y]
    refine⟨(((Below.refl _ _).alloc (Nat.le_refl _) _).alloc ahz _).alloc ahD _,((Blk.new _ _ _).alloc _).alloc _,(Blk.new' _ _ _ ahz).alloc _,Blk.new' _ _ _ ahz⟩)
  have HW:=qh Y;have Yr:=qh KR;clear KR;clear PV;go_enter func145,ntmps145;go_upto_region 1 with fail;rw[<-HW.o];clear Y;go_wp2_with (refine wpList_make_full _ rfl (.tmp 11) (.tmp 11) 22 rfl h.heap.size 3 i0 (J 0) 1 Tryz.underlying22 ab ad al .i64 .i64 nd.length nd.length nd.length rfl rfl rfl rfl ?b2 ?b3 (Nat.le_refl _) ?_);case b2=>rw[ax];omega
  case b3=>unfold maxLen;omega
  intro w2 r' hg;have Rh:Blk w2 h.heap.size 3 (List.replicate nd.length (Value.int .i64 0)).toArray:=by have:=fY r';have e:(madeCells #[Value.int .i64 0] nd.length).toList=List.replicate nd.length (J 0):=mX _ _;rw[e]at this;simpa using this
  have t2:aa [] h w2:=aa.of_below ((Below.refl h.heap.size h).grown hg (Nat.le_refl _) (λj hj=>by cases hj));have Ko:=t2.size;have Rx:=Rh.lt;have V:=qh (And.intro Rh t2);clear r' hg Rh t2;have VV:∀m,m<nd.length->∀W,aa [] w2 W->Z W nb m (J (ndf nd m)):=λm hm W t=>by have T:=((aa.of_below (S:=[]) I.o.1).trans V.o.2).trans t;rw[T.cellC WU ahz];exact HR.o m hm
  have OU:=qh VV;have KQ:Kq (∀o:Obj,Blk (w2.alloc o) h.heap.size 3 (List.replicate nd.length (Value.int .i64 0)).toArray):=qh λo=>V.o.1.alloc o
  have Zo:Kq (∀(o:Obj) (j:Nat) (v:Value),(nd.map (Value.int .i64))[j]? =some v->(w2.alloc o).cell? ((⟨nb,0,none⟩:Addr).add j)=some v):=qh λo j v O=>by
    rw[List.getElem?_map]at O;cases hx:nd[j]? with
    | none=>rw[hx]at O;cases O
    | some y=>rw[hx]at O;injection O with O;have hj:=(List.getElem?_eq_some_iff.1 hx).1;have:=OU.o j hj (w2.alloc o) ((aa.refl _ _).alloc _);rw[<-O];have e:ndf nd j=y:=(by unfold ndf;rw[List.getD_eq_getElem?_getD,hx];rfl);rw[e]at this;rw[show(⟨nb,0,none⟩:Addr).add j=⟨nb,j,none⟩by cases j<;>simp[Addr.add]];exact this
  obtain⟨wc,H⟩:=LE ((w2.alloc (cells #[.nilFunc,slice (some ⟨h.heap.size,0,none⟩) nd.length nd.length,J 0,bool false,J 0,J 0,J 0] 324)).setRow h.heap.size (nd.map (Value.int .i64)).toArray);have Su:Blk wc w2.heap.size 324 #[.nilFunc,slice (some ⟨h.heap.size,0,none⟩) nd.length nd.length,J 0,bool false,J 0,J 0,J 0]:=by rw[H];exact(setRow_other _ _ _ _ ahy).trans (Blk.new _ _ _)
  have Wr:Blk wc h.heap.size 3 (nd.map (Value.int .i64)).toArray:=by rw[H];exact setRow_heap _ _ _ _ _ _ (KQ.o _)
  have k0:wc.cell? w2.heap.size=some .nilFunc:=Su.cell 0;have z0:=Su.free 0
  have R9:=qh (show Below h.heap.size h wc from by
    rw[H]
    exact below_setRow ((V.o.2.below ahz (Nat.le_refl _)).alloc Ko _) (Nat.le_refl _) _)
  have LR:=qh (And.intro Su Wr);clear VV WU Su Wr Rx Ko;rw[H]at k0 z0;have O0:=qh H;clear H;go_wp2_with (refine wpList_copy_own rfl (.tmp 18) (.tmp 19) 22 22 rfl 3 Tryz.underlying22 ahB h.heap.size 0 nd.length nd.length ⟨nb,0,none⟩ nd.length cap rfl rfl _ 3 (KQ.o _) (nd.map (Value.int .i64)) ahz (Zo.o _) ahz ah3 ?_);go_wp2;go_ret;rw[<-O0.o];have e3:=Yr.o;have e4:=V.o.1.lt;refine⟨w2.heap.size,h.heap.size,w.heap.size,w.heap.size+1,w.heap.size+1+1,rfl,⟨?_,?_,?_,hn⟩,?_,?_,?_,?_,?_⟩;. exact LR.o.1.set_ 0 _
  . exact LR.o.2.far (by show h.heap.size≠w2.heap.size;omega) _
  . omega
  . exact(I.o.2.1.below R9.o ahy).far (by show w.heap.size≠w2.heap.size;omega) _
  . exact(I.o.2.2.1.below R9.o ahy).far (by show w.heap.size+1≠w2.heap.size;omega) _
  . exact(I.o.2.2.2.below R9.o ahy).far (by show w.heap.size+1+1≠w2.heap.size;omega) _
  . omega
  . exact(I.o.1.trans (R9.o.mono ahy)).setCell (by show w.heap.size<=w2.heap.size;omega) _
end
section
open Go.RowKit
variable{l b k a:Nat}{B0:Nat->Prop}{vN:Value}
def TBn(l:Nat)(B0:Nat->Prop)(w:World)(b:Nat)(P T:List Int)(k:Nat)(vN:Value):Prop:=
 (k=0/\gV B0 w b P T/\(∀i,B0 i->i<l)/\vN.ownBlock=none)\/∃B' m,dD B' w b P T/\(∀i,B' i->i≠l/\i<m)/\(∀g,vN.ownBlock=some g->m<=g)/\m<=w.heap.size
def TBf(l:Nat)(w:World)(b:Nat)(P T:List Int)(vN:Value):Prop:=∃B' m,dD B' w b P T/\(∀i,B' i->i≠l/\i<m)/\(∀g,vN.ownBlock=some g->m<=g)/\m<=w.heap.size
def Gs(hc:a5 P T=0)(hl:l<w.heap.size)(h:TBn l B0 w b P T k vN)(Y:k<T.length)(x:Int)(hx:(ao P T T.length)[k]? =some x):E 100 #[↑b,J k] w λe w'=>e= returned (J x)/\TBf l w' b P T vN/\aa [b] w w':=by
  rcases h with⟨_,H,h1,I⟩|⟨B',m,H,h1,I,h3⟩
  . refine(xL B0 w b P T hc k Y H x hx).mono ?_;rintro e w' ⟨O,ht,tn⟩;refine⟨O,⟨_,w'.heap.size,ht.lt,λi hi=>⟨?_,hi.2⟩,λg hg=>?_,Nat.le_refl _⟩,tn⟩
    . rcases hi.1 with V|V
      . have:=h1 i V;omega
      . omega
    . rw[I]at hg;cases hg
  . refine(jZ w b P T k Y H.f x hx).mono ?_;rintro e w' ⟨O,rfl⟩;exact⟨O,⟨B',m,H,h1,I,h3⟩,aa.refl _ _⟩
def lkN(a l q:Nat)(bud:Int)(n:Nat)(vN:Value):Array Value:=#[↑a,J 1,J bud,vN,.pointer none,slice (some ⟨q,0,none⟩) n n]
structure NwI(w5 wr:World)(l b a q:Nat)(bud:Int)(P T:List Int)(B0:Nat->Prop)(k:Nat)(vN:Value):Prop where
 blk:Blk wr l 263 (lkN a l q bud T.length vN)
 own:wr.ownsRow w5.heap.size 3 1 vN k (((ao P T T.length).take k).flatMap encI)
 tab:TBn l B0 wr b P T k vN
 tn:aa [l,b] w5 wr
 lb:l≠b
def TBn.turns0(h:TBn l B0 w b P T k vN)(t:aa [] w w'):TBn l B0 w' b P T k vN:=by
 rcases h with⟨H,h1,I,O⟩|⟨V,m,H,h1,I,O⟩
 .exact .inl ⟨H,h1.turns t ahz,I,O⟩
 .exact .inr ⟨V,m,H.turns t ahz,h1,I,Nat.le_trans O t.size⟩
def aa.grownBy{row:Option Nat}(h:w.grownBy w' row):aa row.toList w w':=
 ⟨h.os,h.tape,h.output,h.size,λi hi hn=>h.block i hi aiu⟩
def NwI.step{w5 wr w2 w3:World}{q:Nat}{A:Option Addr}{cap H I:Nat}{x:Int}{o:Obj}(h:NwI w5 wr l b a q bud P T B0 k (.slice A k cap))(hx:(ao P T T.length)[k]? =some x)(Oo:l<w5.heap.size)(NQ:b<w5.heap.size)(ht:TBf l w2 b P T (.slice A k cap))(t2:aa [b] wr.drew w2)(h3:w3.ownsRow w5.heap.size 3 1 (slice (some ⟨H,0,none⟩) (k+1) I) (k+1) (((ao P T T.length).take k).flatMap encI++encI x))(hg:(w2.alloc o).grownBy w3 (Value.slice A k cap).ownBlock)(KQ:(Value.slice A k cap).ownBlock=some H\/H=(w2.alloc o).heap.size):NwI w5 (w3.setCell ⟨l,3,none⟩ (slice (some ⟨H,0,none⟩) (k+1) I)) l b a q bud P T B0 (k+1) (slice (some ⟨H,0,none⟩) (k+1) I):=by
  have Nc:=h.lb;have r':∀g,(Value.slice A k cap).ownBlock=some g->w5.heap.size<=g:=λg hg=>(h.own.lt g hg).1;have tg:aa (Value.slice A k cap).ownBlock.toList (w2.alloc o) w3:=aa.grownBy hg;have Y:l∉(Value.slice A k cap).ownBlock.toList:=λhm=>by have:=r' l aib;omega
  have P6:Blk w2 l 263 _:=t2.blk h.blk.drew (by simpa using Nc);have QT:Blk w3 l 263 _:=tg.blk (P6.alloc o) Y;have h5:w5.heap.size<=wr.heap.size:=h.tn.size;have Ko:wr.heap.size<=w2.heap.size:=t2.size;have WC:w5.heap.size<=H:=(h3.lt H rfl).1;have V:aa [l] w3 (w3.setCell ⟨l,3,none⟩ (slice (some ⟨H,0,none⟩) (k+1) I)):=(aa.refl _ _).setCell (.inl ahz) _;refine⟨QT.set_ 3 _,?_,.inr ?_,?_,Nc⟩
  . have e:((ao P T T.length).take (k+1)).flatMap encI=((ao P T T.length).take k).flatMap encI++encI x:=(by rw[a9 hx,List.flatMap_append];simp);rw[e]
    exact aa.own h3 V (λg hg=>by
      injection hg with hg;subst hg
      simp;omega)
  . obtain⟨B',m,k1,k2,k3,k4⟩:=ht;have KR:w2.heap.size<=w3.heap.size:=Nat.le_trans ahz tg.size;refine⟨B',m,((k1.turns (S:=[]) ((aa.refl _ _).alloc o) ahz).turns tg (λi hi O=>?_)).turns V (λi hi O=>?_),k2,λg hg=>?_,?_⟩;. have:=k3 i ah5;have:=(k2 i O).2;omega
    . exact(k2 i O).1 ah5
    . injection hg with hg;subst hg;rcases KQ with e|e
      . exact k3 _ e
      . rw[e];simp only[World.alloc,Array.size_push];omega
    . rw[show(w3.setCell ⟨l,3,none⟩ (slice (some ⟨H,0,none⟩) (k+1) I)).heap.size=w3.heap.size by simp];omega
  . have c1:aa ([l,b]++(Value.slice A k cap).ownBlock.toList) w5 (w3.setCell ⟨l,3,none⟩ (slice (some ⟨H,0,none⟩) (k+1) I)):=
      ((((h.tn.mono ahz).trans ((aa.refl _ _).drew)).trans (t2.mono ahz)).trans (((aa.refl _ _).alloc o).trans (tg.mono λi hi=>List.mem_append_right _ hi))).trans (V.mono ahz)
    refine c1.fresh λi hi=>?_;rcases List.mem_append.1 hi with hi|hi
    . exact .inl hi
    . exact .inr (r' i ah5)
def IN(w:World)(l:Nat)(c1:Z w l 1 (J 1)):E 146 #[↑l,J 1] w λe w'=>e= returned (J 3)/\w=w':=by go_enter func146,ntmps146;exact aab
def cn0(s:Ar)(n:Nat):Cn:=⟨{s with W:=List.replicate (2+3*n) 0},⟨0,false,0,0,0⟩,List.replicate n Sp.zero⟩
def Ft(w:World)(a g:Nat)(s:Ar)(bud:Int)(P T:List Int)(e:Ending)(w':World):Prop:=
 ∃(c:Cx) (cap:Nat),c.a=a/\c.g=g/\e= returned (tuple #[↑c.l,J 0])/\aq w' c cap bud (ao P T T.length) (cn0 s T.length)/\w.heap.size<=c.l/\w.heap.size<=c.q/\w.heap.size<=c.k/\aa [a] w w'/\∀x∈[c.n1,c.nb,c.b0,c.b1,c.b2],w.heap.size<=x
def Gm{g:Nat}{s:Ar}(h:aB w a g s)(hs:s.W=[])(L4:a≠g)(vP vT:Value)(P T:List Int)(hP:RdL w vP 1 encI P)(hT:RdL w vT 1 encI T)(hc:a5 P T=0)(bud:Int)(M':0<=bud)(hd1:bud<=1000)(V:s.room=4096):E 106 #[↑a,agg #[vP,vT],J bud] w (Ft w a g s bud P T):=by
  obtain⟨i0,hi,Kt,Kv,ab⟩:=info_parts Tryz.infoSp;obtain⟨j0,hj,P1,P2,OT⟩:=info_parts Tryz.infoInC;have KY:=bj (aR hc).1;refine ajz ?_;intro LV Me MG Mz;have H:=qh (And.intro h (And.intro LV (And.intro Me L4)));have HN:=qh (i2 (w.alloc (cells #[vP,vT] 24)) vP vT P T (hP.alloc _) (hT.alloc _) hc);have HS:=qh (And.intro hs V);have Ll:=qh hc;have HR:=qh (λW=>py bud W M' hd1);refine akj ?_;intro hlo B0;have x1:IntKind.i64.wrap (3*(T.length:Int))=3*(T.length:Int):=IntWalk.i64_in _ ahy;have x2:IntKind.i64.wrap (2+3*(T.length:Int))=2+3*(T.length:Int):=IntWalk.i64_in _ ahy;clear h hs hP hT M' hd1 V KY LV Me L4 hc;go_enter func106,ntmps106;go_wp2_with fail;refine HN.o.mono ?_;rintro en w1 ⟨b,rfl,I,t1,b1⟩;rw[hlo]at I t1 b1;have K1:=qh (And.intro (t1.q Ll.o) (B0.o.trans (b1.mono ahy)));have HB:=qh I;clear t1 b1 I HN;go_wp2_with fail;refine LT (HR.o _) ?_;go_wp2_with fail;refine LT (eg _ _ _ _ (K1.o.1.tab Ll.o)) ?_;go_wp2_with fail;have A1:=H.o.1.turns (aa.of_below (S:=[]) K1.o.2) ahz ahz
  have HT:Kq (ef s (2+3*(T.length:Int))=({s with W:=List.replicate (2+3*T.length) 0},(1:Int),(0:Int))):=qh (by
    unfold ef
    rw[HS.o.1,HS.o.2,if_neg ahy,if_neg ahD,show(2+3*(T.length:Int)).toNat=2+3*T.length by omega];rfl)
  refine(gw A1 (2+3*(T.length:Int))).mono ?_;rintro en w3 ⟨rfl,k3,t3⟩;rw[HT.o]at k3 ⊢;have Ow:=K1.o.2.size;have Lc:=t3.size;have RA:∀i∈[a],¬(w.heap.size+1<=i/\i<w1.heap.size):=λi hi=>by have:=H.o.2.1;simp at hi;omega
  have K3:=qh (And.intro (K1.o.1.turns t3 RA) (And.intro ((aa.of_below (S:=[a]) K1.o.2).trans t3) (And.intro k3 (And.intro Ow Lc))));clear k3 t3 A1 RA Lc Ow x1 x2;go_wp2_with (refine wpList_make_full _ rfl (.tmp 43) (.tmp 43) 237 rfl w3.heap.size 113 i0 (agg #[J 0,J 0,J 0,J 0]) 4 Tryz.underlying237 hi Kt Kv .i64 .i64 T.length T.length T.length rfl rfl rfl rfl ?b2 ?b3 (Nat.le_refl _) ?_);case b2=>rw[ab];omega
  case b3=>unfold maxLen;omega
  intro w4 r' hg;have I:dE w4 w3.heap.size (List.replicate T.length Sp.zero):=by exact aaA
  have t4:aa [] w3 w4:=aa.of_below ((Below.refl w3.heap.size w3).grown hg (Nat.le_refl _) (λj hj=>by cases hj));have Ml:=I.lt;have H4:=qh (And.intro I (And.intro t4 Ml));clear r' hg I t4 Ml;go_upto_region 11 with fail;obtain⟨q,hq⟩:=LE w3.heap.size;rw[<-hq]at H4 ⊢;have HQ:=qh hq;clear hq;obtain⟨l,hl⟩:=LE w4.heap.size;obtain⟨w5,Lt⟩:=LE (w4.alloc (.cells (lkN a l q bud T.length (.slice none 0 0)) 263));have N6:=Lt;unfold lkN at N6;rw[<-N6,<-hl];have t5:aa [] w4 w5:=by rw[Lt];exact(aa.refl _ _).alloc _
  have NF:w5.heap.size=l+1:=by rw[Lt,hl];simp
  have NQ:Blk w5 l 263 (lkN a l q bud T.length (.slice none 0 0)):=by rw[Lt,hl];exact Blk.new _ _ _
  have HI:=qh (show NwI w5 w5 l b a q bud P T (λi=>w.heap.size+1<=i/\i<w1.heap.size) 0 (.slice none 0 0)from by
    have e1:=K3.o.2.2.2;have e2:=H4.o.2.2;have e3:=H4.o.2.1.size;refine⟨NQ,?_,.inl ⟨rfl,(K3.o.1.turns H4.o.2.1 ahz).turns t5 ahz,λi hi=>by omega,rfl⟩,aa.refl _ _,?_⟩;. rw[List.take_zero,List.flatMap_nil];exact World.ownsRow_nil _ _ _ _
    . have:b<w1.heap.size:=K1.o.1.low.2
      omega)
  have H5:=qh (And.intro t5 (And.intro NF hl));clear Lt N6 t5 NF NQ hl;go_wp2;go_loopw [13,48] (λ_ i wr=>∃(k:Nat) (vN:Value),i= J k/\k<=T.length/\NwI w5 wr l b a q bud P T (λi=>w.heap.size+1<=i/\i<w1.heap.size) k vN) (λ_ i _=>T.length-(intOf i).toNat);case atStart=>exact⟨0,_,rfl,by omega,HI.o⟩
  case round=>
    clear HI;obtain⟨k,vN,rfl,hk,Y⟩:=hrel;obtain⟨O,rfl⟩:∃O:World,O=wr:=⟨_,rfl⟩;have Oo:l<w5.heap.size:=(by have:=H5.o.2.1;omega);have NQ:b<w5.heap.size:=(by have e0:b<w1.heap.size:=K1.o.1.low.2;have e1:=K3.o.2.2.2.2;have e2:=H4.o.2.1.size;have e3:=H5.o.1.size;omega);by_cases C':k<T.length
    . obtain⟨A,cap,rfl⟩:=bC Y.own;obtain⟨x,hx⟩:∃x,(ao P T T.length)[k]? =some x:=ai (by rw[cZ (Nat.le_refl _)];exact C');have c3:Z O l 3 (.slice A k cap):=Y.blk.cell 3;have LC:l<O.heap.size:=Y.blk.lt;have Y0:w5.heap.size<=O.heap.size:=Y.tn.size;have Tt:=qh (Gs Ll.o (w:=O.drew) LC (Y.tab.turns0 ((aa.refl _ _).drew)) C' x hx);have HX:=qh hx;have HW:=qh Y;have X7:=qh Y.lb;clear Y hx;go_wp2_with fail
      go_region_law (first
        | (refine step_append_lies _ rfl _ _ 22 rfl w5.heap.size 3 j0 (J 0) 1 8 Tryz.underlying22 hj P1 P2 OT rfl ahA _ _ _ rfl (o2.alloc _) ⟨w2.heap.size,0,none⟩ 1 1 (encI x) rfl rfl (λj u hj=>cell_one_new w2 (J x) 3 j u hj) (iy _) ahA (by unfold maxLen;omega) ahy ahD _ rfl ?_;intro g3 Lv w7 h3 KQ NV UA;have QT:=(P6.alloc (cells #[J x] 3)).grown KQ (λe=>Rw e.symm);have al:Z w7 l 3 (.slice A k cap):=QT.cell 3;have bc:=QT.free 3)
        | (go_simp;go_at_call 100;refine Tt.o.mono ?_;rintro en w2 ⟨rfl,Xe,RY⟩;have P6:Blk w2 l 263 (lkN a l q bud T.length (.slice A k cap)):=RY.blk HW.o.blk.drew (by simpa using X7.o);have o2:w2.ownsRow w5.heap.size 3 1 (.slice A k cap) k (((ao P T T.length).take k).flatMap encI):=aa.own (show O.drew.ownsRow _ _ _ _ _ _ from HW.o.own) RY (λg hg=>by have:=(HW.o.own.lt g hg).1;simp;omega);have Rw:(Value.slice A k cap).ownBlock≠some l:=(λe=>by have:=(HW.o.own.lt l e).1;omega);have ad:Z w2 l 3 (.slice A k cap):=P6.cell 3;have Mo:l<w2.heap.size:=P6.lt;have Ko:=RY.size;simp at Ko))
      all_goals
        have HR:=qh (NwI.step HW.o HX.o Oo NQ Xe RY h3 KQ NV);clear Xe RY h3 KQ NV QT P6 o2;go_wp2;go_roundw;case rel=>exact⟨k+1,_,by go_num,by omega,HR.o⟩
        case measure=>simp[intOf];omega
    . obtain rfl:k=T.length:=by omega
      have KX:(ao P T T.length).length=T.length:=cZ (Nat.le_refl _);obtain⟨nb,cap,rfl,ZW,ZX⟩:=gO Y.own ahy;have OO:=Y.own;rw[show(ao P T T.length).take T.length=ao P T T.length from List.take_of_length_le (by rw[KX];exact Nat.le_refl _)]at OO;have PV:∀m,m<(ao P T T.length).length->Z O nb m (J (ndf (ao P T T.length) m)):=λm hm=>by obtain⟨x,hx⟩:=ai hm;have e:ndf (ao P T T.length) m=x:=(by unfold ndf;rw[List.getD_eq_getElem?_getD,hx];rfl);rw[e];obtain⟨_,_,h1,_,_,h2⟩:=dP (l:=ao P T T.length) (by rw[KX];exact OO) ahy;obtain⟨b',off,h3,_,h4⟩:=h2 ahy;injection h1 with h1;rw[h3]at h1;injection h1 with h1;injection h1 with h5 h6;have:=h4 m x hx 0 _ rfl;rw[<-h5,<-h6]at this;simpa using this
      have c1:Z O l 1 (J 1):=Y.blk.cell 1;have c3:Z O l 3 (slice (some ⟨nb,0,none⟩) T.length cap):=Y.blk.cell 3;have LC:l<O.heap.size:=Y.blk.lt;have PC:=qh (IN O.drew l c1);have Tr:=IK O.drew a nb cap (ao P T T.length) (by rw[KX];omega) PV;rw[KX]at Tr;have Yc:=qh Tr;have HW:=qh (And.intro Y PV);clear Y PV Tr OO;go_wp2_with fail
      go_region_held3 (λW=>Z W l 3 (slice (some ⟨nb,0,none⟩) T.length cap))
        (first|exact c3|exact YN|exact YO)
        (first
          | (go_at_call 146;go_loud (refine LT PC.o ?_))
          | (go_at_call 145;go_loud (refine Yc.o.mono ?_);rintro en w8 ⟨kk,n1,b0,b1,b2,rfl,XN,p0,p1,p2,W0,b8⟩;have P7:Blk w8 l 263 (lkN a l q bud T.length (slice (some ⟨nb,0,none⟩) T.length cap)):=HW.o.1.blk.drew.below b8 LC;have YN:Z w8 l 3 (slice (some ⟨nb,0,none⟩) T.length cap):=P7.cell 3;have ax:Z w8 l 4 (.pointer none):=P7.cell 4;have bw:=P7.free 4;have YO:(w8.setCell ⟨l,4,none⟩ ↑kk).cell? ⟨l,3,none⟩=some (slice (some ⟨nb,0,none⟩) T.length cap):=(P7.set_ 4 ↑kk).cell 3;have H8:=qh (And.intro XN (And.intro p0 (And.intro p1 (And.intro p2 (And.intro W0 (And.intro b8 P7))))));clear XN p0 p1 p2 W0 b8 P7))
      all_goals
        go_wp2;go_ret2;have f1:=K1.o.2.size;have f2:=K3.o.2.2.2;have f3:=H4.o.2.2;have f4:=H4.o.2.1.size;have f5:=H5.o.2;have f6:=HQ.o;have f7:b<w1.heap.size:=K1.o.1.low.2;have f8:w.heap.size+1<=b:=K1.o.1.low.1;have f9:=H.o.2;have YX:=H8.o.2.2.2.2.1;have ba:w5.heap.size<=O.heap.size:=HW.o.1.tn.size;have f12:O.drew.heap.size=O.heap.size:=rfl;have YY:nb<O.heap.size:=aM (HW.o.2 0 (by rw[KX];omega));rw[f12]at YX;have t8:aa [] O w8:=((aa.refl _ _).drew).trans (aa.of_below H8.o.2.2.2.2.2.1);have t9:aa [l] w8 (w8.setCell ⟨l,4,none⟩ ↑kk):=(aa.refl _ _).setCell (.inl ahz) _;have Te:aa [l,b] w5 (w8.setCell ⟨l,4,none⟩ ↑kk):=(HW.o.1.tn.trans (t8.mono ahz)).trans (t9.mono ahz);have XL:aa [l,b] w3 (w8.setCell ⟨l,4,none⟩ ↑kk):=((H4.o.2.1.mono ahz).trans (H5.o.1.mono ahz)).trans Te;refine⟨⟨l,a,g,q,kk,n1,nb,b0,b1,b2⟩,cap,rfl,rfl,rfl,⟨?_,?_,?_,?_,?_,?_,?_,?_,?_,?_,?_,?_⟩,?_,?_,?_,?_,λx hx=>by simp at hx;omega⟩;. exact K3.o.2.2.1.turns XL ahD ahD
        . unfold Ip;rw[KX];exact H8.o.2.2.2.2.2.2.set_ 4 _
        . exact(H4.o.1.turns (T:=[]) H5.o.1 ahz).turns Te (by show q∉[l,b];simp;omega)
        . exact H8.o.1.turns t9 (by show kk∉[l];simp;omega) (by show n1∉[l];simp;omega)
        . intro m hm;have e8:w8.cell? ⟨nb,m,none⟩=O.cell? ⟨nb,m,none⟩:=t8.cellC YY ahz;have e9:=t9.cellC (p:=⟨nb,m,none⟩) (by have:=t8.size;show nb<w8.heap.size;omega) (by show nb∉[l];simp;omega);exact e9.trans (e8.trans (HW.o.2 m hm))
        . exact t9.blk H8.o.2.1 (by show b0∉[l];simp;omega)
        . exact t9.blk H8.o.2.2.1 (by show b1∉[l];simp;omega)
        . exact t9.blk H8.o.2.2.2.1 (by show b2∉[l];simp;omega)
        . rw[KX];simp[cn0]
        . rw[KX];omega
        . show[a,g,q,kk].Nodup;simp;omega
        . show ∀x∈[l,n1,nb,b0,b1,b2],x∉[a,g,q,kk];intro x hx;simp at hx ⊢;omega
        . show w.heap.size<=l;omega
        . show w.heap.size<=q;omega
        . show w.heap.size<=kk;omega
        . have:aa [a,l,b] w (w8.setCell ⟨l,4,none⟩ ↑kk):=(K3.o.2.1.mono ahz).trans (XL.mono ahz);exact this.fresh λi hi=>by simp at hi ⊢;omega
end
end Go.Proofs.YtglokdbiggbkjaaGreat
