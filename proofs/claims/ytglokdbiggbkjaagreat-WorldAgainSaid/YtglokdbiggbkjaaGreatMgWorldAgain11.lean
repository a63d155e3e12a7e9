/- Joined texts. -/
import Derived.Test.YtglokdbiggbkjaaGreatMgWorldAgain0
import Derived.Test.YtglokdbiggbkjaaGreatMgWorldAgain2
import Derived.Test.YtglokdbiggbkjaaGreatMgWorldAgain4
import Derived.Test.YtglokdbiggbkjaaGreatMgWorldAgain10
set_option linter.unusedVariables false
set_option linter.unusedSimpArgs false
set_option linter.defProp false
set_option maxRecDepth 100000
set_option maxHeartbeats 16000000
open Go.Proofs.Tryz
namespace Go.Proofs.YtglokdbiggbkjaaGreat
open Go.IntKind(i64)
open Go.Value(int bool slice agg tuple pointer)
open Go.Ending(returned)
open Go.Obj(cells)
variable{w w':World}{l a g q b u lo hi i N:Nat}{dl:Int}{P T:List Int}{G:Nat->List Nat}
section
open Go.RowKit
def dp(P T:List Int)(i:Nat):Nat:=(fD (ac P) (T.getD i 0)).toNat
structure bB(w:World)(l a g q b u lo hi:Nat)(dl:Int)(P T:List Int)(h:Hc):Prop where
 ar:aB w a g h.ar
 lk:Blk w l 260 #[↑a,↑b,int i64 1,↑u,int i64 dl,slice (some ⟨q,0,none⟩) T.length T.length]
 sp:dA w q h.S
 tu:ef w u a (2+(ac P).length) T.length h.D
 tab:lH lo hi w b P T
 sl:h.S.length=T.length
 hs:hi<=w.heap.size
 nd:[l,a,g,q,u].Nodup
 o:∀x∈[l,a,g,q,u],x<lo\/hi<=x
section
variable{h:Hc}
def bB.n32(k:bB w l a g q b u lo hi dl P T h):1<=T.length/\T.length<=32/\(ac P).length<=32:=by have:=bi (aQ k.tab.ok).1;have H:=a6 P P.length;exact⟨this.2.2.1,this.2.2.2,by show(ak P P.length).length<=32;omega⟩
def bB.next(k:bB w l a g q b u lo hi dl P T h){H:Ar}{V:List Int}{I:List Sp}(t:aa [a,g,q,u] w w')(h1:aB w' a g H)(Y:dA w' q I)(h3:ef w' u a (2+(ac P).length) T.length V)(h4:I.length=T.length):bB w' l a g q b u lo hi dl P T ⟨H,V,I⟩:=by
 have O:=k.nd;refine⟨h1,t.blk k.lk ?_,Y,h3,k.tab.keep (λi Zt Mj=>t.block i (by have:=k.hs;omega) λhm=>?_) (Nat.le_trans k.hs t.size),h4,Nat.le_trans k.hs t.size,k.nd,k.o⟩;.exact(List.nodup_cons.1 O).1
 .have:=k.o i (List.mem_cons_of_mem _ hm);omega
def bB.below(k:bB w l a g q b u lo hi dl P T h)(t:Below w.heap.size w w'):bB w' l a g q b u lo hi dl P T h:=by have t0:=aa.of_below (S:=[]) t;exact k.next (t0.mono ahq) (k.ar.turns t0 ahq ahq) (k.sp.turns t0 ahq) (k.tu.turns t0 ahq) k.sl
def bB.spot(k:bB w l a g q b u lo hi dl P T h){H:List Sp}(hs:dA w' q H)(O:H.length=T.length)(t:aa [q] w w'):bB w' l a g q b u lo hi dl P T ⟨h.ar,h.D,H⟩:=by have I:=k.nd;simp at I;exact k.next (t.mono ahq) (k.ar.turns t ahu ahu) hs (k.tu.turns t ahu) O
def bB.c0(k:bB w l a g q b u lo hi dl P T h):w.cell? l=some ↑a:=k.lk.cell 0
def bB.c1(k:bB w l a g q b u lo hi dl P T h):Z w l 1 ↑b:=k.lk.cell 1
def bB.c2(k:bB w l a g q b u lo hi dl P T h):Z w l 2 (J 1):=k.lk.cell 2
def bB.c3(k:bB w l a g q b u lo hi dl P T h):Z w l 3 ↑u:=k.lk.cell 3
def bB.c4(k:bB w l a g q b u lo hi dl P T h):Z w l 4 (J dl):=k.lk.cell 4
def bB.c5(k:bB w l a g q b u lo hi dl P T h):Z w l 5 (slice (some ⟨q,0,none⟩) T.length T.length):=k.lk.cell 5
def jZ(k:bB w l a g q b u lo hi dl P T h):E 281 #[↑l] w λe w'=>e= returned (J T.length)/\w=w':=by have c5:=k.c5;clear k;go_enter func281,ntmps281;exact aab
def xJ(k:bB w l a g q b u lo hi dl P T h)(i:Int):E 279 #[↑l,J i] w λe w'=>e= returned (aC (getS h.S i))/\Below w.heap.size w w':=by
  obtain⟨_,HN,_⟩:=k.n32;have O:=k.sl;by_cases I:okI h.S i;. have hp:=dJ I;obtain⟨p,Y⟩:=LE (getS h.S i);rw[<-Y]at hp ⊢;have c2:=k.c5;refine ajT ?_;intro a0 a1 a2 a3;obtain⟨V,h1⟩:=I;rw[O]at h1;obtain⟨n,rfl⟩:=Int.eq_ofNat_of_zero_le V;simp only[Int.toNat_natCast]at a0 a1 a2 a3;have JZ:=k.lk.lt;have JY:=k.sp.lt;have t2:¬(n:Int)<0:=(by omega);have t3:¬((T.length:Nat):Int)<=(n:Int):=(by omega);have t4:n<T.length:=(by omega);have H:Kq (bB (w.alloc (cells #[J 0,J 0,J 0,J 0] 113)) l a g q b u lo hi dl P T h):=qh (k.below ((Below.refl _ _).alloc (Nat.le_refl _) _));clear k hp Y V h1 O;go_enter func279,ntmps279;go_wp2_with (go_at_call 281;refine(jZ H.o).mono ?_;rintro e w' ⟨rfl,rfl⟩);exact bodyPost_ret (results_cell_row aht _ _ w.heap.size 113 _ (0,0) _ aht (heap_alloc_new w _) Tryz.underlying113 rfl ahs) rfl ⟨rfl,(Below.refl _ _).alloc (Nat.le_refl _) _⟩
  . have H:Kq (bB (w.alloc (cells #[J 0,J 0,J 0,J 0] 113)) l a g q b u lo hi dl P T h):=qh (k.below ((Below.refl _ _).alloc (Nat.le_refl _) _));rw[dC I];unfold okI at I;rw[O]at I;clear k O;by_cases V:i<0;. go_enter func279,ntmps279;go_wp2;exact bodyPost_ret (results_cell_row aht _ _ w.heap.size 113 _ (0,0) _ aht (heap_alloc_new w _) Tryz.underlying113 rfl ahs) rfl ⟨rfl,(Below.refl _ _).alloc (Nat.le_refl _) _⟩
    . have t3:((T.length:Nat):Int)<=i:=(by omega);clear I;go_enter func279,ntmps279;go_wp2_with (go_at_call 281;refine(jZ H.o).mono ?_;rintro e w' ⟨rfl,rfl⟩);exact bodyPost_ret (results_cell_row aht _ _ w.heap.size 113 _ (0,0) _ aht (heap_alloc_new w _) Tryz.underlying113 rfl ahs) rfl ⟨rfl,(Below.refl _ _).alloc (Nat.le_refl _) _⟩
def HOp(w:World)(l a g q b u lo hi:Nat)(dl:Int)(P T:List Int)(x:Hc×Bool)(e:Ending)(w':World):Prop:=e= returned (.bool x.2)/\bB w' l a g q b u lo hi dl P T x.1/\aa [a,g,q,u] w w'
def wO(k:bB w l a g q b u lo hi dl P T h)(i O V:Int):E 282 #[↑l,J i,J O,J V] w (HOp w l a g q b u lo hi dl P T (bv h i O V)):=by
  have H:=qh k;obtain⟨_,Kw,_⟩:=k.n32;have J6:=k.sl;by_cases hi:okI h.S i
  . have Y:=dJ hi;obtain⟨p,i'⟩:=LE (getS h.S i);rw[<-i']at Y;have c2:=k.c5;have a0:=aaa (k.sp.cell Y 0 _ rfl);have f0:=k.sp.free (i.toNat*4);obtain⟨h0,h1⟩:=id hi;rw[J6]at h1;obtain⟨n,rfl⟩:=Int.eq_ofNat_of_zero_le h0;simp only[Int.toNat_natCast]at a0 f0 Y;have t2:¬(n:Int)<0:=(by omega);have t3:¬((T.length:Nat):Int)<=(n:Int):=(by omega);have t4:n<T.length:=(by omega);have HP:=qh (And.intro hi (And.intro i' Y));clear k Y i' h0 h1 hi J6;cases hc:(p.pc !=O)
    . have I:Kq (bv h n O V=(⟨h.ar,h.D,h.S.set n {p with pc:=V}⟩,true)):=qh (by
        unfold bv;have e:p.pc=O:=by simpa using hc
        rw[<-HP.o.2.1,if_pos ⟨HP.o.1,e⟩];simp)
      go_enter func282,ntmps282;go_wp2_with (go_at_call 281;refine(jZ H.o).mono ?_;rintro e w' ⟨rfl,rfl⟩);go_ret;rw[I.o];have ht:aa [q] w (w.setCell ⟨q,n*4,none⟩ (J V)):=(aa.refl _ _).setCell (.inl ahq) _;exact⟨rfl,H.o.spot (H.o.sp.put HP.o.2.2 (j:=0) ahr rfl) (by simp[H.o.sl]) ht,ht.mono ahq⟩
    . have I:Kq (bv h n O V=(h,false)):=qh (by
        unfold bv;have e:¬p.pc=O:=by simpa using hc
        rw[<-HP.o.2.1,if_neg (λh=>e h.2)])
      go_enter func282,ntmps282;go_wp2_with (go_at_call 281;refine(jZ H.o).mono ?_;rintro e w' ⟨rfl,rfl⟩);go_ret;rw[I.o];exact⟨rfl,H.o,aa.refl _ _⟩
  . have I:Kq (bv h i O V=(h,false)):=qh (by
      unfold bv
      rw[if_neg (λh=>hi h.1)])
    unfold okI at hi;rw[J6]at hi;clear k J6;by_cases h0:i<0;. go_enter func282,ntmps282;go_wp2;go_ret;rw[I.o];exact⟨rfl,H.o,aa.refl _ _⟩
    . have t3:((T.length:Nat):Int)<=i:=(by omega);clear hi;go_enter func282,ntmps282;go_wp2_with (go_at_call 281;refine(jZ H.o).mono ?_;rintro e w' ⟨rfl,rfl⟩);go_ret;rw[I.o];exact⟨rfl,H.o,aa.refl _ _⟩
def GW(k:bB w l a g q b u lo hi dl P T h)(i:Int):E 277 #[↑l,J i] w (HOp w l a g q b u lo hi dl P T (bv h i 0 1)):=by obtain⟨x,I⟩:=LE (bv h i 0 1);have H:=qh (wO k i 0 1);rw[<-I]at H ⊢;obtain⟨O,V⟩:=x;clear k I;go_enter func277,ntmps277;go_wp2_with fail;refine Pi H.o λw1 H1=>?_;go_wp2;go_ret;exact⟨rfl,H1.o⟩
def D2(k:bB w l a g q b u lo hi dl P T h)(i:Int):E 278 #[↑l,J i] w (HOp w l a g q b u lo hi dl P T (bv h i 10 11)):=by obtain⟨x,I⟩:=LE (bv h i 10 11);have H:=qh (wO k i 10 11);rw[<-I]at H ⊢;obtain⟨O,V⟩:=x;clear k I;go_enter func278,ntmps278;go_wp2_with fail;refine Pi H.o λw1 H1=>?_;go_wp2;go_ret;exact⟨rfl,H1.o⟩
def tQ(k:bB w l a g q b u lo hi dl P T h)(hi:i<T.length):(ao P T T.length)[i]? =some ((dp P T i:Nat):Int)/\dp P T i<(ac P).length:=by have hm:T.getD i 0∈ac P:=jo (aQ k.tab.ok).2.2.2 (i:=i) (by rw[List.getD_eq_getElem?_getD,List.getElem?_eq_getElem hi];rfl);have h1:=eO (ac P) (T.getD i 0);have H:=h1.1.2 hm;have I:=h1.2.1;unfold dp;refine⟨?_,by omega⟩;unfold ao;rw[List.getElem?_map,List.getElem?_take,if_pos hi,List.getElem?_eq_getElem hi];simp only[Option.map_some,Option.some.injEq];rw[show T.getD i 0=T[i]by rw[List.getD_eq_getElem?_getD,List.getElem?_eq_getElem hi];rfl]at H ⊢;omega
def BP(k:bB w l a g q b u lo hi dl P T h)(i:Nat)(hi:i<T.length):E 289 #[↑l,J i] w λe w'=>e= returned (J (2+(dp P T i:Nat)))/\Qt w w':=by obtain⟨H,I⟩:=tQ k hi;obtain⟨_,_,Nq⟩:=k.n32;obtain⟨v,O⟩:=LE (dp P T i);rw[<-O]at H I ⊢;have V:=qh (λW (h:iC W b P T)=>jN W b P T i hi h v H);have Y:=qh k.tab;have HS:=qh k.hs;have c1:=k.c1;have c2:=k.c2;have x1:IntKind.i64.wrap (2+(v:Int))=2+v:=IntWalk.i64_in _ ahp;clear k O H;go_enter func289,ntmps289;go_wp2;go_quiet ((go_at_call 100;exact bV (V.o _ (Y.o.f.below (Qt.below ⟨_,rfl⟩ _)))));go_wp2;go_ret;exact⟨rfl,⟨_,rfl⟩⟩
end
end
section
open Go.RowKit
section
variable{h:Hc}
def pT(w:World)(l a g q b u lo hi:Nat)(dl:Int)(P T:List Int)(h:Hc)(i:Nat)(p:Sp)(x:Ar×List Int×Sp)(e:Ending)(w':World):Prop:=
 e= returned (J x.2.2.pc)/\bB w' l a g q b u lo hi dl P T ⟨x.1,x.2.1,h.S.set i {x.2.2 with pc:=p.pc}⟩/\aa [a,g,q,u] w w'
def bB.op(k:bB w l a g q b u lo hi dl P T h){H:Ar}(t:aa [a,g] w w')(h1:aB w' a g H):bB w' l a g q b u lo hi dl P T ⟨H,h.D,h.S⟩:=by have I:=k.nd;simp at I;exact k.next (t.mono ahq) h1 (k.sp.turns t ahu) (k.tu.turns t ahu) k.sl
def bB.putS(k:bB w l a g q b u lo hi dl P T h){p p':Sp}(O:h.S[i]? =some p){j:Nat}{v:Value}(I:j<4)(H:(bf p).set j v=bf p'):bB (w.setCell ⟨q,i*4+j,none⟩ v) l a g q b u lo hi dl P T ⟨h.ar,h.D,h.S.set i p'⟩:=
 k.spot (k.sp.put O I H) (by simp[k.sl]) ((aa.refl _ _).setCell (.inl ahq) _)
def eb(p:Addr)(v:Value)(H:p.block=q):aa [a,g,q,u] w (w.setCell p v):=(aa.refl _ _).setCell (.inl (by simp[H])) _
def Gx(k:bB w l a g q b u lo hi dl P T h)(i:Nat)(hin:i<T.length)(p:Sp)(hp:h.S[i]? =some p)(Y:h.ar.ops+1<=1000000000000)(hd:0<=dv h.D i/\dv h.D i<1000000000)(JU:p.pc=1):E 283 #[↑l,J i] w (pT w l a g q b u lo hi dl P T h i p (bz (ac P).length T.length dl h (dp P T i) i p)):=by
  obtain⟨_,HN,_⟩:=k.n32;have Mj:(i:Int)<T.length:=by omega
  have c5:=k.c5;obtain⟨v,O⟩:=LE (ldW h.ar.W (2+(dp P T i:Int)));obtain⟨ab,hV⟩:=LE (ch h.ar (2+(dp P T i:Int)) (tokH i (dv h.D i+1)))
  have HX:Kq (bz (ac P).length T.length dl h (dp P T i) i p=(ab,h.D,if v≠0 then {p with a:=v,pc:=5} else if 0<dl then {p with a:=v,b:=dl,pc:=2} else {p with a:=v,b:=0,pc:=3})):=qh (by
    unfold bz
    rw[if_pos JU,<-O,<-hV])
  have HL:=qh (λW (k:bB W l a g q b u lo hi dl P T h)=>BP k i hin);have Tb:=qh (λW (k:bB W l a g q b u lo hi dl P T h)=>IB k.tu i hin hd);have Nm:=(λW (k:bB W l a g q b u lo hi dl P T h)=>fh k.ar (2+(dp P T i:Int)) (tokH i (dv h.D i+1)) Y);rw[<-O,<-hV]at Nm;have Ph:=qh Nm;have H:=qh (λW (h:Hc) (k:bB W l a g q b u lo hi dl P T h)=>And.intro k.c0 (And.intro k.c3 k.c4));have K1:=qh (k.below ((Below.refl _ w).drew));have HP:=qh (And.intro hp JU);clear Nm k hp JU hd O hV;by_cases Km:v=0
  . have t0:(v !=0)=false:=(by simpa using Km);have HV:=qh Km;clear Km;by_cases Oj:0<dl
    . have HD:=qh Oj;go_enter func283,ntmps283;go_wp2_with fail
      go_region_held3 (λW=>W.cell? l=some ↑a/\Z W l 3 ↑u/\Z W l 4 (J dl))
        (first|with_reducible exact H.o _ _ K1.o|with_reducible exact H.o _ _ V.o|with_reducible exact H.o _ _ K3.o|with_reducible exact H.o _ _ K4.o|with_reducible exact H.o _ _ I.o)
        (first
          | (go_at_call 289;go_loud (refine Pi (HL.o _ K1.o) λw2 q2=>?_);have V:=qh (K1.o.below (Qt.below q2.o _));have T2:=qh (((aa.refl [a,g,q,u] w).drew).trans (aa.of_qt q2.o)))
          | (go_at_call 290;go_loud (refine Pi (Tb.o _ V.o) λw3 b3=>?_);have K3:=qh (V.o.below b3.o);have T3:=qh (T2.o.trans (aa.of_below b3.o)))
          | (go_at_call 271;go_loud (refine Pi (Ph.o _ K3.o) λw4 a4=>?_);have K4:=qh (K3.o.op a4.o.2 a4.o.1);have T4:=qh (T3.o.trans (a4.o.2.mono (T:=[a,g,q,u]) ahq));have I:=qh (K4.o.putS (p':={p with a:=v}) HP.o.1 (j:=1) (v:= J v) ahr rfl);have e1:=K4.o.sp.cell HP.o.1 1 _ rfl;have z1:=K4.o.sp.free (i*4+1)))
      all_goals have c4:=(H.o _ _ I.o).2.2;have e2:=I.o.sp.cell (i:=i) (p:={p with a:=v}) ah7 2 _ rfl;have z2:=I.o.sp.free (i*4+2);have K6:=I.o.putS (i:=i) (p:={p with a:=v}) (p':={p with a:=v,b:=dl}) ah7 (j:=2) (v:= J dl) ahr rfl;simp only[List.set_set]at K6;have Tq:=qh K6;clear K6;go_wp2;go_ret;rw[HX.o,if_neg (λh=>h HV.o),if_pos HD.o];exact⟨rfl,by rw[show({({p with a:=v,b:=dl,pc:=2}:Sp)with pc:=p.pc}:Sp)={p with a:=v,b:=dl} from rfl];exact Tq.o,(T4.o.trans (eb ⟨q,i*4+1,none⟩ _ rfl)).trans (eb ⟨q,i*4+2,none⟩ _ rfl)⟩
    . have HD:=qh Oj;go_enter func283,ntmps283;go_wp2_with fail
      go_region_held3 (λW=>W.cell? l=some ↑a/\Z W l 3 ↑u/\Z W l 4 (J dl))
        (first|with_reducible exact H.o _ _ K1.o|with_reducible exact H.o _ _ V.o|with_reducible exact H.o _ _ K3.o|with_reducible exact H.o _ _ K4.o|with_reducible exact H.o _ _ I.o)
        (first
          | (go_at_call 289;go_loud (refine Pi (HL.o _ K1.o) λw2 q2=>?_);have V:=qh (K1.o.below (Qt.below q2.o _));have T2:=qh (((aa.refl [a,g,q,u] w).drew).trans (aa.of_qt q2.o)))
          | (go_at_call 290;go_loud (refine Pi (Tb.o _ V.o) λw3 b3=>?_);have K3:=qh (V.o.below b3.o);have T3:=qh (T2.o.trans (aa.of_below b3.o)))
          | (go_at_call 271;go_loud (refine Pi (Ph.o _ K3.o) λw4 a4=>?_);have K4:=qh (K3.o.op a4.o.2 a4.o.1);have T4:=qh (T3.o.trans (a4.o.2.mono (T:=[a,g,q,u]) ahq));have I:=qh (K4.o.putS (p':={p with a:=v}) HP.o.1 (j:=1) (v:= J v) ahr rfl);have e1:=K4.o.sp.cell HP.o.1 1 _ rfl;have z1:=K4.o.sp.free (i*4+1)))
      all_goals have c4:=(H.o _ _ I.o).2.2;have e2:=I.o.sp.cell (i:=i) (p:={p with a:=v}) ah7 2 _ rfl;have z2:=I.o.sp.free (i*4+2);have K6:=I.o.putS (i:=i) (p:={p with a:=v}) (p':={p with a:=v,b:=0}) ah7 (j:=2) (v:= J 0) ahr rfl;simp only[List.set_set]at K6;have Tq:=qh K6;clear K6;go_wp2;go_ret;rw[HX.o,if_neg (λh=>h HV.o),if_neg (show ¬0<dl by have:=HD.o;omega)];exact⟨rfl,by rw[show({({p with a:=v,b:=0,pc:=3}:Sp)with pc:=p.pc}:Sp)={p with a:=v,b:=0} from rfl];exact Tq.o,(T4.o.trans (eb ⟨q,i*4+1,none⟩ _ rfl)).trans (eb ⟨q,i*4+2,none⟩ _ rfl)⟩
  . have t0:(v !=0)=true:=(by simpa using Km);have HV:=qh Km;clear Km;go_enter func283,ntmps283;go_wp2_with fail
    go_region_held3 (λW=>W.cell? l=some ↑a/\Z W l 3 ↑u/\Z W l 4 (J dl))
      (first|with_reducible exact H.o _ _ K1.o|with_reducible exact H.o _ _ V.o|with_reducible exact H.o _ _ K3.o|with_reducible exact H.o _ _ K4.o|with_reducible exact H.o _ _ I.o)
      (first
        | (go_at_call 289;go_loud (refine Pi (HL.o _ K1.o) λw2 q2=>?_);have V:=qh (K1.o.below (Qt.below q2.o _));have T2:=qh (((aa.refl [a,g,q,u] w).drew).trans (aa.of_qt q2.o)))
        | (go_at_call 290;go_loud (refine Pi (Tb.o _ V.o) λw3 b3=>?_);have K3:=qh (V.o.below b3.o);have T3:=qh (T2.o.trans (aa.of_below b3.o)))
        | (go_at_call 271;go_loud (refine Pi (Ph.o _ K3.o) λw4 a4=>?_);have K4:=qh (K3.o.op a4.o.2 a4.o.1);have T4:=qh (T3.o.trans (a4.o.2.mono (T:=[a,g,q,u]) ahq));have I:=qh (K4.o.putS (p':={p with a:=v}) HP.o.1 (j:=1) (v:= J v) ahr rfl);have e1:=K4.o.sp.cell HP.o.1 1 _ rfl;have z1:=K4.o.sp.free (i*4+1)))
    all_goals go_wp2;go_ret;rw[HX.o,if_pos HV.o];exact⟨rfl,by rw[show({({p with a:=v,pc:=5}:Sp)with pc:=p.pc}:Sp)={p with a:=v} from rfl];exact I.o,T4.o.trans (eb ⟨q,i*4+1,none⟩ _ rfl)⟩
end
end
section
open Go.RowKit
section
variable{h:Hc}
def ph{S:List Sp}{p:Sp}(hp:S[i]? =some p):S.set i p=S:=by exact aal
def Jj(k:bB w l a g q b u lo hi dl P T h)(i:Nat)(ab:i<T.length)(p:Sp)(O:h.S[i]? =some p)(I:1<=p.b/\p.b<=100000)(V:p.pc=2):E 284 #[↑l,J i] w (pT w l a g q b u lo hi dl P T h i p (bz (ac P).length T.length dl h (dp P T i) i p)):=by
  obtain⟨_,HN,_⟩:=k.n32;have Mj:(i:Int)<T.length:=by omega
  have c5:=k.c5;have e2:=k.sp.cell O 2 _ rfl;have z2:=k.sp.free (i*4+2);obtain⟨Kg,M6⟩:=I
  have HX:Kq (bz (ac P).length T.length dl h (dp P T i) i p=(h.ar,h.D,{p with b:=p.b-1,pc:=if 0<p.b-1 then 2 else 3})):=qh (by
    unfold bz
    rw[if_neg ahp,if_pos V])
  have Y:=k.putS (p':={p with b:=p.b-1}) O (j:=2) (v:= J (p.b-1)) ahr rfl;have KH:=qh Y;have SD:=k.sp.lt;clear k O V Y;by_cases hg:0<p.b-1;. have H:=qh hg;go_enter func284,ntmps284;go_wp2;go_ret;rw[HX.o];exact⟨by rw[if_pos H.o];rfl,KH.o,eb ⟨q,i*4+2,none⟩ _ rfl⟩
  . have H:=qh hg;go_enter func284,ntmps284;go_wp2;go_ret;rw[HX.o];exact⟨by rw[if_neg (by have:=H.o;omega)];rfl,KH.o,eb ⟨q,i*4+2,none⟩ _ rfl⟩
def Js(k:bB w l a g q b u lo hi dl P T h)(i:Nat)(ad:i<T.length)(p:Sp)(hp:h.S[i]? =some p)(Y:h.ar.ops+1<=1000000000000)(V:p.pc=3):E 285 #[↑l,J i] w (pT w l a g q b u lo hi dl P T h i p (bz (ac P).length T.length dl h (dp P T i) i p)):=by
  obtain⟨_,HN,_⟩:=k.n32;have Mj:(i:Int)<T.length:=by omega
  obtain⟨v,O⟩:=LE (ldW h.ar.W (2+(dp P T i:Int)));obtain⟨ab,hV⟩:=LE (ch h.ar (2+(dp P T i:Int)) 0)
  have HX:Kq (bz (ac P).length T.length dl h (dp P T i) i p=(ab,h.D,{p with c:=v,pc:=4})):=qh (by
    unfold bz
    rw[if_neg ahp,if_neg ahp,if_pos V,<-O,<-hV])
  have HL:=qh (λW (k:bB W l a g q b u lo hi dl P T h)=>BP k i ad);have Nm:=(λW (k:bB W l a g q b u lo hi dl P T h)=>fh k.ar (2+(dp P T i:Int)) 0 Y);rw[<-O,<-hV]at Nm;have Ph:=qh Nm;have H:=qh (λW (h:Hc) (k:bB W l a g q b u lo hi dl P T h)=>And.intro k.c0 k.c5);have K1:=qh (k.below ((Below.refl _ w).drew));have HP:=qh (And.intro hp V);clear Nm k hp V O hV;go_enter func285,ntmps285;go_wp2_with fail
  go_region_held3 (λW=>W.cell? l=some ↑a/\Z W l 5 (slice (some ⟨q,0,none⟩) T.length T.length))
    (first|with_reducible exact H.o _ _ K1.o|with_reducible exact H.o _ _ K2.o|with_reducible exact H.o _ _ I.o|with_reducible exact H.o _ _ K5.o)
    (first
      | (go_at_call 289;go_loud (refine Pi (HL.o _ K1.o) λw2 q2=>?_);have K2:=qh (K1.o.below (Qt.below q2.o _));have T2:=qh (((aa.refl [a,g,q,u] w).drew).trans (aa.of_qt q2.o)))
      | (go_at_call 271;go_loud (refine Pi (Ph.o _ K2.o) λw4 a4=>?_);have I:=qh (K2.o.op a4.o.2 a4.o.1);have T4:=qh (T2.o.trans (a4.o.2.mono (T:=[a,g,q,u]) ahq));have K5:=qh (I.o.putS (p':={p with c:=v}) HP.o.1 (j:=3) (v:= J v) ahr rfl);have e1:=I.o.sp.cell HP.o.1 3 _ rfl;have z1:=I.o.sp.free (i*4+3)))
  all_goals go_wp2;go_ret;rw[HX.o];exact⟨rfl,K5.o,T4.o.trans (eb ⟨q,i*4+3,none⟩ _ rfl)⟩
def Ez(k:bB w l a g q b u lo hi dl P T h)(i:Nat)(ad:i<T.length)(p:Sp)(hp:h.S[i]? =some p)(Y:h.ar.ops+1<=1000000000000)(JU:p.pc=4):E 286 #[↑l,J i] w (pT w l a g q b u lo hi dl P T h i p (bz (ac P).length T.length dl h (dp P T i) i p)):=by
  obtain⟨_,HN,_⟩:=k.n32;have Mj:(i:Int)<T.length:=by omega
  have c5:=k.c5;obtain⟨v,O⟩:=LE (ldW h.ar.W 1);obtain⟨ab,hV⟩:=LE (ch h.ar 1 p.c)
  have HX:Kq (bz (ac P).length T.length dl h (dp P T i) i p=(ab,h.D,{p with a:=v,pc:=if v=0 then 10 else 5})):=qh (by
    unfold bz
    rw[if_neg ahp,if_neg ahp,if_neg ahp,if_pos JU,<-O,<-hV])
  have Nm:=(λW (k:bB W l a g q b u lo hi dl P T h)=>fh k.ar 1 p.c Y);rw[<-O,<-hV]at Nm;have Ph:=qh Nm;have HC:=qh (λW (h:Hc) (k:bB W l a g q b u lo hi dl P T h) (p':Sp) (hp:h.S[i]? =some p') (hc:p'.c=p.c)=>And.intro k.c0 (And.intro k.c2 (show W.cell? ⟨q,i*4+3,none⟩=some (J p.c)by rw[<-hc];exact k.sp.cell hp 3 _ rfl)));have K1:=qh (k.below ((Below.refl _ w).drew));have H:=qh (And.intro hp JU);have VU:=k.sl;have Yg:=qh VU;clear Nm k hp JU O hV VU;by_cases V:v=0
  all_goals
    have t0:(v==0)=decide (v=0):=(by by_cases h:v=0<;>simp[h]);first| rw[decide_eq_true V]at t0| rw[decide_eq_false V]at t0
    have HV:=qh V;clear V;go_enter func286,ntmps286;go_wp2_with fail
    go_region_held3 (λW=>W.cell? l=some ↑a/\Z W l 2 (J 1)/\Z W q (i*4+3) (J p.c))
      (first|with_reducible exact HC.o _ _ K1.o p H.o.1 rfl|with_reducible exact HC.o _ _ I.o p H.o.1 rfl|with_reducible exact XK.o)
      (first
        | (go_at_call 271;go_loud (refine Pi (Ph.o _ K1.o) λw4 a4=>?_);have I:=qh (K1.o.op a4.o.2 a4.o.1);have T4:=qh (((aa.refl [a,g,q,u] w).drew).trans (a4.o.2.mono (T:=[a,g,q,u]) ahq));have K5:=qh (I.o.putS (p':={p with a:=v}) H.o.1 (j:=1) (v:= J v) ahr rfl);have XK:=qh (HC.o _ _ K5.o {p with a:=v} (by simp[Yg.o,ad]) rfl);have e1:=I.o.sp.cell H.o.1 1 _ rfl;have z1:=I.o.sp.free (i*4+1)))
    all_goals go_wp2;go_ret;rw[HX.o];first| exact⟨by rw[if_pos HV.o];rfl,K5.o,T4.o.trans (eb ⟨q,i*4+1,none⟩ _ rfl)⟩| exact⟨by rw[if_neg HV.o];rfl,K5.o,T4.o.trans (eb ⟨q,i*4+1,none⟩ _ rfl)⟩
def Ie(k:bB w l a g q b u lo hi dl P T h)(i:Nat)(ab:i<T.length)(p:Sp)(hp:h.S[i]? =some p)(Y:h.ar.ops+1<=1000000000000)(ha:0<=p.a/\p.a<9223372036854775808)(O:p.pc=5):E 287 #[↑l,J i] w (pT w l a g q b u lo hi dl P T h i p (bz (ac P).length T.length dl h (dp P T i) i p)):=by
  obtain⟨_,HN,_⟩:=k.n32;have H:=k.nd;have MR:u≠a:=by simp at H;omega
  have MT:u≠g:=by simp at H;omega
  have Mj:(i:Int)<T.length:=by omega
  have c3:=k.c3;have c5:=k.c5;have e1:=k.sp.cell hp 1 _ rfl;obtain⟨bb,V⟩:=LE (isB h.ar.W (2+((ac P).length:Int)) T.length p.a)
  have HX:Kq (bz (ac P).length T.length dl h (dp P T i) i p=(isA h.ar (2+((ac P).length:Int)) T.length p.a,h.D,{p with pc:=if bb then 10 else 5})):=qh (by
    unfold bz
    rw[if_neg ahp,if_neg ahp,if_neg ahp,if_neg ahp,if_pos O,<-V])
  have I:=k.below ((Below.refl _ w).drew);have S4:=isU I.ar I.tu MR MT p.a ha.1 ha.2 Y;rw[<-V]at S4;have HI:=qh S4;have Yu:=qh I;have HP:=qh (And.intro hp O);clear k hp O S4 I H MR MT V ha;go_enter func287,ntmps287;go_wp2_with fail;refine wp_region_still_tail 12 ahs ahs ?_;refine aj8 ?_;change wpStill _ _ (World.drew _) _ _ _;repeat still_step
  refine wpStill_nil ?_;change wpList _ _ _ _ _ (World.drew w);go_wp2_with fail;refine Pi HI.o λw2 a2=>?_;have K2:=qh (Yu.o.op a2.o.2 a2.o.1);have T2:=qh (((aa.refl [a,g,q,u] w).drew).trans (a2.o.2.mono (T:=[a,g,q,u]) ahq));cases bb;all_goals go_wp2;go_ret;rw[HX.o];refine⟨rfl,?_,T2.o⟩;have e:h.S.set i ({({p with pc:=0}:Sp)with pc:=p.pc}:Sp)=h.S:=ph HP.o.1;rw[show ∀x:Int,({({p with pc:=x}:Sp)with pc:=p.pc}:Sp)=p from λ_=>rfl,ph HP.o.1];exact K2.o
def Hh(k:bB w l a g q b u lo hi dl P T h)(i:Nat)(V:i<T.length)(p:Sp)(hp:h.S[i]? =some p)(Y:h.ar.ops+1<=1000000000000)(hd:0<=dv h.D i/\dv h.D i<1000000000)(JU:p.pc=11):E 288 #[↑l,J i] w (pT w l a g q b u lo hi dl P T h i p (bz (ac P).length T.length dl h (dp P T i) i p)):=by
  have H:=k.nd;have MR:u≠a:=by simp at H;omega
  have MT:u≠g:=by simp at H;omega
  have WN:q∉[a,g,u]:=by simp at H ⊢;omega
  have c3:=k.c3
  have HX:Kq (bz (ac P).length T.length dl h (dp P T i) i p=(addA h.ar (2+((ac P).length:Int)+i) 1,h.D.set i (dv h.D i+1),{p with pc:=0})):=qh (by
    unfold bz
    rw[if_neg ahp,if_neg ahp,if_neg ahp,if_neg ahp,if_neg ahp])
  have HI:=qh (Hg k.ar k.tu MR MT i V hd Y);have O:=qh (And.intro k WN);have HP:=qh hp;clear k hp JU H MR MT WN;go_enter func288,ntmps288;go_wp2_with fail;refine Pi HI.o λw2 I=>?_;have K2:=qh (And.intro (O.o.1.next (I.o.2.2.mono (T:=[a,g,q,u]) ahq) I.o.1 (O.o.1.sp.turns I.o.2.2 O.o.2) I.o.2.1 O.o.1.sl) (I.o.2.2.mono (T:=[a,g,q,u]) ahq));go_wp2;go_ret;rw[HX.o];refine⟨rfl,?_,K2.o.2⟩;rw[show({({p with pc:=0}:Sp)with pc:=p.pc}:Sp)=p from rfl,ph HP.o];exact K2.o.1
end
end
section
open Go.RowKit
def ES(h:Hc):Prop:=h.ar.ops+1<=1000000000000/\∀j p,h.S[j]? =some p->(0<=dv h.D j/\dv h.D j<1000000000)/\(p.pc=2->1<=p.b/\p.b<=100000)/\(p.pc=5->0<=p.a/\p.a<9223372036854775808)
section
variable{h:Hc}
def GA(k:bB w l a g q b u lo hi dl P T h)(i:Int)(C:ES h):E 280 #[↑l,J i] w (HOp w l a g q b u lo hi dl P T (fu (ac P).length T.length dl (dp P T) h i)):=by
  have Ll:=aO;have H:=qh k;obtain⟨_,HN,_⟩:=k.n32;have J6:=k.sl;obtain⟨Y,TS⟩:=C;obtain⟨p,hp⟩:=LE (getS h.S i);have HP:=qh hp;by_cases hc:okI h.S i/\ik p=true
  . obtain⟨V,hg⟩:=hc;have I:=dJ V;rw[<-hp]at I;obtain⟨hd,M6,TL⟩:=TS _ _ I;obtain⟨h0,h9⟩:=id V;obtain⟨n,rfl⟩:=Int.eq_ofNat_of_zero_le h0;simp only[Int.toNat_natCast]at I hd;rw[J6]at h9;have hn:n<T.length:=(by omega);have Pu:(n:Int)<T.length:=(by omega);obtain⟨y,hy⟩:=LE (bz (ac P).length T.length dl h (dp P T n) n p)
    have HS:Kq (fu (ac P).length T.length dl (dp P T) h n=(⟨y.1,y.2.1,h.S.set n y.2.2⟩,decide (y.2.2.pc=10\/y.2.2.pc=0))):=qh (by
      unfold fu;rw[<-HP.o,if_pos ⟨V,hg⟩];simp only[Int.toNat_natCast]
      rw[hy])
    rcases oE.1 hg with e|e|e|e|e|e
    all_goals
      first| have O:=λW (k:bB W l a g q b u lo hi dl P T h)=>Gx k n hn p I Y hd e| have O:=λW (k:bB W l a g q b u lo hi dl P T h)=>Jj k n hn p I (M6 e) e| have O:=λW (k:bB W l a g q b u lo hi dl P T h)=>Js k n hn p I Y e| have O:=λW (k:bB W l a g q b u lo hi dl P T h)=>Ez k n hn p I Y e| have O:=λW (k:bB W l a g q b u lo hi dl P T h)=>Ie k n hn p I Y (TL e) e| have O:=λW (k:bB W l a g q b u lo hi dl P T h)=>Hh k n hn p I Y hd e
      rw[<-hy]at O;have HM:=qh O;first|(have u1:(p.pc==1)=true:=by simp[e])|(have u1:(p.pc==1)=false:=by simp[e])
      first|(have u2:(p.pc==2)=true:=by simp[e])|(have u2:(p.pc==2)=false:=by simp[e])
      first|(have u3:(p.pc==3)=true:=by simp[e])|(have u3:(p.pc==3)=false:=by simp[e])
      first|(have u4:(p.pc==4)=true:=by simp[e])|(have u4:(p.pc==4)=false:=by simp[e])
      first|(have u5:(p.pc==5)=true:=by simp[e])|(have u5:(p.pc==5)=false:=by simp[e])
      first|(have u6:(p.pc==11)=true:=by simp[e])|(have u6:(p.pc==11)=false:=by simp[e])
      have HG:=qh I;clear k hp I h0 h9 V hg hd M6 TL TS hy O e J6;go_enter func280,ntmps280;go_wp2_with fail;refine ST (xJ H.o n) λw1 b1=>?_;refine ajm ?_;intro H1;clear b1;go_wp2_with fail;refine(HM.o _ H1.o.1).mono ?_;rintro en w2 ⟨rfl,K2,t2⟩;have Lr:(h.S.set n {y.2.2 with pc:=p.pc})[n]? =some {y.2.2 with pc:=p.pc}:=(by have:=(List.getElem?_eq_some_iff.1 HG.o).1;simp[this]);have c5:=K2.c5;have d0:=aaa (K2.sp.cell Lr 0 _ rfl);have f0:=K2.sp.free (n*4);have hq:=K2.sp.lt;have K3:=K2.putS Lr (j:=0) (v:= J y.2.2.pc) (p':=y.2.2) ahr rfl;simp only[Nat.add_zero,List.set_set]at K3;have H2:=qh (And.intro K3 (((aa.of_below H1.o.2).trans t2).trans (eb ⟨q,n*4,none⟩ (J y.2.2.pc) rfl)));clear K2 t2 Lr K3;cases z1:(y.2.2.pc==10)
      . cases z0:(y.2.2.pc==0);. have HD:Kq (decide (y.2.2.pc=10\/y.2.2.pc=0)=false):=qh ah4;go_wp2;go_ret;rw[HS.o];exact⟨az HD.o.symm,H2.o.1,H2.o.2⟩
        . have HD:Kq (decide (y.2.2.pc=10\/y.2.2.pc=0)=true):=qh ah6;go_wp2;go_ret;rw[HS.o];exact⟨az HD.o.symm,H2.o.1,H2.o.2⟩
      . have HD:Kq (decide (y.2.2.pc=10\/y.2.2.pc=0)=true):=qh ah5;go_wp2;go_ret;rw[HS.o];exact⟨az HD.o.symm,H2.o.1,H2.o.2⟩
  . have HS:Kq (fu (ac P).length T.length dl (dp P T) h i=(h,false)):=qh (by unfold fu;rw[<-hp,if_neg hc])
    have hz:ik p=false:=by
      by_cases V:okI h.S i
      . cases hg:ik p;. rfl
        . exact absurd ⟨V,hg⟩ hc
      . rw[hp,dC V];rfl
    unfold ik at hz;simp only[Bool.or_eq_false_iff]at hz;obtain⟨⟨⟨⟨⟨u1,u2⟩,u3⟩,u4⟩,u5⟩,u6⟩:=hz;clear k hp hc TS J6;go_enter func280,ntmps280;go_wp2_with fail;refine ST (xJ H.o i) λw1 b1=>?_;refine ajm ?_;intro H1;clear b1;go_wp2;go_ret;rw[HS.o];exact⟨rfl,H1.o.1,aa.of_below H1.o.2⟩
end
end
section
open Go.RowKit
theorem Tryz.infoSp:(prog.info? 113).map (λi=>(i.zero,i.size,i.bytes))=some (some (agg #[J 0,J 0,J 0,J 0]),4,32):=by kernel_rfl
def jJ(u:Value)(n:Nat):(madeCells #[u,u,u,u] n).toList=List.replicate n u:=by exact aav
def mh(n:Nat):(List.replicate n Sp.zero).flatMap bf=List.replicate (n*4) (J 0):=by exact aaw
def hc0(s:Ar)(nd n:Nat):Hc:=⟨{s with W:=List.replicate (1+nd+n) 0},List.replicate 32 0,List.replicate n Sp.zero⟩
def Fg(w:World)(a g:Nat)(s:Ar)(d:Int)(P T:List Int)(e:Ending)(w':World):Prop:=
 ∃l q b u lo hi,e= returned (tuple #[pointer (some ⟨l,0,none⟩),J 0])/\bB w' l a g q b u lo hi d P T (hc0 s (ac P).length T.length)/\w.heap.size<=l/\w.heap.size<=q/\w.heap.size<=b/\w.heap.size<=u/\aa [a] w w'/\w.heap.size<=lo
def F9{s:Ar}(h:aB w a g s)(hs:s.W=[])(Lz:a≠g)(vP vT:Value)(P T:List Int)(hP:RdL w vP 1 encI P)(hT:RdL w vT 1 encI T)(hc:a5 P T=0)(d:Int)(MK:0<=d)(hd1:d<=1000)(V:s.room=4096):E 105 #[↑a,agg #[vP,vT],J d] w (Fg w a g s d P T):=by
  obtain⟨i0,hi,J5,J7,J2⟩:=info_parts Tryz.infoSp;have Kx:=bi (aQ hc).1;have Nq:(ac P).length<=32:=by exact aax
  refine ajn ?_;intro Lq LM Mg Ma;obtain⟨nd,O⟩:=LE ((ac P).length);have Me:=qh O;rw[<-O]at Nq;have H:=qh (And.intro h (And.intro Lq LM));have HN:=qh (iU (w.alloc (cells #[vP,vT] 24)) vP vT P T (hP.alloc _) (hT.alloc _) hc);have Oc:=λlo W b h=>Ge lo W b P T hc h;rw[<-O]at Oc;have Nl:=qh Oc;have HS:=qh (And.intro hs V);have HR:=qh (λW=>pe d W MK hd1);refine aj6 ?_;intro Kp B0;have x1:IntKind.i64.wrap (1+(nd:Int))=1+nd:=IntWalk.i64_in _ ahp;clear h hs hP hT MK hd1 V Kx Oc O Lq LM;go_enter func105,ntmps105;go_wp2_with fail;refine HN.o.mono ?_;rintro en w1 ⟨b,rfl,I,t1,b1⟩;rw[Kp]at I t1 b1;have K1:=qh (And.intro t1 (B0.o.trans (b1.mono ahp)));have HB:=qh I;clear t1 b1 I HN;go_wp2_with fail;refine LT (HR.o _) ?_;go_wp2_with fail;refine Pi (Nl.o _ _ _ K1.o.1) λw2 t2=>?_;have JZ:=K1.o.2.size;have JY:=t2.o.2.size;have T2:aa [] w w2:=((aa.of_below (S:=[b]) K1.o.2).trans t2.o.2).fresh (by have:=HB.o;simp;omega);have A2:=H.o.1.turns T2 ahq ahq;have K2:=qh (And.intro t2.o.1 (And.intro T2 (And.intro A2 (Nat.le_trans JZ JY))));clear JZ JY T2 A2;go_wp2_with fail
  have HT:Kq (d7 s (1+(nd:Int))=({s with W:=List.replicate (1+nd) 0},(1:Int),(0:Int))):=qh (by
    unfold d7
    rw[HS.o.1,HS.o.2,if_neg ahp,if_neg ahu,show(1+(nd:Int)).toNat=1+nd by omega];rfl)
  refine(gh K2.o.2.2.1 (1+(nd:Int))).mono ?_;rintro en w3 ⟨rfl,k3,t3⟩;rw[HT.o]at k3 ⊢;have KI:=t3.size;have Q3:lH (w.heap.size+1) w2.heap.size w3 b P T:=K2.o.1.keep (λi h1 h2=>t3.block i h2 (by have:=H.o.2.1;simp;omega)) KI;have K3:=qh (And.intro Q3 (And.intro (K2.o.2.1.mono (T:=[a]) ahq |>.trans t3) (And.intro k3 (Nat.le_trans K2.o.2.2.2 KI))));have SE:=qh KI;clear k3 t3 Q3 KI;go_wp2_with fail;refine LT (d9 _ _ _ _ K3.o.1.f.tab) ?_;go_wp2_with fail;refine(JA K3.o.2.2.1 T.length Mg Ma (by have:=HS.o.2;simp;omega)).mono ?_;rintro en w4 ⟨u,rfl,hu,k4,v4,t4⟩;have LU:=t4.size;have KP:=K3.o.1.high;have Q4:lH (w.heap.size+1) w2.heap.size w4 b P T:=K3.o.1.keep (λi h1 h2=>t4.block i (by have:=SE.o;omega) (by have:=H.o.2.1;simp;omega)) (by have:=SE.o;omega);have Y:=qh (And.intro Q4 (And.intro (K3.o.2.1.trans t4) (And.intro k4 (And.intro v4 (And.intro (show w3.heap.size<=u from hu) (show w3.heap.size<=w4.heap.size from LU))))));have H4:=qh (show w2.heap.size<=w4.heap.size by have:=SE.o;omega);clear k4 v4 t4 Q4 LU hu;go_wp2_with fail;refine LT (d9 _ _ _ _ Y.o.1.f.tab) ?_;go_wp2_with (refine wpList_make_full _ rfl (.tmp 52) (.tmp 52) 237 rfl w4.heap.size 113 i0 (agg #[J 0,J 0,J 0,J 0]) 4 Tryz.underlying237 hi J5 J7 .i64 .i64 T.length T.length T.length rfl rfl rfl rfl ?b2 ?b3 (Nat.le_refl _) ?_);case b2=>rw[J2];omega
  case b3=>unfold maxLen;omega
  intro w5 r' hg;have I:dA w5 w4.heap.size (List.replicate T.length Sp.zero):=by exact aay
  have t5:aa [] w4 w5:=aa.of_below ((Below.refl w4.heap.size w4).grown hg (Nat.le_refl _) (λj hj=>by cases hj));have NE:=I.lt;have H5:=qh (And.intro I t5);clear r' hg I t5;go_wp2;go_ret2;have t6:aa [] w4 (w5.alloc (cells #[↑a,pointer (some ⟨b,0,none⟩),J 1,↑u,J d,slice (some ⟨w4.heap.size,0,none⟩) T.length T.length] 260)):=H5.o.2.alloc _;have ab:=SE.o;have ad:=Y.o.2.2.2.2.2;have al:=Y.o.2.2.2.2.1;have ax:=K2.o.2.2.2;have M7:=HB.o;have PD:=Y.o.2.2.2.1.blk.lt;have Ns:=H.o.2.1;have Ol:=H.o.2.2;have Xt:w5.heap.size+1=(w5.alloc (cells #[↑a,pointer (some ⟨b,0,none⟩),J 1,↑u,J d,slice (some ⟨w4.heap.size,0,none⟩) T.length T.length] 260)).heap.size:=by simp
  have k6:=Y.o.2.2.1.turns t6 ahq ahq;have u6:=Y.o.2.2.2.1.turns t6 ahq;have e1:(List.replicate (1+nd) (0:Int))++List.replicate T.length 0=List.replicate (1+(ac P).length+T.length) 0:=by rw[List.replicate_append_replicate,<-Me.o]
  refine⟨w5.heap.size,w4.heap.size,b,u,w.heap.size+1,w2.heap.size,rfl,⟨?_,?_,?_,?_,?_,?_,?_,?_,?_⟩,?_,?_,?_,?_,?_,by omega⟩;. unfold hc0;rw[<-e1];exact k6
  . exact Blk.new w5 _ _
  . exact H5.o.1.turns (T:=[]) ((aa.refl _ _).alloc _) ahq
  . have:(((List.replicate (1+nd) (0:Int)).length:Int)+1)=2+((ac P).length:Int):=(by rw[<-Me.o];simp;omega);rw[<-this];exact u6
  . exact Y.o.1.keep (λi h1 h2=>t6.block i ahp ahq) (by rw[<-Xt];omega)
  . simp[hc0]
  . omega
  . simp;omega
  . simp;omega
  . omega
  . omega
  . omega
  . omega
  . exact Y.o.2.1.trans (t6.mono ahq)
end
section
open Go.RowKit
def HOk.cond{nd n:Nat}{node:Nat->Nat}{h:Hc}(k:HOk nd n dl node h N G)(hN:N<1000000)(hd:dl<=3):ES h:=by
 refine⟨by have:=k.ops;omega,λj p H=>?_⟩;have V:j<n:=by rw[<-k.iv.sl];exact(List.getElem?_eq_some_iff.1 H).1
 have e:sv h.S j=p:=by unfold sv;rw[List.getD_eq_getElem?_getD,H];rfl
 subst e;have hn:=k.iv.n32;refine⟨⟨k.iv.d0 j,by have:=k.dn j;omega⟩,λI=>?_,λh5=>?_⟩;.have h1:=k.bb j V I;have Y:=k.iv.at234 V (.inl I);rcases k.iv.mast j (fF Y)with⟨h4|h4,_⟩|⟨h4,_⟩<;>omega
 .rcases k.iv.at5 V h5 with⟨q,p,_,H,O⟩|⟨_,t,d,ht,h1,I,O⟩
  .rw[O];have:=k.iv.d0 p;have:=k.dn p;have:=k.iv.lt _ _ H;unfold tokH;omega
  .rw[O];have:=k.dn t;unfold tokH;omega
section
variable{w0:World}{d:Int}{h h':Hc}{M:Nat}{G':Nat->List Nat}
end
end
end Go.Proofs.YtglokdbiggbkjaaGreat
