/- Joined texts. -/
import Derived.Laws.EntriesVeiled
import Derived.IntWalk
import Derived.Test.YtglokdbiggbkjaaGreatMgLocksSafe0
import Derived.Test.YtglokdbiggbkjaaGreatMgLocksSafe1
import Derived.Test.YtglokdbiggbkjaaGreatMgLocksSafe2
import Derived.Test.YtglokdbiggbkjaaGreatMgLocksSafe3
import Derived.Test.YtglokdbiggbkjaaGreatMgLocksSafe4
import Derived.Test.YtglokdbiggbkjaaGreatMgLocksSafe5
import Derived.Test.YtglokdbiggbkjaaGreatMgLocksSafe6
import Derived.Test.YtglokdbiggbkjaaGreatMgLocksSafe7
set_option linter.unusedVariables false
set_option linter.unusedSimpArgs false
set_option maxRecDepth 100000
set_option maxHeartbeats 16000000
namespace Go.Proofs.YtglokdbiggbkjaaGreat
section
open Go.RowKit
def dc (P T:List Int)(i:Nat):Nat:=(fy (ab P) (T.getD i 0)).toNat
structure bo (w:World)(l a g q b u lo hi:Nat)(dl:Int)(P T:List Int)(h:Hc):Prop where
 ar:aA w a g h.ar
 lk:Blk w l 260 #[↑a,↑b,.int .i64 1,↑u,.int .i64 dl,.slice (some ⟨q,0,none⟩) T.length T.length]
 sp:dq w q h.S
 tu:d9 w u a (2+(ab P).length) T.length h.D
 tab:lh lo hi w b P T
 sl:h.S.length=T.length
 hs:hi<=w.heap.size
 nd:[l,a,g,q,u].Nodup
 o:∀x∈[l,a,g,q,u],x<lo\/hi<=x
section
variable{w w':World}{l a g q b u lo hi:Nat}{dl:Int}{P T:List Int}{h:Hc}
theorem bo.n32 (k:bo w l a g q b u lo hi dl P T h):1<=T.length/\T.length<=32/\(ab P).length<=32:=by have:=bh (aR k.tab.ok).1;have hll:=aZ P P.length;exact⟨this.2.2.1,this.2.2.2,by show(ai P P.length).length<=32;omega⟩
theorem bo.next (k:bo w l a g q b u lo hi dl P T h){ar':Ar}{D':List Int}{S':List Sp}(t:aa [a,g,q,u] w w')(h1:aA w' a g ar')(h2:dq w' q S')(h3:d9 w' u a (2+(ab P).length) T.length D')(h4:S'.length=T.length):bo w' l a g q b u lo hi dl P T ⟨ar',D',S'⟩:=by
 have hnd:=k.nd;refine⟨h1,t.blk k.lk ?_,h2,h3,k.tab.keep (λi hi1 hi2=>t.block i (by have:=k.hs;omega) λhm=>?_) (Nat.le_trans k.hs t.size),h4,Nat.le_trans k.hs t.size,k.nd,k.o⟩;·exact(List.nodup_cons.1 hnd).1
 ·have:=k.o i (List.mem_cons_of_mem _ hm);omega
theorem bo.below (k:bo w l a g q b u lo hi dl P T h)(t:Below w.heap.size w w'):bo w' l a g q b u lo hi dl P T h:=by have t0:=aa.of_below (S:=[]) t;exact k.next (t0.mono QY) (k.ar.turns t0 QY QY) (k.sp.turns t0 QY) (k.tu.turns t0 QY) k.sl
theorem bo.spot (k:bo w l a g q b u lo hi dl P T h){S':List Sp}(hs:dq w' q S')(hl:S'.length=T.length)(t:aa [q] w w'):bo w' l a g q b u lo hi dl P T ⟨h.ar,h.D,S'⟩:=by have hnd:=k.nd;simp at hnd;exact k.next (t.mono QY) (k.ar.turns t Q1 Q1) hs (k.tu.turns t Q1) hl
theorem bo.c0 (k:bo w l a g q b u lo hi dl P T h):w.cell? l=some ↑a:=k.lk.cell 0
theorem bo.c1 (k:bo w l a g q b u lo hi dl P T h):w.cell? ⟨l,1,none⟩=some ↑b:=k.lk.cell 1
theorem bo.c2 (k:bo w l a g q b u lo hi dl P T h):w.cell? ⟨l,2,none⟩=some (.int .i64 1):=k.lk.cell 2
theorem bo.c3 (k:bo w l a g q b u lo hi dl P T h):w.cell? ⟨l,3,none⟩=some ↑u:=k.lk.cell 3
theorem bo.c4 (k:bo w l a g q b u lo hi dl P T h):w.cell? ⟨l,4,none⟩=some (.int .i64 dl):=k.lk.cell 4
theorem bo.c5 (k:bo w l a g q b u lo hi dl P T h):w.cell? ⟨l,5,none⟩=some (.slice (some ⟨q,0,none⟩) T.length T.length):=k.lk.cell 5
theorem jL (k:bo w l a g q b u lo hi dl P T h):Calls Tryz.prog 281 #[↑l] w λe w'=>e= .returned (.int .i64 T.length)/\w=w':=by have c5:=k.c5;clear k;go_enter Tryz.func281,Tryz.ntmps281;exact gs
theorem wv (k:bo w l a g q b u lo hi dl P T h) (i:Int):
    Calls Tryz.prog 279 #[↑l,.int .i64 i] w λe w'=>e= .returned (aE (getS h.S i))/\Below w.heap.size w w':=by
  obtain⟨_,HN,_⟩:=k.n32;have hsl:=k.sl;by_cases hok:okI h.S i;· have hp:=dE hok;obtain⟨p,hpp⟩:∃p,p=getS h.S i:=⟨_,rfl⟩;rw[<-hpp]at hp ⊢;have c2:=k.c5;have a0:=k.sp.cell hp 0 _ rfl;have a1:=k.sp.cell hp 1 _ rfl;have a2:=k.sp.cell hp 2 _ rfl;have a3:=k.sp.cell hp 3 _ rfl;simp only[Nat.add_zero]at a0;obtain⟨h0,h1⟩:=hok;rw[hsl]at h1;obtain⟨n,rfl⟩:=Int.eq_ofNat_of_zero_le h0;simp only[Int.toNat_natCast]at a0 a1 a2 a3;have hs1:=k.lk.lt;have hs2:=k.sp.lt;have t2:¬(n:Int)<0:=(by omega);have t3:¬((T.length:Nat):Int)<=(n:Int):=(by omega);have t4:n<T.length:=(by omega);have H:Kq (bo (w.alloc (.cells #[.int .i64 0,.int .i64 0,.int .i64 0,.int .i64 0] 113)) l a g q b u lo hi dl P T h):=qh (k.below ((Below.refl _ _).alloc (Nat.le_refl _) _));clear k hp hpp h0 h1 hsl;go_enter Tryz.func279,Tryz.ntmps279;go_wp2_with (go_at_call 281;refine(jL H.o).mono ?_;rintro e w' ⟨rfl,rfl⟩);exact bodyPost_ret (results_cell_row Q5 _ _ w.heap.size 113 _ (0,0) _ Q5 (heap_alloc_new w _) Tryz.underlying113 rfl Q0) rfl ⟨rfl,(Below.refl _ _).alloc (Nat.le_refl _) _⟩
  · have H:Kq (bo (w.alloc (.cells #[.int .i64 0,.int .i64 0,.int .i64 0,.int .i64 0] 113)) l a g q b u lo hi dl P T h):=qh (k.below ((Below.refl _ _).alloc (Nat.le_refl _) _));rw[du hok];unfold okI at hok;rw[hsl]at hok;clear k hsl;by_cases h0:i<0;· go_enter Tryz.func279,Tryz.ntmps279;go_wp2;exact bodyPost_ret (results_cell_row Q5 _ _ w.heap.size 113 _ (0,0) _ Q5 (heap_alloc_new w _) Tryz.underlying113 rfl Q0) rfl ⟨rfl,(Below.refl _ _).alloc (Nat.le_refl _) _⟩
    · have t3:((T.length:Nat):Int)<=i:=(by omega);clear hok;go_enter Tryz.func279,Tryz.ntmps279;go_wp2_with (go_at_call 281;refine(jL H.o).mono ?_;rintro e w' ⟨rfl,rfl⟩);exact bodyPost_ret (results_cell_row Q5 _ _ w.heap.size 113 _ (0,0) _ Q5 (heap_alloc_new w _) Tryz.underlying113 rfl Q0) rfl ⟨rfl,(Below.refl _ _).alloc (Nat.le_refl _) _⟩
def HOp (w:World)(l a g q b u lo hi:Nat)(dl:Int)(P T:List Int)(x:Hc×Bool)(e:Ending)(w':World):Prop:=e= .returned (.bool x.2)/\bo w' l a g q b u lo hi dl P T x.1/\aa [a,g,q,u] w w'
theorem vf (k:bo w l a g q b u lo hi dl P T h) (i from_ to_:Int):
    Calls Tryz.prog 282 #[↑l,.int .i64 i,.int .i64 from_,.int .i64 to_] w (HOp w l a g q b u lo hi dl P T (bj h i from_ to_)):=by
  have H:=qh k;obtain⟨_,hlen,_⟩:=k.n32;have hsl:=k.sl;by_cases hi:okI h.S i
  · have hp:=dE hi;obtain⟨p,hpp⟩:∃p,p=getS h.S i:=⟨_,rfl⟩;rw[<-hpp]at hp;have c2:=k.c5;have a0:=k.sp.cell hp 0 _ rfl;have f0:=k.sp.free (i.toNat*4);simp only[Nat.add_zero]at a0;obtain⟨h0,h1⟩:=id hi;rw[hsl]at h1;obtain⟨n,rfl⟩:=Int.eq_ofNat_of_zero_le h0;simp only[Int.toNat_natCast]at a0 f0 hp;have t2:¬(n:Int)<0:=(by omega);have t3:¬((T.length:Nat):Int)<=(n:Int):=(by omega);have t4:n<T.length:=(by omega);have HP:=qh (And.intro hi (And.intro hpp hp));clear k hp hpp h0 h1 hi hsl;cases hc:(p.pc !=from_)
    · have hb:Kq (bj h n from_ to_=(⟨h.ar,h.D,h.S.set n {p with pc:=to_}⟩,true)):=qh (by
        unfold bj;have e:p.pc=from_:=by simpa using hc
        rw[<-HP.o.2.1,if_pos ⟨HP.o.1,e⟩];simp)
      go_enter Tryz.func282,Tryz.ntmps282;go_wp2_with (go_at_call 281;refine(jL H.o).mono ?_;rintro e w' ⟨rfl,rfl⟩);go_ret;rw[hb.o];have ht:aa [q] w (w.setCell ⟨q,n*4,none⟩ (.int .i64 to_)):=(aa.refl _ _).setCell (.inl QY) _;exact⟨rfl,H.o.spot (H.o.sp.put HP.o.2.2 (j:=0) QZ rfl) (by simp[H.o.sl]) ht,ht.mono QY⟩
    · have hb:Kq (bj h n from_ to_=(h,false)):=qh (by
        unfold bj;have e:¬p.pc=from_:=by simpa using hc
        rw[<-HP.o.2.1,if_neg (λh=>e h.2)])
      go_enter Tryz.func282,Tryz.ntmps282;go_wp2_with (go_at_call 281;refine(jL H.o).mono ?_;rintro e w' ⟨rfl,rfl⟩);go_ret;rw[hb.o];exact⟨rfl,H.o,aa.refl _ _⟩
  · have hb:Kq (bj h i from_ to_=(h,false)):=qh (by
      unfold bj
      rw[if_neg (λh=>hi h.1)])
    unfold okI at hi;rw[hsl]at hi;clear k hsl;by_cases h0:i<0;· go_enter Tryz.func282,Tryz.ntmps282;go_wp2;go_ret;rw[hb.o];exact⟨rfl,H.o,aa.refl _ _⟩
    · have t3:((T.length:Nat):Int)<=i:=(by omega);clear hi;go_enter Tryz.func282,Tryz.ntmps282;go_wp2_with (go_at_call 281;refine(jL H.o).mono ?_;rintro e w' ⟨rfl,rfl⟩);go_ret;rw[hb.o];exact⟨rfl,H.o,aa.refl _ _⟩
theorem FC (k:bo w l a g q b u lo hi dl P T h) (i:Int):
    Calls Tryz.prog 277 #[↑l,.int .i64 i] w (HOp w l a g q b u lo hi dl P T (bj h i 0 1)):=by obtain⟨x,hx⟩:∃x,x=bj h i 0 1:=⟨_,rfl⟩;have H:=qh (vf k i 0 1);rw[<-hx]at H ⊢;obtain⟨x1,x2⟩:=x;clear k hx;go_enter Tryz.func277,Tryz.ntmps277;go_wp2_with fail;refine H.o.mono ?_;rintro en w1 ⟨rfl,h1,t1⟩;have H1:=qh (And.intro h1 t1);clear h1 t1;go_wp2;go_ret;exact⟨rfl,H1.o⟩
theorem CP (k:bo w l a g q b u lo hi dl P T h) (i:Int):
    Calls Tryz.prog 278 #[↑l,.int .i64 i] w (HOp w l a g q b u lo hi dl P T (bj h i 10 11)):=by obtain⟨x,hx⟩:∃x,x=bj h i 10 11:=⟨_,rfl⟩;have H:=qh (vf k i 10 11);rw[<-hx]at H ⊢;obtain⟨x1,x2⟩:=x;clear k hx;go_enter Tryz.func278,Tryz.ntmps278;go_wp2_with fail;refine H.o.mono ?_;rintro en w1 ⟨rfl,h1,t1⟩;have H1:=qh (And.intro h1 t1);clear h1 t1;go_wp2;go_ret;exact⟨rfl,H1.o⟩
theorem sF (k:bo w l a g q b u lo hi dl P T h){i:Nat}(hi:i<T.length):(ao P T T.length)[i]? =some ((dc P T i:Nat):Int)/\dc P T i<(ab P).length:=by have hm:T.getD i 0∈ab P:=jc (aR k.tab.ok).2.2.2 (i:=i) (by rw[List.getD_eq_getElem?_getD,List.getElem?_eq_getElem hi];rfl);have h1:=eI (ab P) (T.getD i 0);have h0:=h1.1.2 hm;have h2:=h1.2.1;unfold dc;refine⟨?_,by omega⟩;unfold ao;rw[List.getElem?_map,List.getElem?_take,if_pos hi,List.getElem?_eq_getElem hi];simp only[Option.map_some,Option.some.injEq];rw[show T.getD i 0=T[i]by rw[List.getD_eq_getElem?_getD,List.getElem?_eq_getElem hi];rfl]at h0 ⊢;omega
theorem Aw (k:bo w l a g q b u lo hi dl P T h) (i:Nat) (hi:i<T.length):
    Calls Tryz.prog 289 #[↑l,.int .i64 i] w λe w'=>e= .returned (.int .i64 (2+(dc P T i:Nat)))/\Qt w w':=by obtain⟨hx,hlt⟩:=sF k hi;obtain⟨_,_,h32⟩:=k.n32;obtain⟨v,hv⟩:∃v,v=dc P T i:=⟨_,rfl⟩;rw[<-hv]at hx hlt ⊢;have HN:=qh (λW (h:iq W b P T)=>kh W b P T i hi h v hx);have HT:=qh k.tab;have HS:=qh k.hs;have c1:=k.c1;have c2:=k.c2;have x1:IntKind.i64.wrap (2+(v:Int))=2+v:=IntWalk.i64_in _ QX;clear k hv hx;go_enter Tryz.func289,Tryz.ntmps289;go_wp2;go_quiet ((go_at_call 100;exact dS (HN.o _ (HT.o.f.below (Qt.below ⟨_,rfl⟩ _)))));go_wp2;go_ret;exact⟨rfl,⟨_,rfl⟩⟩
end
end
section
open Go.RowKit
section
variable{w w':World}{l a g q b u lo hi:Nat}{dl:Int}{P T:List Int}{h:Hc}
def po (w:World)(l a g q b u lo hi:Nat)(dl:Int)(P T:List Int)(h:Hc)(i:Nat)(p:Sp)(x:Ar×List Int×Sp)(e:Ending)(w':World):Prop:=
 e= .returned (.int .i64 x.2.2.pc)/\bo w' l a g q b u lo hi dl P T ⟨x.1,x.2.1,h.S.set i {x.2.2 with pc:=p.pc}⟩/\aa [a,g,q,u] w w'
theorem bo.op (k:bo w l a g q b u lo hi dl P T h){ar':Ar}(t:aa [a,g] w w')(h1:aA w' a g ar'):bo w' l a g q b u lo hi dl P T ⟨ar',h.D,h.S⟩:=by have hnd:=k.nd;simp at hnd;exact k.next (t.mono QY) h1 (k.sp.turns t Q1) (k.tu.turns t Q1) k.sl
theorem bo.putS (k:bo w l a g q b u lo hi dl P T h){i:Nat}{p p':Sp}(hp:h.S[i]? =some p){j:Nat}{v:Value}(hj:j<4)(he:(a9 p).set j v=a9 p'):bo (w.setCell ⟨q,i*4+j,none⟩ v) l a g q b u lo hi dl P T ⟨h.ar,h.D,h.S.set i p'⟩:=
 k.spot (k.sp.put hp hj he) (by simp[k.sl]) ((aa.refl _ _).setCell (.inl QY) _)
theorem dX{w:World}{a g q u:Nat}(p:Addr)(v:Value)(hp:p.block=q):aa [a,g,q,u] w (w.setCell p v):=(aa.refl _ _).setCell (.inl (by simp[hp])) _
theorem Fd (k:bo w l a g q b u lo hi dl P T h) (i:Nat) (hin:i<T.length) (p:Sp) (hp:h.S[i]? =some p) (ho:h.ar.ops+1<=1000000000000) (hd:0<=dv h.D i/\dv h.D i<1000000000) (hpc:p.pc=1):
    Calls Tryz.prog 283 #[↑l,.int .i64 i] w (po w l a g q b u lo hi dl P T h i p (bm (ab P).length T.length dl h (dc P T i) i p)):=by
  obtain⟨_,HN,_⟩:=k.n32;have hi2:(i:Int)<T.length:=by omega
  have c5:=k.c5;obtain⟨v,hv⟩:∃v,v=ldW h.ar.W (2+(dc P T i:Int)):=⟨_,rfl⟩;obtain⟨ar',har⟩:∃s,s=bY h.ar (2+(dc P T i:Int)) (tokH i (dv h.D i+1)):=⟨_,rfl⟩
  have HX:Kq (bm (ab P).length T.length dl h (dc P T i) i p=(ar',h.D,if v≠0 then {p with a:=v,pc:=5} else if 0<dl then {p with a:=v,b:=dl,pc:=2} else {p with a:=v,b:=0,pc:=3})):=qh (by
    unfold bm
    rw[if_pos hpc,<-hv,<-har])
  have HL:=qh (λW (k:bo W l a g q b u lo hi dl P T h)=>Aw k i hin);have HNx:=qh (λW (k:bo W l a g q b u lo hi dl P T h)=>Gw k.tu i hin hd);have HSw0:=(λW (k:bo W l a g q b u lo hi dl P T h)=>ff k.ar (2+(dc P T i:Int)) (tokH i (dv h.D i+1)) ho);rw[<-hv,<-har]at HSw0;have HSw:=qh HSw0;have HC:=qh (λW (h:Hc) (k:bo W l a g q b u lo hi dl P T h)=>And.intro k.c0 (And.intro k.c3 k.c4));have K1:=qh (k.below ((Below.refl _ w).drew));have HP:=qh (And.intro hp hpc);clear HSw0 k hp hpc hd hv har;by_cases hv0:v=0
  · have t0:(v !=0)=false:=(by simpa using hv0);have HV:=qh hv0;clear hv0;by_cases hdl:0<dl
    · have HD:=qh hdl;go_enter Tryz.func283,Tryz.ntmps283;go_wp2_with fail
      go_region_held3 (λW=>W.cell? l=some ↑a/\W.cell? ⟨l,3,none⟩=some ↑u/\W.cell? ⟨l,4,none⟩=some (.int .i64 dl))
        (first|with_reducible exact HC.o _ _ K1.o|with_reducible exact HC.o _ _ K2.o|with_reducible exact HC.o _ _ K3.o|with_reducible exact HC.o _ _ K4.o|with_reducible exact HC.o _ _ K5.o)
        (first
          | (go_at_call 289;go_loud (refine(HL.o _ K1.o).mono ?_);rintro en w2 ⟨rfl,q2⟩;have K2:=qh (K1.o.below (Qt.below q2 _));have T2:=qh (((aa.refl [a,g,q,u] w).drew).trans (aa.of_qt q2));clear q2)
          | (go_at_call 290;go_loud (refine(HNx.o _ K2.o).mono ?_);rintro en w3 ⟨rfl,b3⟩;have K3:=qh (K2.o.below b3);have T3:=qh (T2.o.trans (aa.of_below b3));clear b3)
          | (go_at_call 271;go_loud (refine(HSw.o _ K3.o).mono ?_);rintro en w4 ⟨rfl,a4,t4⟩;have K4:=qh (K3.o.op t4 a4);have T4:=qh (T3.o.trans (t4.mono (T:=[a,g,q,u]) QY));have K5:=qh (K4.o.putS (p':={p with a:=v}) HP.o.1 (j:=1) (v:= .int .i64 v) QZ rfl);have e1:=K4.o.sp.cell HP.o.1 1 _ rfl;have z1:=K4.o.sp.free (i*4+1);clear a4 t4))
      all_goals have c4:=(HC.o _ _ K5.o).2.2;have e2:=K5.o.sp.cell (i:=i) (p:={p with a:=v}) RM 2 _ rfl;have z2:=K5.o.sp.free (i*4+2);have K6:=K5.o.putS (i:=i) (p:={p with a:=v}) (p':={p with a:=v,b:=dl}) RM (j:=2) (v:= .int .i64 dl) QZ rfl;simp only[List.set_set]at K6;have K6H:=qh K6;clear K6;go_wp2;go_ret;rw[HX.o,if_neg (λh=>h HV.o),if_pos HD.o];exact⟨rfl,by rw[show({({p with a:=v,b:=dl,pc:=2}:Sp)with pc:=p.pc}:Sp)={p with a:=v,b:=dl} from rfl];exact K6H.o,(T4.o.trans (dX ⟨q,i*4+1,none⟩ _ rfl)).trans (dX ⟨q,i*4+2,none⟩ _ rfl)⟩
    · have HD:=qh hdl;go_enter Tryz.func283,Tryz.ntmps283;go_wp2_with fail
      go_region_held3 (λW=>W.cell? l=some ↑a/\W.cell? ⟨l,3,none⟩=some ↑u/\W.cell? ⟨l,4,none⟩=some (.int .i64 dl))
        (first|with_reducible exact HC.o _ _ K1.o|with_reducible exact HC.o _ _ K2.o|with_reducible exact HC.o _ _ K3.o|with_reducible exact HC.o _ _ K4.o|with_reducible exact HC.o _ _ K5.o)
        (first
          | (go_at_call 289;go_loud (refine(HL.o _ K1.o).mono ?_);rintro en w2 ⟨rfl,q2⟩;have K2:=qh (K1.o.below (Qt.below q2 _));have T2:=qh (((aa.refl [a,g,q,u] w).drew).trans (aa.of_qt q2));clear q2)
          | (go_at_call 290;go_loud (refine(HNx.o _ K2.o).mono ?_);rintro en w3 ⟨rfl,b3⟩;have K3:=qh (K2.o.below b3);have T3:=qh (T2.o.trans (aa.of_below b3));clear b3)
          | (go_at_call 271;go_loud (refine(HSw.o _ K3.o).mono ?_);rintro en w4 ⟨rfl,a4,t4⟩;have K4:=qh (K3.o.op t4 a4);have T4:=qh (T3.o.trans (t4.mono (T:=[a,g,q,u]) QY));have K5:=qh (K4.o.putS (p':={p with a:=v}) HP.o.1 (j:=1) (v:= .int .i64 v) QZ rfl);have e1:=K4.o.sp.cell HP.o.1 1 _ rfl;have z1:=K4.o.sp.free (i*4+1);clear a4 t4))
      all_goals have c4:=(HC.o _ _ K5.o).2.2;have e2:=K5.o.sp.cell (i:=i) (p:={p with a:=v}) RM 2 _ rfl;have z2:=K5.o.sp.free (i*4+2);have K6:=K5.o.putS (i:=i) (p:={p with a:=v}) (p':={p with a:=v,b:=0}) RM (j:=2) (v:= .int .i64 0) QZ rfl;simp only[List.set_set]at K6;have K6H:=qh K6;clear K6;go_wp2;go_ret;rw[HX.o,if_neg (λh=>h HV.o),if_neg (show ¬0<dl by have:=HD.o;omega)];exact⟨rfl,by rw[show({({p with a:=v,b:=0,pc:=3}:Sp)with pc:=p.pc}:Sp)={p with a:=v,b:=0} from rfl];exact K6H.o,(T4.o.trans (dX ⟨q,i*4+1,none⟩ _ rfl)).trans (dX ⟨q,i*4+2,none⟩ _ rfl)⟩
  · have t0:(v !=0)=true:=(by simpa using hv0);have HV:=qh hv0;clear hv0;go_enter Tryz.func283,Tryz.ntmps283;go_wp2_with fail
    go_region_held3 (λW=>W.cell? l=some ↑a/\W.cell? ⟨l,3,none⟩=some ↑u/\W.cell? ⟨l,4,none⟩=some (.int .i64 dl))
      (first|with_reducible exact HC.o _ _ K1.o|with_reducible exact HC.o _ _ K2.o|with_reducible exact HC.o _ _ K3.o|with_reducible exact HC.o _ _ K4.o|with_reducible exact HC.o _ _ K5.o)
      (first
        | (go_at_call 289;go_loud (refine(HL.o _ K1.o).mono ?_);rintro en w2 ⟨rfl,q2⟩;have K2:=qh (K1.o.below (Qt.below q2 _));have T2:=qh (((aa.refl [a,g,q,u] w).drew).trans (aa.of_qt q2));clear q2)
        | (go_at_call 290;go_loud (refine(HNx.o _ K2.o).mono ?_);rintro en w3 ⟨rfl,b3⟩;have K3:=qh (K2.o.below b3);have T3:=qh (T2.o.trans (aa.of_below b3));clear b3)
        | (go_at_call 271;go_loud (refine(HSw.o _ K3.o).mono ?_);rintro en w4 ⟨rfl,a4,t4⟩;have K4:=qh (K3.o.op t4 a4);have T4:=qh (T3.o.trans (t4.mono (T:=[a,g,q,u]) QY));have K5:=qh (K4.o.putS (p':={p with a:=v}) HP.o.1 (j:=1) (v:= .int .i64 v) QZ rfl);have e1:=K4.o.sp.cell HP.o.1 1 _ rfl;have z1:=K4.o.sp.free (i*4+1);clear a4 t4))
    all_goals go_wp2;go_ret;rw[HX.o,if_pos HV.o];exact⟨rfl,by rw[show({({p with a:=v,pc:=5}:Sp)with pc:=p.pc}:Sp)={p with a:=v} from rfl];exact K5.o,T4.o.trans (dX ⟨q,i*4+1,none⟩ _ rfl)⟩
end
end
section
open Go.RowKit
section
variable{w w':World}{l a g q b u lo hi:Nat}{dl:Int}{P T:List Int}{h:Hc}
theorem ox{S:List Sp}{i:Nat}{p:Sp}(hp:S[i]? =some p):S.set i p=S:=by exact Ix
theorem Hh (k:bo w l a g q b u lo hi dl P T h) (i:Nat) (hin:i<T.length) (p:Sp) (hp:h.S[i]? =some p) (hb:1<=p.b/\p.b<=100000) (hpc:p.pc=2):
    Calls Tryz.prog 284 #[↑l,.int .i64 i] w (po w l a g q b u lo hi dl P T h i p (bm (ab P).length T.length dl h (dc P T i) i p)):=by
  obtain⟨_,HN,_⟩:=k.n32;have hi2:(i:Int)<T.length:=by omega
  have c5:=k.c5;have e2:=k.sp.cell hp 2 _ rfl;have z2:=k.sp.free (i*4+2);obtain⟨hb1,hb2⟩:=hb
  have HX:Kq (bm (ab P).length T.length dl h (dc P T i) i p=(h.ar,h.D,{p with b:=p.b-1,pc:=if 0<p.b-1 then 2 else 3})):=qh (by
    unfold bm
    rw[if_neg QX,if_pos hpc])
  have K1:=k.putS (p':={p with b:=p.b-1}) hp (j:=2) (v:= .int .i64 (p.b-1)) QZ rfl;have KH:=qh K1;have hql:=k.sp.lt;clear k hp hpc K1;by_cases hg:0<p.b-1;· have HG:=qh hg;go_enter Tryz.func284,Tryz.ntmps284;go_wp2;go_ret;rw[HX.o];exact⟨by rw[if_pos HG.o];rfl,KH.o,dX ⟨q,i*4+2,none⟩ _ rfl⟩
  · have HG:=qh hg;go_enter Tryz.func284,Tryz.ntmps284;go_wp2;go_ret;rw[HX.o];exact⟨by rw[if_neg (by have:=HG.o;omega)];rfl,KH.o,dX ⟨q,i*4+2,none⟩ _ rfl⟩
theorem Hp (k:bo w l a g q b u lo hi dl P T h) (i:Nat) (hin:i<T.length) (p:Sp) (hp:h.S[i]? =some p) (ho:h.ar.ops+1<=1000000000000) (hpc:p.pc=3):
    Calls Tryz.prog 285 #[↑l,.int .i64 i] w (po w l a g q b u lo hi dl P T h i p (bm (ab P).length T.length dl h (dc P T i) i p)):=by
  obtain⟨_,HN,_⟩:=k.n32;have hi2:(i:Int)<T.length:=by omega
  obtain⟨v,hv⟩:∃v,v=ldW h.ar.W (2+(dc P T i:Int)):=⟨_,rfl⟩;obtain⟨ar',har⟩:∃s,s=bY h.ar (2+(dc P T i:Int)) 0:=⟨_,rfl⟩
  have HX:Kq (bm (ab P).length T.length dl h (dc P T i) i p=(ar',h.D,{p with c:=v,pc:=4})):=qh (by
    unfold bm
    rw[if_neg QX,if_neg QX,if_pos hpc,<-hv,<-har])
  have HL:=qh (λW (k:bo W l a g q b u lo hi dl P T h)=>Aw k i hin);have HSw0:=(λW (k:bo W l a g q b u lo hi dl P T h)=>ff k.ar (2+(dc P T i:Int)) 0 ho);rw[<-hv,<-har]at HSw0;have HSw:=qh HSw0;have HC:=qh (λW (h:Hc) (k:bo W l a g q b u lo hi dl P T h)=>And.intro k.c0 k.c5);have K1:=qh (k.below ((Below.refl _ w).drew));have HP:=qh (And.intro hp hpc);clear HSw0 k hp hpc hv har;go_enter Tryz.func285,Tryz.ntmps285;go_wp2_with fail
  go_region_held3 (λW=>W.cell? l=some ↑a/\W.cell? ⟨l,5,none⟩=some (.slice (some ⟨q,0,none⟩) T.length T.length))
    (first|with_reducible exact HC.o _ _ K1.o|with_reducible exact HC.o _ _ K2.o|with_reducible exact HC.o _ _ K4.o|with_reducible exact HC.o _ _ K5.o)
    (first
      | (go_at_call 289;go_loud (refine(HL.o _ K1.o).mono ?_);rintro en w2 ⟨rfl,q2⟩;have K2:=qh (K1.o.below (Qt.below q2 _));have T2:=qh (((aa.refl [a,g,q,u] w).drew).trans (aa.of_qt q2));clear q2)
      | (go_at_call 271;go_loud (refine(HSw.o _ K2.o).mono ?_);rintro en w4 ⟨rfl,a4,t4⟩;have K4:=qh (K2.o.op t4 a4);have T4:=qh (T2.o.trans (t4.mono (T:=[a,g,q,u]) QY));have K5:=qh (K4.o.putS (p':={p with c:=v}) HP.o.1 (j:=3) (v:= .int .i64 v) QZ rfl);have e1:=K4.o.sp.cell HP.o.1 3 _ rfl;have z1:=K4.o.sp.free (i*4+3);clear a4 t4))
  all_goals go_wp2;go_ret;rw[HX.o];exact⟨rfl,K5.o,T4.o.trans (dX ⟨q,i*4+3,none⟩ _ rfl)⟩
theorem Di (k:bo w l a g q b u lo hi dl P T h) (i:Nat) (hin:i<T.length) (p:Sp) (hp:h.S[i]? =some p) (ho:h.ar.ops+1<=1000000000000) (hpc:p.pc=4):
    Calls Tryz.prog 286 #[↑l,.int .i64 i] w (po w l a g q b u lo hi dl P T h i p (bm (ab P).length T.length dl h (dc P T i) i p)):=by
  obtain⟨_,HN,_⟩:=k.n32;have hi2:(i:Int)<T.length:=by omega
  have c5:=k.c5;obtain⟨v,hv⟩:∃v,v=ldW h.ar.W 1:=⟨_,rfl⟩;obtain⟨ar',har⟩:∃s,s=bY h.ar 1 p.c:=⟨_,rfl⟩
  have HX:Kq (bm (ab P).length T.length dl h (dc P T i) i p=(ar',h.D,{p with a:=v,pc:=if v=0 then 10 else 5})):=qh (by
    unfold bm
    rw[if_neg QX,if_neg QX,if_neg QX,if_pos hpc,<-hv,<-har])
  have HSw0:=(λW (k:bo W l a g q b u lo hi dl P T h)=>ff k.ar 1 p.c ho);rw[<-hv,<-har]at HSw0;have HSw:=qh HSw0;have HC:=qh (λW (h:Hc) (k:bo W l a g q b u lo hi dl P T h) (p':Sp) (hp:h.S[i]? =some p') (hc:p'.c=p.c)=>And.intro k.c0 (And.intro k.c2 (show W.cell? ⟨q,i*4+3,none⟩=some (.int .i64 p.c)by rw[<-hc];exact k.sp.cell hp 3 _ rfl)));have K1:=qh (k.below ((Below.refl _ w).drew));have HP:=qh (And.intro hp hpc);have hSl:=k.sl;have HSl:=qh hSl;clear HSw0 k hp hpc hv har hSl;by_cases hv0:v=0
  all_goals
    have t0:(v==0)=decide (v=0):=(by by_cases h:v=0<;>simp[h]);first| rw[decide_eq_true hv0]at t0| rw[decide_eq_false hv0]at t0
    have HV:=qh hv0;clear hv0;go_enter Tryz.func286,Tryz.ntmps286;go_wp2_with fail
    go_region_held3 (λW=>W.cell? l=some ↑a/\W.cell? ⟨l,2,none⟩=some (.int .i64 1)/\W.cell? ⟨q,i*4+3,none⟩=some (.int .i64 p.c))
      (first|with_reducible exact HC.o _ _ K1.o p HP.o.1 rfl|with_reducible exact HC.o _ _ K4.o p HP.o.1 rfl|with_reducible exact HC5.o)
      (first
        | (go_at_call 271;go_loud (refine(HSw.o _ K1.o).mono ?_);rintro en w4 ⟨rfl,a4,t4⟩;have K4:=qh (K1.o.op t4 a4);have T4:=qh (((aa.refl [a,g,q,u] w).drew).trans (t4.mono (T:=[a,g,q,u]) QY));have K5:=qh (K4.o.putS (p':={p with a:=v}) HP.o.1 (j:=1) (v:= .int .i64 v) QZ rfl);have HC5:=qh (HC.o _ _ K5.o {p with a:=v} (by simp[HSl.o,hin]) rfl);have e1:=K4.o.sp.cell HP.o.1 1 _ rfl;have z1:=K4.o.sp.free (i*4+1);clear a4 t4))
    all_goals go_wp2;go_ret;rw[HX.o];first| exact⟨by rw[if_pos HV.o];rfl,K5.o,T4.o.trans (dX ⟨q,i*4+1,none⟩ _ rfl)⟩| exact⟨by rw[if_neg HV.o];rfl,K5.o,T4.o.trans (dX ⟨q,i*4+1,none⟩ _ rfl)⟩
theorem F9 (k:bo w l a g q b u lo hi dl P T h) (i:Nat) (hin:i<T.length) (p:Sp) (hp:h.S[i]? =some p) (ho:h.ar.ops+1<=1000000000000) (ha:0<=p.a/\p.a<9223372036854775808) (hpc:p.pc=5):
    Calls Tryz.prog 287 #[↑l,.int .i64 i] w (po w l a g q b u lo hi dl P T h i p (bm (ab P).length T.length dl h (dc P T i) i p)):=by
  obtain⟨_,HN,_⟩:=k.n32;have hnd:=k.nd;have hua:u≠a:=by simp at hnd;omega
  have hug:u≠g:=by simp at hnd;omega
  have hi2:(i:Int)<T.length:=by omega
  have c3:=k.c3;have c5:=k.c5;have e1:=k.sp.cell hp 1 _ rfl;obtain⟨bb,hbb⟩:∃x,x=isB h.ar.W (2+((ab P).length:Int)) T.length p.a:=⟨_,rfl⟩
  have HX:Kq (bm (ab P).length T.length dl h (dc P T i) i p=(isA h.ar (2+((ab P).length:Int)) T.length p.a,h.D,{p with pc:=if bb then 10 else 5})):=qh (by
    unfold bm
    rw[if_neg QX,if_neg QX,if_neg QX,if_neg QX,if_pos hpc,<-hbb])
  have K1:=k.below ((Below.refl _ w).drew);have HI0:=isU K1.ar K1.tu hua hug p.a ha.1 ha.2 ho;rw[<-hbb]at HI0;have HI:=qh HI0;have K1H:=qh K1;have HP:=qh (And.intro hp hpc);clear k hp hpc HI0 K1 hnd hua hug hbb ha;go_enter Tryz.func287,Tryz.ntmps287;go_wp2_with fail;refine wp_region_still_tail 12 Q0 Q0 ?_;simp only[List.take_succ_cons,List.take_zero,List.drop_succ_cons,List.drop_zero];change wpStill _ _ (World.drew _) _ _ _;repeat still_step
  refine wpStill_nil ?_;change wpList _ _ _ _ _ (World.drew w);go_wp2_with fail;refine HI.o.mono ?_;rintro en w2 ⟨rfl,a2,t2⟩;have K2:=qh (K1H.o.op t2 a2);have T2:=qh (((aa.refl [a,g,q,u] w).drew).trans (t2.mono (T:=[a,g,q,u]) QY));clear a2 t2;cases bb;all_goals go_wp2;go_ret;rw[HX.o];refine⟨rfl,?_,T2.o⟩;have e:h.S.set i ({({p with pc:=0}:Sp)with pc:=p.pc}:Sp)=h.S:=ox HP.o.1;rw[show ∀x:Int,({({p with pc:=x}:Sp)with pc:=p.pc}:Sp)=p from λ_=>rfl,ox HP.o.1];exact K2.o
theorem FS (k:bo w l a g q b u lo hi dl P T h) (i:Nat) (hin:i<T.length) (p:Sp) (hp:h.S[i]? =some p) (ho:h.ar.ops+1<=1000000000000) (hd:0<=dv h.D i/\dv h.D i<1000000000) (hpc:p.pc=11):
    Calls Tryz.prog 288 #[↑l,.int .i64 i] w (po w l a g q b u lo hi dl P T h i p (bm (ab P).length T.length dl h (dc P T i) i p)):=by
  have hnd:=k.nd;have hua:u≠a:=by simp at hnd;omega
  have hug:u≠g:=by simp at hnd;omega
  have hqd:q∉[a,g,u]:=by simp at hnd ⊢;omega
  have c3:=k.c3
  have HX:Kq (bm (ab P).length T.length dl h (dc P T i) i p=(addA h.ar (2+((ab P).length:Int)+i) 1,h.D.set i (dv h.D i+1),{p with pc:=0})):=qh (by
    unfold bm
    rw[if_neg QX,if_neg QX,if_neg QX,if_neg QX,if_neg QX])
  have HI:=qh (FR k.ar k.tu hua hug i hin hd ho);have KH:=qh (And.intro k hqd);have HP:=qh hp;clear k hp hpc hnd hua hug hqd;go_enter Tryz.func288,Tryz.ntmps288;go_wp2_with fail;refine HI.o.mono ?_;rintro en w2 ⟨rfl,a2,u2,t2⟩;have K2:=qh (And.intro (KH.o.1.next (t2.mono (T:=[a,g,q,u]) QY) a2 (KH.o.1.sp.turns t2 KH.o.2) u2 KH.o.1.sl) (t2.mono (T:=[a,g,q,u]) QY));clear a2 u2 t2;go_wp2;go_ret;rw[HX.o];refine⟨rfl,?_,K2.o.2⟩;rw[show({({p with pc:=0}:Sp)with pc:=p.pc}:Sp)=p from rfl,ox HP.o];exact K2.o.1
end
end
section
open Go.RowKit
def Dz (h:Hc):Prop:=h.ar.ops+1<=1000000000000/\∀j p,h.S[j]? =some p->(0<=dv h.D j/\dv h.D j<1000000000)/\(p.pc=2->1<=p.b/\p.b<=100000)/\(p.pc=5->0<=p.a/\p.a<9223372036854775808)
section
variable{w w':World}{l a g q b u lo hi:Nat}{dl:Int}{P T:List Int}{h:Hc}
theorem Ff (k:bo w l a g q b u lo hi dl P T h) (i:Int) (C:Dz h):
    Calls Tryz.prog 280 #[↑l,.int .i64 i] w (HOp w l a g q b u lo hi dl P T (fo (ab P).length T.length dl (dc P T) h i)):=by
  have hfield:=aK;have H:=qh k;obtain⟨_,HN,_⟩:=k.n32;have hsl:=k.sl;obtain⟨ho,hcond⟩:=C;obtain⟨p,hp⟩:∃p,p=getS h.S i:=⟨_,rfl⟩;have HP:=qh hp;by_cases hc:okI h.S i/\hJ p=true
  · obtain⟨hi9,hg⟩:=hc;have hget:=dE hi9;rw[<-hp]at hget;obtain⟨hd,hb2,ha5⟩:=hcond _ _ hget;obtain⟨h0,h9⟩:=id hi9;obtain⟨n,rfl⟩:=Int.eq_ofNat_of_zero_le h0;simp only[Int.toNat_natCast]at hget hd;rw[hsl]at h9;have hn:n<T.length:=(by omega);have hn2:(n:Int)<T.length:=(by omega);obtain⟨y,hy⟩:∃y,y=bm (ab P).length T.length dl h (dc P T n) n p:=⟨_,rfl⟩
    have HS:Kq (fo (ab P).length T.length dl (dc P T) h n=(⟨y.1,y.2.1,h.S.set n y.2.2⟩,decide (y.2.2.pc=10\/y.2.2.pc=0))):=qh (by
      unfold fo;rw[<-HP.o,if_pos ⟨hi9,hg⟩];simp only[Int.toNat_natCast]
      rw[hy])
    rcases nL.1 hg with e|e|e|e|e|e
    all_goals
      first| have HM0:=λW (k:bo W l a g q b u lo hi dl P T h)=>Fd k n hn p hget ho hd e| have HM0:=λW (k:bo W l a g q b u lo hi dl P T h)=>Hh k n hn p hget (hb2 e) e| have HM0:=λW (k:bo W l a g q b u lo hi dl P T h)=>Hp k n hn p hget ho e| have HM0:=λW (k:bo W l a g q b u lo hi dl P T h)=>Di k n hn p hget ho e| have HM0:=λW (k:bo W l a g q b u lo hi dl P T h)=>F9 k n hn p hget ho (ha5 e) e| have HM0:=λW (k:bo W l a g q b u lo hi dl P T h)=>FS k n hn p hget ho hd e
      rw[<-hy]at HM0;have HM:=qh HM0;first|(have u1:(p.pc==1)=true:=by simp[e])|(have u1:(p.pc==1)=false:=by simp[e])
      first|(have u2:(p.pc==2)=true:=by simp[e])|(have u2:(p.pc==2)=false:=by simp[e])
      first|(have u3:(p.pc==3)=true:=by simp[e])|(have u3:(p.pc==3)=false:=by simp[e])
      first|(have u4:(p.pc==4)=true:=by simp[e])|(have u4:(p.pc==4)=false:=by simp[e])
      first|(have u5:(p.pc==5)=true:=by simp[e])|(have u5:(p.pc==5)=false:=by simp[e])
      first|(have u6:(p.pc==11)=true:=by simp[e])|(have u6:(p.pc==11)=false:=by simp[e])
      have HG:=qh hget;clear k hp hget h0 h9 hi9 hg hd hb2 ha5 hcond hy HM0 e hsl;go_enter Tryz.func280,Tryz.ntmps280;go_wp2_with fail;refine(wv H.o n).mono ?_;rintro en w1 ⟨rfl,b1⟩;rw[<-HP.o];unfold aE;have H1:=qh (And.intro (H.o.below b1) b1);clear b1;go_wp2_with fail;refine(HM.o _ H1.o.1).mono ?_;rintro en w2 ⟨rfl,K2,t2⟩;have hg2:(h.S.set n {y.2.2 with pc:=p.pc})[n]? =some {y.2.2 with pc:=p.pc}:=(by have:=(List.getElem?_eq_some_iff.1 HG.o).1;simp[this]);have c5:=K2.c5;have d0:=K2.sp.cell hg2 0 _ rfl;simp only[Nat.add_zero]at d0;have f0:=K2.sp.free (n*4);have hq:=K2.sp.lt;have K3:=K2.putS hg2 (j:=0) (v:= .int .i64 y.2.2.pc) (p':=y.2.2) QZ rfl;simp only[Nat.add_zero,List.set_set]at K3;have H2:=qh (And.intro K3 (((aa.of_below H1.o.2).trans t2).trans (dX ⟨q,n*4,none⟩ (.int .i64 y.2.2.pc) rfl)));clear K2 t2 hg2 K3;cases z1:(y.2.2.pc==10)
      · cases z0:(y.2.2.pc==0);· have HD:Kq (decide (y.2.2.pc=10\/y.2.2.pc=0)=false):=qh RI;go_wp2;go_ret;rw[HS.o];exact⟨az HD.o.symm,H2.o.1,H2.o.2⟩
        · have HD:Kq (decide (y.2.2.pc=10\/y.2.2.pc=0)=true):=qh RK;go_wp2;go_ret;rw[HS.o];exact⟨az HD.o.symm,H2.o.1,H2.o.2⟩
      · have HD:Kq (decide (y.2.2.pc=10\/y.2.2.pc=0)=true):=qh RJ;go_wp2;go_ret;rw[HS.o];exact⟨az HD.o.symm,H2.o.1,H2.o.2⟩
  · have HS:Kq (fo (ab P).length T.length dl (dc P T) h i=(h,false)):=qh (by unfold fo;rw[<-hp,if_neg hc])
    have hz:hJ p=false:=by
      by_cases hi9:okI h.S i
      · cases hg:hJ p;· rfl
        · exact absurd ⟨hi9,hg⟩ hc
      · rw[hp,du hi9];rfl
    unfold hJ at hz;simp only[Bool.or_eq_false_iff]at hz;obtain⟨⟨⟨⟨⟨u1,u2⟩,u3⟩,u4⟩,u5⟩,u6⟩:=hz;clear k hp hc hcond hsl;go_enter Tryz.func280,Tryz.ntmps280;go_wp2_with fail;refine(wv H.o i).mono ?_;rintro en w1 ⟨rfl,b1⟩;rw[<-HP.o];unfold aE;have H1:=qh (And.intro (H.o.below b1) b1);clear b1;go_wp2;go_ret;rw[HS.o];exact⟨rfl,H1.o.1,aa.of_below H1.o.2⟩
end
end
section
open Go.RowKit
theorem Tryz.infoSp:(Tryz.prog.info? 113).map (λi=>(i.zero,i.size,i.bytes))=some (some (.agg #[.int .i64 0,.int .i64 0,.int .i64 0,.int .i64 0]),4,32):=by kernel_rfl
theorem jt (u:Value)(n:Nat):(madeCells #[u,u,u,u] n).toList=List.replicate n u:=by exact II
theorem lC (n:Nat):(List.replicate n Sp.zero).flatMap a9=List.replicate (n*4) (.int .i64 0):=by exact IJ
def hc0 (s:Ar)(nd n:Nat):Hc:=⟨{s with W:=List.replicate (1+nd+n) 0},List.replicate 32 0,List.replicate n Sp.zero⟩
def DZ (w:World)(a g:Nat)(s:Ar)(d:Int)(P T:List Int)(e:Ending)(w':World):Prop:=
 ∃l q b u lo hi,e= .returned (.tuple #[.pointer (some ⟨l,0,none⟩),.int .i64 0])/\bo w' l a g q b u lo hi d P T (hc0 s (ab P).length T.length)/\w.heap.size<=l/\w.heap.size<=q/\w.heap.size<=b/\w.heap.size<=u/\aa [a] w w'/\w.heap.size<=lo
theorem EW {w:World} {a g:Nat} {s:Ar} (h:aA w a g s) (hs:s.W=[]) (hag:a≠g) (vP vT:Value) (P T:List Int) (hP:RdL w vP 1 encI P) (hT:RdL w vT 1 encI T) (hc:a5 P T=0) (d:Int) (hd0:0<=d) (hd1:d<=1000) (hr:s.room=4096):
    Calls Tryz.prog 105 #[↑a,.agg #[vP,vT],.int .i64 d] w (DZ w a g s d P T):=by
  obtain⟨i0,hi,hz0,hz1,hz2⟩:=info_parts Tryz.infoSp;have hml:=bh (aR hc).1;have h32:(ab P).length<=32:=by exact IK
  have ha0:=h.blk.lt;have hg0:=h.wds.lt;obtain⟨hT1,hT32⟩:1<=T.length/\T.length<=32:=⟨hml.2.2.1,hml.2.2.2⟩;obtain⟨nd,hnd⟩:∃nd,nd=(ab P).length:=⟨_,rfl⟩;have HND:=qh hnd;rw[<-hnd]at h32;have H:=qh (And.intro h (And.intro ha0 hg0));have HN:=qh (jw (w.alloc (.cells #[vP,vT] 24)) vP vT P T (hP.alloc _) (hT.alloc _) hc);have HNo:=λlo W b h=>E2 lo W b P T hc h;rw[<-hnd]at HNo;have HNO:=qh HNo;have HS:=qh (And.intro hs hr);have HR:=qh (λW=>ot d W hd0 hd1);have hlo:(w.alloc (.cells #[vP,vT] 24)).heap.size=w.heap.size+1:=by simp
  have B0:=qh ((Below.refl w.heap.size w).alloc (Nat.le_refl _) (.cells #[vP,vT] 24));have x1:IntKind.i64.wrap (1+(nd:Int))=1+nd:=IntWalk.i64_in _ QX;clear h hs hP hT hd0 hd1 hr hml HNo hnd ha0 hg0;go_enter Tryz.func105,Tryz.ntmps105;go_wp2_with fail;refine HN.o.mono ?_;rintro en w1 ⟨b,rfl,hb,t1,b1⟩;rw[hlo]at hb t1 b1;have K1:=qh (And.intro t1 (B0.o.trans (b1.mono QX)));have HB:=qh hb;clear t1 b1 hb HN;go_wp2_with fail;refine(HR.o _).mono ?_;rintro en w1' ⟨rfl,rfl⟩;go_wp2_with fail;refine(HNO.o _ _ _ K1.o.1).mono ?_;rintro en w2 ⟨rfl,t2,u2⟩;have hs1:=K1.o.2.size;have hs2:=u2.size;have T2:aa [] w w2:=((aa.of_below (S:=[b]) K1.o.2).trans u2).fresh (by have:=HB.o;simp;omega);have A2:=H.o.1.turns T2 QY QY;have K2:=qh (And.intro t2 (And.intro T2 (And.intro A2 (Nat.le_trans hs1 hs2))));clear t2 u2 hs1 hs2 T2 A2;go_wp2_with fail
  have HT:Kq (dV s (1+(nd:Int))=({s with W:=List.replicate (1+nd) 0},(1:Int),(0:Int))):=qh (by
    unfold dV
    rw[HS.o.1,HS.o.2,if_neg QX,if_neg Q1,show(1+(nd:Int)).toNat=1+nd by omega];rfl)
  refine(gb K2.o.2.2.1 (1+(nd:Int))).mono ?_;rintro en w3 ⟨rfl,k3,t3⟩;rw[HT.o]at k3 ⊢;have hs3:=t3.size;have Q3:lh (w.heap.size+1) w2.heap.size w3 b P T:=K2.o.1.keep (λi h1 h2=>t3.block i h2 (by have:=H.o.2.1;simp;omega)) hs3;have K3:=qh (And.intro Q3 (And.intro (K2.o.2.1.mono (T:=[a]) QY |>.trans t3) (And.intro k3 (Nat.le_trans K2.o.2.2.2 hs3))));have hs3':=qh hs3;clear k3 t3 Q3 hs3;go_wp2_with fail;refine(dW _ _ _ _ K3.o.1.f.tab).mono ?_;rintro en w3' ⟨rfl,rfl⟩;go_wp2_with fail;refine(Hy K3.o.2.2.1 T.length hT1 hT32 (by have:=HS.o.2;simp;omega)).mono ?_;rintro en w4 ⟨u,rfl,hu,k4,v4,t4⟩;have hs4:=t4.size;have hbl:=K3.o.1.high;have Q4:lh (w.heap.size+1) w2.heap.size w4 b P T:=K3.o.1.keep (λi h1 h2=>t4.block i (by have:=hs3'.o;omega) (by have:=H.o.2.1;simp;omega)) (by have:=hs3'.o;omega);have K4:=qh (And.intro Q4 (And.intro (K3.o.2.1.trans t4) (And.intro k4 (And.intro v4 (And.intro (show w3.heap.size<=u from hu) (show w3.heap.size<=w4.heap.size from hs4))))));have H4:=qh (show w2.heap.size<=w4.heap.size by have:=hs3'.o;omega);clear k4 v4 t4 Q4 hs4 hu;go_wp2_with fail;refine(dW _ _ _ _ K4.o.1.f.tab).mono ?_;rintro en w4' ⟨rfl,rfl⟩;go_wp2_with (refine wpList_make_full _ rfl (.tmp 52) (.tmp 52) 237 rfl w4.heap.size 113 i0 (.agg #[.int .i64 0,.int .i64 0,.int .i64 0,.int .i64 0]) 4 Tryz.underlying237 hi hz0 hz1 .i64 .i64 T.length T.length T.length rfl rfl rfl rfl ?b2 ?b3 (Nat.le_refl _) ?_);case b2=>rw[hz2];omega
  case b3=>unfold maxLen;omega
  intro w5 hown hg;have hb:dq w5 w4.heap.size (List.replicate T.length Sp.zero):=by exact IL
  have t5:aa [] w4 w5:=aa.of_below ((Below.refl w4.heap.size w4).grown hg (Nat.le_refl _) (λj hj=>by cases hj));have hs5:=hb.lt;have H5:=qh (And.intro hb t5);clear hown hg hb t5;go_wp2;go_ret2;have t6:aa [] w4 (w5.alloc (.cells #[↑a,.pointer (some ⟨b,0,none⟩),.int .i64 1,↑u,.int .i64 d,.slice (some ⟨w4.heap.size,0,none⟩) T.length T.length] 260)):=H5.o.2.alloc _;have s23:=hs3'.o;have s34:=K4.o.2.2.2.2.2;have s3u:=K4.o.2.2.2.2.1;have sw2:=K2.o.2.2.2;have hbb:=HB.o;have hub:=K4.o.2.2.2.1.blk.lt;have hal:=H.o.2.1;have hgl:=H.o.2.2;have s56:w5.heap.size+1=(w5.alloc (.cells #[↑a,.pointer (some ⟨b,0,none⟩),.int .i64 1,↑u,.int .i64 d,.slice (some ⟨w4.heap.size,0,none⟩) T.length T.length] 260)).heap.size:=by simp
  have k6:=K4.o.2.2.1.turns t6 QY QY;have u6:=K4.o.2.2.2.1.turns t6 QY;have e1:(List.replicate (1+nd) (0:Int))++List.replicate T.length 0=List.replicate (1+(ab P).length+T.length) 0:=by rw[List.replicate_append_replicate,<-HND.o]
  refine⟨w5.heap.size,w4.heap.size,b,u,w.heap.size+1,w2.heap.size,rfl,⟨?_,?_,?_,?_,?_,?_,?_,?_,?_⟩,?_,?_,?_,?_,?_,by omega⟩;· unfold hc0;rw[<-e1];exact k6
  · exact Blk.new w5 _ _
  · exact H5.o.1.turns (T:=[]) ((aa.refl _ _).alloc _) QY
  · have:(((List.replicate (1+nd) (0:Int)).length:Int)+1)=2+((ab P).length:Int):=(by rw[<-HND.o];simp;omega);rw[<-this];exact u6
  · exact K4.o.1.keep (λi h1 h2=>t6.block i QX QY) (by rw[<-s56];omega)
  · simp[hc0]
  · omega
  · simp;omega
  · simp;omega
  · omega
  · omega
  · omega
  · omega
  · exact K4.o.2.1.trans (t6.mono QY)
end
section
open Go.RowKit
def Fp (w:World)(a g:Nat)(s:Ar)(n:Nat)(e:Ending)(w':World):Prop:=
 ∃k,e= .returned (.tuple #[.pointer (some ⟨k,0,none⟩),.int .i64 0])/\BnA w' ⟨k,a,g,s.W.length+1,n⟩ {s with W:=s.W++List.replicate (2+n) 0} ⟨0,0,0,0⟩/\w.heap.size<=k/\k<w'.heap.size/\aa [a] w w'
theorem Hv {w:World} {a g:Nat} {s:Ar} (h:aA w a g s) (n:Nat) (h1:1<=n) (h2:n<=32) (hr:s.W.length+(2+n)<=s.room):
    Calls Tryz.prog 147 #[↑a,.int .i64 n] w (Fp w a g s n):=by
  have t1:¬(n:Int)<1:=by omega
  have t2:¬32<(n:Int):=by omega
  have hro:=h.room;have x1:IntKind.i64.wrap (2+(n:Int))=2+(n:Int):=IntWalk.i64_in _ QX
  have HT:Kq (dV s (2+(n:Int))=({s with W:=s.W++List.replicate (2+n) 0},(s.W.length:Int)+1,(0:Int))):=qh (by
    unfold dV
    rw[if_neg QX,if_neg QX,show(2+(n:Int)).toNat=2+n by omega])
  have HA:=qh (And.intro h (And.intro h.blk.lt h.wds.lt));have HR:=qh hr;clear h hr;go_enter Tryz.func147,Tryz.ntmps147;go_wp2_with fail;refine(gb HA.o.1 (2+(n:Int))).mono ?_;rintro en w1 ⟨rfl,k1,u1⟩;rw[HT.o]at k1 ⊢;have H1:=qh (And.intro k1 u1);clear k1 u1;go_wp2;go_ret2;have hs:=H1.o.2.size;have t:aa [] w1 (w1.alloc (.cells #[↑a,.int .i64 ((s.W.length:Int)+1),.int .i64 n,.int .i64 0,.int .i64 0,.int .i64 0,.int .i64 0] 326)):=(aa.refl _ _).alloc _;refine⟨w1.heap.size,rfl,⟨H1.o.1.turns t QY QY,Blk.new _ _ _,⟨by have:=HA.o.2.1;show w1.heap.size≠a;omega,by have:=HA.o.2.2;show w1.heap.size≠g;omega⟩,⟨by have:=HR.o;show s.W.length+1<=5000;omega,h2⟩,by unfold BnB;simp⟩,hs,by simp,H1.o.2.alloc _⟩
def ma0 (s:Ar)(n:Nat):Mal:=⟨{s with W:=List.replicate (4+3*n) 0},⟨0,0,0,0⟩,0,List.replicate n Sp.zero⟩
def Ft (w:World)(a g:Nat)(s:Ar)(bud:Int)(n:Nat)(e:Ending)(w':World):Prop:=
 ∃c:Mx,e= .returned (.tuple #[↑c.l,.int .i64 0])/\bI w' c bud (ma0 s n)/\(c.b.a=a/\c.b.g=g/\c.b.n=n/\(c.b.F:Int)=maF n)/\w.heap.size<=c.l/\w.heap.size<=c.q/\w.heap.size<=c.b.k/\aa [a] w w'
theorem Hw {w:World} {a g:Nat} {s:Ar} (h:aA w a g s) (hs:s.W=[]) (hag:a≠g) (vP vT:Value) (P T:List Int) (hP:RdL w vP 1 encI P) (hT:RdL w vT 1 encI T) (hc:a5 P T=0) (bud:Int) (hb0:0<=bud) (hb1:bud<=1000) (hr:s.room=4096):
    Calls Tryz.prog 107 #[↑a,.agg #[vP,vT],.int .i64 bud] w (Ft w a g s bud T.length):=by
  obtain⟨i0,hi,hz0,hz1,hz2⟩:=info_parts Tryz.infoSp;obtain⟨h1,h2⟩:1<=T.length/\T.length<=32:=by have:=bh (aR hc).1;exact⟨this.2.2.1,this.2.2.2⟩
  have HC:=qh (jT (w.alloc (.cells #[vP,vT] 24)) vP vT P T (hP.alloc _) (hT.alloc _));obtain⟨AT,cT,rfl,lT1,lT2⟩:=bQ hT;have HA:=qh (And.intro h (And.intro h.blk.lt h.wds.lt));have HR:=qh (λW=>ot bud W hb0 hb1);have hlo:(w.alloc (.cells #[vP,.slice AT T.length cT] 24)).heap.size=w.heap.size+1:=by simp
  have B0:=qh ((Below.refl w.heap.size w).alloc (Nat.le_refl _) (.cells #[vP,.slice AT T.length cT] 24));obtain⟨n,hn⟩:∃n,n=T.length:=⟨_,rfl⟩;rw[<-hn]at h1 h2 HC B0 hlo lT1 lT2 ⊢;have HCT:=qh (And.intro hc hn);have HH:=qh (And.intro hs (And.intro hr (And.intro hag (And.intro hb0 hb1))));have x1:IntKind.i64.wrap (2*(n:Int))=2*(n:Int):=IntWalk.i64_in _ QX;have x2:IntKind.i64.wrap (2+2*(n:Int))=2+2*(n:Int):=IntWalk.i64_in _ QX
  have HT:Kq (dV s (2+2*(n:Int))=({s with W:=List.replicate (2+2*n) 0},(1:Int),(0:Int))):=qh (by
    unfold dV
    rw[hs,hr,if_neg QX,if_neg Q1,show(2+2*(n:Int)).toNat=2+2*n by omega];rfl)
  clear h hP hT hc hs hr hag hb0 hb1 hn;go_enter Tryz.func107,Tryz.ntmps107;go_wp2_with fail;refine HC.o.mono ?_;rintro en w1 ⟨rfl,b1⟩;rw[HCT.o.1];have hcell:w1.cell? ⟨w.heap.size,1,none⟩=some (.slice AT n cT):=by have:=(Blk.new w 24 #[vP,.slice AT n cT]).cell 1;rw[<-(aa.of_below (S:=[]) b1).cellC (p:=⟨w.heap.size,1,none⟩) QY QY]at this;exact this
  rw[hlo]at b1;have B1:=qh (B0.o.trans (b1.mono QX));clear b1 HC;go_wp2_with fail;refine(HR.o _).mono ?_;rintro en w1' ⟨rfl,rfl⟩;go_wp2_with fail;refine(gb (HA.o.1.turns (aa.of_below (S:=[]) B1.o) QY QY) (2+2*(n:Int))).mono ?_;rintro en w2 ⟨rfl,k2,u2⟩;rw[HT.o]at k2 ⊢;have H2:=qh (And.intro k2 ((aa.of_below (S:=[a]) B1.o).trans u2));clear k2 u2 hcell;go_wp2_with fail;refine(Hv H2.o.1 n h1 h2 (by have:=HH.o.2.1;simp;omega)).mono ?_;rintro en w3 ⟨k,rfl,kb,hk1,hk2,u3⟩;have H3:=qh (And.intro kb (And.intro hk1 (And.intro hk2 (H2.o.2.trans u3))));clear kb hk1 hk2 u3;go_wp2_with (refine wpList_make_full _ rfl (.tmp 48) (.tmp 48) 237 rfl w3.heap.size 113 i0 (.agg #[.int .i64 0,.int .i64 0,.int .i64 0,.int .i64 0]) 4 Tryz.underlying237 hi hz0 hz1 .i64 .i64 n n n rfl rfl rfl rfl ?b2 ?b3 (Nat.le_refl _) ?_);case b2=>rw[hz2];omega
  case b3=>unfold maxLen;omega
  intro w5 hown hg;have hb:dq w5 w3.heap.size (List.replicate n Sp.zero):=by unfold dq;rw[lC];have:=gu hown;rw[show(madeCells #[Value.int .i64 0,.int .i64 0,.int .i64 0,.int .i64 0] (n*4)).toList=List.replicate (n*4) (.int .i64 0)from jt _ _]at this;exact this
  have t5:aa [] w3 w5:=aa.of_below ((Below.refl w3.heap.size w3).grown hg (Nat.le_refl _) (λj hj=>by cases hj));have H5:=qh (And.intro hb t5);clear hown hg hb t5;go_wp2;go_ret2;have hs5:=H5.o.1.lt;have hs2:=H2.o.2.size;have hal:=HA.o.2.1;have hgl:=HA.o.2.2;obtain⟨_,hk1,hk2,hu3⟩:=H3.o;have hs3:=hu3.size;obtain⟨L,hL⟩:∃L:Obj,L=(.cells #[↑a,.int .i64 1,.int .i64 bud,↑k,.int .i64 0,.slice (some ⟨w3.heap.size,0,none⟩) n n] 269):=⟨_,rfl⟩;have t6:aa [] w3 (w5.alloc L):=H5.o.2.alloc _;have k6:=H3.o.1.turns t6 QY QY QY;have sp6:=H5.o.1.turns (T:=[]) ((aa.refl _ _).alloc L) QY;have tt:=hu3.trans (t6.mono (T:=[a]) QY);have hgw:=HCT.o.2;rw[hL]at k6 sp6 tt;refine⟨⟨w5.heap.size,w3.heap.size,⟨k,a,g,3+2*n,n⟩⟩,rfl,⟨?_,Blk.new _ _ _,sp6,by show(List.replicate n Sp.zero).length=n;simp,?_,HH.o.2.2.2⟩,⟨rfl,rfl,rfl,by unfold maF;simp⟩,by show w.heap.size<=w5.heap.size;omega,by show w.heap.size<=w3.heap.size;omega,by show w.heap.size<=k;omega,tt⟩;· have e:(List.replicate (2+2*n) (0:Int)).length+1=3+2*n:=(by simp;omega);have e2:List.replicate (2+2*n) (0:Int)++List.replicate (2+n) 0=List.replicate (4+3*n) 0:=(by rw[List.replicate_append_replicate,show 2+2*n+(2+n)=4+3*n by omega]);rw[e]at k6;simp only[e2]at k6;exact k6
  · unfold mS;have:=HH.o.2.2.1;simp;omega
theorem Gh (s:Ar){n:Nat}(h1:1<=n):MaS n (ma0 s n):=by
 have e:∀i,sv (List.replicate n Sp.zero) i=Sp.zero:=λi=>by unfold sv;simp[List.getD_eq_getElem?_getD,List.getElem?_replicate];split<;>rfl
 have w0:∀y,ldW (List.replicate (4+3*n) (0:Int)) y=0:=λy=>by
  unfold ldW;split;·simp[List.getD_eq_getElem?_getD,List.getElem?_replicate];split<;>rfl
  ·rfl
 refine⟨⟨h1,?_,?_,?_,?_,?_,?_,?_,?_,?_,?_,?_,?_,?_⟩,by simp[ma0],by simp[ma0]⟩;all_goals simp only[ma0,e,w0,jM]
 all_goals try simp only[Sp.zero]
 all_goals first|omega|(intros;omega)
end
section
open Go Go.RowKit
theorem BY (F:Int)(s:Ar)(b:Bn):(bnS F s b).1.ops<=s.ops+1:=by
 unfold bnS;repeat' split
 all_goals first|exact gS _ _ _|exact iF _ _|simp
theorem CX (n:Nat)(bud:Int)(h:Mal)(i:Nat)(p:Sp):(maP n bud h i p).1.ops<=h.ar.ops+1:=by
 have hb:=BY (maF n) h.ar h.bn;have h1:=λx v=>gS h.ar x v;have h2:=λx=>iF h.ar x;have h3:=λx o v=>mZ h.ar x o v;have h4:=λx v=>jl h.ar x v;have h5:=λx v=>eP h.ar x v;unfold maP;split
 ·unfold fh;repeat' split
  all_goals first|exact h1 _ _|exact h2 _|exact h5 _ _
 ·unfold dw;grind (splits:=40)
theorem nV (n:Nat)(bud:Int)(h:Mal)(i:Nat):(eJ n bud h i).1.ar.ops<=h.ar.ops+1:=by
 unfold eJ;split;·simp
 ·exact CX n bud h i _
theorem mB (h:Mal)(i:Nat)(u v:Int):(ir h i u v).ar=h.ar:=by unfold ir;split<;>rfl
def maV (l:Nat):Value:= .iface 181 (.agg #[.iface 185 ↑l])
def Av (n:Nat)(bud:Int):LkM n where
 σ:=Mal
 β:=Mx×Nat
 ok:=λst N=>MaS n st/\st.ar.ops<=N
 ar:=λst=>st.ar
 sp:=λst i=>sv st.S i
 cn:=λst i=>if (sv st.S i).pc=10 then 1 else 0
 rd:=false
 step:=λst i=>(eJ n bud st i).1
 ask:=λst i r=>if r then st else ir st i 0 1
 leave:=λst i=>ir st i 10 11
 hi:=λb=>b.2
 fp:=λb=>mS b.1
 is:=fun(b:Mx×Nat) w a g lb (st:Mal)=>bI w b.1 bud st/\(b.1.b.a=a/\b.1.b.g=g/\b.1.b.n=n/\(b.1.b.F:Int)=maF n)/\jk w lb n 10 (maV b.1.l) (mS b.1) b.2
theorem bI.far{w w':World}{c:Mx}{bud:Int}{h:Mal}{S:List Nat}(k:bI w c bud h)(t:aa S w w')(hS:∀x∈mS c,x∉S):bI w' c bud h:=by unfold mS at hS;simp only[List.mem_cons,List.not_mem_nil,or_false,forall_eq_or_imp,forall_eq]at hS;obtain⟨h1,h2,h3,h4,h5⟩:=hS;exact {k with bn:=k.bn.turns t h4 h5 h3,lk:=t.blk k.lk h1,sp:=k.sp.turns t h2}
theorem sk (n:Nat)(bud:Int)(st:Mal)(i:Nat)(hi:i<st.S.length):(eJ n bud st i).2=dA (sv st.S i) (sv (eJ n bud st i).1.S i):=by
 unfold eJ dA;by_cases h:(sv st.S i).pc=0\/(sv st.S i).pc=10;·rw[if_pos h];symm;exact decide_eq_false (λq=>by omega)
 ·rw[if_neg h];simp only[cD,hi,and_true,if_true];by_cases c:(maP n bud st i (sv st.S i)).2.2.2.pc=0\/(maP n bud st i (sv st.S i)).2.2.2.pc=10;·exact IM
  ·exact IN
theorem ug{n:Nat}(bud:Int)(hn:1<=n/\n<=32):(Av n bud).Good where
 n32:=hn
 okS:=fun(st:Mal) N i h _ hi=>⟨h.1.step bud hi,Nat.le_trans (nV n bud st i) (by have:=h.2;omega)⟩
 okA:=fun(st:Mal) N i r h _ hi=>by
  show MaS n (if r then st else ir st i 0 1)/\_
  cases r
  ·refine⟨?_,?_⟩
   ·show MaS n (ir st i 0 1)
    unfold ir
    split
    ·rename_i e;exact h.1.beg e (.inl ⟨rfl,rfl⟩)
    ·exact h.1
   ·show(ir st i 0 1).ar.ops<=_
    rw[mB];have:=h.2;omega
  ·exact⟨h.1,by have:=h.2;show st.ar.ops<=_;omega⟩
 okL:=fun(st:Mal) N i h _ hi=>by
  refine⟨?_,?_⟩
  ·show MaS n (ir st i 10 11)
   unfold ir
   split
   ·rename_i e;exact h.1.beg e (.inr ⟨rfl,rfl⟩)
   ·exact h.1
  ·show(ir st i 10 11).ar.ops<=_
   rw[mB];have:=h.2;omega
 okm:=fun(st:Mal) N h=>⟨h.1,by have:=h.2;omega⟩
 one:=fun(st:Mal) N i j h hi hj h1 h2 _=>h.1.one hi hj h1 h2
 pcs:=fun(st:Mal) N i h hi=>by have:=h.1.i.pcs i hi;show 0<=(sv st.S i).pc;omega
 cnt:=fun(st:Mal) N i h hi=>by
  exact IO
 opsS:=fun(st:Mal) N i _ _ _=>nV n bud st i
 arA:=fun(st:Mal) i r=>by cases r;exact mB _ _ _ _;rfl
 arL:=fun(st:Mal) i=>mB _ _ _ _
 ais:=fun(b:Mx×Nat) w a g lb (st:Mal) h=>by obtain⟨k,⟨rfl,rfl,_⟩,_⟩:=h;exact k.bn.ar
 lk:=fun(b:Mx×Nat) w a g lb (st:Mal) h=>h.2.2.c1
 kd:=fun(b:Mx×Nat) w a g lb (st:Mal) h=>⟨10,h.2.2.blk.cell 0,rfl⟩
 fpa:=fun(b:Mx×Nat) w a g lb (st:Mal) h=>⟨h.2.2.fl,h.2.2.hw⟩
 far:=fun(b:Mx×Nat) w a g lb (st:Mal) w' S h t hS=>⟨h.1.far t (λx hx m=>by have h9:b.2<=x:=hS x m;have:=h.2.2.fl x hx;omega),h.2.1,h.2.2.far t hS⟩
 cS:=fun(b:Mx×Nat) w a g lb (st:Mal) N i h hk hN hi=>by
  obtain⟨k,hc,hd⟩:=h
  refine(nA .ma hd.c1 hd.c2 hi (R:=λr w'=>r=dA (sv st.S i) (sv (eJ n bud st i).1.S i)/\bI w' b.1 bud (eJ n bud st i).1/\aa (mS b.1) w w') λW bw=>?_).mono ?_
  ·obtain⟨-,-,hcn,hF⟩:=hc
   have:=GP (k.below bw) (by rw[hcn];exact hk.1) (by rw[hcn];exact hF) (by have:=hk.2;unfold lkB at hN;omega) i QX
   rw[hcn]at this
   refine this.mono ?_
   rintro e w' ⟨rfl,kt⟩
   exact⟨_,rfl,sk n bud st i (by rw[k.sl,hcn];exact hi),kt.is,(aa.of_below bw).trans kt.tn⟩
  ·exact IP
 cA:=fun(b:Mx×Nat) w a g lb (st:Mal) N i r h hk hN hi=>by
  obtain⟨k,hc,hd⟩:=h
  refine(xu .ma hd.c1 hd.c2 hi r (R:=λq w'=>q=decide ((sv st.S i).pc=0/\(r=true->(false:Bool)=true))/\bI w' b.1 bud (if r then st else ir st i 0 1)/\aa (mS b.1) w w') (λhr W bw=>?_) (λhr W bw=>?_)).mono ?_
  ·subst hr
   refine(Ho (k.below bw) i (by have:=hc.2.2.1;omega)).mono ?_
   rintro e w' ⟨rfl,kt⟩
   exact⟨_,rfl,by simp,kt.is,(aa.of_below bw).trans kt.tn⟩
  ·exact IQ
  ·exact IP
 cL:=fun(b:Mx×Nat) w a g lb (st:Mal) N i h hk hN hi=>by
  obtain⟨k,hc,hd⟩:=h
  refine(kv .ma hd.c1 hd.c2 hi (R:=λq w'=>q=decide ((sv st.S i).pc=10)/\bI w' b.1 bud (ir st i 10 11)/\aa (mS b.1) w w') λW bw=>?_).mono ?_
  ·refine(EE (k.below bw) i (by have:=hc.2.2.1;omega)).mono ?_
   rintro e w' ⟨rfl,kt⟩
   exact⟨_,rfl,rfl,kt.is,(aa.of_below bw).trans kt.tn⟩
  ·exact IP
 cP:=fun(b:Mx×Nat) w a g lb (st:Mal) i h hi=>nz .ma h.2.2.c1 h.2.2.c2 hi _ λW bw=>Bs (h.1.below bw) i (by have:=h.2.1.2.2.1;omega)
 cC:=fun(b:Mx×Nat) w a g lb (st:Mal) i h hi=>ny .ma h.2.2.c1 h.2.2.c2 hi _ λW bw=>Bs (h.1.below bw) i (by have:=h.2.1.2.2.1;omega)
end
section
open Go
def WdB (B:Int)(s:Ar):Prop:=∀v∈s.W,0<=v/\v<=B
structure SpB (k:Nat)(B:Int)(p:Sp):Prop where
 a0:0<=p.a
 a1:p.a<=B
 b0:-B<=p.b
 b1:p.b<=B
 b2:k≠1->0<=p.b
theorem WdB.mono{B C:Int}{s:Ar}(h:WdB B s)(hBC:B<=C):WdB C s:=λv hv=>⟨(h v hv).1,by have:=(h v hv).2;omega⟩
theorem SpB.mono{k:Nat}{B C:Int}{p:Sp}(h:SpB k B p)(hBC:B<=C):SpB k C p:=⟨h.a0,by have:=h.a1;omega,by have:=h.b0;omega,by have:=h.b1;omega,h.b2⟩
theorem WdB.ld{B:Int}{s:Ar}(h:WdB B s)(hB:0<=B)(x:Int):0<=ldW s.W x/\ldW s.W x<=B:=by
 by_cases hx:inR s.W x=true
 ·rw[i6 hx];obtain⟨h1,h2⟩:=aO.1 hx;have hl:x.toNat-1<s.W.length:=by omega
  rw[List.getD_eq_getElem?_getD,List.getElem?_eq_getElem hl];exact h _ (List.getElem_mem hl)
 ·rw[kI (by simpa using hx)];exact⟨Int.le_refl _,hB⟩
theorem WdB.st{B:Int}{s s':Ar}(h:WdB B s)(x v:Int)(hv:0<=v/\v<=B)(e:s'.W=stW s.W x v):WdB B s':=by
 intro u hu;rw[e]at hu;unfold stW at hu;split at hu
 ·rcases List.mem_or_eq_of_mem_set hu with h1|h1
  ·exact h u h1
  ·rw[h1];exact hv
 ·exact h u hu
theorem WdB.same{B:Int}{s s':Ar}(h:WdB B s)(e:s'.W=s.W):WdB B s':=by intro u hu;rw[e]at hu;exact h u hu
theorem WdB.load{B:Int}{s:Ar}(h:WdB B s)(x:Int):WdB B (ae s x):=h.same (aM _ _)
theorem WdB.store{B:Int}{s:Ar}(h:WdB B s)(x v:Int)(hv:0<=v/\v<=B):WdB B (ac s x v):=h.st x v hv (aw _ _ _)
theorem WdB.swap{B:Int}{s:Ar}(h:WdB B s)(x v:Int)(hv:0<=v/\v<=B):WdB B (bY s x v):=h.st x v hv (dI _ _ _)
theorem WdB.cas{B:Int}{s:Ar}(h:WdB B s)(x o v:Int)(hv:0<=v/\v<=B):WdB B (dO s x o v):=by
 have e:=gG s x o v;split at e;·exact h.st x v hv e
 ·exact h.same e
theorem WdB.add1{B:Int}{s:Ar}(h:WdB B s)(hB:0<=B)(hB2:B<=10000000000000)(x:Int):WdB (B+2) (addA s x 1):=by have hl:=h.ld hB x;refine(h.mono QX).st x _ ?_ (dR _ _ _);rw[IntWalk.i64_in _ QX];omega
theorem p5 {k:Nat} {B:Int} {t m:Int} {s:Ar} {i:Int} {p:Sp} (hW:WdB B s) (hp:SpB k B p) (hB:0<=B) (hB2:B<=10000000000000) (hi:0<=i/\i+1<=B) (hm:1<=m/\m<=B):
    WdB (B+2) (bG k t m s i p).1/\SpB k (B+2) (bG k t m s i p).2:=by
  have hW2:WdB (B+2) s:=hW.mono QX;have hl:=λx=>hW.ld hB x;have hp2:SpB k (B+2) p:=hp.mono QX;have ha0:=hp.a0;have ha1:=hp.a1;have hb0:=hp.b0;have hb1:=hp.b1;have hb2:=hp.b2;unfold bG;split
  · rename_i hk;unfold uT;split
    · refine⟨hW2.cas _ _ _ QX,?_⟩;split;· exact⟨by simpa using ha0,by show p.a<=_;omega,by show _<=p.b;omega,by show p.b<=_;omega,λh=>absurd hk h⟩
      · refine⟨?_,?_,?_,?_,λh=>absurd hk h⟩;· show 0<=min (2*p.a) m;omega
        · show min (2*p.a) m<=_;omega
        · show _<=p.a;omega
        · show p.a<=_;omega
    split
    · refine⟨hW2,?_,?_,?_,?_,λh=>absurd hk h⟩;· exact ha0
      · show p.a<=_;omega
      · show _<=p.b-1;omega
      · show p.b-1<=_;omega
    split;· exact⟨hW2.store _ _ QX,hp2.a0,hp2.a1,hp2.b0,hp2.b1,hp2.b2⟩
    · exact⟨hW2,hp2⟩
  split
  · unfold oM;split;· exact⟨hW.add1 hB hB2 _,(hl _).1,by have:=(hl t).2;show ldW s.W t<=_;omega,hp2.b0,hp2.b1,hp2.b2⟩
    split;· exact⟨hW2.load _,hp2.a0,hp2.a1,hp2.b0,hp2.b1,hp2.b2⟩
    split;· exact⟨hW2.store _ _ QX,hp2.a0,hp2.a1,hp2.b0,hp2.b1,hp2.b2⟩
    · exact⟨hW2,hp2⟩
  split
  · unfold oj;split;· exact⟨hW.add1 hB hB2 _,(hl _).1,by have:=(hl t).2;show ldW s.W t<=_;omega,hp2.b0,hp2.b1,hp2.b2⟩
    split;· exact⟨hW2.load _,hp2.a0,hp2.a1,hp2.b0,hp2.b1,hp2.b2⟩
    split;· exact⟨hW2.store _ _ QX,hp2.a0,hp2.a1,hp2.b0,hp2.b1,hp2.b2⟩
    · exact⟨hW2,hp2⟩
  have hv:∀x:Int,ldW s.W x<=B+2:=λx=>by have:=(hl x).2;omega
  split
  · unfold lM;split
    · unfold eB;split;· exact⟨hW2.store _ _ QX,hp2.a0,hp2.a1,hp2.b0,hp2.b1,hp2.b2⟩
      split;· exact⟨hW2.store _ _ QX,hp2.a0,hp2.a1,hp2.b0,hp2.b1,hp2.b2⟩
      split;· exact⟨hW2.swap _ _ QX,(hl _).1,hv _,hp2.b0,hp2.b1,hp2.b2⟩
      split;· exact⟨hW2.store _ _ QX,hp2.a0,hp2.a1,hp2.b0,hp2.b1,hp2.b2⟩
      · exact⟨hW2.load _,hp2.a0,hp2.a1,hp2.b0,hp2.b1,hp2.b2⟩
    split
    · unfold dF;split;· exact⟨hW2.cas _ _ _ QX,hp2.a0,hp2.a1,hp2.b0,hp2.b1,hp2.b2⟩
      split;· exact⟨hW2.store _ _ QX,hp2.a0,hp2.a1,hp2.b0,hp2.b1,hp2.b2⟩
      · exact⟨hW2.load _,(hl _).1,hv _,hp2.b0,hp2.b1,hp2.b2⟩
    · exact⟨hW2,hp2⟩
  · rename_i hk _ _ _;unfold tL;split;· exact⟨hW2.store _ _ QX,hp2.a0,hp2.a1,hp2.b0,hp2.b1,hp2.b2⟩
    split;· exact⟨hW2.swap _ _ QX,hp2.a0,hp2.a1,by show _<=ldW s.W t;have:=(hl t).1;omega,hv _,λ_=>(hl _).1⟩
    split;· exact⟨hW2.load _,hp2.a0,hp2.a1,hp2.b0,hp2.b1,hp2.b2⟩
    split;· exact⟨hW2.store _ _ QX,hb2 hk,hp2.b1,hp2.b0,hp2.b1,hp2.b2⟩
    · exact⟨hW2,hp2⟩
theorem tC{k:Nat}{B:Int}{p:Sp}(hp:SpB k B p)(hB:1<=B):SpB k B (askK k p):=by
 unfold askK;split
 ·split;·exact⟨by show(0:Int)<=1;omega,hB,hp.b0,hp.b1,hp.b2⟩
  ·exact⟨hp.a0,hp.a1,hp.b0,hp.b1,hp.b2⟩
 ·exact hp
theorem mV{k:Nat}{B:Int}{p:Sp}(hp:SpB k B p):SpB k B (be p):=by
 unfold be;split;·exact⟨hp.a0,hp.a1,hp.b0,hp.b1,hp.b2⟩
 ·exact hp
end
end Go.Proofs.YtglokdbiggbkjaaGreat
