/- Joined texts. -/
import Derived.ScopeJumps
import Derived.WalkMore
import Derived.Test.YtglokdbiggbkjaaGreatMgLocksSafe0
import Derived.Test.YtglokdbiggbkjaaGreatMgLocksSafe4
import Derived.Test.YtglokdbiggbkjaaGreatMgLocksSafe5
import Derived.Test.YtglokdbiggbkjaaGreatMgLocksSafe15
set_option linter.unusedVariables false
set_option linter.unusedSimpArgs false
set_option maxRecDepth 100000
set_option maxHeartbeats 16000000
namespace Go.Proofs.YtglokdbiggbkjaaGreat
section
open Go.RowKit
structure Cx where
 l:Nat
 a:Nat
 g:Nat
 q:Nat
 k:Nat
 n1:Nat
 nb:Nat
 b0:Nat
 b1:Nat
 b2:Nat
def F8 (c:Cx)(cap:Nat)(bud:Int)(n:Nat):Array Value:=#[↑c.a,.int .i64 1,.int .i64 bud,.slice (some ⟨c.nb,0,none⟩) n cap,↑c.k,.slice (some ⟨c.q,0,none⟩) n n]
def tE (c:Cx):Value:= .func (.func 172) #[] #[↑c.b0,↑c.b1,↑c.b2]
structure an (w:World)(c:Cx)(cap:Nat)(bud:Int)(nd:List Int)(h:Cn):Prop where
 ar:aA w c.a c.g h.ar
 lk:Blk w c.l 263 (F8 c cap bud nd.length)
 sp:dq w c.q h.S
 wk:cz w c.k c.n1 (tE c) nd h.wk
 row:∀m,m<nd.length->w.cell? ⟨c.nb,m,none⟩=some (.int .i64 (ndf nd m))
 p0:Blk w c.b0 29 #[↑c.a]
 p1:Blk w c.b1 3 #[.int .i64 3]
 p2:Blk w c.b2 3 #[.int .i64 3]
 sl:h.S.length=nd.length
 n32:1<=nd.length/\nd.length<=32
 nd4:[c.a,c.g,c.q,c.k].Nodup
 st:∀x∈[c.l,c.n1,c.nb,c.b0,c.b1,c.b2],x∉[c.a,c.g,c.q,c.k]
section
variable{w w':World}{c:Cx}{cap:Nat}{bud:Int}{nd:List Int}{h:Cn}
theorem an.next (k:an w c cap bud nd h){ar':Ar}{wk':Wk}{S':List Sp}(t:aa [c.a,c.g,c.q,c.k] w w')(h1:aA w' c.a c.g ar')(h2:dq w' c.q S')(h3:cz w' c.k c.n1 (tE c) nd wk')(h4:S'.length=nd.length):an w' c cap bud nd ⟨ar',wk',S'⟩:=by refine⟨h1,t.blk k.lk (k.st _ QY),h2,h3,λm hm=>?_,t.blk k.p0 (k.st _ QY),t.blk k.p1 (k.st _ QY),t.blk k.p2 (k.st _ QY),h4,k.n32,k.nd4,k.st⟩;rw[t.cellC (aQ (k.row m hm)) (k.st _ QY)];exact k.row m hm
theorem an.below (k:an w c cap bud nd h)(t:Below w.heap.size w w'):an w' c cap bud nd h:=by have t0:=aa.of_below (S:=[]) t;exact k.next (t0.mono QY) (k.ar.turns t0 QY QY) (k.sp.turns t0 QY) (k.wk.below t) k.sl
theorem an.n1k (k:an w c cap bud nd h):c.n1∉[c.a,c.g,c.q,c.k]:=k.st _ QY
theorem an.op (k:an w c cap bud nd h){ar':Ar}(t:aa [c.a,c.g] w w')(h1:aA w' c.a c.g ar'):an w' c cap bud nd ⟨ar',h.wk,h.S⟩:=by have hnd:=k.nd4;have hn1:=k.n1k;simp at hnd hn1;exact k.next (t.mono QY) h1 (k.sp.turns t Q1) (k.wk.turns t Q1 Q1) k.sl
theorem an.spot (k:an w c cap bud nd h){S':List Sp}(hs:dq w' c.q S')(hl:S'.length=nd.length)(t:aa [c.q] w w'):an w' c cap bud nd ⟨h.ar,h.wk,S'⟩:=by have hnd:=k.nd4;have hn1:=k.n1k;simp at hnd hn1;exact k.next (t.mono QY) (k.ar.turns t Q1 Q1) hs (k.wk.turns t Q1 Q1) hl
theorem an.walk (k:an w c cap bud nd h){wk':Wk}(h3:cz w' c.k c.n1 (tE c) nd wk')(t:aa [c.k] w w'):an w' c cap bud nd ⟨h.ar,wk',h.S⟩:=by have hnd:=k.nd4;simp at hnd;exact k.next (t.mono QY) (k.ar.turns t Q1 Q1) (k.sp.turns t Q1) h3 k.sl
theorem an.putS (k:an w c cap bud nd h){i:Nat}{p p':Sp}(hp:h.S[i]? =some p){j:Nat}{v:Value}(hj:j<4)(he:(a9 p).set j v=a9 p'):an (w.setCell ⟨c.q,i*4+j,none⟩ v) c cap bud nd ⟨h.ar,h.wk,h.S.set i p'⟩:=
 k.spot (k.sp.put hp hj he) (by simp[k.sl]) ((aa.refl _ _).setCell (.inl QY) _)
theorem dh{w:World}{c:Cx}(p:Addr)(v:Value)(hp:p.block=c.q):aa [c.a,c.g,c.q,c.k] w (w.setCell p v):=(aa.refl _ _).setCell (.inl (by simp[hp])) _
theorem an.l0 (k:an w c cap bud nd h):w.cell? c.l=some ↑c.a:=k.lk.cell 0
theorem an.l1 (k:an w c cap bud nd h):w.cell? ⟨c.l,1,none⟩=some (.int .i64 1):=k.lk.cell 1
theorem an.l2 (k:an w c cap bud nd h):w.cell? ⟨c.l,2,none⟩=some (.int .i64 bud):=k.lk.cell 2
theorem an.l3 (k:an w c cap bud nd h):w.cell? ⟨c.l,3,none⟩=some (.slice (some ⟨c.nb,0,none⟩) nd.length cap):=k.lk.cell 3
theorem an.l4 (k:an w c cap bud nd h):w.cell? ⟨c.l,4,none⟩=some ↑c.k:=k.lk.cell 4
theorem an.l5 (k:an w c cap bud nd h):w.cell? ⟨c.l,5,none⟩=some (.slice (some ⟨c.q,0,none⟩) nd.length nd.length):=k.lk.cell 5
theorem jK (k:an w c cap bud nd h):Calls Tryz.prog 313 #[↑c.l] w λe w'=>e= .returned (.int .i64 nd.length)/\w=w':=by have c5:=k.l5;clear k;go_enter Tryz.func313,Tryz.ntmps313;exact gs
theorem sQ (k:an w c cap bud nd h) (i:Int):
    Calls Tryz.prog 311 #[↑c.l,.int .i64 i] w λe w'=>e= .returned (aE (getS h.S i))/\Below w.heap.size w w':=by
  obtain⟨_,HN⟩:=k.n32;have hsl:=k.sl;by_cases hok:okI h.S i;· have hp:=dE hok;obtain⟨p,hpp⟩:∃p,p=getS h.S i:=⟨_,rfl⟩;rw[<-hpp]at hp ⊢;have c2:=k.l5;have a0:=k.sp.cell hp 0 _ rfl;have a1:=k.sp.cell hp 1 _ rfl;have a2:=k.sp.cell hp 2 _ rfl;have a3:=k.sp.cell hp 3 _ rfl;simp only[Nat.add_zero]at a0;obtain⟨h0,h1⟩:=hok;rw[hsl]at h1;obtain⟨n,rfl⟩:=Int.eq_ofNat_of_zero_le h0;simp only[Int.toNat_natCast]at a0 a1 a2 a3;have hs1:=k.lk.lt;have hs2:=k.sp.lt;have t2:¬(n:Int)<0:=(by omega);have t3:¬((nd.length:Nat):Int)<=(n:Int):=(by omega);have t4:n<nd.length:=(by omega);have H:Kq (an (w.alloc (.cells #[.int .i64 0,.int .i64 0,.int .i64 0,.int .i64 0] 113)) c cap bud nd h):=qh (k.below ((Below.refl _ _).alloc (Nat.le_refl _) _));clear k hp hpp h0 h1 hsl;go_enter Tryz.func311,Tryz.ntmps311;go_wp2_with (go_at_call 313;refine(jK H.o).mono ?_;rintro e w' ⟨rfl,rfl⟩);exact bodyPost_ret (results_cell_row Q5 _ _ w.heap.size 113 _ (0,0) _ Q5 (heap_alloc_new w _) Tryz.underlying113 rfl Q0) rfl ⟨rfl,(Below.refl _ _).alloc (Nat.le_refl _) _⟩
  · have H:Kq (an (w.alloc (.cells #[.int .i64 0,.int .i64 0,.int .i64 0,.int .i64 0] 113)) c cap bud nd h):=qh (k.below ((Below.refl _ _).alloc (Nat.le_refl _) _));rw[du hok];unfold okI at hok;rw[hsl]at hok;clear k hsl;by_cases h0:i<0;· go_enter Tryz.func311,Tryz.ntmps311;go_wp2;exact bodyPost_ret (results_cell_row Q5 _ _ w.heap.size 113 _ (0,0) _ Q5 (heap_alloc_new w _) Tryz.underlying113 rfl Q0) rfl ⟨rfl,(Below.refl _ _).alloc (Nat.le_refl _) _⟩
    · have t3:((nd.length:Nat):Int)<=i:=(by omega);clear hok;go_enter Tryz.func311,Tryz.ntmps311;go_wp2_with (go_at_call 313;refine(jK H.o).mono ?_;rintro e w' ⟨rfl,rfl⟩);exact bodyPost_ret (results_cell_row Q5 _ _ w.heap.size 113 _ (0,0) _ Q5 (heap_alloc_new w _) Tryz.underlying113 rfl Q0) rfl ⟨rfl,(Below.refl _ _).alloc (Nat.le_refl _) _⟩
def COp (w:World)(c:Cx)(cap:Nat)(bud:Int)(nd:List Int)(x:Cn×Bool)(e:Ending)(w':World):Prop:=e= .returned (.bool x.2)/\an w' c cap bud nd x.1/\aa [c.a,c.g,c.q,c.k] w w'
theorem vc (k:an w c cap bud nd h) (i from_ to_:Int):
    Calls Tryz.prog 314 #[↑c.l,.int .i64 i,.int .i64 from_,.int .i64 to_] w (COp w c cap bud nd (bU h i from_ to_)):=by
  have H:=qh k;obtain⟨_,hlen⟩:=k.n32;have hsl:=k.sl;by_cases hi:okI h.S i
  · have hp:=dE hi;obtain⟨p,hpp⟩:∃p,p=getS h.S i:=⟨_,rfl⟩;rw[<-hpp]at hp;have c2:=k.l5;have a0:=k.sp.cell hp 0 _ rfl;have f0:=k.sp.free (i.toNat*4);simp only[Nat.add_zero]at a0;obtain⟨h0,h1⟩:=id hi;rw[hsl]at h1;obtain⟨n,rfl⟩:=Int.eq_ofNat_of_zero_le h0;simp only[Int.toNat_natCast]at a0 f0 hp;have t2:¬(n:Int)<0:=(by omega);have t3:¬((nd.length:Nat):Int)<=(n:Int):=(by omega);have t4:n<nd.length:=(by omega);have HP:=qh (And.intro hi (And.intro hpp hp));clear k hp hpp h0 h1 hi hsl;cases hc:(p.pc !=from_)
    · have hb:Kq (bU h n from_ to_=(⟨h.ar,h.wk,h.S.set n {p with pc:=to_}⟩,true)):=qh (by
        unfold bU;have e:p.pc=from_:=by simpa using hc
        rw[<-HP.o.2.1,if_pos ⟨HP.o.1,e⟩];simp)
      go_enter Tryz.func314,Tryz.ntmps314;go_wp2_with (go_at_call 313;refine(jK H.o).mono ?_;rintro e w' ⟨rfl,rfl⟩);go_ret;rw[hb.o];have ht:aa [c.q] w (w.setCell ⟨c.q,n*4,none⟩ (.int .i64 to_)):=(aa.refl _ _).setCell (.inl QY) _;exact⟨rfl,H.o.spot (H.o.sp.put HP.o.2.2 (j:=0) QZ rfl) (by simp[H.o.sl]) ht,ht.mono QY⟩
    · have hb:Kq (bU h n from_ to_=(h,false)):=qh (by
        unfold bU;have e:¬p.pc=from_:=by simpa using hc
        rw[<-HP.o.2.1,if_neg (λh=>e h.2)])
      go_enter Tryz.func314,Tryz.ntmps314;go_wp2_with (go_at_call 313;refine(jK H.o).mono ?_;rintro e w' ⟨rfl,rfl⟩);go_ret;rw[hb.o];exact⟨rfl,H.o,aa.refl _ _⟩
  · have hb:Kq (bU h i from_ to_=(h,false)):=qh (by
      unfold bU
      rw[if_neg (λh=>hi h.1)])
    unfold okI at hi;rw[hsl]at hi;clear k hsl;by_cases h0:i<0;· go_enter Tryz.func314,Tryz.ntmps314;go_wp2;go_ret;rw[hb.o];exact⟨rfl,H.o,aa.refl _ _⟩
    · have t3:((nd.length:Nat):Int)<=i:=(by omega);clear hi;go_enter Tryz.func314,Tryz.ntmps314;go_wp2_with (go_at_call 313;refine(jK H.o).mono ?_;rintro e w' ⟨rfl,rfl⟩);go_ret;rw[hb.o];exact⟨rfl,H.o,aa.refl _ _⟩
theorem FB (k:an w c cap bud nd h) (i:Int):
    Calls Tryz.prog 309 #[↑c.l,.int .i64 i] w (COp w c cap bud nd (bU h i 0 1)):=by obtain⟨x,hx⟩:∃x,x=bU h i 0 1:=⟨_,rfl⟩;have H:=qh (vc k i 0 1);rw[<-hx]at H ⊢;obtain⟨x1,x2⟩:=x;clear k hx;go_enter Tryz.func309,Tryz.ntmps309;go_wp2_with fail;refine H.o.mono ?_;rintro en w1 ⟨rfl,h1,t1⟩;have H1:=qh (And.intro h1 t1);clear h1 t1;go_wp2;go_ret;exact⟨rfl,H1.o⟩
theorem CO (k:an w c cap bud nd h) (i:Int):
    Calls Tryz.prog 310 #[↑c.l,.int .i64 i] w (COp w c cap bud nd (bU h i 10 11)):=by obtain⟨x,hx⟩:∃x,x=bU h i 10 11:=⟨_,rfl⟩;have H:=qh (vc k i 10 11);rw[<-hx]at H ⊢;obtain⟨x1,x2⟩:=x;clear k hx;go_enter Tryz.func310,Tryz.ntmps310;go_wp2_with fail;refine H.o.mono ?_;rintro en w1 ⟨rfl,h1,t1⟩;have H1:=qh (And.intro h1 t1);clear h1 t1;go_wp2;go_ret;exact⟨rfl,H1.o⟩
theorem mj (k:an w c cap bud nd h)(x:Int)(hx:-5<=x/\x<=100000):Calls Tryz.prog 146 #[↑c.l,.int .i64 x] w λe w'=>e= .returned (.int .i64 (cN x))/\w=w':=by
 have c1:=k.l1;obtain⟨h0,h1⟩:=hx;have x1:IntKind.i64.wrap (3*x)=3*x:=IntWalk.i64_in _ QX;have x2:IntKind.i64.wrap (1+3*x)=1+3*x:=IntWalk.i64_in _ QX;have x3:IntKind.i64.wrap (1+3*x-1)=3*x:=by rw[show 1+3*x-1=3*x by omega];exact x1
 clear k;unfold cN;go_enter Tryz.func146,Tryz.ntmps146;exact Iv
theorem oy (k:an w c cap bud nd h)(x:Int)(hx:-5<=x/\x<=100000):Calls Tryz.prog 319 #[↑c.l,.int .i64 x] w λe w'=>e= .returned (.int .i64 (cS x))/\w=w':=by have c1:=k.l1;obtain⟨h0,h1⟩:=hx;have x1:IntKind.i64.wrap (3*x)=3*x:=IntWalk.i64_in _ QX;have x2:IntKind.i64.wrap (1+3*x)=1+3*x:=IntWalk.i64_in _ QX;clear k;unfold cS;go_enter Tryz.func319,Tryz.ntmps319;exact Iv
theorem vG (k:an w c cap bud nd h)(x:Int)(hx:-5<=x/\x<=100000):Calls Tryz.prog 321 #[↑c.l,.int .i64 x] w λe w'=>e= .returned (.int .i64 (cL x))/\w=w':=by have c1:=k.l1;obtain⟨h0,h1⟩:=hx;have x1:IntKind.i64.wrap (3*x)=3*x:=IntWalk.i64_in _ QX;have x2:IntKind.i64.wrap (1+3*x)=1+3*x:=IntWalk.i64_in _ QX;have x3:IntKind.i64.wrap (1+3*x+1)=1+3*x+1:=IntWalk.i64_in _ QX;clear k;unfold cL;go_enter Tryz.func321,Tryz.ntmps321;exact Iv
theorem qf (k:an w c cap bud nd h):Calls Tryz.prog 322 #[↑c.l] w λe w'=>e= .returned (.int .i64 2)/\w=w':=by have c1:=k.l1;clear k;go_enter Tryz.func322,Tryz.ntmps322;exact gs
theorem pM (w:World)(b:Bool)(x y v:Int)(hv:v=if b then x else y):Calls Tryz.prog 320 #[.bool b,.int .i64 x,.int .i64 y] w λe w'=>e= .returned (.int .i64 v)/\w=w':=by
 cases b;·exact Jy
 ·exact Jy
theorem BW (k:an w c cap bud nd h)(y:Int)(hy:-5<=y/\y<=100000)(ho:h.ar.ops+1<=1000000000000):Calls Tryz.prog 172 #[.int .i64 y,↑c.b0,↑c.b1,↑c.b2] w (eU w c.a c.g (ae h.ar (cN y)) (.int .i64 (ldW h.ar.W (cN y)))):=by
 have d0:w.cell? c.b0=_:=k.p0.cell 0;have d1:w.cell? c.b1=_:=k.p1.cell 0;have d2:w.cell? c.b2=_:=k.p2.cell 0;simp at d0 d1 d2;obtain⟨h0,h1⟩:=hy;have x0:IntKind.i64.wrap (y-1)=y-1:=IntWalk.i64_in _ QX;have x1:IntKind.i64.wrap (3*(y-1))=3*(y-1):=IntWalk.i64_in _ QX;have x2:IntKind.i64.wrap (3+3*(y-1))=cN y:=by unfold cN;rw[show 3+3*(y-1)=3*y by omega];exact IntWalk.i64_in _ QX
 have HL:=qh (aC k.ar (cN y) ho);obtain⟨v,hv⟩:∃v,v=ldW h.ar.W (cN y):=⟨_,rfl⟩;rw[<-hv]at HL ⊢;obtain⟨z,hz⟩:∃z,z=cN y:=⟨_,rfl⟩;rw[<-hz]at HL ⊢ x2;clear k hv hz;go_enter Tryz.func172,Tryz.ntmps172;go_wp2_with fail;refine HL.o.mono ?_;rintro en w1 ⟨rfl,a1,t1⟩;have H1:=qh (And.intro a1 t1);clear a1 t1;go_wp2;go_ret;exact⟨rfl,H1.o⟩
end
end
section
open Go.RowKit
section
variable{w w':World}{c:Cx}{cap:Nat}{bud:Int}{nd:List Int}{h:Cn}
def eE (w:World)(c:Cx)(cap:Nat)(bud:Int)(nd:List Int)(h:Cn)(i:Nat)(p:Sp)(x:Ar×Wk×Sp)(e:Ending)(w':World):Prop:=
 e= .returned (.int .i64 x.2.2.pc)/\an w' c cap bud nd ⟨x.1,x.2.1,h.S.set i {x.2.2 with pc:=p.pc}⟩/\aa [c.a,c.g,c.q,c.k] w w'
theorem yh{S:List Sp}{i:Nat}{p:Sp}(hp:S[i]? =some p):S.set i p=S:=by exact Ix
theorem an.samS{ar':Ar}{wk':Wk}{i:Nat}{p:Sp}(k:an w c cap bud nd ⟨ar',wk',h.S⟩)(hp:h.S[i]? =some p):an w c cap bud nd ⟨ar',wk',h.S.set i p⟩:=by rw[yh hp];exact k
theorem an.cs (k:an w c cap bud nd h){i:Nat}{p:Sp}(hp:h.S[i]? =some p):w.cell? c.l=some ↑c.a/\w.cell? ⟨c.l,1,none⟩=some (.int .i64 1)/\w.cell? ⟨c.l,4,none⟩=some ↑c.k/\w.cell? ⟨c.q,i*4+1,none⟩=some (.int .i64 p.a)/\w.cell? ⟨c.q,i*4+2,none⟩=some (.int .i64 p.b)/\w.cell? ⟨c.q,i*4+3,none⟩=some (.int .i64 p.c):=⟨k.l0,k.l1,k.l4,k.sp.cell hp 1 _ rfl,k.sp.cell hp 2 _ rfl,k.sp.cell hp 3 _ rfl⟩
theorem cyN {Q:Prop} (h_:Q:=by
    obtain⟨_,hn⟩:=k.n32
    have e0:=k.sp.cell hp 0 _ rfl
    simp only[Nat.add_zero]at e0
    have HP:=qh hp
    have HL:=qh (show i<h.S.length by rw[k.sl];exact hin)
    have K1:=qh (k.below ((Below.refl _ w).drew))
    clear k hp
    first
      | go_enter Tryz.func315,Tryz.ntmps315
      | go_enter Tryz.func316,Tryz.ntmps316
      | go_enter Tryz.func318,Tryz.ntmps318
    go_wp2_with fail
    go_region_held3 (λW=>W.cell? c.l=some ↑c.a/\W.cell? ⟨c.l,1,none⟩=some (.int .i64 1)/\W.cell? ⟨c.l,4,none⟩=some ↑c.k/\W.cell? ⟨c.q,i*4+1,none⟩=some (.int .i64 a)/\W.cell? ⟨c.q,i*4+2,none⟩=some (.int .i64 b)/\W.cell? ⟨c.q,i*4+3,none⟩=some (.int .i64 z))
      (first|(have q:=K1.o.cs HP.o;exact⟨q.1,q.2.1,q.2.2.1,q.2.2.2.1,q.2.2.2.2.1,q.2.2.2.2.2⟩)|(have q:=K2.o.cs HP.o;exact⟨q.1,q.2.1,q.2.2.1,q.2.2.2.1,q.2.2.2.2.1,q.2.2.2.2.2⟩))
      (first
        | (go_at_call 146;go_loud (refine(HF.o _ K1.o).mono ?_);rintro en w2 ⟨rfl,rfl⟩)
        | (go_at_call 319;go_loud (refine(HF.o _ K1.o).mono ?_);rintro en w2 ⟨rfl,rfl⟩)
        | (go_at_call 321;go_loud (refine(HF.o _ K1.o).mono ?_);rintro en w2 ⟨rfl,rfl⟩)
        | (go_at_call 322;go_loud (refine(HF.o _ K1.o).mono ?_);rintro en w2 ⟨rfl,rfl⟩)
        | (go_at_call 177;go_loud (refine(HO.o _ K1.o).mono ?_);rintro en w3 ⟨rfl,a3,t3⟩;have K2:=qh (K1.o.op t3 a3);have T2:=qh (((aa.refl [c.a,c.g,c.q,c.k] w).drew).trans (t3.mono (T:=[c.a,c.g,c.q,c.k]) QY));clear a3 t3)
        | (go_at_call 298;go_loud (refine(HO.o _ K1.o).mono ?_);rintro en w3 ⟨rfl,a3,t3⟩;have K2:=qh (K1.o.op t3 a3);have T2:=qh (((aa.refl [c.a,c.g,c.q,c.k] w).drew).trans (t3.mono (T:=[c.a,c.g,c.q,c.k]) QY));clear a3 t3))
    all_goals
      have e3:=by simpa using K2.o.sp.cell HP.o 0 _ rfl
      go_wp2
      go_ret
      rw[HX.o]
      exact⟨rfl,K2.o.samS HP.o,T2.o⟩):Q:=h_
theorem cwB {Q:Prop} (h_:Q:=by
    obtain⟨_,hn⟩:=k.n32
    have e0:=k.sp.cell hp 0 _ rfl
    simp only[Nat.add_zero]at e0
    have HP:=qh hp
    have HL:=qh (show i<h.S.length by rw[k.sl];exact hin)
    have HPn:=qh (HPN HL.o)
    have K1:=qh (k.below ((Below.refl _ w).drew))
    clear k hp
    first
      | go_enter Tryz.func315,Tryz.ntmps315
      | go_enter Tryz.func316,Tryz.ntmps316
      | go_enter Tryz.func318,Tryz.ntmps318
    go_wp2_with fail
    go_region_held3 (λW=>W.cell? c.l=some ↑c.a/\W.cell? ⟨c.l,1,none⟩=some (.int .i64 1)/\W.cell? ⟨c.l,4,none⟩=some ↑c.k/\W.cell? ⟨c.q,i*4+1,none⟩=some (.int .i64 a)/\W.cell? ⟨c.q,i*4+3,none⟩=some (.int .i64 z))
      (first|(have q:=K1.o.cs HP.o;exact⟨q.1,q.2.1,q.2.2.1,q.2.2.2.1,q.2.2.2.2.2⟩)|(have q:=K2.o.cs HP.o;exact⟨q.1,q.2.1,q.2.2.1,q.2.2.2.1,q.2.2.2.2.2⟩)|(have q:=K3.o.cs HPn.o;exact⟨q.1,q.2.1,q.2.2.1,q.2.2.2.1,q.2.2.2.2.2⟩))
      (first
        | (go_at_call 146;go_loud (refine(HF.o _ K1.o).mono ?_);rintro en w2 ⟨rfl,rfl⟩)
        | (go_at_call 319;go_loud (refine(HF.o _ K1.o).mono ?_);rintro en w2 ⟨rfl,rfl⟩)
        | (go_at_call 321;go_loud (refine(HF.o _ K1.o).mono ?_);rintro en w2 ⟨rfl,rfl⟩)
        | (go_at_call 322;go_loud (refine(HF.o _ K1.o).mono ?_);rintro en w2 ⟨rfl,rfl⟩)
        | (go_at_call 173;go_loud (refine(HO.o _ K1.o).mono ?_);rintro en w3 ⟨rfl,a3,t3⟩;have K2:=qh (K1.o.op t3 a3);have T2:=qh (((aa.refl [c.a,c.g,c.q,c.k] w).drew).trans (t3.mono (T:=[c.a,c.g,c.q,c.k]) QY));have K3:=qh (HJ.o _ _ K2.o);have e1:=K2.o.sp.cell HP.o 2 _ rfl;have z1:=K2.o.sp.free (i*4+2);clear a3 t3)
        | (go_at_call 271;go_loud (refine(HO.o _ K1.o).mono ?_);rintro en w3 ⟨rfl,a3,t3⟩;have K2:=qh (K1.o.op t3 a3);have T2:=qh (((aa.refl [c.a,c.g,c.q,c.k] w).drew).trans (t3.mono (T:=[c.a,c.g,c.q,c.k]) QY));have K3:=qh (HJ.o _ _ K2.o);have e1:=K2.o.sp.cell HP.o 2 _ rfl;have z1:=K2.o.sp.free (i*4+2);clear a3 t3))
    all_goals
      have e3:=by simpa using K3.o.sp.cell HPn.o 0 _ rfl
      go_wp2
      go_ret
      rw[HX.o]
      exact⟨rfl,K3.o,T2.o.trans (dh ⟨c.q,i*4+2,none⟩ _ rfl)⟩):Q:=h_
theorem cwZ {Q:Prop} (h_:Q:=by
    obtain⟨_,hn⟩:=k.n32
    have e0:=k.sp.cell hp 0 _ rfl
    simp only[Nat.add_zero]at e0
    have HP:=qh hp
    have HL:=qh (show i<h.S.length by rw[k.sl];exact hin)
    have HPn:=qh (HPN HL.o)
    have K1:=qh (k.below ((Below.refl _ w).drew))
    clear k hp
    first
      | go_enter Tryz.func315,Tryz.ntmps315
      | go_enter Tryz.func316,Tryz.ntmps316
      | go_enter Tryz.func318,Tryz.ntmps318
    go_wp2_with fail
    go_region_held3 (λW=>W.cell? c.l=some ↑c.a/\W.cell? ⟨c.l,1,none⟩=some (.int .i64 1)/\W.cell? ⟨c.l,4,none⟩=some ↑c.k/\W.cell? ⟨c.q,i*4+1,none⟩=some (.int .i64 a)/\W.cell? ⟨c.q,i*4+2,none⟩=some (.int .i64 b))
      (first|(have q:=K1.o.cs HP.o;exact⟨q.1,q.2.1,q.2.2.1,q.2.2.2.1,q.2.2.2.2.1⟩)|(have q:=K2.o.cs HP.o;exact⟨q.1,q.2.1,q.2.2.1,q.2.2.2.1,q.2.2.2.2.1⟩)|(have q:=K3.o.cs HPn.o;exact⟨q.1,q.2.1,q.2.2.1,q.2.2.2.1,q.2.2.2.2.1⟩))
      (first
        | (go_at_call 146;go_loud (refine(HF.o _ K1.o).mono ?_);rintro en w2 ⟨rfl,rfl⟩)
        | (go_at_call 319;go_loud (refine(HF.o _ K1.o).mono ?_);rintro en w2 ⟨rfl,rfl⟩)
        | (go_at_call 321;go_loud (refine(HF.o _ K1.o).mono ?_);rintro en w2 ⟨rfl,rfl⟩)
        | (go_at_call 322;go_loud (refine(HF.o _ K1.o).mono ?_);rintro en w2 ⟨rfl,rfl⟩)
        | (go_at_call 173;go_loud (refine(HO.o _ K1.o).mono ?_);rintro en w3 ⟨rfl,a3,t3⟩;have K2:=qh (K1.o.op t3 a3);have T2:=qh (((aa.refl [c.a,c.g,c.q,c.k] w).drew).trans (t3.mono (T:=[c.a,c.g,c.q,c.k]) QY));have K3:=qh (HJ.o _ _ K2.o);have e1:=K2.o.sp.cell HP.o 3 _ rfl;have z1:=K2.o.sp.free (i*4+3);clear a3 t3)
        | (go_at_call 271;go_loud (refine(HO.o _ K1.o).mono ?_);rintro en w3 ⟨rfl,a3,t3⟩;have K2:=qh (K1.o.op t3 a3);have T2:=qh (((aa.refl [c.a,c.g,c.q,c.k] w).drew).trans (t3.mono (T:=[c.a,c.g,c.q,c.k]) QY));have K3:=qh (HJ.o _ _ K2.o);have e1:=K2.o.sp.cell HP.o 3 _ rfl;have z1:=K2.o.sp.free (i*4+3);clear a3 t3))
    all_goals
      have e3:=by simpa using K3.o.sp.cell HPn.o 0 _ rfl
      go_wp2
      go_ret
      rw[HX.o]
      exact⟨rfl,K3.o,T2.o.trans (dh ⟨c.q,i*4+3,none⟩ _ rfl)⟩):Q:=h_
theorem FF (k:an w c cap bud nd h) (i:Nat) (hin:i<nd.length) (a b z:Int) (hp:h.S[i]? =some (⟨1,a,b,z⟩:Sp)) (ho:h.ar.ops+1<=1000000000000):
    Calls Tryz.prog 315 #[↑c.l,.pointer (some ⟨c.q,i*4,none⟩),.int .i64 ((i:Int)+1)] w (eE w c cap bud nd h i (⟨1,a,b,z⟩:Sp) (af nd.length (ndf nd) bud h i (⟨1,a,b,z⟩:Sp))):=by have hn:=k.n32.2;have HX:Kq (af nd.length (ndf nd) bud h i (⟨1,a,b,z⟩:Sp)=(ac h.ar (cN ((i:Int)+1)) 0,h.wk,⟨2,a,b,z⟩)):=qh (by rw[Ih rfl]<;>rfl);have HF:=qh (λW (k:an W c cap bud nd h)=>mj k ((i:Int)+1) QX);have HO:=qh (λW (k:an W c cap bud nd h)=>am k.ar (cN ((i:Int)+1)) 0 ho);exact cyN
theorem FG (k:an w c cap bud nd h) (i:Nat) (hin:i<nd.length) (a b z:Int) (hp:h.S[i]? =some (⟨2,a,b,z⟩:Sp)) (ho:h.ar.ops+1<=1000000000000):
    Calls Tryz.prog 315 #[↑c.l,.pointer (some ⟨c.q,i*4,none⟩),.int .i64 ((i:Int)+1)] w (eE w c cap bud nd h i (⟨2,a,b,z⟩:Sp) (af nd.length (ndf nd) bud h i (⟨2,a,b,z⟩:Sp))):=by have hn:=k.n32.2;have HX:Kq (af nd.length (ndf nd) bud h i (⟨2,a,b,z⟩:Sp)=(ac h.ar (cS ((i:Int)+1)) 0,h.wk,⟨3,a,b,z⟩)):=qh (by rw[Ii rfl]<;>rfl);have HF:=qh (λW (k:an W c cap bud nd h)=>oy k ((i:Int)+1) QX);have HO:=qh (λW (k:an W c cap bud nd h)=>am k.ar (cS ((i:Int)+1)) 0 ho);exact cyN
theorem FI (k:an w c cap bud nd h) (i:Nat) (hin:i<nd.length) (a b z:Int) (hp:h.S[i]? =some (⟨4,a,b,z⟩:Sp)) (ho:h.ar.ops+1<=1000000000000) (ha:-5<=a/\a<=100000):
    Calls Tryz.prog 315 #[↑c.l,.pointer (some ⟨c.q,i*4,none⟩),.int .i64 ((i:Int)+1)] w (eE w c cap bud nd h i (⟨4,a,b,z⟩:Sp) (af nd.length (ndf nd) bud h i (⟨4,a,b,z⟩:Sp))):=by have HX:Kq (af nd.length (ndf nd) bud h i (⟨4,a,b,z⟩:Sp)=(ac h.ar (cN a) ((i:Int)+1),h.wk,⟨5,a,b,z⟩)):=qh (by rw[Ik rfl]<;>rfl);have HF:=qh (λW (k:an W c cap bud nd h)=>mj k a (by exact ha));have HO:=qh (λW (k:an W c cap bud nd h)=>am k.ar (cN a) ((i:Int)+1) ho);exact cyN
theorem FK (k:an w c cap bud nd h) (i:Nat) (hin:i<nd.length) (a b z:Int) (hp:h.S[i]? =some (⟨6,a,b,z⟩:Sp)) (ho:h.ar.ops+1<=1000000000000):
    Calls Tryz.prog 315 #[↑c.l,.pointer (some ⟨c.q,i*4,none⟩),.int .i64 ((i:Int)+1)] w (eE w c cap bud nd h i (⟨6,a,b,z⟩:Sp) (af nd.length (ndf nd) bud h i (⟨6,a,b,z⟩:Sp))):=by have hn:=k.n32.2;have HX:Kq (af nd.length (ndf nd) bud h i (⟨6,a,b,z⟩:Sp)=(ac h.ar (cS ((i:Int)+1)) (-1),h.wk,⟨10,a,b,z⟩)):=qh (by rw[Im rfl]<;>rfl);have HF:=qh (λW (k:an W c cap bud nd h)=>oy k ((i:Int)+1) QX);have HO:=qh (λW (k:an W c cap bud nd h)=>am k.ar (cS ((i:Int)+1)) (-1) ho);exact cyN
theorem FH (k:an w c cap bud nd h) (i:Nat) (hin:i<nd.length) (a b z:Int) (hp:h.S[i]? =some (⟨3,a,b,z⟩:Sp)) (ho:h.ar.ops+1<=1000000000000):
    Calls Tryz.prog 315 #[↑c.l,.pointer (some ⟨c.q,i*4,none⟩),.int .i64 ((i:Int)+1)] w (eE w c cap bud nd h i (⟨3,a,b,z⟩:Sp) (af nd.length (ndf nd) bud h i (⟨3,a,b,z⟩:Sp))):=by
  obtain⟨_,hn⟩:=k.n32;have e0:=k.sp.cell hp 0 _ rfl;simp only[Nat.add_zero]at e0;obtain⟨ar',har⟩:∃s,s=bY h.ar 1 ((i:Int)+1):=⟨_,rfl⟩;obtain⟨v,hv⟩:∃v,v=ldW h.ar.W 1:=⟨_,rfl⟩;have HX:Kq (af nd.length (ndf nd) bud h i (⟨3,a,b,z⟩:Sp)=(ar',h.wk,(⟨if v=0 then 6 else 4,v,b,z⟩:Sp))):=qh (by rw[Ij rfl,har,hv]<;>rfl);have HO0:=(λW (k:an W c cap bud nd h)=>ff k.ar 1 ((i:Int)+1) ho);rw[<-har,<-hv]at HO0;have HO:=qh HO0;have HC:=qh (λW (h:Cn) (u:Int) (k:an W c cap bud nd h) (hp:h.S[i]? =some (⟨3,u,b,z⟩:Sp))=>And.intro k.l0 k.l1);have HP:=qh hp;have HL:=qh (show i<h.S.length by rw[k.sl];exact hin);have K1:=qh (k.below ((Below.refl _ w).drew));clear HO0 k hp har hv;have HPk:=qh (λw b x y v hv=>pM w b x y v hv);by_cases hv0:v=0
  all_goals
    have t0:(v==0)=decide (v=0):=(by by_cases h:v=0<;>simp[h]);first| rw[decide_eq_true hv0]at t0| rw[decide_eq_false hv0]at t0
    have HV:=qh hv0;clear hv0;go_enter Tryz.func315,Tryz.ntmps315;go_wp2_with fail
    go_region_held3 (λW=>W.cell? c.l=some ↑c.a/\W.cell? ⟨c.l,1,none⟩=some (.int .i64 1))
      (first|with_reducible exact HC.o _ _ _ K1.o HP.o|with_reducible exact HC.o _ _ _ K2.o HP.o|with_reducible exact HC3.o)
      (first
        | (go_at_call 271;go_loud (refine(HO.o _ K1.o).mono ?_);rintro en w3 ⟨rfl,a3,t3⟩;have K2:=qh (K1.o.op t3 a3);have T2:=qh (((aa.refl [c.a,c.g,c.q,c.k] w).drew).trans (t3.mono (T:=[c.a,c.g,c.q,c.k]) QY));have K3:=qh (K2.o.putS (p':=(⟨3,v,b,z⟩:Sp)) HP.o (j:=1) (v:= .int .i64 v) QZ rfl);have HC3:=qh (HC.o _ _ v K3.o Rx);have e1:=K2.o.sp.cell HP.o 1 _ rfl;have z1:=K2.o.sp.free (i*4+1);clear a3 t3))
    all_goals
      go_wp2_with fail;first| refine(HPk.o _ true 6 4 6 rfl).mono ?_| refine(HPk.o _ false 6 4 4 rfl).mono ?_
      rintro en w5 ⟨rfl,rfl⟩;go_wp2;go_ret;rw[HX.o];first| exact⟨by rw[if_pos HV.o];rfl,K3.o,T2.o.trans (dh ⟨c.q,i*4+1,none⟩ _ rfl)⟩| exact⟨by rw[if_neg HV.o];rfl,K3.o,T2.o.trans (dh ⟨c.q,i*4+1,none⟩ _ rfl)⟩
theorem FJ (k:an w c cap bud nd h) (i:Nat) (hin:i<nd.length) (a b z:Int) (hp:h.S[i]? =some (⟨5,a,b,z⟩:Sp)) (ho:h.ar.ops+1<=1000000000000):
    Calls Tryz.prog 315 #[↑c.l,.pointer (some ⟨c.q,i*4,none⟩),.int .i64 ((i:Int)+1)] w (eE w c cap bud nd h i (⟨5,a,b,z⟩:Sp) (af nd.length (ndf nd) bud h i (⟨5,a,b,z⟩:Sp))):=by
  obtain⟨_,hn⟩:=k.n32;have e0:=k.sp.cell hp 0 _ rfl;simp only[Nat.add_zero]at e0;obtain⟨ar',har⟩:∃s,s=ae h.ar (cS ((i:Int)+1)):=⟨_,rfl⟩;obtain⟨v,hv⟩:∃v,v=ldW h.ar.W (cS ((i:Int)+1)):=⟨_,rfl⟩;have HX:Kq (af nd.length (ndf nd) bud h i (⟨5,a,b,z⟩:Sp)=(ar',h.wk,(⟨if v≠0 then 10 else 5,v,b,z⟩:Sp))):=qh (by rw[Il rfl,har,hv]<;>rfl);have HF:=qh (λW (k:an W c cap bud nd h)=>oy k ((i:Int)+1) QX);have HO0:=(λW (k:an W c cap bud nd h)=>aC k.ar (cS ((i:Int)+1)) ho);rw[<-har,<-hv]at HO0;have HO:=qh HO0;have HC:=qh (λW (h:Cn) (u:Int) (k:an W c cap bud nd h) (hp:h.S[i]? =some (⟨5,u,b,z⟩:Sp))=>k.l0);have HP:=qh hp;have HL:=qh (show i<h.S.length by rw[k.sl];exact hin);have K1:=qh (k.below ((Below.refl _ w).drew));clear HO0 k hp har hv;have HPk:=qh (λw b x y v hv=>pM w b x y v hv);by_cases hv0:v≠0
  all_goals
    have t0:(v !=0)=decide (v≠0):=(by by_cases h:v=0<;>simp[h]);first| rw[decide_eq_true hv0]at t0| rw[decide_eq_false hv0]at t0
    have HV:=qh hv0;clear hv0;go_enter Tryz.func315,Tryz.ntmps315;go_wp2_with fail
    go_region_held3 (λW=>W.cell? c.l=some ↑c.a)
      (first|with_reducible exact HC.o _ _ _ K1.o HP.o|with_reducible exact HC.o _ _ _ K2.o HP.o|with_reducible exact HC3.o)
      (first
        | (go_at_call 319;go_loud (refine(HF.o _ K1.o).mono ?_);rintro en w2 ⟨rfl,rfl⟩)
        | (go_at_call 173;go_loud (refine(HO.o _ K1.o).mono ?_);rintro en w3 ⟨rfl,a3,t3⟩;have K2:=qh (K1.o.op t3 a3);have T2:=qh (((aa.refl [c.a,c.g,c.q,c.k] w).drew).trans (t3.mono (T:=[c.a,c.g,c.q,c.k]) QY));have K3:=qh (K2.o.putS (p':=(⟨5,v,b,z⟩:Sp)) HP.o (j:=1) (v:= .int .i64 v) QZ rfl);have HC3:=qh (HC.o _ _ v K3.o Rx);have e1:=K2.o.sp.cell HP.o 1 _ rfl;have z1:=K2.o.sp.free (i*4+1);clear a3 t3))
    all_goals
      go_wp2_with fail;first| refine(HPk.o _ true 10 5 10 rfl).mono ?_| refine(HPk.o _ false 10 5 5 rfl).mono ?_
      rintro en w5 ⟨rfl,rfl⟩;go_wp2;go_ret;rw[HX.o];first| exact⟨by rw[if_pos HV.o];rfl,K3.o,T2.o.trans (dh ⟨c.q,i*4+1,none⟩ _ rfl)⟩| exact⟨by rw[if_neg HV.o];rfl,K3.o,T2.o.trans (dh ⟨c.q,i*4+1,none⟩ _ rfl)⟩
end
end
section
open Go.RowKit
section
variable{w w':World}{c:Cx}{cap:Nat}{bud:Int}{nd:List Int}{h:Cn}
theorem y7 (k:an w c cap bud nd h) (i:Nat) (hin:i<nd.length) (a b z:Int) (hp:h.S[i]? =some (⟨11,a,b,z⟩:Sp)) (ho:h.ar.ops+1<=1000000000000):
    Calls Tryz.prog 316 #[↑c.l,.pointer (some ⟨c.q,i*4,none⟩),.int .i64 ((i:Int)+1)] w (eE w c cap bud nd h i (⟨11,a,b,z⟩:Sp) (af nd.length (ndf nd) bud h i (⟨11,a,b,z⟩:Sp))):=by
  have hn:=k.n32.2;obtain⟨v,hv⟩:∃v,v=ldW h.ar.W (cS ((i:Int)+1)):=⟨_,rfl⟩;have HX:Kq (af nd.length (ndf nd) bud h i (⟨11,a,b,z⟩:Sp)=(ae h.ar (cS ((i:Int)+1)),h.wk,(⟨12,a,v,z⟩:Sp))):=qh (by rw[GQ rfl,hv]<;>rfl);have HF:=qh (λW (k:an W c cap bud nd h)=>oy k ((i:Int)+1) QX);have HO:=λW (k:an W c cap bud nd h)=>aC k.ar (cS ((i:Int)+1)) ho;rw[<-hv]at HO;replace HO:=qh HO;clear hv;have HJ:=qh (λW ar' (k:an W c cap bud nd ⟨ar',h.wk,h.S⟩)=>k.putS (p':=(⟨11,a,v,z⟩:Sp)) hp (j:=2) (v:= .int .i64 v) QZ rfl);have HPN:=fun(q:i<h.S.length)=>show(h.S.set i (⟨11,a,v,z⟩:Sp))[i]? =some (⟨11,a,v,z⟩:Sp)by simp[q]
  exact cwB
theorem y9 (k:an w c cap bud nd h) (i:Nat) (hin:i<nd.length) (a b z:Int) (hp:h.S[i]? =some (⟨12,a,b,z⟩:Sp)) (ho:h.ar.ops+1<=1000000000000):
    Calls Tryz.prog 316 #[↑c.l,.pointer (some ⟨c.q,i*4,none⟩),.int .i64 ((i:Int)+1)] w (eE w c cap bud nd h i (⟨12,a,b,z⟩:Sp) (af nd.length (ndf nd) bud h i (⟨12,a,b,z⟩:Sp))):=by
  obtain⟨_,hn⟩:=k.n32;have e0:=k.sp.cell hp 0 _ rfl;simp only[Nat.add_zero]at e0;obtain⟨ar',har⟩:∃s,s=ae h.ar (cN ((i:Int)+1)):=⟨_,rfl⟩;obtain⟨v,hv⟩:∃v,v=ldW h.ar.W (cN ((i:Int)+1)):=⟨_,rfl⟩;have HX:Kq (af nd.length (ndf nd) bud h i (⟨12,a,b,z⟩:Sp)=(ar',h.wk,(⟨if v≠0 then 17 else if 0<b then 14 else 13,v,b,z⟩:Sp))):=qh (by rw[GR rfl,har,hv]<;>rfl);have HF:=qh (λW (k:an W c cap bud nd h)=>mj k ((i:Int)+1) QX);have HO0:=(λW (k:an W c cap bud nd h)=>aC k.ar (cN ((i:Int)+1)) ho);rw[<-har,<-hv]at HO0;have HO:=qh HO0;have HC:=qh (λW (h:Cn) (u:Int) (k:an W c cap bud nd h) (hp:h.S[i]? =some (⟨12,u,b,z⟩:Sp))=>k.l0);have HP:=qh hp;have HL:=qh (show i<h.S.length by rw[k.sl];exact hin);have K1:=qh (k.below ((Below.refl _ w).drew));clear HO0 k hp har hv;have HPk:=qh (λw b x y v hv=>pM w b x y v hv);obtain⟨t,ht⟩:∃t,t=decide (0<b):=⟨_,rfl⟩;obtain⟨r,hr⟩:∃r,r=(v !=0):=⟨_,rfl⟩;obtain⟨q1,hq1⟩:∃x:Int,x=if t then 14 else 13:=⟨_,rfl⟩
  obtain⟨q2,hq2⟩:∃x:Int,x=if r then 17 else q1:=⟨_,rfl⟩
  have HQ:Kq ((if v≠0 then 17 else if 0<b then 14 else 13:Int)=q2):=qh (by
    rw[hq2,hq1,hr,ht];by_cases e1:v=0
    · by_cases e2:0<b;· simp[e1,e2]
      · simp[e1,e2]
    · simp[e1])
  have HQ1:=qh hq1;have HQ2:=qh hq2;have HR:=qh hr;have HT:=qh ht;clear hq1 hq2 hr ht;go_enter Tryz.func316,Tryz.ntmps316;go_wp2_with fail
  go_region_held3 (λW=>W.cell? c.l=some ↑c.a)
    (first|with_reducible exact HC.o _ _ _ K1.o HP.o|with_reducible exact HC.o _ _ _ K2.o HP.o|with_reducible exact HC3.o)
    (first
      | (go_at_call 146;go_loud (refine(HF.o _ K1.o).mono ?_);rintro en w2 ⟨rfl,rfl⟩)
      | (go_at_call 173;go_loud (refine(HO.o _ K1.o).mono ?_);rintro en w3 ⟨rfl,a3,t3⟩;have K2:=qh (K1.o.op t3 a3);have T2:=qh (((aa.refl [c.a,c.g,c.q,c.k] w).drew).trans (t3.mono (T:=[c.a,c.g,c.q,c.k]) QY));have K3:=qh (K2.o.putS (p':=(⟨12,v,b,z⟩:Sp)) HP.o (j:=1) (v:= .int .i64 v) QZ rfl);have HC3:=qh (HC.o _ _ v K3.o Rx);have e1:=K2.o.sp.cell HP.o 1 _ rfl;have z1:=K2.o.sp.free (i*4+1);clear a3 t3))
  all_goals
    have e3:=K3.o.sp.cell (i:=i) (p:=⟨12,v,b,z⟩) Rx 2 _ rfl;have g1:=HT.o.symm;have g2:=HR.o.symm;go_wp2
    go_quiet ((first
      | (go_at_call 320;exact dS (HPk.o _ _ _ _ _ HQ1.o))
      | (go_at_call 320;exact dS (HPk.o _ _ _ _ _ HQ2.o))))
    go_wp2;go_ret;rw[HX.o];exact⟨aT HQ.o.symm,K3.o.below (Qt.below ⟨_,rfl⟩ _),(T2.o.trans (dh ⟨c.q,i*4+1,none⟩ _ rfl)).trans (aa.of_qt ⟨_,rfl⟩)⟩
theorem za (k:an w c cap bud nd h) (i:Nat) (hin:i<nd.length) (a b z:Int) (hp:h.S[i]? =some (⟨13,a,b,z⟩:Sp)) (ho:h.ar.ops+1<=1000000000000):
    Calls Tryz.prog 316 #[↑c.l,.pointer (some ⟨c.q,i*4,none⟩),.int .i64 ((i:Int)+1)] w (eE w c cap bud nd h i (⟨13,a,b,z⟩:Sp) (af nd.length (ndf nd) bud h i (⟨13,a,b,z⟩:Sp))):=by
  obtain⟨_,hn⟩:=k.n32;have e0:=k.sp.cell hp 0 _ rfl;simp only[Nat.add_zero]at e0;obtain⟨ar',har⟩:∃s,s=dO h.ar 1 ((i:Int)+1) 0:=⟨_,rfl⟩;obtain⟨v,hv⟩:∃v,v=cl h.ar 1 ((i:Int)+1):=⟨_,rfl⟩;have HX:Kq (af nd.length (ndf nd) bud h i (⟨13,a,b,z⟩:Sp)=(ar',h.wk,(⟨if v then 0 else 16,a,b,z⟩:Sp))):=qh (by rw[GT rfl,har,hv]<;>rfl);have HO0:=(λW (k:an W c cap bud nd h)=>i1 k.ar 1 ((i:Int)+1) 0 ho);rw[<-har,<-hv]at HO0;have HO:=qh HO0;have HC:=qh (λW (h:Cn) (k:an W c cap bud nd h) (hp:h.S[i]? =some (⟨13,a,b,z⟩:Sp))=>And.intro k.l0 k.l1);have HP:=qh hp;have HL:=qh (show i<h.S.length by rw[k.sl];exact hin);have K1:=qh (k.below ((Below.refl _ w).drew));clear HO0 k hp har hv;have HPk:=qh (λw b x y v hv=>pM w b x y v hv);cases v
  · go_enter Tryz.func316,Tryz.ntmps316
    go_wp2_with fail
    go_region_held3 (λW=>W.cell? c.l=some ↑c.a/\W.cell? ⟨c.l,1,none⟩=some (.int .i64 1))
      (first|with_reducible exact HC.o _ _ K1.o HP.o|with_reducible exact HC.o _ _ K2.o HP.o)
      (first
        | (go_at_call 320;go_loud (refine(HPk.o _ false 0 16 16 rfl).mono ?_);rintro en w5 ⟨rfl,rfl⟩)
        | (go_at_call 272;go_loud (refine(HO.o _ K1.o).mono ?_);rintro en w3 ⟨rfl,a3,t3⟩;have K2:=qh (K1.o.op t3 a3);have T2:=qh (((aa.refl [c.a,c.g,c.q,c.k] w).drew).trans (t3.mono (T:=[c.a,c.g,c.q,c.k]) QY));clear a3 t3))
    all_goals
      go_wp2
      go_ret
      rw[HX.o]
      exact⟨rfl,K2.o.samS HP.o,T2.o⟩
  · go_enter Tryz.func316,Tryz.ntmps316
    go_wp2_with fail
    go_region_held3 (λW=>W.cell? c.l=some ↑c.a/\W.cell? ⟨c.l,1,none⟩=some (.int .i64 1))
      (first|with_reducible exact HC.o _ _ K1.o HP.o|with_reducible exact HC.o _ _ K2.o HP.o)
      (first
        | (go_at_call 320;go_loud (refine(HPk.o _ true 0 16 0 rfl).mono ?_);rintro en w5 ⟨rfl,rfl⟩)
        | (go_at_call 272;go_loud (refine(HO.o _ K1.o).mono ?_);rintro en w3 ⟨rfl,a3,t3⟩;have K2:=qh (K1.o.op t3 a3);have T2:=qh (((aa.refl [c.a,c.g,c.q,c.k] w).drew).trans (t3.mono (T:=[c.a,c.g,c.q,c.k]) QY));clear a3 t3))
    all_goals
      go_wp2
      go_ret
      rw[HX.o]
      exact⟨rfl,K2.o.samS HP.o,T2.o⟩
theorem zb (k:an w c cap bud nd h) (i:Nat) (hin:i<nd.length) (a b z:Int) (hp:h.S[i]? =some (⟨14,a,b,z⟩:Sp)) (ho:h.ar.ops+1<=1000000000000) (hb:-5<=b/\b<=100000):
    Calls Tryz.prog 316 #[↑c.l,.pointer (some ⟨c.q,i*4,none⟩),.int .i64 ((i:Int)+1)] w (eE w c cap bud nd h i (⟨14,a,b,z⟩:Sp) (af nd.length (ndf nd) bud h i (⟨14,a,b,z⟩:Sp))):=by
  obtain⟨v,hv⟩:∃v,v=ldW h.ar.W (cL b):=⟨_,rfl⟩;have HX:Kq (af nd.length (ndf nd) bud h i (⟨14,a,b,z⟩:Sp)=(ae h.ar (cL b),h.wk,(⟨15,a,b,v⟩:Sp))):=qh (by rw[GU rfl,hv]<;>rfl);have HF:=qh (λW (k:an W c cap bud nd h)=>vG k b (by exact hb));have HO:=λW (k:an W c cap bud nd h)=>aC k.ar (cL b) ho;rw[<-hv]at HO;replace HO:=qh HO;clear hv;have HJ:=qh (λW ar' (k:an W c cap bud nd ⟨ar',h.wk,h.S⟩)=>k.putS (p':=(⟨14,a,b,v⟩:Sp)) hp (j:=3) (v:= .int .i64 v) QZ rfl);have HPN:=fun(q:i<h.S.length)=>show(h.S.set i (⟨14,a,b,v⟩:Sp))[i]? =some (⟨14,a,b,v⟩:Sp)by simp[q]
  exact cwZ
theorem zc (k:an w c cap bud nd h) (i:Nat) (hin:i<nd.length) (a b z:Int) (hp:h.S[i]? =some (⟨15,a,b,z⟩:Sp)) (ho:h.ar.ops+1<=1000000000000):
    Calls Tryz.prog 316 #[↑c.l,.pointer (some ⟨c.q,i*4,none⟩),.int .i64 ((i:Int)+1)] w (eE w c cap bud nd h i (⟨15,a,b,z⟩:Sp) (af nd.length (ndf nd) bud h i (⟨15,a,b,z⟩:Sp))):=by
  obtain⟨_,hn⟩:=k.n32;have e0:=k.sp.cell hp 0 _ rfl;simp only[Nat.add_zero]at e0;obtain⟨ar',har⟩:∃s,s=dO h.ar 1 ((i:Int)+1) z:=⟨_,rfl⟩;obtain⟨v,hv⟩:∃v,v=cl h.ar 1 ((i:Int)+1):=⟨_,rfl⟩;have HX:Kq (af nd.length (ndf nd) bud h i (⟨15,a,b,z⟩:Sp)=(ar',h.wk,(⟨if v then 28 else 16,a,b,z⟩:Sp))):=qh (by rw[GV rfl,har,hv]<;>rfl);have HO0:=(λW (k:an W c cap bud nd h)=>i1 k.ar 1 ((i:Int)+1) z ho);rw[<-har,<-hv]at HO0;have HO:=qh HO0;have HC:=qh (λW (h:Cn) (k:an W c cap bud nd h) (hp:h.S[i]? =some (⟨15,a,b,z⟩:Sp))=>And.intro k.l0 (And.intro k.l1 (k.sp.cell hp 3 _ rfl)));have HP:=qh hp;have HL:=qh (show i<h.S.length by rw[k.sl];exact hin);have K1:=qh (k.below ((Below.refl _ w).drew));clear HO0 k hp har hv;have HPk:=qh (λw b x y v hv=>pM w b x y v hv);cases v
  · go_enter Tryz.func316,Tryz.ntmps316
    go_wp2_with fail
    go_region_held3 (λW=>W.cell? c.l=some ↑c.a/\W.cell? ⟨c.l,1,none⟩=some (.int .i64 1)/\W.cell? ⟨c.q,i*4+3,none⟩=some (.int .i64 z))
      (first|with_reducible exact HC.o _ _ K1.o HP.o|with_reducible exact HC.o _ _ K2.o HP.o)
      (first
        | (go_at_call 320;go_loud (refine(HPk.o _ false 28 16 16 rfl).mono ?_);rintro en w5 ⟨rfl,rfl⟩)
        | (go_at_call 272;go_loud (refine(HO.o _ K1.o).mono ?_);rintro en w3 ⟨rfl,a3,t3⟩;have K2:=qh (K1.o.op t3 a3);have T2:=qh (((aa.refl [c.a,c.g,c.q,c.k] w).drew).trans (t3.mono (T:=[c.a,c.g,c.q,c.k]) QY));clear a3 t3))
    all_goals
      go_wp2
      go_ret
      rw[HX.o]
      exact⟨rfl,K2.o.samS HP.o,T2.o⟩
  · go_enter Tryz.func316,Tryz.ntmps316
    go_wp2_with fail
    go_region_held3 (λW=>W.cell? c.l=some ↑c.a/\W.cell? ⟨c.l,1,none⟩=some (.int .i64 1)/\W.cell? ⟨c.q,i*4+3,none⟩=some (.int .i64 z))
      (first|with_reducible exact HC.o _ _ K1.o HP.o|with_reducible exact HC.o _ _ K2.o HP.o)
      (first
        | (go_at_call 320;go_loud (refine(HPk.o _ true 28 16 28 rfl).mono ?_);rintro en w5 ⟨rfl,rfl⟩)
        | (go_at_call 272;go_loud (refine(HO.o _ K1.o).mono ?_);rintro en w3 ⟨rfl,a3,t3⟩;have K2:=qh (K1.o.op t3 a3);have T2:=qh (((aa.refl [c.a,c.g,c.q,c.k] w).drew).trans (t3.mono (T:=[c.a,c.g,c.q,c.k]) QY));clear a3 t3))
    all_goals
      go_wp2
      go_ret
      rw[HX.o]
      exact⟨rfl,K2.o.samS HP.o,T2.o⟩
theorem zd (k:an w c cap bud nd h) (i:Nat) (hin:i<nd.length) (a b z:Int) (hp:h.S[i]? =some (⟨16,a,b,z⟩:Sp)) (ho:h.ar.ops+1<=1000000000000):
    Calls Tryz.prog 316 #[↑c.l,.pointer (some ⟨c.q,i*4,none⟩),.int .i64 ((i:Int)+1)] w (eE w c cap bud nd h i (⟨16,a,b,z⟩:Sp) (af nd.length (ndf nd) bud h i (⟨16,a,b,z⟩:Sp))):=by
  obtain⟨_,hn⟩:=k.n32;have e0:=k.sp.cell hp 0 _ rfl;simp only[Nat.add_zero]at e0;obtain⟨ar',har⟩:∃s,s=ae h.ar (cN ((i:Int)+1)):=⟨_,rfl⟩;obtain⟨v,hv⟩:∃v,v=ldW h.ar.W (cN ((i:Int)+1)):=⟨_,rfl⟩;have HX:Kq (af nd.length (ndf nd) bud h i (⟨16,a,b,z⟩:Sp)=(ar',h.wk,(⟨if v≠0 then 17 else 16,v,b,z⟩:Sp))):=qh (by rw[GW rfl,har,hv]<;>rfl);have HF:=qh (λW (k:an W c cap bud nd h)=>mj k ((i:Int)+1) QX);have HO0:=(λW (k:an W c cap bud nd h)=>aC k.ar (cN ((i:Int)+1)) ho);rw[<-har,<-hv]at HO0;have HO:=qh HO0;have HC:=qh (λW (h:Cn) (u:Int) (k:an W c cap bud nd h) (hp:h.S[i]? =some (⟨16,u,b,z⟩:Sp))=>k.l0);have HP:=qh hp;have HL:=qh (show i<h.S.length by rw[k.sl];exact hin);have K1:=qh (k.below ((Below.refl _ w).drew));clear HO0 k hp har hv;have HPk:=qh (λw b x y v hv=>pM w b x y v hv);by_cases hv0:v≠0
  all_goals
    have t0:(v !=0)=decide (v≠0):=(by by_cases h:v=0<;>simp[h]);first| rw[decide_eq_true hv0]at t0| rw[decide_eq_false hv0]at t0
    have HV:=qh hv0;clear hv0;go_enter Tryz.func316,Tryz.ntmps316;go_wp2_with fail
    go_region_held3 (λW=>W.cell? c.l=some ↑c.a)
      (first|with_reducible exact HC.o _ _ _ K1.o HP.o|with_reducible exact HC.o _ _ _ K2.o HP.o|with_reducible exact HC3.o)
      (first
        | (go_at_call 146;go_loud (refine(HF.o _ K1.o).mono ?_);rintro en w2 ⟨rfl,rfl⟩)
        | (go_at_call 173;go_loud (refine(HO.o _ K1.o).mono ?_);rintro en w3 ⟨rfl,a3,t3⟩;have K2:=qh (K1.o.op t3 a3);have T2:=qh (((aa.refl [c.a,c.g,c.q,c.k] w).drew).trans (t3.mono (T:=[c.a,c.g,c.q,c.k]) QY));have K3:=qh (K2.o.putS (p':=(⟨16,v,b,z⟩:Sp)) HP.o (j:=1) (v:= .int .i64 v) QZ rfl);have HC3:=qh (HC.o _ _ v K3.o Rx);have e1:=K2.o.sp.cell HP.o 1 _ rfl;have z1:=K2.o.sp.free (i*4+1);clear a3 t3))
    all_goals
      go_wp2_with fail;first| refine(HPk.o _ true 17 16 17 rfl).mono ?_| refine(HPk.o _ false 17 16 16 rfl).mono ?_
      rintro en w5 ⟨rfl,rfl⟩;go_wp2;go_ret;rw[HX.o];first| exact⟨by rw[if_pos HV.o];rfl,K3.o,T2.o.trans (dh ⟨c.q,i*4+1,none⟩ _ rfl)⟩| exact⟨by rw[if_neg HV.o];rfl,K3.o,T2.o.trans (dh ⟨c.q,i*4+1,none⟩ _ rfl)⟩
end
end
section
open Go.RowKit
section
variable{w w':World}{c:Cx}{cap:Nat}{bud:Int}{nd:List Int}{h:Cn}
def D1 (w:World)(c:Cx)(cap:Nat)(bud:Int)(nd:List Int)(ar':Ar)(wk':Wk)(S:List Sp)(e:Ending)(w':World):Prop:=
 e= .returned (.bool (!wk'.way))/\an w' c cap bud nd ⟨ar',wk',S⟩/\aa [c.a,c.g,c.q,c.k] w w'
theorem Fh (k:an w c cap bud nd h) (ho:h.ar.ops+1<=1000000000000) (hway:h.wk.way=true) (hp:0<=h.wk.passed/\h.wk.passed<=32) (hl:-5<=h.wk.last/\h.wk.last<=100000):
    Calls Tryz.prog 324 #[↑c.k] w (D1 w c cap bud nd (ae h.ar (cN h.wk.last)) (dK nd.length (ndf nd) h.wk (ldW h.ar.W (cN h.wk.last))) h.S):=by
  obtain⟨v,hv⟩:∃v,v=ldW h.ar.W (cN h.wk.last):=⟨_,rfl⟩;obtain⟨ar',har⟩:∃s,s=ae h.ar (cN h.wk.last):=⟨_,rfl⟩;obtain⟨wk',hwk⟩:∃x,x=dK nd.length (ndf nd) h.wk v:=⟨_,rfl⟩;have HO:=qh (GK k.wk);rw[hway]at HO;have HB0:=λW (k:an W c cap bud nd h)=>BW k h.wk.last hl ho;rw[<-hv,<-har]at HB0;have HB:=qh HB0;have HT0:=λW (k:cz W c.k c.n1 (tE c) nd h.wk)=>Bz k hp v;rw[<-hwk]at HT0;have HT:=qh HT0;have HC:=qh (λW (k:cz W c.k c.n1 (tE c) nd h.wk)=>And.intro k.c0 k.c5);rw[<-hv,<-har,<-hwk];have K0:=qh k;have K1:=qh (k.below ((Below.refl _ w).drew));obtain⟨lst,hlst⟩:∃x,x=h.wk.last:=⟨_,rfl⟩;have HLs:=qh hlst;rw[<-hlst]at HB;have HC0:=HC;have HC:=qh (show ∀W,cz W c.k c.n1 (tE c) nd h.wk->W.cell? c.k=some (.func (.func 172) #[] #[↑c.b0,↑c.b1,↑c.b2])/\W.cell? ⟨c.k,5,none⟩=some (.int .i64 lst)from λW k=>by rw[hlst];exact HC0.o W k);clear HB0 HT0 HC0 hv har hwk hp hl k hway hlst;go_enter Tryz.func324,Tryz.ntmps324;go_wp2_with fail;refine HO.o.mono ?_;rintro en w1 ⟨rfl,rfl⟩;go_wp2_with fail;have k0:=(HC.o _ K1.o.wk).1;have k5:=(HC.o _ K1.o.wk).2
  go_region_with
    (first
      | (go_at_call 172;go_loud (refine(HB.o _ K1.o).mono ?_);rintro en w2 ⟨rfl,a2,t2⟩;have K2:=qh (K1.o.op t2 a2);have T2:=qh (((aa.refl [c.a,c.g,c.q,c.k] w).drew).trans (t2.mono (T:=[c.a,c.g,c.q,c.k]) QY));clear a2 t2)
      | (go_at_call 327;go_loud (refine(HT.o _ K2.o.wk).mono ?_);rintro en w3 ⟨rfl,k3,t3⟩;have K3:=qh (And.intro (K2.o.walk k3 t3) (T2.o.trans (t3.mono (T:=[c.a,c.g,c.q,c.k]) QY)));clear k3 t3))
  all_goals go_wp2;go_ret;exact⟨rfl,K3.o.1,K3.o.2⟩
end
end
section
open Go.RowKit
theorem io{P:Program}{a:Act}{w:World}{Q:Exit->Act->World->Prop}{c rest:Code}(l:Nat)(hf:findLabel c l=some rest)(first:c.wp P (Exit.jump l (λa' w'=>rest.wp P (Exit.noGoto Q) a' w') Q) a w):(Code.scope c).wp P Q a w:=by exact Jz
theorem r6{Q:Exit->Act->World->Prop}{J:Act->World->Prop}{l:Nat}{a:Act}{w:World}:Exit.jump l J Q .ret a w=Q .ret a w:=rfl
section
variable{w w':World}{c:Cx}{cap:Nat}{bud:Int}{nd:List Int}{h:Cn}
theorem xn (k:an w c cap bud nd h) (i:Nat) (a b z:Int) (hp:h.S[i]? =some (⟨18,a,b,z⟩:Sp)) (ho:h.ar.ops+1<=1000000000000) (hway:h.wk.way=true) (hps:0<=h.wk.passed/\h.wk.passed<=32) (hl:-5<=h.wk.last/\h.wk.last<=100000):
    Calls Tryz.prog 317 #[↑c.l,.pointer (some ⟨c.q,i*4,none⟩),.int .i64 ((i:Int)+1)] w (eE w c cap bud nd h i (⟨18,a,b,z⟩:Sp) (af nd.length (ndf nd) bud h i (⟨18,a,b,z⟩:Sp))):=by
  have e0:=k.sp.cell hp 0 _ rfl;simp only[Nat.add_zero]at e0;have l4:=k.l4;obtain⟨ar',har⟩:∃s,s=ae h.ar (cN h.wk.last):=⟨_,rfl⟩;obtain⟨wk',hwk⟩:∃x,x=dK nd.length (ndf nd) h.wk (ldW h.ar.W (cN h.wk.last)):=⟨_,rfl⟩;have HX:Kq (af nd.length (ndf nd) bud h i (⟨18,a,b,z⟩:Sp)=(ar',wk',if wk'.way then(⟨18,a,b,z⟩:Sp)else if wk'.found≠0 then⟨19,a,b,z⟩else eG ⟨18,a,b,z⟩)):=qh (by rw[GZ rfl hway,har,hwk]);have HW0:=Fh k ho hway hps hl;rw[<-har,<-hwk]at HW0;have HW:=qh HW0;have HP:=qh hp;clear HW0 k hp har hwk hway hps hl ho;go_enter Tryz.func317,Tryz.ntmps317;go_wp2;refine io 0 rfl ?_;go_wp2;go_step3;refine⟨rfl,?_⟩;go_wp2_with fail;refine HW.o.mono ?_;rintro en w1 ⟨rfl,k1,t1⟩;have K1:=qh (And.intro k1 t1);have KS:=qh (k1.samS HP.o);have d4:=k1.l4;have d2:=k1.sp.cell HP.o 2 _ rfl;clear k1 t1 e0 l4;cases hwy:wk'.way
  · have HY:=qh hwy;by_cases hf:wk'.found=0
    · have t0:(wk'.found !=0)=false:=(by simpa using hf);have HF:=qh hf;clear hf hwy;by_cases hb:0<b;· have HB:=qh hb;go_wp2_with fail;refine(qk K1.o.1.wk).mono ?_;rintro en w2 ⟨rfl,rfl⟩;go_wp2;go_step3;go_wp2;rw[Exit.noGoto_ret];go_ret;rw[HX.o,HY.o,if_neg QZ,if_neg (λh=>h HF.o)];exact⟨by unfold eG;rw[if_pos HB.o];rfl,by unfold eG;exact KS.o,K1.o.2⟩
      · have HB:=qh hb;go_wp2_with fail;refine(qk K1.o.1.wk).mono ?_;rintro en w2 ⟨rfl,rfl⟩;go_wp2;go_step3;go_wp2;rw[Exit.noGoto_ret];go_ret;rw[HX.o,HY.o,if_neg QZ,if_neg (λh=>h HF.o)];exact⟨by unfold eG;rw[if_neg (show ¬0<b by have:=HB.o;omega)];rfl,by unfold eG;exact KS.o,K1.o.2⟩
    · have t0:(wk'.found !=0)=true:=(by simpa using hf);have HF:=qh hf;clear hf hwy;go_wp2_with fail;refine(qk K1.o.1.wk).mono ?_;rintro en w2 ⟨rfl,rfl⟩;go_wp2;rw[Exit.noGoto_ret];go_ret;rw[HX.o,HY.o,if_neg QZ,if_pos HF.o];exact⟨rfl,KS.o,K1.o.2⟩
  · have HY:=qh hwy;clear hwy;go_wp2;rw[Exit.noGoto_ret];go_ret;rw[HX.o,HY.o,if_pos rfl];exact⟨rfl,KS.o,K1.o.2⟩
theorem xm (k:an w c cap bud nd h) (i:Nat) (hin:i<nd.length) (a b z:Int) (hp:h.S[i]? =some (⟨17,a,b,z⟩:Sp)) (ho:h.ar.ops+1<=1000000000000):
    Calls Tryz.prog 317 #[↑c.l,.pointer (some ⟨c.q,i*4,none⟩),.int .i64 ((i:Int)+1)] w (eE w c cap bud nd h i (⟨17,a,b,z⟩:Sp) (af nd.length (ndf nd) bud h i (⟨17,a,b,z⟩:Sp))):=by
  obtain⟨_,hn⟩:=k.n32;have hi2:(i:Int)<nd.length:=by omega
  have hi3:i<nd.length:=hin;have x7:IntKind.i64.wrap (i:Int)=(i:Int):=IntWalk.i64_in _ QX;have e0:=k.sp.cell hp 0 _ rfl;simp only[Nat.add_zero]at e0;obtain⟨ar',har⟩:∃s,s=ae h.ar 2:=⟨_,rfl⟩;obtain⟨v,hv⟩:∃v,v=ldW h.ar.W 2:=⟨_,rfl⟩;obtain⟨wk',hwk⟩:∃x,x=gF nd.length (ndf nd) h.wk a (ndf nd i):=⟨_,rfl⟩;have HX:Kq (af nd.length (ndf nd) bud h i (⟨17,a,b,z⟩:Sp)=if bud<=v then(ar',h.wk,eG ⟨17,a,b,v⟩)else(ar',wk',(⟨if wk'.way then 18 else 23,a,b,v⟩:Sp))):=qh (by rw[GY rfl,har,hv,hwk]);have HF:=qh (λW (k:an W c cap bud nd h)=>qf k);have HO0:=(λW (k:an W c cap bud nd h)=>aC k.ar 2 ho);rw[<-har,<-hv]at HO0;have HO:=qh HO0;have HC:=qh (λW (h:Cn) (k:an W c cap bud nd h)=>k.l0);have HP:=qh hp;have HL:=qh (show i<h.S.length by rw[k.sl];exact hin);have K1:=qh (k.below ((Below.refl _ w).drew));obtain⟨nv,hnv⟩:∃x,x=ndf nd i:=⟨_,rfl⟩;have HWB0:=λW (k:cz W c.k c.n1 (tE c) nd h.wk)=>BV k a (ndf nd i);rw[<-hwk,<-hnv]at HWB0;have HWB:=qh HWB0
  have HCC:=qh (show ∀W (ar:Ar) (wk:Wk),an W c cap bud nd ⟨ar,wk,h.S.set i ⟨17,a,b,v⟩⟩->W.cell? ⟨c.l,3,none⟩=some (.slice (some ⟨c.nb,0,none⟩) nd.length cap)/\W.cell? ⟨c.l,4,none⟩=some ↑c.k/\W.cell? ⟨c.q,i*4+1,none⟩=some (.int .i64 a)/\W.cell? ⟨c.nb,i,none⟩=some (.int .i64 nv)from λW ar wk k=>
    ⟨k.l3,k.l4,k.sp.cell (i:=i) (p:=⟨17,a,b,v⟩) Rx 1 _ rfl,by rw[hnv];exact k.row i hin⟩)
  clear HO0 HWB0 k hp har hv hwk hnv;by_cases hbv:bud<=v
  · have HBV:=qh hbv;go_enter Tryz.func317,Tryz.ntmps317;go_wp2;refine io 1 rfl ?_;go_wp2_with fail
    go_region_held3 (λW=>W.cell? c.l=some ↑c.a)
      (first|with_reducible exact HC.o _ _ K1.o|with_reducible exact HC.o _ _ K2.o|with_reducible exact HC.o _ _ K3.o)
      (first
        | (go_at_call 322;go_loud (refine(HF.o _ K1.o).mono ?_);rintro en w2 ⟨rfl,rfl⟩)
        | (go_at_call 173;go_loud (refine(HO.o _ K1.o).mono ?_);rintro en w3 ⟨rfl,a3,t3⟩;have K2:=qh (K1.o.op t3 a3);have T2:=qh (((aa.refl [c.a,c.g,c.q,c.k] w).drew).trans (t3.mono (T:=[c.a,c.g,c.q,c.k]) QY));have K3:=qh (K2.o.putS (p':=(⟨17,a,b,v⟩:Sp)) HP.o (j:=3) (v:= .int .i64 v) QZ rfl);have e1:=K2.o.sp.cell HP.o 3 _ rfl;have z1:=K2.o.sp.free (i*4+3);clear a3 t3))
    all_goals
      have T3:=qh (T2.o.trans (dh ⟨c.q,i*4+3,none⟩ (.int .i64 v) rfl));have hp3:(h.S.set i (⟨17,a,b,v⟩:Sp))[i]? =some (⟨17,a,b,v⟩:Sp):=(by simp[HL.o]);have l2:=K3.o.l2;have s2:=K3.o.sp.cell hp3 2 _ rfl;have s3:=K3.o.sp.cell hp3 3 _ rfl;clear hp3 e1 z1 e0;go_wp2_with fail;go_quiet (fail);go_wp2;go_step3;refine⟨rfl,?_⟩;by_cases hbp:0<b;· have HB:=qh hbp;go_wp2;rw[Exit.noGoto_ret];go_ret;rw[HX.o,if_pos HBV.o];exact⟨by unfold eG;rw[if_pos HB.o];rfl,by unfold eG;exact K3.o.below (Qt.below ⟨_,rfl⟩ _),T3.o.trans (aa.of_qt ⟨_,rfl⟩)⟩
      · have HB:=qh hbp;go_wp2;rw[Exit.noGoto_ret];go_ret;rw[HX.o,if_pos HBV.o];exact⟨by unfold eG;rw[if_neg (show ¬0<b by have:=HB.o;omega)];rfl,by unfold eG;exact K3.o.below (Qt.below ⟨_,rfl⟩ _),T3.o.trans (aa.of_qt ⟨_,rfl⟩)⟩
  · have HBV:=qh hbv;go_enter Tryz.func317,Tryz.ntmps317;go_wp2;refine io 1 rfl ?_;go_wp2_with fail
    go_region_held3 (λW=>W.cell? c.l=some ↑c.a)
      (first|with_reducible exact HC.o _ _ K1.o|with_reducible exact HC.o _ _ K2.o|with_reducible exact HC.o _ _ K3.o)
      (first
        | (go_at_call 322;go_loud (refine(HF.o _ K1.o).mono ?_);rintro en w2 ⟨rfl,rfl⟩)
        | (go_at_call 173;go_loud (refine(HO.o _ K1.o).mono ?_);rintro en w3 ⟨rfl,a3,t3⟩;have K2:=qh (K1.o.op t3 a3);have T2:=qh (((aa.refl [c.a,c.g,c.q,c.k] w).drew).trans (t3.mono (T:=[c.a,c.g,c.q,c.k]) QY));have K3:=qh (K2.o.putS (p':=(⟨17,a,b,v⟩:Sp)) HP.o (j:=3) (v:= .int .i64 v) QZ rfl);have e1:=K2.o.sp.cell HP.o 3 _ rfl;have z1:=K2.o.sp.free (i*4+3);clear a3 t3))
    all_goals
      have T3:=qh (T2.o.trans (dh ⟨c.q,i*4+3,none⟩ (.int .i64 v) rfl));have hp3:(h.S.set i (⟨17,a,b,v⟩:Sp))[i]? =some (⟨17,a,b,v⟩:Sp):=(by simp[HL.o]);have l2:=K3.o.l2;have s3:=K3.o.sp.cell hp3 3 _ rfl;obtain⟨wm,hwm⟩:∃x,x=w3.setCell ⟨c.q,i*4+3,none⟩ (.int .i64 v):=⟨_,rfl⟩;rw[<-hwm]at K3 T3 l2 s3 ⊢;clear hp3 e1 z1 e0 hwm;go_wp2_with fail;go_quiet (fail);go_wp2_with fail;have K4:=qh ((K3.o.below (Qt.below (w':=wm.drewN nq) ⟨_,rfl⟩ _)).below ((Below.refl _ _).drew));have T4:=qh ((T3.o.trans (aa.of_qt (b:=wm.drewN nq) ⟨_,rfl⟩)).drew)
      go_region_held3 (λW=>W.cell? ⟨c.l,3,none⟩=some (.slice (some ⟨c.nb,0,none⟩) nd.length cap)/\W.cell? ⟨c.l,4,none⟩=some ↑c.k/\W.cell? ⟨c.q,i*4+1,none⟩=some (.int .i64 a)/\W.cell? ⟨c.nb,i,none⟩=some (.int .i64 nv))
        (first|with_reducible exact HCC.o _ _ _ K4.o|with_reducible exact HCC.o _ _ _ K5.o)
        (first
          | (go_at_call 323;go_loud (refine(HWB.o _ K4.o.wk).mono ?_);rintro en w5 ⟨rfl,k5,t5⟩;have K5:=qh (K4.o.walk k5 t5);have T5:=qh (T4.o.trans (t5.mono (T:=[c.a,c.g,c.q,c.k]) QY));clear k5 t5))
      all_goals
        cases hwy:wk'.way;· have HY:=qh hwy;clear hwy;go_wp2;rw[r6];go_ret;rw[HX.o,if_neg (show ¬bud<=v by have:=HBV.o;omega),HY.o,if_neg QZ];exact⟨rfl,K5.o,T5.o⟩
        · have HY:=qh hwy;clear hwy;go_wp2;rw[r6];go_ret;rw[HX.o,if_neg (show ¬bud<=v by have:=HBV.o;omega),HY.o,if_pos rfl];exact⟨rfl,K5.o,T5.o⟩
end
end
end Go.Proofs.YtglokdbiggbkjaaGreat
