/- Joined texts. -/
import Derived.StillTailTactics
import Derived.IntWalk
import Derived.Deep.RegionHeld3
import Derived.ScopeJumps
import Derived.WalkMore
import Derived.Test.YtglokdbiggbkjaaGreatMgWorldTrace0
import Derived.Test.YtglokdbiggbkjaaGreatMgWorldTrace2
import Derived.Test.YtglokdbiggbkjaaGreatMgWorldTrace4
import Derived.Test.YtglokdbiggbkjaaGreatMgWorldTrace10
set_option linter.unusedVariables false
set_option linter.unusedSimpArgs false
set_option linter.defProp false
set_option maxRecDepth 100000
set_option maxHeartbeats 16000000
open Go.Proofs.Tryz
namespace Go.Proofs.YtglokdbiggbkjaaGreat
open Go.IntKind(i64)
open Go.Value(int bool slice agg tuple pointer)
open Go.Ending(returned)
open Go.Obj(cells)
variable{w w':World}{nd:List Int}{i cap:Nat}{v:Value}{bud:Int}{Q:Exit->Act->World->Prop}
section
open Go.RowKit
def wkC(La:Value)(n1 n:Nat)(x:Wk):Array Value:=#[La,slice (some ⟨n1,0,none⟩) n n,J x.node,.bool x.way,J x.passed,J x.last,J x.found]
structure cW(w:World)(k n1:Nat)(La:Value)(nd:List Int)(x:Wk):Prop where
 blk:Blk w k 324 (wkC La n1 nd.length x)
 row:Blk w n1 3 (nd.map (Value.int .i64)).toArray
 ne:k≠n1
 n32:nd.length<=32
def ndf(nd:List Int)(t:Nat):Int:=nd.getD t 0
section
variable{k n1:Nat}{La:Value}{x:Wk}
def cW.c0(h:cW w k n1 La nd x):w.cell? k=some La:=h.blk.cell 0
def cW.c1(h:cW w k n1 La nd x):Z w k 1 (slice (some ⟨n1,0,none⟩) nd.length nd.length):=h.blk.cell 1
def cW.c2(h:cW w k n1 La nd x):Z w k 2 (J x.node):=h.blk.cell 2
def cW.c3(h:cW w k n1 La nd x):Z w k 3 (.bool x.way):=h.blk.cell 3
def cW.c4(h:cW w k n1 La nd x):Z w k 4 (J x.passed):=h.blk.cell 4
def cW.c5(h:cW w k n1 La nd x):Z w k 5 (J x.last):=h.blk.cell 5
def cW.c6(h:cW w k n1 La nd x):Z w k 6 (J x.found):=h.blk.cell 6
def cW.nat(h:cW w k n1 La nd x){m:Nat}(hm:m<nd.length):Z w n1 m (J (ndf nd m)):=by rw[h.row.cell m];unfold ndf;simp[List.getD_eq_getElem?_getD,List.getElem?_eq_getElem hm]
def cW.turns{S:List Nat}(h:cW w k n1 La nd x)(t:aa S w w')(h1:k∉S)(H:n1∉S):cW w' k n1 La nd x:=⟨t.blk h.blk h1,t.blk h.row H,h.ne,h.n32⟩
def cW.below(h:cW w k n1 La nd x)(t:Below w.heap.size w w'):cW w' k n1 La nd x:=h.turns (aa.of_below (S:=[]) t) ahz ahz
def cW.put(h:cW w k n1 La nd x){x':Wk}(e:(wkC La n1 nd.length x).setIfInBounds i v=wkC La n1 nd.length x'):cW (w.setCell ⟨k,i,none⟩ v) k n1 La nd x':=by refine⟨?_,h.row.far (λe=>h.ne e.symm) _,h.ne,h.n32⟩;have:=h.blk.set_ i v;exact aa2
def fy{k:Nat}(w:World)(i:Nat)(v:Value):aa [k] w (w.setCell ⟨k,i,none⟩ v):=(aa.refl _ _).setCell (.inl ahz) _
def isW(h:cW w k n1 La nd x)(y:Int)(b:Bool)(I:decide (1<=y/\y<=nd.length)=b):E 329 #[↑k,J y] w λe w'=>e= returned (.bool b)/\w=w':=by
 have c1:=h.c1;have HB:=qh I;clear h I;by_cases h1:1<=y;.go_enter func329,ntmps329;go_wp2;go_ret;exact⟨az (by rw[<-HB.o];simp[h1]),rfl⟩
 .go_enter func329,ntmps329;exact aau
def E6(w:World)(k n1:Nat)(La:Value)(nd:List Int)(x':Wk)(e:Ending)(w':World):Prop:=e= returned (bool (!x'.way))/\cW w' k n1 La nd x'/\aa [k] w w'
def C2(h:cW w k n1 La nd x)(V:0<=x.passed/\x.passed<=32)(y:Int):E 327 #[↑k,J y] w (E6 w k n1 La nd (dS nd.length (ndf nd) x y)):=by
 have hd:=qh (λm=>h.below (Qt.below ⟨m,rfl⟩ _));obtain⟨KK,al⟩:=V;have hk:=h.blk.lt;have hn:=h.n32;by_cases h1:1<=y/\y<=nd.length
 .have HI:=qh (λW (h:cW W k n1 La nd x)=>isW h y true (decide_eq_true h1));have c1:=h.c1;have c3:=h.c3;have c4:=h.c4;have c5:=h.c5;have c6:=h.c6;have z3:=h.blk.free 3;by_cases H:x.passed=nd.length;.have Y:(x.passed==(nd.length:Int))=true:=(by simpa using H);have HT:Kq (dS nd.length (ndf nd) x y={x with way:=false}):=qh (by unfold dS;rw[if_pos (.inr H)]);clear h H;exact abe
  .have Y:(x.passed==(nd.length:Int))=false:=(by simpa using H);obtain⟨ab,ad⟩:=h1;obtain⟨m,rfl⟩:∃m:Nat,y=(m:Int)+1:=⟨(y-1).toNat,by omega⟩;have hm:m<nd.length:=(by omega);have SJ:(m:Int)<(nd.length:Int):=(by omega);have c2:=h.c2;have cn:=h.nat hm;have z4:=h.blk.free 4;have z5:=h.blk.free 5;have z6:=h.blk.free 6;have kn:=h.ne;have x1:IntKind.i64.wrap (x.passed+1)=x.passed+1:=IntWalk.i64_in _ ahy;by_cases I:ndf nd m=x.node;.have t5:(ndf nd m==x.node)=true:=(by simpa using I);have HT:Kq (dS nd.length (ndf nd) x ((m:Int)+1)={x with way:=false,found:=(m:Int)+1}):=qh (by unfold dS;rw[if_neg ahy,if_pos (by rw[show((m:Int)+1-1).toNat=m by omega];exact I)]);have O:=qh h;clear h H I;go_enter func327,ntmps327;go_wp2_with fail;go_quiet ((go_at_call 329;exact bN (HI.o _ (hd.o _))));go_wp2;go_quiet (fail);go_wp2;go_ret;rw[HT.o];refine⟨rfl,?_,((aa.of_qt ⟨_,rfl⟩).trans (fy _ _ _)).trans (fy _ _ _)⟩;exact(cW.put (x':={x with way:=false}) (hd.o _) rfl).put rfl
   .have t5:(ndf nd m==x.node)=false:=(by simpa using I);have HT:Kq (dS nd.length (ndf nd) x ((m:Int)+1)={x with way:=true,last:=(m:Int)+1,passed:=x.passed+1}):=qh (by unfold dS;rw[if_neg ahy,if_neg (by rw[show((m:Int)+1-1).toNat=m by omega];exact I)]);have O:=qh h;clear h H I;go_enter func327,ntmps327;go_wp2_with fail;go_quiet ((go_at_call 329;exact bN (HI.o _ (hd.o _))));go_wp2;go_quiet (fail);go_wp2;go_ret;rw[HT.o];refine⟨rfl,?_,(((aa.of_qt ⟨_,rfl⟩).trans (fy _ _ _)).trans (fy _ _ _)).trans (fy _ _ _)⟩;exact(cW.put (x':={x with way:=true,last:=(m:Int)+1}) (cW.put (x':={x with way:=true}) (hd.o _) rfl) rfl).put rfl
 .have HI:=qh (λW (h:cW W k n1 La nd x)=>isW h y false (decide_eq_false h1));have c3:=h.c3;have z3:=h.blk.free 3;have HT:Kq (dS nd.length (ndf nd) x y={x with way:=false}):=qh (by unfold dS;rw[if_pos (.inl h1)]);clear h h1;exact abe
def Do(h:cW w k n1 La nd x)(y v:Int):E 323 #[↑k,J y,J v] w (E6 w k n1 La nd (gW nd.length (ndf nd) x y v)):=by have k1:cW (w.setCell ⟨k,2,none⟩ (J v)) k n1 La nd {x with node:=v}:=h.put rfl;have k2:cW _ k n1 La nd {x with node:=v,passed:=0}:=k1.put (i:=4) (v:= J 0) rfl;have k3:cW _ k n1 La nd {x with node:=v,passed:=0,last:=0}:=k2.put (i:=5) (v:= J 0) rfl;have k4:cW _ k n1 La nd {x with node:=v,passed:=0,last:=0,found:=0}:=k3.put (i:=6) (v:= J 0) rfl;have H:=qh k4;have O:=h.blk.free 2;have V:=h.blk.free 4;have Y:=h.blk.free 5;have z6:=h.blk.free 6;have I:=h.blk.lt;have c2:=h.c2;have c4:=h.c4;have c5:=h.c5;have c6:=h.c6;clear h k1 k2 k3 k4;go_enter func323,ntmps323;go_wp2_with fail;refine Pi (C2 H.o ⟨Int.le_refl _,by show(0:Int)<=32;decide⟩ y) λw1 h1=>?_;have H1:=qh (And.intro h1.o.1 ((((fy (k:=k) w 2 (J v)).trans (fy _ 4 (J 0))).trans (fy _ 5 (J 0))).trans (fy _ 6 (J 0)) |>.trans h1.o.2));exact abf
def IZ(h:cW w k n1 La nd x):E 328 #[↑k] w λe w'=>e= returned (bool (!x.way))/\w=w':=by have c3:=h.c3;clear h;go_enter func328,ntmps328;exact aab
def ri(h:cW w k n1 La nd x):E 325 #[↑k] w λe w'=>e= returned (J x.found)/\w=w':=by have c3:=h.c6;clear h;go_enter func325,ntmps325;exact aab
def vy(h:cW w k n1 La nd x):E 326 #[↑k] w λe w'=>e= returned (J x.last)/\w=w':=by have c3:=h.c5;clear h;go_enter func326,ntmps326;exact aab
end
end
section
open Go.RowKit
variable{ar':Ar}{LQ:Wk}
structure Cx where
 l:Nat
 a:Nat
 g:Nat
 q:Nat
 k:Nat
 n1:Nat
 nb:Nat
 b0:Nat
 b1:Nat
 b2:Nat
def Ip(c:Cx)(cap:Nat)(bud:Int)(n:Nat):Array Value:=#[↑c.a,J 1,J bud,slice (some ⟨c.nb,0,none⟩) n cap,↑c.k,slice (some ⟨c.q,0,none⟩) n n]
def uR(c:Cx):Value:= .func (.func 172) #[] #[↑c.b0,↑c.b1,↑c.b2]
structure aq(w:World)(c:Cx)(cap:Nat)(bud:Int)(nd:List Int)(h:Cn):Prop where
 ar:aB w c.a c.g h.ar
 lk:Blk w c.l 263 (Ip c cap bud nd.length)
 sp:dE w c.q h.S
 wk:cW w c.k c.n1 (uR c) nd h.wk
 row:∀m,m<nd.length->w.cell? ⟨c.nb,m,none⟩=some (int i64 (ndf nd m))
 p0:Blk w c.b0 29 #[↑c.a]
 p1:Blk w c.b1 3 #[int i64 3]
 p2:Blk w c.b2 3 #[int i64 3]
 sl:h.S.length=nd.length
 n32:1<=nd.length/\nd.length<=32
 nd4:[c.a,c.g,c.q,c.k].Nodup
 st:∀x∈[c.l,c.n1,c.nb,c.b0,c.b1,c.b2],x∉[c.a,c.g,c.q,c.k]
section
variable{c:Cx}{h:Cn}
def aq.next(k:aq w c cap bud nd h){H:List Sp}(t:aa [c.a,c.g,c.q,c.k] w w')(h1:aB w' c.a c.g ar')(I:dE w' c.q H)(O:cW w' c.k c.n1 (uR c) nd LQ)(V:H.length=nd.length):aq w' c cap bud nd ⟨ar',LQ,H⟩:=by refine⟨h1,t.blk k.lk (k.st _ ahz),I,O,λm hm=>?_,t.blk k.p0 (k.st _ ahz),t.blk k.p1 (k.st _ ahz),t.blk k.p2 (k.st _ ahz),V,k.n32,k.nd4,k.st⟩;rw[t.cellC (aM (k.row m hm)) (k.st _ ahz)];exact k.row m hm
def aq.below(k:aq w c cap bud nd h)(t:Below w.heap.size w w'):aq w' c cap bud nd h:=by have t0:=aa.of_below (S:=[]) t;exact k.next (t0.mono ahz) (k.ar.turns t0 ahz ahz) (k.sp.turns t0 ahz) (k.wk.below t) k.sl
def aq.n1k(k:aq w c cap bud nd h):c.n1∉[c.a,c.g,c.q,c.k]:=k.st _ ahz
def aq.op(k:aq w c cap bud nd h)(t:aa [c.a,c.g] w w')(h1:aB w' c.a c.g ar'):aq w' c cap bud nd ⟨ar',h.wk,h.S⟩:=by have I:=k.nd4;have H:=k.n1k;simp at I H;exact k.next (t.mono ahz) h1 (k.sp.turns t ahD) (k.wk.turns t ahD ahD) k.sl
def aq.spot(k:aq w c cap bud nd h){H:List Sp}(hs:dE w' c.q H)(V:H.length=nd.length)(t:aa [c.q] w w'):aq w' c cap bud nd ⟨h.ar,h.wk,H⟩:=by have O:=k.nd4;have I:=k.n1k;simp at O I;exact k.next (t.mono ahz) (k.ar.turns t ahD ahD) hs (k.wk.turns t ahD ahD) V
def aq.walk(k:aq w c cap bud nd h)(I:cW w' c.k c.n1 (uR c) nd LQ)(t:aa [c.k] w w'):aq w' c cap bud nd ⟨h.ar,LQ,h.S⟩:=by have H:=k.nd4;simp at H;exact k.next (t.mono ahz) (k.ar.turns t ahD ahD) (k.sp.turns t ahD) I k.sl
def aq.putS(k:aq w c cap bud nd h){p p':Sp}(O:h.S[i]? =some p){j:Nat}(I:j<4)(H:(bm p).set j v=bm p'):aq (w.setCell ⟨c.q,i*4+j,none⟩ v) c cap bud nd ⟨h.ar,h.wk,h.S.set i p'⟩:=
 k.spot (k.sp.put O I H) (by simp[k.sl]) ((aa.refl _ _).setCell (.inl ahz) _)
def dx{c:Cx}(p:Addr)(v:Value)(H:p.block=c.q):aa [c.a,c.g,c.q,c.k] w (w.setCell p v):=(aa.refl _ _).setCell (.inl (by simp[H])) _
def aq.l0(k:aq w c cap bud nd h):w.cell? c.l=some ↑c.a:=k.lk.cell 0
def aq.l1(k:aq w c cap bud nd h):Z w c.l 1 (J 1):=k.lk.cell 1
def aq.l2(k:aq w c cap bud nd h):Z w c.l 2 (J bud):=k.lk.cell 2
def aq.l3(k:aq w c cap bud nd h):Z w c.l 3 (slice (some ⟨c.nb,0,none⟩) nd.length cap):=k.lk.cell 3
def aq.l4(k:aq w c cap bud nd h):Z w c.l 4 ↑c.k:=k.lk.cell 4
def aq.l5(k:aq w c cap bud nd h):Z w c.l 5 (slice (some ⟨c.q,0,none⟩) nd.length nd.length):=k.lk.cell 5
def kq(k:aq w c cap bud nd h):E 313 #[↑c.l] w λe w'=>e= returned (J nd.length)/\w=w':=by have c5:=k.l5;clear k;go_enter func313,ntmps313;exact aab
def ux(k:aq w c cap bud nd h)(i:Int):E 311 #[↑c.l,J i] w λe w'=>e= returned (aC (getS h.S i))/\Below w.heap.size w w':=by
  obtain⟨_,HN⟩:=k.n32;have O:=k.sl;by_cases I:okI h.S i;. have hp:=dM I;obtain⟨p,Y⟩:=LE (getS h.S i);rw[<-Y]at hp ⊢;have c2:=k.l5;refine aj7 ?_;intro a0 a1 a2 a3;obtain⟨V,h1⟩:=I;rw[O]at h1;obtain⟨n,rfl⟩:=Int.eq_ofNat_of_zero_le V;simp only[Int.toNat_natCast]at a0 a1 a2 a3;have Kl:=k.lk.lt;have Ko:=k.sp.lt;have t2:¬(n:Int)<0:=(by omega);have t3:¬((nd.length:Nat):Int)<=(n:Int):=(by omega);have t4:n<nd.length:=(by omega);have H:Kq (aq (w.alloc (cells #[J 0,J 0,J 0,J 0] 113)) c cap bud nd h):=qh (k.below ((Below.refl _ _).alloc (Nat.le_refl _) _));clear k hp Y V h1 O;go_enter func311,ntmps311;go_wp2_with (go_at_call 313;refine(kq H.o).mono ?_;rintro e w' ⟨rfl,rfl⟩);exact bodyPost_ret (results_cell_row ahC _ _ w.heap.size 113 _ (0,0) _ ahC (heap_alloc_new w _) Tryz.underlying113 rfl ahB) rfl ⟨rfl,(Below.refl _ _).alloc (Nat.le_refl _) _⟩
  . have H:Kq (aq (w.alloc (cells #[J 0,J 0,J 0,J 0] 113)) c cap bud nd h):=qh (k.below ((Below.refl _ _).alloc (Nat.le_refl _) _));rw[dF I];unfold okI at I;rw[O]at I;clear k O;by_cases V:i<0;. go_enter func311,ntmps311;go_wp2;exact bodyPost_ret (results_cell_row ahC _ _ w.heap.size 113 _ (0,0) _ ahC (heap_alloc_new w _) Tryz.underlying113 rfl ahB) rfl ⟨rfl,(Below.refl _ _).alloc (Nat.le_refl _) _⟩
    . have t3:((nd.length:Nat):Int)<=i:=(by omega);clear I;go_enter func311,ntmps311;go_wp2_with (go_at_call 313;refine(kq H.o).mono ?_;rintro e w' ⟨rfl,rfl⟩);exact bodyPost_ret (results_cell_row ahC _ _ w.heap.size 113 _ (0,0) _ ahC (heap_alloc_new w _) Tryz.underlying113 rfl ahB) rfl ⟨rfl,(Below.refl _ _).alloc (Nat.le_refl _) _⟩
def COp(w:World)(c:Cx)(cap:Nat)(bud:Int)(nd:List Int)(x:Cn×Bool)(e:Ending)(w':World):Prop:=e= returned (.bool x.2)/\aq w' c cap bud nd x.1/\aa [c.a,c.g,c.q,c.k] w w'
def xa(k:aq w c cap bud nd h)(i O V:Int):E 314 #[↑c.l,J i,J O,J V] w (COp w c cap bud nd (bX h i O V)):=by
  have H:=qh k;obtain⟨_,KX⟩:=k.n32;have Ku:=k.sl;by_cases hi:okI h.S i
  . have Y:=dM hi;obtain⟨p,i'⟩:=LE (getS h.S i);rw[<-i']at Y;have c2:=k.l5;have a0:=aaa (k.sp.cell Y 0 _ rfl);have f0:=k.sp.free (i.toNat*4);obtain⟨h0,h1⟩:=id hi;rw[Ku]at h1;obtain⟨n,rfl⟩:=Int.eq_ofNat_of_zero_le h0;simp only[Int.toNat_natCast]at a0 f0 Y;have t2:¬(n:Int)<0:=(by omega);have t3:¬((nd.length:Nat):Int)<=(n:Int):=(by omega);have t4:n<nd.length:=(by omega);have HP:=qh (And.intro hi (And.intro i' Y));clear k Y i' h0 h1 hi Ku;cases hc:(p.pc !=O)
    . have I:Kq (bX h n O V=(⟨h.ar,h.wk,h.S.set n {p with pc:=V}⟩,true)):=qh (by
        unfold bX;have e:p.pc=O:=by simpa using hc
        rw[<-HP.o.2.1,if_pos ⟨HP.o.1,e⟩];simp)
      go_enter func314,ntmps314;go_wp2_with (go_at_call 313;refine(kq H.o).mono ?_;rintro e w' ⟨rfl,rfl⟩);go_ret;rw[I.o];have ht:aa [c.q] w (w.setCell ⟨c.q,n*4,none⟩ (J V)):=(aa.refl _ _).setCell (.inl ahz) _;exact⟨rfl,H.o.spot (H.o.sp.put HP.o.2.2 (j:=0) ahA rfl) (by simp[H.o.sl]) ht,ht.mono ahz⟩
    . have I:Kq (bX h n O V=(h,false)):=qh (by
        unfold bX;have e:¬p.pc=O:=by simpa using hc
        rw[<-HP.o.2.1,if_neg (λh=>e h.2)])
      go_enter func314,ntmps314;go_wp2_with (go_at_call 313;refine(kq H.o).mono ?_;rintro e w' ⟨rfl,rfl⟩);go_ret;rw[I.o];exact⟨rfl,H.o,aa.refl _ _⟩
  . have I:Kq (bX h i O V=(h,false)):=qh (by
      unfold bX
      rw[if_neg (λh=>hi h.1)])
    unfold okI at hi;rw[Ku]at hi;clear k Ku;by_cases h0:i<0;. go_enter func314,ntmps314;go_wp2;go_ret;rw[I.o];exact⟨rfl,H.o,aa.refl _ _⟩
    . have t3:((nd.length:Nat):Int)<=i:=(by omega);clear hi;go_enter func314,ntmps314;go_wp2_with (go_at_call 313;refine(kq H.o).mono ?_;rintro e w' ⟨rfl,rfl⟩);go_ret;rw[I.o];exact⟨rfl,H.o,aa.refl _ _⟩
def Ha(k:aq w c cap bud nd h)(i:Int):E 309 #[↑c.l,J i] w (COp w c cap bud nd (bX h i 0 1)):=by obtain⟨x,I⟩:=LE (bX h i 0 1);have H:=qh (xa k i 0 1);rw[<-I]at H ⊢;obtain⟨O,V⟩:=x;clear k I;go_enter func309,ntmps309;go_wp2_with fail;refine Pi H.o λw1 H1=>?_;go_wp2;go_ret;exact⟨rfl,H1.o⟩
def Ea(k:aq w c cap bud nd h)(i:Int):E 310 #[↑c.l,J i] w (COp w c cap bud nd (bX h i 10 11)):=by obtain⟨x,I⟩:=LE (bX h i 10 11);have H:=qh (xa k i 10 11);rw[<-I]at H ⊢;obtain⟨O,V⟩:=x;clear k I;go_enter func310,ntmps310;go_wp2_with fail;refine Pi H.o λw1 H1=>?_;go_wp2;go_ret;exact⟨rfl,H1.o⟩
def mZ(k:aq w c cap bud nd h)(x:Int)(H:-5<=x/\x<=100000):E 146 #[↑c.l,J x] w λe w'=>e= returned (J (cN x))/\w=w':=by
 have c1:=k.l1;obtain⟨I,h1⟩:=H;refine aj0 ?_;intro x1 x2;have O:IntKind.i64.wrap (1+3*x-1)=3*x:=by rw[show 1+3*x-1=3*x by omega];exact x1
 clear k;unfold cN;go_enter func146,ntmps146;exact aal
def pC(k:aq w c cap bud nd h)(x:Int)(H:-5<=x/\x<=100000):E 319 #[↑c.l,J x] w λe w'=>e= returned (J (cS x))/\w=w':=by have c1:=k.l1;obtain⟨I,h1⟩:=H;refine aj0 ?_;intro x1 x2;clear k;unfold cS;go_enter func319,ntmps319;exact aal
def xB(k:aq w c cap bud nd h)(x:Int)(H:-5<=x/\x<=100000):E 321 #[↑c.l,J x] w λe w'=>e= returned (J (cL x))/\w=w':=by have c1:=k.l1;obtain⟨I,h1⟩:=H;refine aj0 ?_;intro x1 x2;have O:IntKind.i64.wrap (1+3*x+1)=1+3*x+1:=IntWalk.i64_in _ ahy;clear k;unfold cL;go_enter func321,ntmps321;exact aal
def rc(k:aq w c cap bud nd h):E 322 #[↑c.l] w λe w'=>e= returned (J 2)/\w=w':=by have c1:=k.l1;clear k;go_enter func322,ntmps322;exact aab
def qC(w:World)(b:Bool)(x y v:Int)(O:v=if b then x else y):E 320 #[.bool b,J x,J y] w λe w'=>e= returned (J v)/\w=w':=by
 cases b;.exact abg
 .exact abg
def Dp(k:aq w c cap bud nd h)(y:Int)(hy:-5<=y/\y<=100000)(Y:h.ar.ops+1<=1000000000000):E 172 #[J y,↑c.b0,↑c.b1,↑c.b2] w (fh w c.a c.g (af h.ar (cN y)) (J (ldW h.ar.W (cN y)))):=by
 have d0:w.cell? c.b0=_:=k.p0.cell 0;have d1:w.cell? c.b1=_:=k.p1.cell 0;have V:w.cell? c.b2=_:=k.p2.cell 0;simp at d0 d1 V;obtain⟨h0,h1⟩:=hy;have x0:IntKind.i64.wrap (y-1)=y-1:=IntWalk.i64_in _ ahy;have x1:IntKind.i64.wrap (3*(y-1))=3*(y-1):=IntWalk.i64_in _ ahy;have x2:IntKind.i64.wrap (3+3*(y-1))=cN y:=by unfold cN;rw[show 3+3*(y-1)=3*y by omega];exact IntWalk.i64_in _ ahy
 have H:=qh (aE k.ar (cN y) Y);obtain⟨v,O⟩:=LE (ldW h.ar.W (cN y));rw[<-O]at H ⊢;obtain⟨z,I⟩:=LE (cN y);rw[<-I]at H ⊢ x2;clear k O I;go_enter func172,ntmps172;go_wp2_with fail;refine Pi H.o λw1 H1=>?_;go_wp2;go_ret;exact⟨rfl,H1.o⟩
end
end
section
open Go.RowKit
variable{p:Sp}{Q:Prop}
section
variable{c:Cx}{h:Cn}
def eR(w:World)(c:Cx)(cap:Nat)(bud:Int)(nd:List Int)(h:Cn)(i:Nat)(p:Sp)(x:Ar×Wk×Sp)(e:Ending)(w':World):Prop:=
 e= returned (J x.2.2.pc)/\aq w' c cap bud nd ⟨x.1,x.2.1,h.S.set i {x.2.2 with pc:=p.pc}⟩/\aa [c.a,c.g,c.q,c.k] w w'
def zv{S:List Sp}(hp:S[i]? =some p):S.set i p=S:=by exact aan
def aq.samS{H:Ar}{I:Wk}(k:aq w c cap bud nd ⟨H,I,h.S⟩)(O:h.S[i]? =some p):aq w c cap bud nd ⟨H,I,h.S.set i p⟩:=by rw[zv O];exact k
def aq.cs(k:aq w c cap bud nd h)(H:h.S[i]? =some p):w.cell? c.l=some ↑c.a/\Z w c.l 1 (J 1)/\Z w c.l 4 ↑c.k/\Z w c.q (i*4+1) (J p.a)/\Z w c.q (i*4+2) (J p.b)/\Z w c.q (i*4+3) (J p.c):=⟨k.l0,k.l1,k.l4,k.sp.cell H 1 _ rfl,k.sp.cell H 2 _ rfl,k.sp.cell H 3 _ rfl⟩
def cyN(h_:Q:=by
    obtain⟨_,hn⟩:=k.n32
    have e0:=aaa (k.sp.cell hp 0 _ rfl)
    have HP:=qh hp
    have HL:=qh (show i<h.S.length by rw[k.sl];exact hin)
    have K1:=qh (k.below ((Below.refl _ w).drew))
    clear k hp
    first
      | go_enter func315,ntmps315
      | go_enter func316,ntmps316
      | go_enter func318,ntmps318
    go_wp2_with fail
    go_region_held3 (λW=>W.cell? c.l=some ↑c.a/\Z W c.l 1 (J 1)/\Z W c.l 4 ↑c.k/\Z W c.q (i*4+1) (J a)/\Z W c.q (i*4+2) (J b)/\Z W c.q (i*4+3) (J z))
      (first|(have q:=K1.o.cs HP.o;exact⟨q.1,q.2.1,q.2.2.1,q.2.2.2.1,q.2.2.2.2.1,q.2.2.2.2.2⟩)|(have q:=K2.o.cs HP.o;exact⟨q.1,q.2.1,q.2.2.1,q.2.2.2.1,q.2.2.2.2.1,q.2.2.2.2.2⟩))
      (first
        | (go_at_call 146;go_loud (refine LT (HF.o _ K1.o) ?_))
        | (go_at_call 319;go_loud (refine LT (HF.o _ K1.o) ?_))
        | (go_at_call 321;go_loud (refine LT (HF.o _ K1.o) ?_))
        | (go_at_call 322;go_loud (refine LT (HF.o _ K1.o) ?_))
        | (go_at_call 177;go_loud (refine Pi (HO.o _ K1.o) λw3 a3=>?_);have K2:=qh (K1.o.op a3.o.2 a3.o.1);have T2:=qh (((aa.refl [c.a,c.g,c.q,c.k] w).drew).trans (a3.o.2.mono (T:=[c.a,c.g,c.q,c.k]) ahz)))
        | (go_at_call 298;go_loud (refine Pi (HO.o _ K1.o) λw3 a3=>?_);have K2:=qh (K1.o.op a3.o.2 a3.o.1);have T2:=qh (((aa.refl [c.a,c.g,c.q,c.k] w).drew).trans (a3.o.2.mono (T:=[c.a,c.g,c.q,c.k]) ahz))))
    all_goals
      have e3:=by simpa using K2.o.sp.cell HP.o 0 _ rfl
      go_wp2
      go_ret
      rw[HX.o]
      exact⟨rfl,K2.o.samS HP.o,T2.o⟩):Q:=h_
def cwB(h_:Q:=by
    obtain⟨_,hn⟩:=k.n32
    have e0:=aaa (k.sp.cell hp 0 _ rfl)
    have HP:=qh hp
    have HL:=qh (show i<h.S.length by rw[k.sl];exact hin)
    have QL:=qh (HPN HL.o)
    have K1:=qh (k.below ((Below.refl _ w).drew))
    clear k hp
    first
      | go_enter func315,ntmps315
      | go_enter func316,ntmps316
      | go_enter func318,ntmps318
    go_wp2_with fail
    go_region_held3 (λW=>W.cell? c.l=some ↑c.a/\Z W c.l 1 (J 1)/\Z W c.l 4 ↑c.k/\Z W c.q (i*4+1) (J a)/\Z W c.q (i*4+3) (J z))
      (first|(have q:=K1.o.cs HP.o;exact⟨q.1,q.2.1,q.2.2.1,q.2.2.2.1,q.2.2.2.2.2⟩)|(have q:=K2.o.cs HP.o;exact⟨q.1,q.2.1,q.2.2.1,q.2.2.2.1,q.2.2.2.2.2⟩)|(have q:=K3.o.cs QL.o;exact⟨q.1,q.2.1,q.2.2.1,q.2.2.2.1,q.2.2.2.2.2⟩))
      (first
        | (go_at_call 146;go_loud (refine LT (HF.o _ K1.o) ?_))
        | (go_at_call 319;go_loud (refine LT (HF.o _ K1.o) ?_))
        | (go_at_call 321;go_loud (refine LT (HF.o _ K1.o) ?_))
        | (go_at_call 322;go_loud (refine LT (HF.o _ K1.o) ?_))
        | (go_at_call 173;go_loud (refine Pi (HO.o _ K1.o) λw3 a3=>?_);have K2:=qh (K1.o.op a3.o.2 a3.o.1);have T2:=qh (((aa.refl [c.a,c.g,c.q,c.k] w).drew).trans (a3.o.2.mono (T:=[c.a,c.g,c.q,c.k]) ahz));have K3:=qh (HJ.o _ _ K2.o);have e1:=K2.o.sp.cell HP.o 2 _ rfl;have z1:=K2.o.sp.free (i*4+2))
        | (go_at_call 271;go_loud (refine Pi (HO.o _ K1.o) λw3 a3=>?_);have K2:=qh (K1.o.op a3.o.2 a3.o.1);have T2:=qh (((aa.refl [c.a,c.g,c.q,c.k] w).drew).trans (a3.o.2.mono (T:=[c.a,c.g,c.q,c.k]) ahz));have K3:=qh (HJ.o _ _ K2.o);have e1:=K2.o.sp.cell HP.o 2 _ rfl;have z1:=K2.o.sp.free (i*4+2)))
    all_goals
      have e3:=by simpa using K3.o.sp.cell QL.o 0 _ rfl
      go_wp2
      go_ret
      rw[HX.o]
      exact⟨rfl,K3.o,T2.o.trans (dx ⟨c.q,i*4+2,none⟩ _ rfl)⟩):Q:=h_
def cwZ(h_:Q:=by
    obtain⟨_,hn⟩:=k.n32
    have e0:=aaa (k.sp.cell hp 0 _ rfl)
    have HP:=qh hp
    have HL:=qh (show i<h.S.length by rw[k.sl];exact hin)
    have QL:=qh (HPN HL.o)
    have K1:=qh (k.below ((Below.refl _ w).drew))
    clear k hp
    first
      | go_enter func315,ntmps315
      | go_enter func316,ntmps316
      | go_enter func318,ntmps318
    go_wp2_with fail
    go_region_held3 (λW=>W.cell? c.l=some ↑c.a/\Z W c.l 1 (J 1)/\Z W c.l 4 ↑c.k/\Z W c.q (i*4+1) (J a)/\Z W c.q (i*4+2) (J b))
      (first|(have q:=K1.o.cs HP.o;exact⟨q.1,q.2.1,q.2.2.1,q.2.2.2.1,q.2.2.2.2.1⟩)|(have q:=K2.o.cs HP.o;exact⟨q.1,q.2.1,q.2.2.1,q.2.2.2.1,q.2.2.2.2.1⟩)|(have q:=K3.o.cs QL.o;exact⟨q.1,q.2.1,q.2.2.1,q.2.2.2.1,q.2.2.2.2.1⟩))
      (first
        | (go_at_call 146;go_loud (refine LT (HF.o _ K1.o) ?_))
        | (go_at_call 319;go_loud (refine LT (HF.o _ K1.o) ?_))
        | (go_at_call 321;go_loud (refine LT (HF.o _ K1.o) ?_))
        | (go_at_call 322;go_loud (refine LT (HF.o _ K1.o) ?_))
        | (go_at_call 173;go_loud (refine Pi (HO.o _ K1.o) λw3 a3=>?_);have K2:=qh (K1.o.op a3.o.2 a3.o.1);have T2:=qh (((aa.refl [c.a,c.g,c.q,c.k] w).drew).trans (a3.o.2.mono (T:=[c.a,c.g,c.q,c.k]) ahz));have K3:=qh (HJ.o _ _ K2.o);have e1:=K2.o.sp.cell HP.o 3 _ rfl;have z1:=K2.o.sp.free (i*4+3))
        | (go_at_call 271;go_loud (refine Pi (HO.o _ K1.o) λw3 a3=>?_);have K2:=qh (K1.o.op a3.o.2 a3.o.1);have T2:=qh (((aa.refl [c.a,c.g,c.q,c.k] w).drew).trans (a3.o.2.mono (T:=[c.a,c.g,c.q,c.k]) ahz));have K3:=qh (HJ.o _ _ K2.o);have e1:=K2.o.sp.cell HP.o 3 _ rfl;have z1:=K2.o.sp.free (i*4+3)))
    all_goals
      have e3:=by simpa using K3.o.sp.cell QL.o 0 _ rfl
      go_wp2
      go_ret
      rw[HX.o]
      exact⟨rfl,K3.o,T2.o.trans (dx ⟨c.q,i*4+3,none⟩ _ rfl)⟩):Q:=h_
def Hh(k:aq w c cap bud nd h)(i:Nat)(hin:i<nd.length)(a b z:Int)(hp:h.S[i]? =some (⟨1,a,b,z⟩:Sp))(Y:h.ar.ops+1<=1000000000000):E 315 #[↑c.l,pointer (some ⟨c.q,i*4,none⟩),J ((i:Int)+1)] w (eR w c cap bud nd h i (⟨1,a,b,z⟩:Sp) (ah nd.length (ndf nd) bud h i (⟨1,a,b,z⟩:Sp))):=by have hn:=k.n32.2;have HX:Kq (ah nd.length (ndf nd) bud h i (⟨1,a,b,z⟩:Sp)=(ae h.ar (cN ((i:Int)+1)) 0,h.wk,⟨2,a,b,z⟩)):=qh (by rw[J8 rfl]<;>rfl);have HF:=qh (λW (k:aq W c cap bud nd h)=>mZ k ((i:Int)+1) ahy);have HO:=qh (λW (k:aq W c cap bud nd h)=>an k.ar (cN ((i:Int)+1)) 0 Y);exact cyN
def Hi(k:aq w c cap bud nd h)(i:Nat)(hin:i<nd.length)(a b z:Int)(hp:h.S[i]? =some (⟨2,a,b,z⟩:Sp))(Y:h.ar.ops+1<=1000000000000):E 315 #[↑c.l,pointer (some ⟨c.q,i*4,none⟩),J ((i:Int)+1)] w (eR w c cap bud nd h i (⟨2,a,b,z⟩:Sp) (ah nd.length (ndf nd) bud h i (⟨2,a,b,z⟩:Sp))):=by have hn:=k.n32.2;have HX:Kq (ah nd.length (ndf nd) bud h i (⟨2,a,b,z⟩:Sp)=(ae h.ar (cS ((i:Int)+1)) 0,h.wk,⟨3,a,b,z⟩)):=qh (by rw[J9 rfl]<;>rfl);have HF:=qh (λW (k:aq W c cap bud nd h)=>pC k ((i:Int)+1) ahy);have HO:=qh (λW (k:aq W c cap bud nd h)=>an k.ar (cS ((i:Int)+1)) 0 Y);exact cyN
def Hk(k:aq w c cap bud nd h)(i:Nat)(hin:i<nd.length)(a b z:Int)(hp:h.S[i]? =some (⟨4,a,b,z⟩:Sp))(Y:h.ar.ops+1<=1000000000000)(H:-5<=a/\a<=100000):E 315 #[↑c.l,pointer (some ⟨c.q,i*4,none⟩),J ((i:Int)+1)] w (eR w c cap bud nd h i (⟨4,a,b,z⟩:Sp) (ah nd.length (ndf nd) bud h i (⟨4,a,b,z⟩:Sp))):=by have HX:Kq (ah nd.length (ndf nd) bud h i (⟨4,a,b,z⟩:Sp)=(ae h.ar (cN a) ((i:Int)+1),h.wk,⟨5,a,b,z⟩)):=qh (by rw[Kd rfl]<;>rfl);have HF:=qh (λW (k:aq W c cap bud nd h)=>mZ k a (by exact H));have HO:=qh (λW (k:aq W c cap bud nd h)=>an k.ar (cN a) ((i:Int)+1) Y);exact cyN
def Hn(k:aq w c cap bud nd h)(i:Nat)(hin:i<nd.length)(a b z:Int)(hp:h.S[i]? =some (⟨6,a,b,z⟩:Sp))(Y:h.ar.ops+1<=1000000000000):E 315 #[↑c.l,pointer (some ⟨c.q,i*4,none⟩),J ((i:Int)+1)] w (eR w c cap bud nd h i (⟨6,a,b,z⟩:Sp) (ah nd.length (ndf nd) bud h i (⟨6,a,b,z⟩:Sp))):=by have hn:=k.n32.2;have HX:Kq (ah nd.length (ndf nd) bud h i (⟨6,a,b,z⟩:Sp)=(ae h.ar (cS ((i:Int)+1)) (-1),h.wk,⟨10,a,b,z⟩)):=qh (by rw[Kf rfl]<;>rfl);have HF:=qh (λW (k:aq W c cap bud nd h)=>pC k ((i:Int)+1) ahy);have HO:=qh (λW (k:aq W c cap bud nd h)=>an k.ar (cS ((i:Int)+1)) (-1) Y);exact cyN
def Hj(k:aq w c cap bud nd h)(i:Nat)(hin:i<nd.length)(a b z:Int)(hp:h.S[i]? =some (⟨3,a,b,z⟩:Sp))(Y:h.ar.ops+1<=1000000000000):E 315 #[↑c.l,pointer (some ⟨c.q,i*4,none⟩),J ((i:Int)+1)] w (eR w c cap bud nd h i (⟨3,a,b,z⟩:Sp) (ah nd.length (ndf nd) bud h i (⟨3,a,b,z⟩:Sp))):=by
  refine ajD ?_;intro hn e0;obtain⟨ab,hv⟩:=LE (cz h.ar 1 ((i:Int)+1));obtain⟨v,O⟩:=LE (ldW h.ar.W 1);have HX:Kq (ah nd.length (ndf nd) bud h i (⟨3,a,b,z⟩:Sp)=(ab,h.wk,(⟨if v=0 then 6 else 4,v,b,z⟩:Sp))):=qh (by rw[Kc rfl,hv,O]<;>rfl);have hr:=(λW (k:aq W c cap bud nd h)=>fw k.ar 1 ((i:Int)+1) Y);rw[<-hv,<-O]at hr;have HO:=qh hr;have V:=qh (λW (h:Cn) (u:Int) (k:aq W c cap bud nd h) (hp:h.S[i]? =some (⟨3,u,b,z⟩:Sp))=>And.intro k.l0 k.l1);refine ai1 ?_;intro HP HL K1;clear hr k hp hv O;have Ms:=qh (λw b x y v O=>qC w b x y v O);by_cases I:v=0
  all_goals
    have t0:(v==0)=decide (v=0):=(by by_cases h:v=0<;>simp[h]);first| rw[decide_eq_true I]at t0| rw[decide_eq_false I]at t0
    have HV:=qh I;clear I;go_enter func315,ntmps315;go_wp2_with fail
    go_region_held3 (λW=>W.cell? c.l=some ↑c.a/\Z W c.l 1 (J 1))
      (first|with_reducible exact V.o _ _ _ K1.o HP.o|with_reducible exact V.o _ _ _ H.o HP.o|with_reducible exact Lk.o)
      (first
        | (go_at_call 271;go_loud (refine Pi (HO.o _ K1.o) λw3 a3=>?_);have H:=qh (K1.o.op a3.o.2 a3.o.1);have T2:=qh (((aa.refl [c.a,c.g,c.q,c.k] w).drew).trans (a3.o.2.mono (T:=[c.a,c.g,c.q,c.k]) ahz));have K3:=qh (H.o.putS (p':=(⟨3,v,b,z⟩:Sp)) HP.o (j:=1) (v:= J v) ahA rfl);have Lk:=qh (V.o _ _ v K3.o ah6);have e1:=H.o.sp.cell HP.o 1 _ rfl;have z1:=H.o.sp.free (i*4+1)))
    all_goals
      go_wp2_with fail;first| refine(Ms.o _ true 6 4 6 rfl).mono ?_| refine(Ms.o _ false 6 4 4 rfl).mono ?_
      rintro en w5 ⟨rfl,rfl⟩;go_wp2;go_ret;rw[HX.o];first| exact⟨by rw[if_pos HV.o];rfl,K3.o,T2.o.trans (dx ⟨c.q,i*4+1,none⟩ _ rfl)⟩| exact⟨by rw[if_neg HV.o];rfl,K3.o,T2.o.trans (dx ⟨c.q,i*4+1,none⟩ _ rfl)⟩
def Hl(k:aq w c cap bud nd h)(i:Nat)(hin:i<nd.length)(a b z:Int)(hp:h.S[i]? =some (⟨5,a,b,z⟩:Sp))(Y:h.ar.ops+1<=1000000000000):E 315 #[↑c.l,pointer (some ⟨c.q,i*4,none⟩),J ((i:Int)+1)] w (eR w c cap bud nd h i (⟨5,a,b,z⟩:Sp) (ah nd.length (ndf nd) bud h i (⟨5,a,b,z⟩:Sp))):=by
  refine ajD ?_;intro hn e0;obtain⟨ab,hv⟩:=LE (af h.ar (cS ((i:Int)+1)));obtain⟨v,O⟩:=LE (ldW h.ar.W (cS ((i:Int)+1)));have HX:Kq (ah nd.length (ndf nd) bud h i (⟨5,a,b,z⟩:Sp)=(ab,h.wk,(⟨if v≠0 then 10 else 5,v,b,z⟩:Sp))):=qh (by rw[Ke rfl,hv,O]<;>rfl);have HF:=qh (λW (k:aq W c cap bud nd h)=>pC k ((i:Int)+1) ahy);have hr:=(λW (k:aq W c cap bud nd h)=>aE k.ar (cS ((i:Int)+1)) Y);rw[<-hv,<-O]at hr;have HO:=qh hr;have V:=qh (λW (h:Cn) (u:Int) (k:aq W c cap bud nd h) (hp:h.S[i]? =some (⟨5,u,b,z⟩:Sp))=>k.l0);refine ai1 ?_;intro HP HL K1;clear hr k hp hv O;have Ms:=qh (λw b x y v O=>qC w b x y v O);by_cases I:v≠0
  all_goals
    have t0:(v !=0)=decide (v≠0):=(by by_cases h:v=0<;>simp[h]);first| rw[decide_eq_true I]at t0| rw[decide_eq_false I]at t0
    have HV:=qh I;clear I;go_enter func315,ntmps315;go_wp2_with fail
    go_region_held3 (λW=>W.cell? c.l=some ↑c.a)
      (first|with_reducible exact V.o _ _ _ K1.o HP.o|with_reducible exact V.o _ _ _ H.o HP.o|with_reducible exact Lk.o)
      (first
        | (go_at_call 319;go_loud (refine LT (HF.o _ K1.o) ?_))
        | (go_at_call 173;go_loud (refine Pi (HO.o _ K1.o) λw3 a3=>?_);have H:=qh (K1.o.op a3.o.2 a3.o.1);have T2:=qh (((aa.refl [c.a,c.g,c.q,c.k] w).drew).trans (a3.o.2.mono (T:=[c.a,c.g,c.q,c.k]) ahz));have K3:=qh (H.o.putS (p':=(⟨5,v,b,z⟩:Sp)) HP.o (j:=1) (v:= J v) ahA rfl);have Lk:=qh (V.o _ _ v K3.o ah6);have e1:=H.o.sp.cell HP.o 1 _ rfl;have z1:=H.o.sp.free (i*4+1)))
    all_goals
      go_wp2_with fail;first| refine(Ms.o _ true 10 5 10 rfl).mono ?_| refine(Ms.o _ false 10 5 5 rfl).mono ?_
      rintro en w5 ⟨rfl,rfl⟩;go_wp2;go_ret;rw[HX.o];first| exact⟨by rw[if_pos HV.o];rfl,K3.o,T2.o.trans (dx ⟨c.q,i*4+1,none⟩ _ rfl)⟩| exact⟨by rw[if_neg HV.o];rfl,K3.o,T2.o.trans (dx ⟨c.q,i*4+1,none⟩ _ rfl)⟩
end
end
section
open Go.RowKit
section
variable{c:Cx}{h:Cn}
def Aw(k:aq w c cap bud nd h)(i:Nat)(hin:i<nd.length)(a b z:Int)(hp:h.S[i]? =some (⟨11,a,b,z⟩:Sp))(Y:h.ar.ops+1<=1000000000000):E 316 #[↑c.l,pointer (some ⟨c.q,i*4,none⟩),J ((i:Int)+1)] w (eR w c cap bud nd h i (⟨11,a,b,z⟩:Sp) (ah nd.length (ndf nd) bud h i (⟨11,a,b,z⟩:Sp))):=by
  have hn:=k.n32.2;obtain⟨v,O⟩:=LE (ldW h.ar.W (cS ((i:Int)+1)));have HX:Kq (ah nd.length (ndf nd) bud h i (⟨11,a,b,z⟩:Sp)=(af h.ar (cS ((i:Int)+1)),h.wk,(⟨12,a,v,z⟩:Sp))):=qh (by rw[Ji rfl,O]<;>rfl);have HF:=qh (λW (k:aq W c cap bud nd h)=>pC k ((i:Int)+1) ahy);have HO:=λW (k:aq W c cap bud nd h)=>aE k.ar (cS ((i:Int)+1)) Y;rw[<-O]at HO;replace HO:=qh HO;clear O;have HJ:=qh (λW H (k:aq W c cap bud nd ⟨H,h.wk,h.S⟩)=>k.putS (p':=(⟨11,a,v,z⟩:Sp)) hp (j:=2) (v:= J v) ahA rfl);have HPN:=fun(q:i<h.S.length)=>show(h.S.set i (⟨11,a,v,z⟩:Sp))[i]? =some (⟨11,a,v,z⟩:Sp)by simp[q]
  exact cwB
def Ax(k:aq w c cap bud nd h)(i:Nat)(hin:i<nd.length)(a b z:Int)(hp:h.S[i]? =some (⟨12,a,b,z⟩:Sp))(Y:h.ar.ops+1<=1000000000000):E 316 #[↑c.l,pointer (some ⟨c.q,i*4,none⟩),J ((i:Int)+1)] w (eR w c cap bud nd h i (⟨12,a,b,z⟩:Sp) (ah nd.length (ndf nd) bud h i (⟨12,a,b,z⟩:Sp))):=by
  refine ajD ?_;intro hn e0;obtain⟨ab,hv⟩:=LE (af h.ar (cN ((i:Int)+1)));obtain⟨v,O⟩:=LE (ldW h.ar.W (cN ((i:Int)+1)));have HX:Kq (ah nd.length (ndf nd) bud h i (⟨12,a,b,z⟩:Sp)=(ab,h.wk,(⟨if v≠0 then 17 else if 0<b then 14 else 13,v,b,z⟩:Sp))):=qh (by rw[Jj rfl,hv,O]<;>rfl);have HF:=qh (λW (k:aq W c cap bud nd h)=>mZ k ((i:Int)+1) ahy);have hr:=(λW (k:aq W c cap bud nd h)=>aE k.ar (cN ((i:Int)+1)) Y);rw[<-hv,<-O]at hr;have HO:=qh hr;have HC:=qh (λW (h:Cn) (u:Int) (k:aq W c cap bud nd h) (hp:h.S[i]? =some (⟨12,u,b,z⟩:Sp))=>k.l0);refine ai1 ?_;intro HP HL K1;clear hr k hp hv O;have Ms:=qh (λw b x y v O=>qC w b x y v O);obtain⟨t,ht⟩:=LE (decide (0<b));obtain⟨r,V⟩:=LE ((v !=0));obtain⟨q1,SX⟩:∃x:Int,x=if t then 14 else 13:=⟨_,rfl⟩
  obtain⟨q2,UJ⟩:∃x:Int,x=if r then 17 else q1:=⟨_,rfl⟩
  have HQ:Kq ((if v≠0 then 17 else if 0<b then 14 else 13:Int)=q2):=qh (by
    rw[UJ,SX,V,ht];by_cases I:v=0
    . by_cases e2:0<b;. simp[I,e2]
      . simp[I,e2]
    . simp[I])
  have Yi:=qh SX;have Yj:=qh UJ;have HR:=qh V;have HT:=qh ht;clear SX UJ V ht;go_enter func316,ntmps316;go_wp2_with fail
  go_region_held3 (λW=>W.cell? c.l=some ↑c.a)
    (first|with_reducible exact HC.o _ _ _ K1.o HP.o|with_reducible exact HC.o _ _ _ H.o HP.o|with_reducible exact Lk.o)
    (first
      | (go_at_call 146;go_loud (refine LT (HF.o _ K1.o) ?_))
      | (go_at_call 173;go_loud (refine Pi (HO.o _ K1.o) λw3 a3=>?_);have H:=qh (K1.o.op a3.o.2 a3.o.1);have T2:=qh (((aa.refl [c.a,c.g,c.q,c.k] w).drew).trans (a3.o.2.mono (T:=[c.a,c.g,c.q,c.k]) ahz));have K3:=qh (H.o.putS (p':=(⟨12,v,b,z⟩:Sp)) HP.o (j:=1) (v:= J v) ahA rfl);have Lk:=qh (HC.o _ _ v K3.o ah6);have I:=H.o.sp.cell HP.o 1 _ rfl;have z1:=H.o.sp.free (i*4+1)))
  all_goals
    have e3:=K3.o.sp.cell (i:=i) (p:=⟨12,v,b,z⟩) ah6 2 _ rfl;have g1:=HT.o.symm;have g2:=HR.o.symm;go_wp2
    go_quiet ((first
      | (go_at_call 320;exact bN (Ms.o _ _ _ _ _ Yi.o))
      | (go_at_call 320;exact bN (Ms.o _ _ _ _ _ Yj.o))))
    go_wp2;go_ret;rw[HX.o];exact⟨aU HQ.o.symm,K3.o.below (Qt.below ⟨_,rfl⟩ _),(T2.o.trans (dx ⟨c.q,i*4+1,none⟩ _ rfl)).trans (aa.of_qt ⟨_,rfl⟩)⟩
def Ay(k:aq w c cap bud nd h)(i:Nat)(hin:i<nd.length)(a b z:Int)(hp:h.S[i]? =some (⟨13,a,b,z⟩:Sp))(Y:h.ar.ops+1<=1000000000000):E 316 #[↑c.l,pointer (some ⟨c.q,i*4,none⟩),J ((i:Int)+1)] w (eR w c cap bud nd h i (⟨13,a,b,z⟩:Sp) (ah nd.length (ndf nd) bud h i (⟨13,a,b,z⟩:Sp))):=by
  refine ajD ?_;intro hn e0;obtain⟨ab,hv⟩:=LE (dY h.ar 1 ((i:Int)+1) 0);obtain⟨v,O⟩:=LE (cK h.ar 1 ((i:Int)+1));have HX:Kq (ah nd.length (ndf nd) bud h i (⟨13,a,b,z⟩:Sp)=(ab,h.wk,(⟨if v then 0 else 16,a,b,z⟩:Sp))):=qh (by rw[Jk rfl,hv,O]<;>rfl);have hr:=(λW (k:aq W c cap bud nd h)=>jo k.ar 1 ((i:Int)+1) 0 Y);rw[<-hv,<-O]at hr;have HO:=qh hr;have V:=qh (λW (h:Cn) (k:aq W c cap bud nd h) (hp:h.S[i]? =some (⟨13,a,b,z⟩:Sp))=>And.intro k.l0 k.l1);refine ai1 ?_;intro HP HL K1;clear hr k hp hv O;have Ms:=qh (λw b x y v O=>qC w b x y v O);cases v
  . go_enter func316,ntmps316;go_wp2_with fail
    go_region_held3 (λW=>W.cell? c.l=some ↑c.a/\Z W c.l 1 (J 1))
      (first|with_reducible exact V.o _ _ K1.o HP.o|with_reducible exact V.o _ _ I.o HP.o)
      (first
        | (go_at_call 320;go_loud (refine LT (Ms.o _ false 0 16 16 rfl) ?_))
        | (go_at_call 272;go_loud (refine Pi (HO.o _ K1.o) λw3 H=>?_);have I:=qh (K1.o.op H.o.2 H.o.1);have T2:=qh (((aa.refl [c.a,c.g,c.q,c.k] w).drew).trans (H.o.2.mono (T:=[c.a,c.g,c.q,c.k]) ahz))))
    all_goals go_wp2;go_ret;rw[HX.o];exact⟨rfl,I.o.samS HP.o,T2.o⟩
  . go_enter func316,ntmps316;go_wp2_with fail
    go_region_held3 (λW=>W.cell? c.l=some ↑c.a/\Z W c.l 1 (J 1))
      (first|with_reducible exact V.o _ _ K1.o HP.o|with_reducible exact V.o _ _ I.o HP.o)
      (first
        | (go_at_call 320;go_loud (refine LT (Ms.o _ true 0 16 0 rfl) ?_))
        | (go_at_call 272;go_loud (refine Pi (HO.o _ K1.o) λw3 H=>?_);have I:=qh (K1.o.op H.o.2 H.o.1);have T2:=qh (((aa.refl [c.a,c.g,c.q,c.k] w).drew).trans (H.o.2.mono (T:=[c.a,c.g,c.q,c.k]) ahz))))
    all_goals go_wp2;go_ret;rw[HX.o];exact⟨rfl,I.o.samS HP.o,T2.o⟩
def Az(k:aq w c cap bud nd h)(i:Nat)(hin:i<nd.length)(a b z:Int)(hp:h.S[i]? =some (⟨14,a,b,z⟩:Sp))(Y:h.ar.ops+1<=1000000000000)(I:-5<=b/\b<=100000):E 316 #[↑c.l,pointer (some ⟨c.q,i*4,none⟩),J ((i:Int)+1)] w (eR w c cap bud nd h i (⟨14,a,b,z⟩:Sp) (ah nd.length (ndf nd) bud h i (⟨14,a,b,z⟩:Sp))):=by
  obtain⟨v,O⟩:=LE (ldW h.ar.W (cL b));have HX:Kq (ah nd.length (ndf nd) bud h i (⟨14,a,b,z⟩:Sp)=(af h.ar (cL b),h.wk,(⟨15,a,b,v⟩:Sp))):=qh (by rw[Jl rfl,O]<;>rfl);refine aj1 ?_;intro HF HO;rw[<-O]at HO;replace HO:=qh HO;clear O;have HJ:=qh (λW H (k:aq W c cap bud nd ⟨H,h.wk,h.S⟩)=>k.putS (p':=(⟨14,a,b,v⟩:Sp)) hp (j:=3) (v:= J v) ahA rfl);have HPN:=fun(q:i<h.S.length)=>show(h.S.set i (⟨14,a,b,v⟩:Sp))[i]? =some (⟨14,a,b,v⟩:Sp)by simp[q]
  exact cwZ
def AA(k:aq w c cap bud nd h)(i:Nat)(hin:i<nd.length)(a b z:Int)(hp:h.S[i]? =some (⟨15,a,b,z⟩:Sp))(Y:h.ar.ops+1<=1000000000000):E 316 #[↑c.l,pointer (some ⟨c.q,i*4,none⟩),J ((i:Int)+1)] w (eR w c cap bud nd h i (⟨15,a,b,z⟩:Sp) (ah nd.length (ndf nd) bud h i (⟨15,a,b,z⟩:Sp))):=by
  refine ajD ?_;intro hn e0;obtain⟨ab,hv⟩:=LE (dY h.ar 1 ((i:Int)+1) z);obtain⟨v,O⟩:=LE (cK h.ar 1 ((i:Int)+1));have HX:Kq (ah nd.length (ndf nd) bud h i (⟨15,a,b,z⟩:Sp)=(ab,h.wk,(⟨if v then 28 else 16,a,b,z⟩:Sp))):=qh (by rw[Jm rfl,hv,O]<;>rfl);have hr:=(λW (k:aq W c cap bud nd h)=>jo k.ar 1 ((i:Int)+1) z Y);rw[<-hv,<-O]at hr;have HO:=qh hr;have V:=qh (λW (h:Cn) (k:aq W c cap bud nd h) (hp:h.S[i]? =some (⟨15,a,b,z⟩:Sp))=>And.intro k.l0 (And.intro k.l1 (k.sp.cell hp 3 _ rfl)));refine ai1 ?_;intro HP HL K1;clear hr k hp hv O;have Ms:=qh (λw b x y v O=>qC w b x y v O);cases v
  . go_enter func316,ntmps316;go_wp2_with fail
    go_region_held3 (λW=>W.cell? c.l=some ↑c.a/\Z W c.l 1 (J 1)/\Z W c.q (i*4+3) (J z))
      (first|with_reducible exact V.o _ _ K1.o HP.o|with_reducible exact V.o _ _ I.o HP.o)
      (first
        | (go_at_call 320;go_loud (refine LT (Ms.o _ false 28 16 16 rfl) ?_))
        | (go_at_call 272;go_loud (refine Pi (HO.o _ K1.o) λw3 H=>?_);have I:=qh (K1.o.op H.o.2 H.o.1);have T2:=qh (((aa.refl [c.a,c.g,c.q,c.k] w).drew).trans (H.o.2.mono (T:=[c.a,c.g,c.q,c.k]) ahz))))
    all_goals go_wp2;go_ret;rw[HX.o];exact⟨rfl,I.o.samS HP.o,T2.o⟩
  . go_enter func316,ntmps316;go_wp2_with fail
    go_region_held3 (λW=>W.cell? c.l=some ↑c.a/\Z W c.l 1 (J 1)/\Z W c.q (i*4+3) (J z))
      (first|with_reducible exact V.o _ _ K1.o HP.o|with_reducible exact V.o _ _ I.o HP.o)
      (first
        | (go_at_call 320;go_loud (refine LT (Ms.o _ true 28 16 28 rfl) ?_))
        | (go_at_call 272;go_loud (refine Pi (HO.o _ K1.o) λw3 H=>?_);have I:=qh (K1.o.op H.o.2 H.o.1);have T2:=qh (((aa.refl [c.a,c.g,c.q,c.k] w).drew).trans (H.o.2.mono (T:=[c.a,c.g,c.q,c.k]) ahz))))
    all_goals go_wp2;go_ret;rw[HX.o];exact⟨rfl,I.o.samS HP.o,T2.o⟩
def AB(k:aq w c cap bud nd h)(i:Nat)(hin:i<nd.length)(a b z:Int)(hp:h.S[i]? =some (⟨16,a,b,z⟩:Sp))(Y:h.ar.ops+1<=1000000000000):E 316 #[↑c.l,pointer (some ⟨c.q,i*4,none⟩),J ((i:Int)+1)] w (eR w c cap bud nd h i (⟨16,a,b,z⟩:Sp) (ah nd.length (ndf nd) bud h i (⟨16,a,b,z⟩:Sp))):=by
  refine ajD ?_;intro hn e0;obtain⟨ab,hv⟩:=LE (af h.ar (cN ((i:Int)+1)));obtain⟨v,O⟩:=LE (ldW h.ar.W (cN ((i:Int)+1)));have HX:Kq (ah nd.length (ndf nd) bud h i (⟨16,a,b,z⟩:Sp)=(ab,h.wk,(⟨if v≠0 then 17 else 16,v,b,z⟩:Sp))):=qh (by rw[Jn rfl,hv,O]<;>rfl);have HF:=qh (λW (k:aq W c cap bud nd h)=>mZ k ((i:Int)+1) ahy);have hr:=(λW (k:aq W c cap bud nd h)=>aE k.ar (cN ((i:Int)+1)) Y);rw[<-hv,<-O]at hr;have HO:=qh hr;have V:=qh (λW (h:Cn) (u:Int) (k:aq W c cap bud nd h) (hp:h.S[i]? =some (⟨16,u,b,z⟩:Sp))=>k.l0);refine ai1 ?_;intro HP HL K1;clear hr k hp hv O;have Ms:=qh (λw b x y v O=>qC w b x y v O);by_cases I:v≠0
  all_goals
    have t0:(v !=0)=decide (v≠0):=(by by_cases h:v=0<;>simp[h]);first| rw[decide_eq_true I]at t0| rw[decide_eq_false I]at t0
    have HV:=qh I;clear I;go_enter func316,ntmps316;go_wp2_with fail
    go_region_held3 (λW=>W.cell? c.l=some ↑c.a)
      (first|with_reducible exact V.o _ _ _ K1.o HP.o|with_reducible exact V.o _ _ _ H.o HP.o|with_reducible exact Lk.o)
      (first
        | (go_at_call 146;go_loud (refine LT (HF.o _ K1.o) ?_))
        | (go_at_call 173;go_loud (refine Pi (HO.o _ K1.o) λw3 a3=>?_);have H:=qh (K1.o.op a3.o.2 a3.o.1);have T2:=qh (((aa.refl [c.a,c.g,c.q,c.k] w).drew).trans (a3.o.2.mono (T:=[c.a,c.g,c.q,c.k]) ahz));have K3:=qh (H.o.putS (p':=(⟨16,v,b,z⟩:Sp)) HP.o (j:=1) (v:= J v) ahA rfl);have Lk:=qh (V.o _ _ v K3.o ah6);have e1:=H.o.sp.cell HP.o 1 _ rfl;have z1:=H.o.sp.free (i*4+1)))
    all_goals
      go_wp2_with fail;first| refine(Ms.o _ true 17 16 17 rfl).mono ?_| refine(Ms.o _ false 17 16 16 rfl).mono ?_
      rintro en w5 ⟨rfl,rfl⟩;go_wp2;go_ret;rw[HX.o];first| exact⟨by rw[if_pos HV.o];rfl,K3.o,T2.o.trans (dx ⟨c.q,i*4+1,none⟩ _ rfl)⟩| exact⟨by rw[if_neg HV.o];rfl,K3.o,T2.o.trans (dx ⟨c.q,i*4+1,none⟩ _ rfl)⟩
end
end
section
open Go.RowKit
section
variable{c:Cx}{h:Cn}
def Fw(w:World)(c:Cx)(cap:Nat)(bud:Int)(nd:List Int)(ar':Ar)(LQ:Wk)(S:List Sp)(e:Ending)(w':World):Prop:=
 e= returned (bool (!LQ.way))/\aq w' c cap bud nd ⟨ar',LQ,S⟩/\aa [c.a,c.g,c.q,c.k] w w'
def GR(k:aq w c cap bud nd h)(Y:h.ar.ops+1<=1000000000000)(Qw:h.wk.way=true)(hp:0<=h.wk.passed/\h.wk.passed<=32)(hl:-5<=h.wk.last/\h.wk.last<=100000):E 324 #[↑c.k] w (Fw w c cap bud nd (af h.ar (cN h.wk.last)) (dS nd.length (ndf nd) h.wk (ldW h.ar.W (cN h.wk.last))) h.S):=by
  obtain⟨v,O⟩:=LE (ldW h.ar.W (cN h.wk.last));obtain⟨al,hv⟩:=LE (af h.ar (cN h.wk.last));obtain⟨LQ,Nj⟩:=LE (dS nd.length (ndf nd) h.wk v);have HO:=qh (IZ k.wk);rw[Qw]at HO;have KZ:=λW (k:aq W c cap bud nd h)=>Dp k h.wk.last hl Y;rw[<-O,<-hv]at KZ;have HB:=qh KZ;have No:=λW (k:cW W c.k c.n1 (uR c) nd h.wk)=>C2 k hp v;rw[<-Nj]at No;have HT:=qh No;have H:=qh (λW (k:cW W c.k c.n1 (uR c) nd h.wk)=>And.intro k.c0 k.c5);rw[<-O,<-hv,<-Nj];have K0:=qh k;have I:=qh (k.below ((Below.refl _ w).drew));obtain⟨ab,V⟩:=LE h.wk.last;have ad:=qh V;rw[<-V]at HB;have Vg:=H;have H:=qh (show ∀W,cW W c.k c.n1 (uR c) nd h.wk->W.cell? c.k=some (.func (.func 172) #[] #[↑c.b0,↑c.b1,↑c.b2])/\W.cell? ⟨c.k,5,none⟩=some (J ab)from λW k=>by rw[V];exact Vg.o W k);clear KZ No Vg O hv Nj hp hl k Qw V;go_enter func324,ntmps324;go_wp2_with fail;refine LT HO.o ?_;go_wp2_with fail;have k0:=(H.o _ I.o.wk).1;have k5:=(H.o _ I.o.wk).2
  go_region_with
    (first
      | (go_at_call 172;go_loud (refine Pi (HB.o _ I.o) λw2 a2=>?_);have K2:=qh (I.o.op a2.o.2 a2.o.1);have T2:=qh (((aa.refl [c.a,c.g,c.q,c.k] w).drew).trans (a2.o.2.mono (T:=[c.a,c.g,c.q,c.k]) ahz)))
      | (go_at_call 327;go_loud (refine Pi (HT.o _ K2.o.wk) λw3 k3=>?_);have K3:=qh (And.intro (K2.o.walk k3.o.1 k3.o.2) (T2.o.trans (k3.o.2.mono (T:=[c.a,c.g,c.q,c.k]) ahz)))))
  all_goals go_wp2;go_ret;exact⟨rfl,K3.o.1,K3.o.2⟩
end
end
section
open Go.RowKit
def iG{P:Program}{a:Act}{c rest:Code}(l:Nat)(hf:findLabel c l=some rest)(first:c.wp P (Exit.jump l (λa' w'=>rest.wp P (Exit.noGoto Q) a' w') Q) a w):(Code.scope c).wp P Q a w:=by exact abh
def tz{h:Act->World->Prop}{l:Nat}{a:Act}:Exit.jump l h Q .ret a w=Q .ret a w:=rfl
section
variable{c:Cx}{h:Cn}
def yE(k:aq w c cap bud nd h)(i:Nat)(a b z:Int)(hp:h.S[i]? =some (⟨18,a,b,z⟩:Sp))(Y:h.ar.ops+1<=1000000000000)(Qw:h.wk.way=true)(W5:0<=h.wk.passed/\h.wk.passed<=32)(hl:-5<=h.wk.last/\h.wk.last<=100000):E 317 #[↑c.l,pointer (some ⟨c.q,i*4,none⟩),J ((i:Int)+1)] w (eR w c cap bud nd h i (⟨18,a,b,z⟩:Sp) (ah nd.length (ndf nd) bud h i (⟨18,a,b,z⟩:Sp))):=by
  have e0:=aaa (k.sp.cell hp 0 _ rfl);have l4:=k.l4;obtain⟨ab,hv⟩:=LE (af h.ar (cN h.wk.last));obtain⟨O,Nj⟩:=LE (dS nd.length (ndf nd) h.wk (ldW h.ar.W (cN h.wk.last)));have HX:Kq (ah nd.length (ndf nd) bud h i (⟨18,a,b,z⟩:Sp)=(ab,O,if O.way then(⟨18,a,b,z⟩:Sp)else if O.found≠0 then⟨19,a,b,z⟩else eH ⟨18,a,b,z⟩)):=qh (by rw[Jp rfl Qw,hv,Nj]);have Ln:=GR k Y Qw W5 hl;rw[<-hv,<-Nj]at Ln;have HW:=qh Ln;have HP:=qh hp;clear Ln k hp hv Nj Qw W5 hl Y;go_enter func317,ntmps317;go_wp2;refine iG 0 rfl ?_;go_wp2;go_step3;refine⟨rfl,?_⟩;go_wp2_with fail;refine Pi HW.o λw1 k1=>?_;have H:=qh (And.intro k1.o.1 k1.o.2);have KS:=qh (k1.o.1.samS HP.o);have d4:=k1.o.1.l4;have d2:=k1.o.1.sp.cell HP.o 2 _ rfl;clear e0 l4;cases Nk:O.way
  . have HY:=qh Nk;by_cases V:O.found=0
    . have t0:(O.found !=0)=false:=(by simpa using V);have HF:=qh V;clear V Nk;by_cases I:0<b;. have HB:=qh I;go_wp2_with fail;refine LT (ri H.o.1.wk) ?_;go_wp2;go_step3;go_wp2;rw[Exit.noGoto_ret];go_ret;rw[HX.o,HY.o,if_neg ahA,if_neg (λh=>h HF.o)];exact⟨by unfold eH;rw[if_pos HB.o];rfl,by unfold eH;exact KS.o,H.o.2⟩
      . have HB:=qh I;go_wp2_with fail;refine LT (ri H.o.1.wk) ?_;go_wp2;go_step3;go_wp2;rw[Exit.noGoto_ret];go_ret;rw[HX.o,HY.o,if_neg ahA,if_neg (λh=>h HF.o)];exact⟨by unfold eH;rw[if_neg (show ¬0<b by have:=HB.o;omega)];rfl,by unfold eH;exact KS.o,H.o.2⟩
    . have t0:(O.found !=0)=true:=(by simpa using V);have HF:=qh V;clear V Nk;go_wp2_with fail;refine LT (ri H.o.1.wk) ?_;go_wp2;rw[Exit.noGoto_ret];go_ret;rw[HX.o,HY.o,if_neg ahA,if_pos HF.o];exact⟨rfl,KS.o,H.o.2⟩
  . have HY:=qh Nk;clear Nk;go_wp2;rw[Exit.noGoto_ret];go_ret;rw[HX.o,HY.o,if_pos rfl];exact⟨rfl,KS.o,H.o.2⟩
def yD(k:aq w c cap bud nd h)(i:Nat)(hin:i<nd.length)(a b z:Int)(hp:h.S[i]? =some (⟨17,a,b,z⟩:Sp))(Y:h.ar.ops+1<=1000000000000):E 317 #[↑c.l,pointer (some ⟨c.q,i*4,none⟩),J ((i:Int)+1)] w (eR w c cap bud nd h i (⟨17,a,b,z⟩:Sp) (ah nd.length (ndf nd) bud h i (⟨17,a,b,z⟩:Sp))):=by
  obtain⟨_,hn⟩:=k.n32;have MK:(i:Int)<nd.length:=by omega
  have Ux:i<nd.length:=hin;have x7:IntKind.i64.wrap (i:Int)=(i:Int):=IntWalk.i64_in _ ahy;have e0:=aaa (k.sp.cell hp 0 _ rfl);obtain⟨ab,hv⟩:=LE (af h.ar 2);obtain⟨v,O⟩:=LE (ldW h.ar.W 2);obtain⟨LQ,Nj⟩:=LE (gW nd.length (ndf nd) h.wk a (ndf nd i));have HX:Kq (ah nd.length (ndf nd) bud h i (⟨17,a,b,z⟩:Sp)=if bud<=v then(ab,h.wk,eH ⟨17,a,b,v⟩)else(ab,LQ,(⟨if LQ.way then 18 else 23,a,b,v⟩:Sp))):=qh (by rw[Jo rfl,hv,O,Nj]);have HF:=qh (λW (k:aq W c cap bud nd h)=>rc k);have hr:=(λW (k:aq W c cap bud nd h)=>aE k.ar 2 Y);rw[<-hv,<-O]at hr;have HO:=qh hr;have HC:=qh (λW (h:Cn) (k:aq W c cap bud nd h)=>k.l0);refine ai1 ?_;intro HP HL K1;obtain⟨nv,OL⟩:=LE (ndf nd i);have TJ:=λW (k:cW W c.k c.n1 (uR c) nd h.wk)=>Do k a (ndf nd i);rw[<-Nj,<-OL]at TJ;have YA:=qh TJ
  have Sa:=qh (show ∀W (ar:Ar) (wk:Wk),aq W c cap bud nd ⟨ar,wk,h.S.set i ⟨17,a,b,v⟩⟩->Z W c.l 3 (slice (some ⟨c.nb,0,none⟩) nd.length cap)/\Z W c.l 4 ↑c.k/\Z W c.q (i*4+1) (J a)/\W.cell? ⟨c.nb,i,none⟩=some (J nv)from λW ar wk k=>
    ⟨k.l3,k.l4,k.sp.cell (i:=i) (p:=⟨17,a,b,v⟩) ah6 1 _ rfl,by rw[OL];exact k.row i hin⟩)
  clear hr TJ k hp hv O Nj OL;by_cases Ws:bud<=v
  . have QE:=qh Ws;go_enter func317,ntmps317;go_wp2;refine iG 1 rfl ?_;go_wp2_with fail
    go_region_held3 (λW=>W.cell? c.l=some ↑c.a)
      (first|with_reducible exact HC.o _ _ K1.o|with_reducible exact HC.o _ _ I.o|with_reducible exact HC.o _ _ H.o)
      (first
        | (go_at_call 322;go_loud (refine LT (HF.o _ K1.o) ?_))
        | (go_at_call 173;go_loud (refine Pi (HO.o _ K1.o) λw3 V=>?_);have I:=qh (K1.o.op V.o.2 V.o.1);have T2:=qh (((aa.refl [c.a,c.g,c.q,c.k] w).drew).trans (V.o.2.mono (T:=[c.a,c.g,c.q,c.k]) ahz));have H:=qh (I.o.putS (p':=(⟨17,a,b,v⟩:Sp)) HP.o (j:=3) (v:= J v) ahA rfl);have e1:=I.o.sp.cell HP.o 3 _ rfl;have z1:=I.o.sp.free (i*4+3)))
    all_goals
      have T3:=qh (T2.o.trans (dx ⟨c.q,i*4+3,none⟩ (J v) rfl));have Ql:(h.S.set i (⟨17,a,b,v⟩:Sp))[i]? =some (⟨17,a,b,v⟩:Sp):=(by simp[HL.o]);have l2:=H.o.l2;have s2:=H.o.sp.cell Ql 2 _ rfl;have s3:=H.o.sp.cell Ql 3 _ rfl;clear Ql e1 z1 e0;go_wp2_with fail;go_quiet (fail);go_wp2;go_step3;refine⟨rfl,?_⟩;by_cases Pb:0<b;. have HB:=qh Pb;go_wp2;rw[Exit.noGoto_ret];go_ret;rw[HX.o,if_pos QE.o];exact⟨by unfold eH;rw[if_pos HB.o];rfl,by unfold eH;exact H.o.below (Qt.below ⟨_,rfl⟩ _),T3.o.trans (aa.of_qt ⟨_,rfl⟩)⟩
      . have HB:=qh Pb;go_wp2;rw[Exit.noGoto_ret];go_ret;rw[HX.o,if_pos QE.o];exact⟨by unfold eH;rw[if_neg (show ¬0<b by have:=HB.o;omega)];rfl,by unfold eH;exact H.o.below (Qt.below ⟨_,rfl⟩ _),T3.o.trans (aa.of_qt ⟨_,rfl⟩)⟩
  . have QE:=qh Ws;go_enter func317,ntmps317;go_wp2;refine iG 1 rfl ?_;go_wp2_with fail
    go_region_held3 (λW=>W.cell? c.l=some ↑c.a)
      (first|with_reducible exact HC.o _ _ K1.o|with_reducible exact HC.o _ _ I.o|with_reducible exact HC.o _ _ H.o)
      (first
        | (go_at_call 322;go_loud (refine LT (HF.o _ K1.o) ?_))
        | (go_at_call 173;go_loud (refine Pi (HO.o _ K1.o) λw3 V=>?_);have I:=qh (K1.o.op V.o.2 V.o.1);have T2:=qh (((aa.refl [c.a,c.g,c.q,c.k] w).drew).trans (V.o.2.mono (T:=[c.a,c.g,c.q,c.k]) ahz));have H:=qh (I.o.putS (p':=(⟨17,a,b,v⟩:Sp)) HP.o (j:=3) (v:= J v) ahA rfl);have e1:=I.o.sp.cell HP.o 3 _ rfl;have z1:=I.o.sp.free (i*4+3)))
    all_goals
      have T3:=qh (T2.o.trans (dx ⟨c.q,i*4+3,none⟩ (J v) rfl));have Ql:(h.S.set i (⟨17,a,b,v⟩:Sp))[i]? =some (⟨17,a,b,v⟩:Sp):=(by simp[HL.o]);have l2:=H.o.l2;have s3:=H.o.sp.cell Ql 3 _ rfl;obtain⟨wm,UY⟩:=LE (w3.setCell ⟨c.q,i*4+3,none⟩ (J v));rw[<-UY]at H T3 l2 s3 ⊢;clear Ql e1 z1 e0 UY;go_wp2_with fail;go_quiet (fail);go_wp2_with fail;have K4:=qh ((H.o.below (Qt.below (w':=wm.drewN nq) ⟨_,rfl⟩ _)).below ((Below.refl _ _).drew));have T4:=qh ((T3.o.trans (aa.of_qt (b:=wm.drewN nq) ⟨_,rfl⟩)).drew)
      go_region_held3 (λW=>Z W c.l 3 (slice (some ⟨c.nb,0,none⟩) nd.length cap)/\Z W c.l 4 ↑c.k/\Z W c.q (i*4+1) (J a)/\Z W c.nb i (J nv))
        (first|with_reducible exact Sa.o _ _ _ K4.o|with_reducible exact Sa.o _ _ _ K5.o)
        (first
          | (go_at_call 323;go_loud (refine Pi (YA.o _ K4.o.wk) λw5 k5=>?_);have K5:=qh (K4.o.walk k5.o.1 k5.o.2);have T5:=qh (T4.o.trans (k5.o.2.mono (T:=[c.a,c.g,c.q,c.k]) ahz))))
      all_goals
        cases Nk:LQ.way;. have HY:=qh Nk;clear Nk;go_wp2;rw[tz];go_ret;rw[HX.o,if_neg (show ¬bud<=v by have:=QE.o;omega),HY.o,if_neg ahA];exact⟨rfl,K5.o,T5.o⟩
        . have HY:=qh Nk;clear Nk;go_wp2;rw[tz];go_ret;rw[HX.o,if_neg (show ¬bud<=v by have:=QE.o;omega),HY.o,if_pos rfl];exact⟨rfl,K5.o,T5.o⟩
end
end
section
open Go.RowKit
section
variable{c:Cx}{h:Cn}
def uU(k:aq w c cap bud nd h)(i:Nat)(hin:i<nd.length)(a b z:Int)(hp:h.S[i]? =some (⟨19,a,b,z⟩:Sp))(Y:h.ar.ops+1<=1000000000000)(hl:-5<=h.wk.last/\h.wk.last<=100000)(Kn:decide (0<b)=true):E 318 #[↑c.l,pointer (some ⟨c.q,i*4,none⟩)] w (eR w c cap bud nd h i (⟨19,a,b,z⟩:Sp) (ah nd.length (ndf nd) bud h i (⟨19,a,b,z⟩:Sp))):=by
  refine ajD ?_;intro hn e0;obtain⟨ab,V⟩:=LE (ae h.ar (cN h.wk.last) 0);have HX:Kq (ah nd.length (ndf nd) bud h i (⟨19,a,b,z⟩:Sp)=(ab,h.wk,(⟨20,a,b,z⟩:Sp))):=qh (by rw[Fk rfl,V];simp at Kn;simp[Kn]);have HF:=qh (λW (k:aq W c cap bud nd h)=>mZ k h.wk.last (by exact hl));have O:=(λW (k:aq W c cap bud nd h)=>an k.ar (cN h.wk.last) 0 Y);rw[<-V]at O;have HO:=qh O;have HC:=qh (λW (h:Cn) (k:aq W c cap bud nd h) (hp:h.S[i]? =some (⟨19,a,b,z⟩:Sp))=>And.intro k.l0 k.l4);refine ai1 ?_;intro HP HL K1;have HW:=qh (λW (k:aq W c cap bud nd h)=>vy k.wk);clear O k hp V;go_enter func318,ntmps318;go_wp2_with fail
  go_region_held3 (λW=>W.cell? c.l=some ↑c.a/\Z W c.l 4 ↑c.k)
    (first|with_reducible exact HC.o _ _ K1.o HP.o|with_reducible exact HC.o _ _ H.o HP.o)
    (first
      | (go_at_call 146;go_loud (refine LT (HF.o _ K1.o) ?_))
      | (go_at_call 326;go_loud (refine LT (HW.o _ K1.o) ?_))
      | (go_at_call 177;go_loud (refine Pi (HO.o _ K1.o) λw3 I=>?_);have H:=qh (K1.o.op I.o.2 I.o.1);have T2:=qh (((aa.refl [c.a,c.g,c.q,c.k] w).drew).trans (I.o.2.mono (T:=[c.a,c.g,c.q,c.k]) ahz))))
  all_goals have e3:=H.o.sp.cell HP.o 2 _ rfl;have e4:=H.o.sp.cell HP.o 1 _ rfl;have z3:=H.o.sp.free (i*4+2);go_wp2;go_ret;rw[HX.o];exact⟨rfl,H.o.samS HP.o,T2.o⟩
def uT(k:aq w c cap bud nd h)(i:Nat)(hin:i<nd.length)(a b z:Int)(hp:h.S[i]? =some (⟨19,a,b,z⟩:Sp))(Y:h.ar.ops+1<=1000000000000)(hl:-5<=h.wk.last/\h.wk.last<=100000)(Kn:decide (0<b)=false):E 318 #[↑c.l,pointer (some ⟨c.q,i*4,none⟩)] w (eR w c cap bud nd h i (⟨19,a,b,z⟩:Sp) (ah nd.length (ndf nd) bud h i (⟨19,a,b,z⟩:Sp))):=by
  refine ajD ?_;intro hn e0;obtain⟨ab,V⟩:=LE (ae h.ar (cN h.wk.last) 0);have HX:Kq (ah nd.length (ndf nd) bud h i (⟨19,a,b,z⟩:Sp)=(ab,h.wk,(⟨22,a,a,z⟩:Sp))):=qh (by rw[Fk rfl,V];simp at Kn;simp[Kn]);have HF:=qh (λW (k:aq W c cap bud nd h)=>mZ k h.wk.last (by exact hl));have O:=(λW (k:aq W c cap bud nd h)=>an k.ar (cN h.wk.last) 0 Y);rw[<-V]at O;have HO:=qh O;have HC:=qh (λW (h:Cn) (k:aq W c cap bud nd h) (hp:h.S[i]? =some (⟨19,a,b,z⟩:Sp))=>And.intro k.l0 k.l4);refine ai1 ?_;intro HP HL K1;have HW:=qh (λW (k:aq W c cap bud nd h)=>vy k.wk);clear O k hp V;go_enter func318,ntmps318;go_wp2_with fail
  go_region_held3 (λW=>W.cell? c.l=some ↑c.a/\Z W c.l 4 ↑c.k)
    (first|with_reducible exact HC.o _ _ K1.o HP.o|with_reducible exact HC.o _ _ H.o HP.o)
    (first
      | (go_at_call 146;go_loud (refine LT (HF.o _ K1.o) ?_))
      | (go_at_call 326;go_loud (refine LT (HW.o _ K1.o) ?_))
      | (go_at_call 177;go_loud (refine Pi (HO.o _ K1.o) λw3 I=>?_);have H:=qh (K1.o.op I.o.2 I.o.1);have T2:=qh (((aa.refl [c.a,c.g,c.q,c.k] w).drew).trans (I.o.2.mono (T:=[c.a,c.g,c.q,c.k]) ahz))))
  all_goals have e3:=H.o.sp.cell HP.o 2 _ rfl;have e4:=H.o.sp.cell HP.o 1 _ rfl;have z3:=H.o.sp.free (i*4+2);go_wp2;go_ret;rw[HX.o];exact⟨rfl,H.o.putS (p':=(⟨19,a,a,z⟩:Sp)) HP.o (j:=2) (v:= J a) ahA rfl,T2.o.trans (dx ⟨c.q,i*4+2,none⟩ _ rfl)⟩
def yr(k:aq w c cap bud nd h)(i:Nat)(hin:i<nd.length)(a b z:Int)(hp:h.S[i]? =some (⟨20,a,b,z⟩:Sp))(Y:h.ar.ops+1<=1000000000000)(I:-5<=b/\b<=100000):E 318 #[↑c.l,pointer (some ⟨c.q,i*4,none⟩)] w (eR w c cap bud nd h i (⟨20,a,b,z⟩:Sp) (ah nd.length (ndf nd) bud h i (⟨20,a,b,z⟩:Sp))):=by
  obtain⟨v,O⟩:=LE (ldW h.ar.W (cL b));have HX:Kq (ah nd.length (ndf nd) bud h i (⟨20,a,b,z⟩:Sp)=(af h.ar (cL b),h.wk,(⟨21,a,b,v⟩:Sp))):=qh (by rw[Jq rfl,O]<;>rfl);refine aj1 ?_;intro HF HO;rw[<-O]at HO;replace HO:=qh HO;clear O;have HJ:=qh (λW H (k:aq W c cap bud nd ⟨H,h.wk,h.S⟩)=>k.putS (p':=(⟨20,a,b,v⟩:Sp)) hp (j:=3) (v:= J v) ahA rfl);have HPN:=fun(q:i<h.S.length)=>show(h.S.set i (⟨20,a,b,v⟩:Sp))[i]? =some (⟨20,a,b,v⟩:Sp)by simp[q]
  exact cwZ
def yx(k:aq w c cap bud nd h)(i:Nat)(hin:i<nd.length)(a b z:Int)(hp:h.S[i]? =some (⟨25,a,b,z⟩:Sp))(Y:h.ar.ops+1<=1000000000000)(I:-5<=b/\b<=100000):E 318 #[↑c.l,pointer (some ⟨c.q,i*4,none⟩)] w (eR w c cap bud nd h i (⟨25,a,b,z⟩:Sp) (ah nd.length (ndf nd) bud h i (⟨25,a,b,z⟩:Sp))):=by
  obtain⟨v,O⟩:=LE (ldW h.ar.W (cL b));have HX:Kq (ah nd.length (ndf nd) bud h i (⟨25,a,b,z⟩:Sp)=(af h.ar (cL b),h.wk,(⟨26,a,b,v⟩:Sp))):=qh (by rw[Jv rfl,O]<;>rfl);refine aj1 ?_;intro HF HO;rw[<-O]at HO;replace HO:=qh HO;clear O;have HJ:=qh (λW H (k:aq W c cap bud nd ⟨H,h.wk,h.S⟩)=>k.putS (p':=(⟨25,a,b,v⟩:Sp)) hp (j:=3) (v:= J v) ahA rfl);have HPN:=fun(q:i<h.S.length)=>show(h.S.set i (⟨25,a,b,v⟩:Sp))[i]? =some (⟨25,a,b,v⟩:Sp)by simp[q]
  exact cwZ
def yt(k:aq w c cap bud nd h)(i:Nat)(hin:i<nd.length)(a b z:Int)(hp:h.S[i]? =some (⟨21,a,b,z⟩:Sp))(Y:h.ar.ops+1<=1000000000000)(H:-5<=z/\z<=100000):E 318 #[↑c.l,pointer (some ⟨c.q,i*4,none⟩)] w (eR w c cap bud nd h i (⟨21,a,b,z⟩:Sp) (ah nd.length (ndf nd) bud h i (⟨21,a,b,z⟩:Sp))):=by have HX:Kq (ah nd.length (ndf nd) bud h i (⟨21,a,b,z⟩:Sp)=(ae h.ar (cN z) a,h.wk,(⟨22,a,b,z⟩:Sp))):=qh (by rw[Jr rfl]<;>rfl);have HF:=qh (λW (k:aq W c cap bud nd h)=>mZ k z (by exact H));have HO:=qh (λW (k:aq W c cap bud nd h)=>an k.ar (cN z) a Y);exact cyN
def yy(k:aq w c cap bud nd h)(i:Nat)(hin:i<nd.length)(a b z:Int)(hp:h.S[i]? =some (⟨26,a,b,z⟩:Sp))(Y:h.ar.ops+1<=1000000000000)(H:-5<=z/\z<=100000):E 318 #[↑c.l,pointer (some ⟨c.q,i*4,none⟩)] w (eR w c cap bud nd h i (⟨26,a,b,z⟩:Sp) (ah nd.length (ndf nd) bud h i (⟨26,a,b,z⟩:Sp))):=by have HX:Kq (ah nd.length (ndf nd) bud h i (⟨26,a,b,z⟩:Sp)=(ae h.ar (cN z) a,h.wk,(⟨27,a,b,z⟩:Sp))):=qh (by rw[Jw rfl]<;>rfl);have HF:=qh (λW (k:aq W c cap bud nd h)=>mZ k z (by exact H));have HO:=qh (λW (k:aq W c cap bud nd h)=>an k.ar (cN z) a Y);exact cyN
def yu(k:aq w c cap bud nd h)(i:Nat)(hin:i<nd.length)(a b z:Int)(hp:h.S[i]? =some (⟨22,a,b,z⟩:Sp))(Y:h.ar.ops+1<=1000000000000)(I:-5<=b/\b<=100000):E 318 #[↑c.l,pointer (some ⟨c.q,i*4,none⟩)] w (eR w c cap bud nd h i (⟨22,a,b,z⟩:Sp) (ah nd.length (ndf nd) bud h i (⟨22,a,b,z⟩:Sp))):=by
  refine ajD ?_;intro hn e0;obtain⟨ab,hv⟩:=LE (ae h.ar (cL b) h.wk.last);have HX:Kq (ah nd.length (ndf nd) bud h i (⟨22,a,b,z⟩:Sp)=(ab,h.wk,(⟨23,h.wk.found,b,z⟩:Sp))):=qh (by rw[Js rfl,hv]<;>rfl);have HF:=qh (λW (k:aq W c cap bud nd h)=>xB k b (by exact I));have V:=(λW (k:aq W c cap bud nd h)=>an k.ar (cL b) h.wk.last Y);rw[<-hv]at V;have HO:=qh V;have HC:=qh (λW (h:Cn) (k:aq W c cap bud nd h) (hp:h.S[i]? =some (⟨22,a,b,z⟩:Sp))=>And.intro k.l0 (And.intro k.l4 (k.sp.cell hp 2 _ rfl)));refine ai1 ?_;intro HP HL K1;have HW:=qh (λW (k:aq W c cap bud nd h)=>vy k.wk);clear V k hp hv;go_enter func318,ntmps318;go_wp2_with fail
  go_region_held3 (λW=>W.cell? c.l=some ↑c.a/\Z W c.l 4 ↑c.k/\Z W c.q (i*4+2) (J b))
    (first|with_reducible exact HC.o _ _ K1.o HP.o|with_reducible exact HC.o _ _ H.o HP.o)
    (first
      | (go_at_call 321;go_loud (refine LT (HF.o _ K1.o) ?_))
      | (go_at_call 326;go_loud (refine LT (HW.o _ K1.o) ?_))
      | (go_at_call 177;go_loud (refine Pi (HO.o _ K1.o) λw3 O=>?_);have H:=qh (K1.o.op O.o.2 O.o.1);have T2:=qh (((aa.refl [c.a,c.g,c.q,c.k] w).drew).trans (O.o.2.mono (T:=[c.a,c.g,c.q,c.k]) ahz))))
  all_goals have l4:=H.o.l4;have e4:=H.o.sp.cell HP.o 1 _ rfl;have z4:=H.o.sp.free (i*4+1);have e3:Z w3 c.q (i*4) (J 22):=(by simpa using H.o.sp.cell HP.o 0 _ rfl);go_wp2_with fail;refine LT (ri H.o.wk) ?_;go_wp2;go_ret;rw[HX.o];exact⟨rfl,H.o.putS (p':=(⟨22,h.wk.found,b,z⟩:Sp)) HP.o (j:=1) (v:= J h.wk.found) ahA rfl,T2.o.trans (dx ⟨c.q,i*4+1,none⟩ _ rfl)⟩
def yv(k:aq w c cap bud nd h)(i:Nat)(hin:i<nd.length)(a b z:Int)(hp:h.S[i]? =some (⟨23,a,b,z⟩:Sp))(Y:h.ar.ops+1<=1000000000000):E 318 #[↑c.l,pointer (some ⟨c.q,i*4,none⟩)] w (eR w c cap bud nd h i (⟨23,a,b,z⟩:Sp) (ah nd.length (ndf nd) bud h i (⟨23,a,b,z⟩:Sp))):=by obtain⟨v,O⟩:=LE ((if inR h.ar.W 2 then IntKind.i64.wrap (ldW h.ar.W 2+1)else 0));have HX:Kq (ah nd.length (ndf nd) bud h i (⟨23,a,b,z⟩:Sp)=(addA h.ar 2 1,h.wk,(⟨24,a,b,z⟩:Sp))):=qh (by rw[Jt rfl]<;>rfl);have HF:=qh (λW (k:aq W c cap bud nd h)=>rc k);have HO:=λW (k:aq W c cap bud nd h)=>iq k.ar 2 1 Y;rw[<-O]at HO;replace HO:=qh HO;clear O;exact cyN
def yw(k:aq w c cap bud nd h)(i:Nat)(hin:i<nd.length)(a b z:Int)(hp:h.S[i]? =some (⟨24,a,b,z⟩:Sp))(Y:h.ar.ops+1<=1000000000000)(H:-5<=a/\a<=100000):E 318 #[↑c.l,pointer (some ⟨c.q,i*4,none⟩)] w (eR w c cap bud nd h i (⟨24,a,b,z⟩:Sp) (ah nd.length (ndf nd) bud h i (⟨24,a,b,z⟩:Sp))):=by have HX:Kq (ah nd.length (ndf nd) bud h i (⟨24,a,b,z⟩:Sp)=(ae h.ar (cS a) b,h.wk,(⟨0,a,b,z⟩:Sp))):=qh (by rw[Ju rfl]<;>rfl);have HF:=qh (λW (k:aq W c cap bud nd h)=>pC k a (by exact H));have HO:=qh (λW (k:aq W c cap bud nd h)=>an k.ar (cS a) b Y);exact cyN
def yz(k:aq w c cap bud nd h)(i:Nat)(hin:i<nd.length)(a b z:Int)(hp:h.S[i]? =some (⟨27,a,b,z⟩:Sp))(Y:h.ar.ops+1<=1000000000000):E 318 #[↑c.l,pointer (some ⟨c.q,i*4,none⟩)] w (eR w c cap bud nd h i (⟨27,a,b,z⟩:Sp) (ah nd.length (ndf nd) bud h i (⟨27,a,b,z⟩:Sp))):=by have HX:Kq (ah nd.length (ndf nd) bud h i (⟨27,a,b,z⟩:Sp)=(ae h.ar 2 0,h.wk,(⟨28,a,b,z⟩:Sp))):=qh (by rw[Jx rfl]<;>rfl);have HF:=qh (λW (k:aq W c cap bud nd h)=>rc k);have HO:=qh (λW (k:aq W c cap bud nd h)=>an k.ar 2 0 Y);exact cyN
def yB(k:aq w c cap bud nd h)(i:Nat)(hin:i<nd.length)(a b z:Int)(hp:h.S[i]? =some (⟨29,a,b,z⟩:Sp))(Y:h.ar.ops+1<=1000000000000):E 318 #[↑c.l,pointer (some ⟨c.q,i*4,none⟩)] w (eR w c cap bud nd h i (⟨29,a,b,z⟩:Sp) (ah nd.length (ndf nd) bud h i (⟨29,a,b,z⟩:Sp))):=by have HX:Kq (ah nd.length (ndf nd) bud h i (⟨29,a,b,z⟩:Sp)=(ae h.ar 2 0,h.wk,(⟨30,a,b,z⟩:Sp))):=qh (by rw[Jz rfl]<;>rfl);have HF:=qh (λW (k:aq W c cap bud nd h)=>rc k);have HO:=qh (λW (k:aq W c cap bud nd h)=>an k.ar 2 0 Y);exact cyN
def yA(k:aq w c cap bud nd h)(i:Nat)(hin:i<nd.length)(a b z:Int)(hp:h.S[i]? =some (⟨28,a,b,z⟩:Sp))(Y:h.ar.ops+1<=1000000000000)(I:-5<=b/\b<=100000):E 318 #[↑c.l,pointer (some ⟨c.q,i*4,none⟩)] w (eR w c cap bud nd h i (⟨28,a,b,z⟩:Sp) (ah nd.length (ndf nd) bud h i (⟨28,a,b,z⟩:Sp))):=by have HX:Kq (ah nd.length (ndf nd) bud h i (⟨28,a,b,z⟩:Sp)=(ae h.ar (cS b) (-1),h.wk,(⟨0,a,b,z⟩:Sp))):=qh (by rw[Jy rfl]<;>rfl);have HF:=qh (λW (k:aq W c cap bud nd h)=>pC k b (by exact I));have HO:=qh (λW (k:aq W c cap bud nd h)=>an k.ar (cS b) (-1) Y);exact cyN
def yC(k:aq w c cap bud nd h)(i:Nat)(hin:i<nd.length)(a b z:Int)(hp:h.S[i]? =some (⟨30,a,b,z⟩:Sp))(Y:h.ar.ops+1<=1000000000000)(H:-5<=a/\a<=100000):E 318 #[↑c.l,pointer (some ⟨c.q,i*4,none⟩)] w (eR w c cap bud nd h i (⟨30,a,b,z⟩:Sp) (ah nd.length (ndf nd) bud h i (⟨30,a,b,z⟩:Sp))):=by have HX:Kq (ah nd.length (ndf nd) bud h i (⟨30,a,b,z⟩:Sp)=(ae h.ar (cS a) (-1),h.wk,(⟨0,a,b,z⟩:Sp))):=qh (by rw[JA rfl]<;>rfl);have HF:=qh (λW (k:aq W c cap bud nd h)=>pC k a (by exact H));have HO:=qh (λW (k:aq W c cap bud nd h)=>an k.ar (cS a) (-1) Y);exact cyN
end
end
section
open Go.RowKit
section
variable{c:Cx}{h:Cn}
structure p9(n:Nat)(h:Cn):Prop where
 ops:h.ar.ops+1<=1000000000000
 sp:∀(j:Nat) (p:Sp),h.S[j]? =some p->(-1<=p.a/\p.a<=2000)/\(-1<=p.b/\p.b<=2000)/\(p.pc=21\/p.pc=26->-1<=p.c/\p.c<=2000)
 wk:(0<=h.wk.passed/\h.wk.passed<=n)/\(-1<=h.wk.last/\h.wk.last<=2000)
 way:∀(j:Nat) (p:Sp),h.S[j]? =some p->p.pc=18->h.wk.way=true
 pcs:∀(j:Nat) (p:Sp),h.S[j]? =some p->(0<=p.pc/\p.pc<=6)\/(10<=p.pc/\p.pc<=30)
def Iy(k:aq w c cap bud nd h)(C:p9 nd.length h)(i:Nat)(H:i<nd.length)(p:Sp)(O:h.S[i]? =some p)(h0:p.pc≠0)(h10:p.pc<10):E 315 #[↑c.l,pointer (some ⟨c.q,i*4,none⟩),J ((i:Int)+1)] w (eR w c cap bud nd h i p (ah nd.length (ndf nd) bud h i p)):=by
  have I:=C.sp i p O;have V:=C.pcs i p O;have Y:=C.ops;obtain⟨pc,a,b,z⟩:=p;simp only at h0 h10 I V;have:pc=1\/pc=2\/pc=3\/pc=4\/pc=5\/pc=6:=by omega
  rcases this with rfl|rfl|rfl|rfl|rfl|rfl
  . exact Hh k i H a b z O Y
  . exact Hi k i H a b z O Y
  . exact Hj k i H a b z O Y
  . exact Hk k i H a b z O Y ahy
  . exact Hl k i H a b z O Y
  . exact Hn k i H a b z O Y
def Eu(k:aq w c cap bud nd h)(C:p9 nd.length h)(i:Nat)(H:i<nd.length)(p:Sp)(O:h.S[i]? =some p)(V:10<p.pc)(h10:p.pc<=16):E 316 #[↑c.l,pointer (some ⟨c.q,i*4,none⟩),J ((i:Int)+1)] w (eR w c cap bud nd h i p (ah nd.length (ndf nd) bud h i p)):=by
  have I:=C.sp i p O;have Y:=C.ops;obtain⟨pc,a,b,z⟩:=p;simp only at V h10 I;have:pc=11\/pc=12\/pc=13\/pc=14\/pc=15\/pc=16:=by omega
  rcases this with rfl|rfl|rfl|rfl|rfl|rfl
  . exact Aw k i H a b z O Y
  . exact Ax k i H a b z O Y
  . exact Ay k i H a b z O Y
  . exact Az k i H a b z O Y ahy
  . exact AA k i H a b z O Y
  . exact AB k i H a b z O Y
def Cs(k:aq w c cap bud nd h)(C:p9 nd.length h)(i:Nat)(O:i<nd.length)(p:Sp)(H:h.S[i]? =some p)(h0:16<p.pc)(h10:p.pc<=18):E 317 #[↑c.l,pointer (some ⟨c.q,i*4,none⟩),J ((i:Int)+1)] w (eR w c cap bud nd h i p (ah nd.length (ndf nd) bud h i p)):=by
  have I:=C.sp i p H;have V:=C.way i p H;have Nj:=C.wk;have Y:=C.ops;have hn:=k.n32;obtain⟨pc,a,b,z⟩:=p;simp only at h0 h10 I V;have:pc=17\/pc=18:=by omega
  rcases this with rfl|rfl
  . exact yD k i O a b z H Y
  . exact yE k i a b z H Y (V rfl) ahy ahy
def Cr(k:aq w c cap bud nd h)(C:p9 nd.length h)(i:Nat)(H:i<nd.length)(p:Sp)(O:h.S[i]? =some p)(V:18<p.pc):E 318 #[↑c.l,pointer (some ⟨c.q,i*4,none⟩)] w (eR w c cap bud nd h i p (ah nd.length (ndf nd) bud h i p)):=by
  have I:=C.sp i p O;have I':=C.pcs i p O;have Nj:=C.wk;have Y:=C.ops;obtain⟨pc,a,b,z⟩:=p;simp only at V I I';have:pc=19\/pc=20\/pc=21\/pc=22\/pc=23\/pc=24\/pc=25\/pc=26\/pc=27\/pc=28\/pc=29\/pc=30:=by omega
  rcases this with rfl|rfl|rfl|rfl|rfl|rfl|rfl|rfl|rfl|rfl|rfl|rfl
  . by_cases V:0<b;. exact uU k i H a b z O Y ahy (decide_eq_true V)
    . exact uT k i H a b z O Y ahy (decide_eq_false V)
  . exact yr k i H a b z O Y ahy
  . exact yt k i H a b z O Y ahy
  . exact yu k i H a b z O Y ahy
  . exact yv k i H a b z O Y
  . exact yw k i H a b z O Y ahy
  . exact yx k i H a b z O Y ahy
  . exact yy k i H a b z O Y ahy
  . exact yz k i H a b z O Y
  . exact yA k i H a b z O Y ahy
  . exact yB k i H a b z O Y
  . exact yC k i H a b z O Y ahy
def GO(k:aq w c cap bud nd h)(i:Int)(C:p9 nd.length h):E 312 #[↑c.l,J i] w (COp w c cap bud nd (fH nd.length (ndf nd) bud h i)):=by
  have LN:=aP;have H:=qh k;obtain⟨_,HN⟩:=k.n32;have Ku:=k.sl;obtain⟨p,hp⟩:=LE (getS h.S i);have HP:=qh hp;by_cases hc:okI h.S i/\p.pc≠0/\p.pc≠10
  . obtain⟨O,hc0,Ui⟩:=hc;have I:=dM O;rw[<-hp]at I;obtain⟨V,h9⟩:=id O;obtain⟨n,rfl⟩:=Int.eq_ofNat_of_zero_le V;simp only[Int.toNat_natCast]at I;rw[Ku]at h9;have Y:n<nd.length:=(by omega);have PP:(n:Int)<nd.length:=(by omega);have Z5:=C.pcs n p I;obtain⟨y,hy⟩:=LE (ah nd.length (ndf nd) bud h n p)
    have HS:Kq (fH nd.length (ndf nd) bud h n=(⟨y.1,y.2.1,h.S.set n y.2.2⟩,decide (y.2.2.pc=0\/y.2.2.pc=10))):=qh (by
      unfold fH;rw[<-HP.o,if_pos ⟨O,hc0,Ui⟩];simp only[Int.toNat_natCast]
      rw[hy])
    have x7:IntKind.i64.wrap ((n:Int)+1)=(n:Int)+1:=IntWalk.i64_in _ ahy;have u0:(p.pc==0)=false:=(by simpa using hc0);have u10:(p.pc==10)=false:=(by simpa using Ui);have Nx:p.pc<10\/(10<p.pc/\p.pc<=16)\/(16<p.pc/\p.pc<=18)\/18<p.pc:=(by omega);have l5:∀W,aq W c cap bud nd h->Z W c.l 5 (slice (some ⟨c.q,0,none⟩) nd.length nd.length):=λW k=>k.l5;have X6:=qh l5;clear l5;rcases Nx with e|e|e|e
    all_goals
      first| have LY:=λW (k:aq W c cap bud nd h)=>Iy k C n Y p I hc0 e| have LY:=λW (k:aq W c cap bud nd h)=>Eu k C n Y p I e.1 e.2| have LY:=λW (k:aq W c cap bud nd h)=>Cs k C n Y p I e.1 e.2| have LY:=λW (k:aq W c cap bud nd h)=>Cr k C n Y p I e
      rw[<-hy]at LY;have HM:=qh LY;first|(have u1:decide (p.pc<10)=true:=decide_eq_true ahy)|(have u1:decide (p.pc<10)=false:=decide_eq_false ahy)
      first|(have u2:decide (p.pc<=16)=true:=decide_eq_true ahy)|(have u2:decide (p.pc<=16)=false:=decide_eq_false ahy)
      first|(have u3:decide (p.pc<=18)=true:=decide_eq_true ahy)|(have u3:decide (p.pc<=18)=false:=decide_eq_false ahy)
      have HG:=qh I;clear LY k hp C hc0 Ui I V h9 O Ku e hy Z5;go_enter func312,ntmps312;go_wp2_with fail;refine ST (ux H.o n) λw1 b1=>?_;refine ajy ?_;intro H1;have c5:=X6.o _ H1.o.1;clear b1;go_wp2_with fail;refine(HM.o _ H1.o.1).mono ?_;rintro en w2 ⟨rfl,K2,t2⟩;have LW:(h.S.set n {y.2.2 with pc:=p.pc})[n]? =some {y.2.2 with pc:=p.pc}:=(by have:=(List.getElem?_eq_some_iff.1 HG.o).1;simp[this]);have d0:=aaa (K2.sp.cell LW 0 _ rfl);have f0:=K2.sp.free (n*4);have hq:=K2.sp.lt;have K3:=K2.putS LW (j:=0) (v:= J y.2.2.pc) (p':=y.2.2) ahA rfl;simp only[Nat.add_zero,List.set_set]at K3;have H2:=qh (And.intro K3 (((aa.of_below H1.o.2).trans t2).trans (dx ⟨c.q,n*4,none⟩ (J y.2.2.pc) rfl)));clear K2 t2 LW K3 c5;cases z0:(y.2.2.pc==0)
      . cases z1:(y.2.2.pc==10);. have HD:Kq (decide (y.2.2.pc=0\/y.2.2.pc=10)=false):=qh aie;go_wp2;go_ret;rw[HS.o];exact⟨az HD.o.symm,H2.o.1,H2.o.2⟩
        . have HD:Kq (decide (y.2.2.pc=0\/y.2.2.pc=10)=true):=qh aif;go_wp2;go_ret;rw[HS.o];exact⟨az HD.o.symm,H2.o.1,H2.o.2⟩
      . have HD:Kq (decide (y.2.2.pc=0\/y.2.2.pc=10)=true):=qh aig;go_wp2;go_ret;rw[HS.o];exact⟨az HD.o.symm,H2.o.1,H2.o.2⟩
  . have HS:Kq (fH nd.length (ndf nd) bud h i=(h,false)):=qh (by unfold fH;rw[<-hp,if_neg hc])
    have hz:p.pc=0\/p.pc=10:=by
      by_cases O:okI h.S i;. apply Classical.byContradiction;intro Y;exact hc ⟨O,λe=>Y (.inl e),λe=>Y (.inr e)⟩
      . left;rw[hp,dF O];rfl
    have HZ:=qh hz;clear k hp hc Ku hz C;by_cases V:p.pc=0;. have u0:(p.pc==0)=true:=(by simpa using V);clear V;go_enter func312,ntmps312;go_wp2_with fail;refine ST (ux H.o i) λw1 b1=>?_;refine ajy ?_;intro H1;clear b1;go_wp2;go_ret;rw[HS.o];exact⟨rfl,H1.o.1,aa.of_below H1.o.2⟩
    . have u0:(p.pc==0)=false:=(by simpa using V);have u10:(p.pc==10)=true:=(by have:=HZ.o;simp;omega);clear V;go_enter func312,ntmps312;go_wp2_with fail;refine ST (ux H.o i) λw1 b1=>?_;refine ajy ?_;intro H1;clear b1;go_wp2;go_ret;rw[HS.o];exact⟨rfl,H1.o.1,aa.of_below H1.o.2⟩
end
end
end Go.Proofs.YtglokdbiggbkjaaGreat
