/- Joined texts. -/
import Derived.StillTailTactics
import Derived.Deep.RegionHeld3
import Derived.IntWalk
import Derived.Test.YtglokdbiggbkjaaGreatMgBoltLoops0
import Derived.Test.YtglokdbiggbkjaaGreatMgBoltLoops2
import Derived.Test.YtglokdbiggbkjaaGreatMgBoltLoops3
import Derived.Test.YtglokdbiggbkjaaGreatMgBoltLoops8
import Derived.Test.YtglokdbiggbkjaaGreatMgBoltLoops12
set_option linter.unusedVariables false
set_option linter.unusedSimpArgs false
set_option linter.defProp false
set_option maxRecDepth 100000
set_option maxHeartbeats 16000000
open Go.Proofs.Tryz
namespace Go.Proofs.YtglokdbiggbkjaaGreat
open Go.IntKind(i64)
open Go.Value(int bool slice agg tuple pointer)
open Go.Ending(returned)
open Go.Obj(cells)
variable{v:Value}{w w' w0:World}{bud:Int}{i:Nat}
section
open Go.RowKit
variable{x m:Int}
structure Bx where
 k:Nat
 a:Nat
 g:Nat
 F:Nat
 n:Nat
structure BnA(w:World)(c:Bx)(s:Ar)(b:Bn):Prop where
 ar:aB w c.a c.g s
 blk:Blk w c.k 326 #[↑c.a,int i64 c.F,int i64 c.n,int i64 b.step,int i64 b.x,int i64 b.n,int i64 b.got]
 ka:c.k≠c.a/\c.k≠c.g
 bd:c.F<=5000/\c.n<=32
 ix:BnB c.n b
structure BnT(w0 w:World)(c:Bx)(s:Ar)(b:Bn):Prop where
 is:BnA w c s b
 tn:aa [c.a,c.g,c.k] w0 w
section
variable{c:Bx}{s s':Ar}{b:Bn}
def BnA.ca(h:BnA w c s b):w.cell? c.k=some ↑c.a:=h.blk.cell 0
def BnA.cF(h:BnA w c s b):Z w c.k 1 (J c.F):=h.blk.cell 1
def BnA.cn(h:BnA w c s b):Z w c.k 2 (J c.n):=h.blk.cell 2
def BnA.cs(h:BnA w c s b):Z w c.k 3 (J b.step):=h.blk.cell 3
def BnA.cx(h:BnA w c s b):Z w c.k 4 (J b.x):=h.blk.cell 4
def BnA.cm(h:BnA w c s b):Z w c.k 5 (J b.n):=h.blk.cell 5
def BnA.cg(h:BnA w c s b):Z w c.k 6 (J b.got):=h.blk.cell 6
def BnA.turns{S:List Nat}(h:BnA w c s b)(t:aa S w w')(h1:c.a∉S)(H:c.g∉S)(I:c.k∉S):BnA w' c s b:={h with ar:=h.ar.turns t h1 H,blk:=t.blk h.blk I}
def BnA.op(h:BnA w c s b)(t:aa [c.a,c.g] w w')(H:aB w' c.a c.g s'):BnA w' c s' b:={h with ar:=H,blk:=t.blk h.blk (by simp[h.ka.1,h.ka.2])}
def BnA.put(h:BnA w c s b){b':Bn}(j:Nat)(e:(#[↑c.a,J c.F,J c.n,J b.step,J b.x,J b.n,J b.got]:Array Value).setIfInBounds j v=#[↑c.a,J c.F,J c.n,J b'.step,J b'.x,J b'.n,J b'.got])(hb:BnB c.n b'):BnA (w.setCell ⟨c.k,j,none⟩ v) c s b':=by have t:aa [c.k] w (w.setCell ⟨c.k,j,none⟩ v):=(aa.refl _ _).setCell (.inl ahC) _;have:=h.blk.set_ j v;rw[e]at this;exact {h with ar:=h.ar.turns t (by simpa using Ne.symm h.ka.1) (by simpa using Ne.symm h.ka.2),blk:=this,ix:=hb}
def BnT.new(h:BnA w c s b):BnT w w c s b:=⟨h,aa.refl _ _⟩
def BnT.drew(h:BnT w0 w c s b):BnT w0 w.drew c s b:=⟨h.is.turns (S:=[]) (aa.refl _ _).drew ahC ahC ahC,h.tn.drew⟩
def BnT.op(h:BnT w0 w c s b)(t:aa [c.a,c.g] w w')(H:aB w' c.a c.g s'):BnT w0 w' c s' b:=⟨h.is.op t H,h.tn.trans (t.mono ahC)⟩
def BnT.put(h:BnT w0 w c s b){b':Bn}(j:Nat)(e:(#[↑c.a,J c.F,J c.n,J b.step,J b.x,J b.n,J b.got]:Array Value).setIfInBounds j v=#[↑c.a,J c.F,J c.n,J b'.step,J b'.x,J b'.n,J b'.got])(hb:BnB c.n b'):BnT w0 (w.setCell ⟨c.k,j,none⟩ v) c s b':=
 ⟨h.is.put j e hb,h.tn.trans ((aa.refl _ _).setCell (.inl ahC) _)⟩
def jP(h:BnA w c s b)(x:Int)(H:0<=x/\x<=32):E 350 #[↑c.k,J x] w λe w'=>e= returned (J ((c.F:Int)+1+x))/\w=w':=by have c1:=h.cF;obtain⟨I,h1⟩:=H;have O:=h.bd.1;have V:IntKind.i64.wrap ((c.F:Int)+1)=(c.F:Int)+1:=IntWalk.i64_in _ ahB;have Y:IntKind.i64.wrap ((c.F:Int)+1+x)=(c.F:Int)+1+x:=IntWalk.i64_in _ ahB;clear h;go_enter func350,ntmps350;exact aaa
def AC(h:BnA w c s b)(v:Bool)(O:(b.step !=0)=v):E 346 #[↑c.k] w λe w'=>e= returned (.bool v)/\w=w':=by have c1:=h.cs;clear h;go_enter func346,ntmps346;exact aaa
def JS(h:BnA w c s b):E 349 #[↑c.k] w λe w'=>e= returned (J b.got)/\w=w':=by have c1:=h.cg;clear h;go_enter func349,ntmps349;exact aaa
def BOk(w:World)(c:Bx)(x:Ar×Bn×Bool)(e:Ending)(w':World):Prop:=e= returned (.bool x.2.2)/\BnT w w' c x.1 x.2.1
theorem xR(h:BnT w0 w c s b):E 351 #[↑c.k] w λe w'=>e= returned (bool true)/\BnT w0 w' c s {b with step:=0}:=by have c1:=h.is.cs;have I:=h.is.blk.free 3;have H:=qh (h.put (b':={b with step:=0}) (v:= J 0) 3 rfl (by have:=h.is.ix;unfold BnB at *;simp only;omega));clear h;go_enter func351,ntmps351;go_wp2;go_ret;exact⟨rfl,H.o⟩
def Aw(h:BnA w c s b)(st x:Int)(Kh:1<=st/\st<=8)(hx:0<=x/\x<=c.n):E 345 #[↑c.k,J st,J x] w λe w'=>(∃v,e= returned (.bool v))/\BnT w w' c s (bnB c.n b st x):=by
 have HB:=qh (λW (k:BnA W c s b) v O=>AC k v O);have V:=qh (BnT.new h);have c2:=h.cn;have P4:=h.bd.2;have hk:=h.blk.lt;have c3:=h.cs;have c4:=h.cx;have z3:=h.blk.free 3;have z4:=h.blk.free 4;have HI:=qh h.ix;obtain⟨u,H⟩:=LE ((b.step !=0));obtain⟨x0,x1⟩:=hx;by_cases I:b.step=0/\1<=x
 .have e1:u=false:=by rw[H];simp[I.1]
  subst e1;have Y:=qh H.symm;have HX:Kq (bnB c.n b st x={b with step:=st,x:=x}):=qh (by unfold bnB;rw[if_pos ⟨I.1,I.2,x1⟩]);have t1:¬x<1:=by omega
  have t2:¬(c.n:Int)<x:=by omega
  have HS:=qh (And.intro Kh (And.intro x0 x1));clear H I h Kh;go_enter func345,ntmps345;go_wp2_with fail;refine LT (HB.o _ V.o.is false Y.o) ?_;go_wp2;go_ret;rw[HX.o];exact⟨⟨_,rfl⟩,(V.o.put (b':={b with step:=st}) 3 rfl aiJ).put 4 rfl aiJ⟩
 .have HX:Kq (bnB c.n b st x=b):=qh (by unfold bnB;rw[if_neg (λh=>I ⟨h.1,h.2.1⟩)]);have Y:=qh H.symm;cases u;.have t1:x<1:=(by have:b.step=0:=(by simpa using H.symm);omega);clear H I h Kh;go_enter func345,ntmps345;go_wp2_with fail;refine LT (HB.o _ V.o.is false Y.o) ?_;go_wp2;go_ret;rw[HX.o];exact⟨⟨_,rfl⟩,V.o⟩
  .clear H I h Kh;go_enter func345,ntmps345;go_wp2_with fail;refine LT (HB.o _ V.o.is true Y.o) ?_;go_wp2;go_ret;rw[HX.o];exact⟨⟨_,rfl⟩,V.o⟩
def J0(h:BnA w c s b)(x:Int)(I:0<=x/\x<=c.n):E 344 #[↑c.k,J x] w λe w'=>(∃v,e= returned (.bool v))/\BnT w w' c s (bnB c.n b 1 x):=by have H:=qh (Aw h 1 x ahB I);clear h;go_enter func344,ntmps344;exact aam
def Fr(h:BnA w c s b)(h1:1<=c.n):E 341 #[↑c.k] w λe w'=>(∃v,e= returned (.bool v))/\BnT w w' c s (bnB c.n b 5 1):=by have H:=qh (Aw h 5 1 ahB ahB);clear h;go_enter func341,ntmps341;exact aam
def Dw{g:Int}(h:BnA w c s ⟨1,x,m,g⟩)(V:s.ops+1<=1000000000000):E 347 #[↑c.k] w (BOk w c (bnS c.F s ⟨1,x,m,g⟩)):=by
 refine aiV ?_;intro HI HN e0 Ot x1;have O:=qh (λW s b (k:BnT w W c s b) (e:b=⟨1,x,m,g⟩)=>show W.cell? c.k=some ↑c.a/\W.cell? ⟨c.k,4,none⟩=some (J x)from by subst e;exact⟨k.is.ca,k.is.cx⟩);have HO:=qh (λW (k:BnT w W c s ⟨1,x,m,g⟩)=>an k.is.ar ((c.F:Int)+1+x) 0 V);have HF:=qh (λW (k:BnT w W c s ⟨1,x,m,g⟩)=>jP k.is x ahB);have H:=qh (BnT.new h).drew;clear h;go_enter func347,ntmps347;go_wp2_with fail
 go_region_held3 (λW=>W.cell? c.k=some ↑c.a/\Z W c.k 4 (J x))
  (first|with_reducible exact O.o _ _ _ H.o rfl|with_reducible exact O.o _ _ _ I.o rfl)
  (first
   |(go_at_call 350;go_loud (refine LT (HF.o _ H.o) ?_))
   |(go_at_call 177;go_loud (refine(HO.o _ H.o).mono ?_);rintro en w3 ⟨rfl,a3,Y⟩;have I:=qh (H.o.op Y a3);skip;clear a3 Y))
 have e3:=I.o.is.cs;have z3:=I.o.is.blk.free 3;go_wp2;go_ret;exact⟨rfl,I.o.put (b':=⟨2,x,m,g⟩) 3 rfl aia⟩
def Dx{g:Int}(h:BnA w c s ⟨2,x,m,g⟩)(V:s.ops+1<=1000000000000)(KI:0<=ldW s.W ((c.F:Int)+1)/\ldW s.W ((c.F:Int)+1)<=c.n):E 347 #[↑c.k] w (BOk w c (bnS c.F s ⟨2,x,m,g⟩)):=by
 refine aiV ?_;intro HI HN e0 Ot x1;have HC:=qh (λW s m (k:BnT w W c s ⟨2,x,m,g⟩)=>show W.cell? c.k=some ↑c.a/\W.cell? ⟨c.k,1,none⟩=some (J c.F)from by exact⟨k.is.ca,k.is.cF⟩);have HO:=qh (λW (k:BnT w W c s ⟨2,x,m,g⟩)=>aD k.is.ar ((c.F:Int)+1) V);have HF:=qh (λW (k:BnT w W c s ⟨2,x,m,g⟩)=>jP k.is x ahB);have K1:=qh (BnT.new h).drew;obtain⟨v,O⟩:=LE (ldW s.W ((c.F:Int)+1));have HX:Kq (bnS c.F s ⟨2,x,m,g⟩=(af s ((c.F:Int)+1),⟨3,x,v,g⟩,false)):=qh (by rw[O];rfl);rw[<-O]at KI HO;have HV:=qh KI;clear h O KI;go_enter func347,ntmps347;go_wp2_with fail
 go_region_held3 (λW=>W.cell? c.k=some ↑c.a/\Z W c.k 1 (J c.F))
  (first|with_reducible exact HC.o _ _ _ K1.o|with_reducible exact HC.o _ _ _ H.o|with_reducible exact Lf.o)
  (first
   |(go_at_call 173;go_loud (refine(HO.o _ K1.o).mono ?_);rintro en w3 ⟨rfl,a3,Y⟩;have H:=qh (K1.o.op Y a3);have I:=qh (H.o.put (b':=⟨2,x,v,g⟩) (v:= J v) 5 rfl ah0);have Lf:=qh (HC.o _ _ _ I.o);have e1:=H.o.is.blk.cell 5;have z1:=H.o.is.blk.free 5;clear a3 Y))
 have e3:=I.o.is.cs;have z3:=I.o.is.blk.free 3;go_wp2;go_ret;rw[HX.o];exact⟨rfl,I.o.put (b':=⟨3,x,v,g⟩) 3 rfl ah0⟩
def Az{g:Int}(h:BnA w c s ⟨3,x,m,g⟩)(V:s.ops+1<=1000000000000)(hm:m≠0):E 347 #[↑c.k] w (BOk w c (bnS c.F s ⟨3,x,m,g⟩)):=by
 refine aiV ?_;intro HI HN e0 Ot x1;refine ake ?_;intro HC;have HO:=qh (λW (k:BnT w W c s ⟨3,x,m,g⟩)=>an k.is.ar ((c.F:Int)+1+m) x V);have H:=qh (λW (k:BnT w W c s ⟨3,x,m,g⟩)=>jP k.is m ahB);have K1:=qh (BnT.new h).drew;have I:=qh h;have e4:=h.cm;have e5:=h.cF;have HX:Kq (bnS c.F s ⟨3,x,m,g⟩=(ae s ((c.F:Int)+1+m) x,⟨4,x,m,g⟩,false)):=qh (by show(ae s (if m≠0 then _ else _) x,_,_)=_;rw[if_pos hm]);have O:(m !=0)=true:=by simp[hm]
 clear h hm;go_enter func347,ntmps347;go_wp2_with fail;refine LT (H.o _ (BnT.new I.o)) ?_;exact aan
def Ay{g:Int}(h:BnA w c s ⟨3,x,m,g⟩)(V:s.ops+1<=1000000000000)(hm:m=0):E 347 #[↑c.k] w (BOk w c (bnS c.F s ⟨3,x,m,g⟩)):=by
 refine aiV ?_;intro HI HN e0 Ot x1;refine ake ?_;intro HC;have HO:=qh (λW (k:BnT w W c s ⟨3,x,m,g⟩)=>an k.is.ar (c.F) x V);have H:=qh (λW (k:BnT w W c s ⟨3,x,m,g⟩)=>jP k.is x ahB);have K1:=qh (BnT.new h).drew;have e4:=h.cm;have e5:=h.cF;have HX:Kq (bnS c.F s ⟨3,x,m,g⟩=(ae s (c.F) x,⟨4,x,m,g⟩,false)):=qh (by show(ae s (if m≠0 then _ else _) x,_,_)=_;rw[if_neg (by simp[hm])]);have I:(m !=0)=false:=by simp[hm]
 clear h hm;go_enter func347,ntmps347;exact aan
def Dy{g:Int}(h:BnA w c s ⟨4,x,m,g⟩)(V:s.ops+1<=1000000000000):E 347 #[↑c.k] w (BOk w c (bnS c.F s ⟨4,x,m,g⟩)):=by
 refine aiV ?_;intro HI HN e0 Ot x1;have I:=qh (λW s b (k:BnT w W c s b) (e:b=⟨4,x,m,g⟩)=>show W.cell? c.k=some ↑c.a/\Z W c.k 1 (J c.F)/\W.cell? ⟨c.k,4,none⟩=some (J x)from by subst e;exact⟨k.is.ca,⟨k.is.cF,k.is.cx⟩⟩);have HO:=qh (λW (k:BnT w W c s ⟨4,x,m,g⟩)=>an k.is.ar ((c.F:Int)+1) x V);have HF:=qh (λW (k:BnT w W c s ⟨4,x,m,g⟩)=>jP k.is x ahB);have H:=qh (BnT.new h).drew;clear h;go_enter func347,ntmps347;go_wp2_with fail
 go_region_held3 (λW=>W.cell? c.k=some ↑c.a/\Z W c.k 1 (J c.F)/\Z W c.k 4 (J x))
  (first|with_reducible exact I.o _ _ _ H.o rfl|with_reducible exact I.o _ _ _ O.o rfl)
  (first
   |(go_at_call 177;go_loud (refine(HO.o _ H.o).mono ?_);rintro en w3 ⟨rfl,a3,Y⟩;have O:=qh (H.o.op Y a3);skip;clear a3 Y))
 go_wp2_with fail;refine Op (xR O.o) λw4 K4=>?_;go_wp2;go_ret;exact⟨rfl,K4.o.is,K4.o.tn⟩
def yr{g:Int}(h:BnA w c s ⟨5,x,m,g⟩)(V:s.ops+1<=1000000000000)(KI:0<=ldW s.W (c.F)/\ldW s.W (c.F)<=c.n)(h5:(ldW s.W c.F==0)=true):E 348 #[↑c.k] w (BOk w c (bnS c.F s ⟨5,x,m,g⟩)):=by
 refine aiV ?_;intro HI HN e0 Ot x1;refine ajo ?_;intro HC HO HF K1 v O;have HX:Kq (bnS c.F s ⟨5,x,m,g⟩=(af s c.F,⟨0,0,m,0⟩,true)):=qh (by subst O;simp[bnS,(by simpa using h5:ldW s.W c.F=0)]);rw[<-O]at KI HO h5;have HV:=qh KI;have HZ:=qh h5;clear h O KI;go_enter func348,ntmps348;go_wp2_with fail
 go_region_held3 (λW=>W.cell? c.k=some ↑c.a/\Z W c.k 1 (J c.F))
  (first|with_reducible exact HC.o _ _ _ K1.o|with_reducible exact HC.o _ _ _ I.o|with_reducible exact Lf.o)
  (first
   |(go_at_call 173;go_loud (refine(HO.o _ K1.o).mono ?_);rintro en w3 ⟨rfl,a3,Y⟩;have I:=qh (K1.o.op Y a3);have H:=qh (I.o.put (b':=⟨5,v,m,g⟩) (v:= J v) 4 rfl ah0);have Lf:=qh (HC.o _ _ _ H.o);have e1:=I.o.is.blk.cell 4;have z1:=I.o.is.blk.free 4;clear a3 Y))
 have e6:=H.o.is.cx;have e8:=H.o.is.cg;have z6:=H.o.is.blk.free 6;go_wp2_with fail;refine Op (xR (H.o.put (b':=⟨5,v,m,0⟩) 6 rfl ah0)) λw4 K4=>?_;go_wp2;go_ret;rw[HX.o];have hz:v=0:=by simpa using HZ.o
 subst hz;exact⟨rfl,K4.o.is,K4.o.tn⟩
def yq{g:Int}(h:BnA w c s ⟨5,x,m,g⟩)(V:s.ops+1<=1000000000000)(KI:0<=ldW s.W (c.F)/\ldW s.W (c.F)<=c.n)(h5:(ldW s.W c.F==0)=false):E 348 #[↑c.k] w (BOk w c (bnS c.F s ⟨5,x,m,g⟩)):=by
 refine aiV ?_;intro HI HN e0 Ot x1;refine ajo ?_;intro HC HO HF K1 v O;have HX:Kq (bnS c.F s ⟨5,x,m,g⟩=(af s c.F,⟨6,v,m,g⟩,false)):=qh (by subst O;simp[bnS,(by simpa using h5:¬ldW s.W c.F=0)]);rw[<-O]at KI HO h5;have HV:=qh KI;clear h O KI;go_enter func348,ntmps348;go_wp2_with fail
 go_region_held3 (λW=>W.cell? c.k=some ↑c.a/\Z W c.k 1 (J c.F))
  (first|with_reducible exact HC.o _ _ _ K1.o|with_reducible exact HC.o _ _ _ I.o|with_reducible exact Lf.o)
  (first
   |(go_at_call 173;go_loud (refine(HO.o _ K1.o).mono ?_);rintro en w3 ⟨rfl,a3,Y⟩;have I:=qh (K1.o.op Y a3);have H:=qh (I.o.put (b':=⟨5,v,m,g⟩) (v:= J v) 4 rfl ah0);have Lf:=qh (HC.o _ _ _ H.o);have e1:=I.o.is.blk.cell 4;have z1:=I.o.is.blk.free 4;clear a3 Y))
 have e6:=H.o.is.cx;have e3:=H.o.is.cs;have z3:=H.o.is.blk.free 3;go_wp2;go_ret;rw[HX.o];exact⟨rfl,H.o.put (b':=⟨6,v,m,g⟩) 3 rfl ah0⟩
def AA{g:Int}(h:BnA w c s ⟨6,x,m,g⟩)(V:s.ops+1<=1000000000000)(KI:0<=ldW s.W ((c.F:Int)+1+x)/\ldW s.W ((c.F:Int)+1+x)<=c.n):E 348 #[↑c.k] w (BOk w c (bnS c.F s ⟨6,x,m,g⟩)):=by
 refine aiV ?_;intro HI HN e0 Ot x1;have HC:=qh (λW s m (k:BnT w W c s ⟨6,x,m,g⟩)=>show W.cell? c.k=some ↑c.a/\W.cell? ⟨c.k,4,none⟩=some (J x)from by exact⟨k.is.ca,k.is.cx⟩);have HO:=qh (λW (k:BnT w W c s ⟨6,x,m,g⟩)=>aD k.is.ar ((c.F:Int)+1+x) V);have HF:=qh (λW (k:BnT w W c s ⟨6,x,m,g⟩)=>jP k.is x ahB);have H:=qh (BnT.new h).drew;obtain⟨v,O⟩:=LE (ldW s.W ((c.F:Int)+1+x));have HX:Kq (bnS c.F s ⟨6,x,m,g⟩=(af s ((c.F:Int)+1+x),⟨7,x,v,g⟩,false)):=qh (by rw[O];rfl);rw[<-O]at KI HO;have HV:=qh KI;clear h O KI;go_enter func348,ntmps348;go_wp2_with fail
 go_region_held3 (λW=>W.cell? c.k=some ↑c.a/\Z W c.k 4 (J x))
  (first|with_reducible exact HC.o _ _ _ H.o|with_reducible exact HC.o _ _ _ I.o|with_reducible exact Lf.o)
  (first
   |(go_at_call 350;go_loud (refine LT (HF.o _ H.o) ?_))
   |(go_at_call 173;go_loud (refine(HO.o _ H.o).mono ?_);rintro en w3 ⟨rfl,a3,Y⟩;have I:=qh (H.o.op Y a3);have K3:=qh (I.o.put (b':=⟨6,x,v,g⟩) (v:= J v) 5 rfl ah0);have Lf:=qh (HC.o _ _ _ K3.o);have e1:=I.o.is.blk.cell 5;have z1:=I.o.is.blk.free 5;clear a3 Y))
 have e3:=K3.o.is.cs;have z3:=K3.o.is.blk.free 3;go_wp2;go_ret;rw[HX.o];exact⟨rfl,K3.o.put (b':=⟨7,x,v,g⟩) 3 rfl ah0⟩
def yu{g:Int}(h:BnA w c s ⟨7,x,m,g⟩)(V:s.ops+1<=1000000000000)(hm:m≠0):E 348 #[↑c.k] w (BOk w c (bnS c.F s ⟨7,x,m,g⟩)):=by
 refine aiV ?_;intro HI HN e0 Ot x1;refine ajk ?_;intro HC HO HF K1;have HX:Kq (bnS c.F s ⟨7,x,m,g⟩=(ae s c.F m,⟨0,x,m,x⟩,true)):=qh (by simp[bnS,hm]);have t5:(m !=0)=true:=by simp[hm]
 clear h hm;go_enter func348,ntmps348;go_wp2_with fail
 go_region_held3 (λW=>W.cell? c.k=some ↑c.a/\Z W c.k 1 (J c.F)/\Z W c.k 5 (J m))
  (first|with_reducible exact HC.o _ _ _ K1.o rfl|with_reducible exact HC.o _ _ _ H.o rfl)
  (first
   |(go_at_call 177;go_loud (refine(HO.o _ K1.o).mono ?_);rintro en w3 ⟨rfl,O,Y⟩;have H:=qh (K1.o.op Y O);skip;clear O Y))
 have e6:=H.o.is.cm;have e7:=H.o.is.cx;have e8:=H.o.is.cg;have z6:=H.o.is.blk.free 6;go_wp2_with fail;refine Op (xR (H.o.put (b':=⟨7,x,m,x⟩) 6 rfl aia)) λw4 I=>?_;go_wp2;go_ret;rw[HX.o];exact⟨rfl,I.o.is,I.o.tn⟩
def yt{g:Int}(h:BnA w c s ⟨7,x,m,g⟩)(V:s.ops+1<=1000000000000)(hm:m=0):E 348 #[↑c.k] w (BOk w c (bnS c.F s ⟨7,x,m,g⟩)):=by
 refine aiV ?_;intro HI HN e0 Ot x1;refine ajk ?_;intro HC HO HF K1;have HX:Kq (bnS c.F s ⟨7,x,m,g⟩=(ae s c.F m,⟨8,x,m,g⟩,false)):=qh (by simp[bnS,hm]);have t5:(m !=0)=false:=by simp[hm]
 clear h hm;go_enter func348,ntmps348;go_wp2_with fail
 go_region_held3 (λW=>W.cell? c.k=some ↑c.a/\Z W c.k 1 (J c.F)/\Z W c.k 5 (J m))
  (first|with_reducible exact HC.o _ _ _ K1.o rfl|with_reducible exact HC.o _ _ _ H.o rfl)
  (first
   |(go_at_call 177;go_loud (refine(HO.o _ K1.o).mono ?_);rintro en w3 ⟨rfl,I,Y⟩;have H:=qh (K1.o.op Y I);skip;clear I Y))
 have O:=H.o.is.cm;have e3:=H.o.is.cs;have z3:=H.o.is.blk.free 3;go_wp2;go_ret;rw[HX.o];exact⟨rfl,H.o.put (b':=⟨8,x,m,g⟩) 3 rfl aia⟩
def AB{g:Int}(h:BnA w c s ⟨8,x,m,g⟩)(V:s.ops+1<=1000000000000):E 348 #[↑c.k] w (BOk w c (bnS c.F s ⟨8,x,m,g⟩)):=by
 refine aiV ?_;intro HI HN e0 Ot x1;have O:=qh (λW s b (k:BnT w W c s b) (e:b=⟨8,x,m,g⟩)=>show W.cell? c.k=some ↑c.a/\W.cell? ⟨c.k,1,none⟩=some (J c.F)from by subst e;exact⟨k.is.ca,k.is.cF⟩);have HO:=qh (λW (k:BnT w W c s ⟨8,x,m,g⟩)=>an k.is.ar ((c.F:Int)+1) 0 V);have HF:=qh (λW (k:BnT w W c s ⟨8,x,m,g⟩)=>jP k.is x ahB);have I:=qh (BnT.new h).drew;clear h;go_enter func348,ntmps348;go_wp2_with fail
 go_region_held3 (λW=>W.cell? c.k=some ↑c.a/\Z W c.k 1 (J c.F))
  (first|with_reducible exact O.o _ _ _ I.o rfl|with_reducible exact O.o _ _ _ H.o rfl)
  (first
   |(go_at_call 177;go_loud (refine(HO.o _ I.o).mono ?_);rintro en w3 ⟨rfl,a3,Y⟩;have H:=qh (I.o.op Y a3);skip;clear a3 Y))
 have e7:=H.o.is.cx;have e8:=H.o.is.cg;have z6:=H.o.is.blk.free 6;go_wp2_with fail;refine Op (xR (H.o.put (b':=⟨8,x,m,x⟩) 6 rfl aia)) λw4 K4=>?_;go_wp2;go_ret;exact⟨rfl,K4.o.is,K4.o.tn⟩
def Dp(n:Nat)(F:Int)(W:List Int):Prop:=∀y,F<=y->0<=ldW W y/\ldW W y<=n
def Fm(h:BnA w c s b)(hw:Dp c.n c.F s.W)(V:s.ops+1<=1000000000000):E 342 #[↑c.k] w (BOk w c (bnS c.F s b)):=by
 obtain⟨st,x,m,g⟩:=b;have HB:=qh h;have hs:=h.ix.2.2.2;have hx:=h.ix.1;simp only at hs hx;have e0:=h.cs;by_cases h0:st=0;.subst h0;have HX:Kq (bnS c.F s ⟨0,x,m,g⟩=(s,⟨0,x,m,g⟩,false)):=qh rfl;have H:=qh (BnT.new h);clear h hw;go_enter func342,ntmps342;go_wp2_with fail;refine LT (AC H.o.is false rfl) ?_;go_wp2;go_ret;rw[HX.o];exact⟨rfl,H.o⟩
 have hM:Calls prog (if st<=4 then 347 else 348) #[↑c.k] w (BOk w c (bnS c.F s ⟨st,x,m,g⟩)):=by
  have O:∀y,(c.F:Int)<=y->0<=ldW s.W y/\ldW s.W y<=c.n:=hw;have:st=1\/st=2\/st=3\/st=4\/st=5\/st=6\/st=7\/st=8:=by omega
  rcases this with rfl|rfl|rfl|rfl|rfl|rfl|rfl|rfl
  .exact Dw h V
  .exact Dx h V (O _ ahB)
  .by_cases hm:m=0;.exact Ay h V hm
   .exact Az h V hm
  .exact Dy h V
  .by_cases hm:ldW s.W c.F=0;.exact yr h V (O _ ahB) (by simp[hm])
   .exact yq h V (O _ ahB) (by simp[hm])
  .exact AA h V (O _ ahB)
  .by_cases hm:m=0;.exact yt h V hm
   .exact yu h V hm
  .exact AB h V
 have HM:=qh hM;have t0:(st !=0)=true:=by simp[h0]
 have H:=qh (BnT.new h);clear h hw hM;obtain⟨r,I⟩:=LE (bnS c.F s ⟨st,x,m,g⟩);rw[<-I]at HM ⊢;clear I;have:st=1\/st=2\/st=3\/st=4\/(4<st):=by omega
 rcases this with rfl|rfl|rfl|rfl|h4
 all_goals
  try have t1:(st==1)=false:=(by simp;omega);have t2:(st==2)=false:=(by simp;omega);have Y:(st==3)=false:=(by simp;omega);have t4:(st==4)=false:=(by simp;omega);rw[if_neg ahB]at HM
  go_enter func342,ntmps342;go_wp2_with fail;refine LT (AC H.o.is true (by first|rfl|exact t0)) ?_;go_wp2_with fail;refine Op HM.o λw2 K2=>?_;go_wp2;go_ret;exact⟨rfl,K2.o⟩
end
end
section
open Go.RowKit
structure Mx where
 l:Nat
 q:Nat
 b:Bx
def mS(c:Mx):List Nat:=[c.l,c.q,c.b.k,c.b.a,c.b.g]
structure bQ(w:World)(c:Mx)(bud:Int)(h:Mal):Prop where
 bn:BnA w c.b h.ar h.bn
 lk:Blk w c.l 269 #[↑c.b.a,int i64 1,int i64 bud,↑c.b.k,int i64 h.d,slice (some ⟨c.q,0,none⟩) c.b.n c.b.n]
 sp:dD w c.q h.S
 sl:h.S.length=c.b.n
 nd:(mS c).Nodup
 bb:0<=bud/\bud<=1000
structure MaT(w0 w:World)(c:Mx)(bud:Int)(h:Mal):Prop where
 is:bQ w c bud h
 tn:aa (mS c) w0 w
section
variable{c:Mx}{h:Mal}
def bQ.ca(k:bQ w c bud h):w.cell? c.l=some ↑c.b.a:=k.lk.cell 0
def bQ.ct(k:bQ w c bud h):Z w c.l 1 (J 1):=k.lk.cell 1
def bQ.cb(k:bQ w c bud h):Z w c.l 2 (J bud):=k.lk.cell 2
def bQ.ck(k:bQ w c bud h):Z w c.l 3 ↑c.b.k:=k.lk.cell 3
def bQ.cd(k:bQ w c bud h):Z w c.l 4 (J h.d):=k.lk.cell 4
def bQ.cq(k:bQ w c bud h):Z w c.l 5 (slice (some ⟨c.q,0,none⟩) c.b.n c.b.n):=k.lk.cell 5
def bQ.below(k:bQ w c bud h)(t:Below w.heap.size w w'):bQ w' c bud h:=
 have t0:=aa.of_below (S:=[]) t
 {k with bn:=k.bn.turns t0 ahC ahC ahC,lk:=t0.blk k.lk ahC,sp:=k.sp.turns t0 ahC}
def bQ.ne(k:bQ w c bud h):(c.l≠c.q/\c.l≠c.b.k/\c.l≠c.b.a/\c.l≠c.b.g)/\c.q≠c.b.k/\c.q≠c.b.a/\c.q≠c.b.g:=by have:=k.nd;unfold mS at this;simp at this;omega
def MaT.new(k:bQ w c bud h):MaT w w c bud h:=⟨k,aa.refl _ _⟩
def MaT.below(k:MaT w0 w c bud h)(t:Below w.heap.size w w'):MaT w0 w' c bud h:=⟨k.is.below t,k.tn.trans (aa.of_below t)⟩
def MaT.drew(k:MaT w0 w c bud h):MaT w0 w.drew c bud h:=k.below (Below.refl _ _).drew
def MaT.bn(k:MaT w0 w c bud h){s':Ar}{b':Bn}(t:aa [c.b.a,c.b.g,c.b.k] w w')(hb:BnA w' c.b s' b'):MaT w0 w' c bud {h with ar:=s',bn:=b'}:=by have H:=k.is.ne;exact⟨{k.is with bn:=hb,lk:=t.blk k.is.lk ahG,sp:=k.is.sp.turns t ahG},k.tn.trans (t.mono (by unfold mS;simp))⟩
def MaT.op(k:MaT w0 w c bud h){s':Ar}(t:aa [c.b.a,c.b.g] w w')(H:aB w' c.b.a c.b.g s'):MaT w0 w' c bud {h with ar:=s'}:=k.bn (t.mono ahC) (k.is.bn.op t H)
def yb{l:Nat}(w:World)(i:Nat)(v:Value):aa [l] w (w.setCell ⟨l,i,none⟩ v):=(aa.refl _ _).setCell (.inl ahC) _
def MaT.sput(k:MaT w0 w c bud h){p p':Sp}(O:h.S[i]? =some p){j:Nat}(I:j<4)(H:(bi p).set j v=bi p'):MaT w0 (w.setCell ⟨c.q,i*4+j,none⟩ v) c bud {h with S:=h.S.set i p'}:=by have V:=k.is.ne;have t:=yb (l:=c.q) w (i*4+j) v;exact⟨{k.is with bn:=k.is.bn.turns t ahG ahG ahG,lk:=t.blk k.is.lk ahG,sp:=k.is.sp.put O I H,sl:=by simp[k.is.sl]},k.tn.trans (t.mono (by unfold mS;simp))⟩
def MaT.dput(k:MaT w0 w c bud h)(d':Int):MaT w0 (w.setCell ⟨c.l,4,none⟩ (J d')) c bud {h with d:=d'}:=by have H:=k.is.ne;have t:=yb (l:=c.l) w 4 (J d');exact⟨{k.is with bn:=k.is.bn.turns t ahG ahG ahG,lk:=k.is.lk.set_ 4 _,sp:=k.is.sp.turns t ahG},k.tn.trans (t.mono (by unfold mS;simp))⟩
def i4(k:bQ w c bud h)(x:Int)(H:0<=x/\x<=40):E 339 #[↑c.l,J x] w λe w'=>e= returned (J (1+2*x))/\w=w':=by have c1:=k.ct;obtain⟨I,h1⟩:=H;refine akm ?_;intro x1 x2 x3;clear k;go_enter func339,ntmps339;exact aao
def qM(k:bQ w c bud h)(x:Int)(H:0<=x/\x<=40):E 340 #[↑c.l,J x] w λe w'=>e= returned (J (2+2*x))/\w=w':=by have c1:=k.ct;obtain⟨I,h1⟩:=H;refine akm ?_;intro x1 x2 x3;clear k;go_enter func340,ntmps340;exact aao
def pJ(k:bQ w c bud h):E 334 #[↑c.l] w λe w'=>e= returned (J c.b.n)/\w=w':=by have c1:=k.cq;clear k;go_enter func334,ntmps334;exact aaa
def rW{S:List Sp}{n:Nat}(H:S.length=n)(hi:i<n):S[i]? =some (sv S i):=by unfold sv;rw[List.getD_eq_getElem?_getD,List.getElem?_eq_getElem ahB];rfl
def C0(k:bQ w c bud h)(i:Nat)(hi:i<c.b.n):E 332 #[↑c.l,J i] w λe w'=>e= returned (aF (sv h.S i))/\Below w.heap.size w w':=by
 have hp:=rW k.sl hi;obtain⟨p,I⟩:=LE (sv h.S i);rw[<-I]at hp ⊢;have c2:=k.cq;refine aj5 ?_;intro a0 a1 a2 a3;have hn:=k.bn.bd.2;have O:=k.lk.lt;have V:=k.sp.lt;have t2:¬(i:Int)<0:=by omega
 have Y:¬((c.b.n:Nat):Int)<=(i:Int):=by omega
 have H:=qh (k.below ((Below.refl _ _).alloc (Nat.le_refl _) (cells #[J 0,J 0,J 0,J 0] 113)));clear k hp I;go_enter func332,ntmps332;go_wp2_with (go_at_call 334;refine(pJ H.o).mono ?_;rintro e w' ⟨rfl,rfl⟩);exact bodyPost_ret (results_cell_row ahF _ _ w.heap.size 113 _ (0,0) _ ahF (heap_alloc_new w _) Tryz.underlying113 rfl ahE) rfl ⟨rfl,(Below.refl _ _).alloc (Nat.le_refl _) _⟩
def io(h:Mal)(i:Nat)(u v:Int):Mal:=if (sv h.S i).pc=u then {h with S:=h.S.set i {sv h.S i with pc:=v}} else h
def MOk(w:World)(c:Mx)(bud:Int)(x:Mal×Bool)(e:Ending)(w':World):Prop:=e= returned (.bool x.2)/\MaT w w' c bud x.1
def Ax(k:bQ w c bud h)(i:Nat)(hi:i<c.b.n)(u v:Int):E 335 #[↑c.l,J i,J u,J v] w (MOk w c bud (io h i u v,decide ((sv h.S i).pc=u))):=by
 have O:=rW k.sl hi;obtain⟨p,V⟩:=LE (sv h.S i);have HX:=qh (show io h i u v=if p.pc=u then {h with S:=h.S.set i {p with pc:=v}} else h from by unfold io;rw[V]);rw[<-V]at O ⊢;have c2:=k.cq;have a0:=ST (k.sp.cell O 0 _ rfl);have f0:=k.sp.free (i*4);have hn:=k.bn.bd.2;have t2:¬(i:Int)<0:=by omega
 have Y:¬((c.b.n:Nat):Int)<=(i:Int):=by omega
 have H:=qh (And.intro k O);clear k O V;cases hc:(p.pc !=u)
 .have e:p.pc=u:=by simpa using hc
  have I:=qh e;clear e;go_enter func335,ntmps335;go_wp2_with (go_at_call 334;refine(pJ H.o.1).mono ?_;rintro e w' ⟨rfl,rfl⟩);go_ret;rw[HX.o,if_pos I.o];exact⟨az (decide_eq_true I.o).symm,(MaT.new H.o.1).sput H.o.2 (j:=0) (v:= J v) (p':={p with pc:=v}) ahD rfl⟩
 .have e:¬p.pc=u:=by simpa using hc
  have I:=qh e;clear e;go_enter func335,ntmps335;go_wp2_with (go_at_call 334;refine(pJ H.o.1).mono ?_;rintro e w' ⟨rfl,rfl⟩);go_ret;rw[HX.o,if_neg I.o];exact⟨az (decide_eq_false I.o).symm,MaT.new H.o.1⟩
def JL(k:bQ w c bud h)(i:Nat)(hi:i<c.b.n):E 330 #[↑c.l,J i] w (MOk w c bud (io h i 0 1,decide ((sv h.S i).pc=0))):=by obtain⟨x,O⟩:=LE ((io h i 0 1,decide ((sv h.S i).pc=0)));have I:=Ax k i hi 0 1;rw[<-O]at I ⊢;have H:=qh I;obtain⟨V,Y⟩:=x;clear k O I;go_enter func330,ntmps330;exact aap
def Ge(k:bQ w c bud h)(i:Nat)(hi:i<c.b.n):E 331 #[↑c.l,J i] w (MOk w c bud (io h i 10 11,decide ((sv h.S i).pc=10))):=by obtain⟨x,O⟩:=LE ((io h i 10 11,decide ((sv h.S i).pc=10)));have I:=Ax k i hi 10 11;rw[<-O]at I ⊢;have H:=qh I;obtain⟨V,Y⟩:=x;clear k O I;go_enter func331,ntmps331;exact aap
end
end
section
open Go.RowKit
variable{p:Sp}{Q:Prop}
section
variable{c:Mx}{h:Mal}
def fM(w:World)(c:Mx)(bud:Int)(h:Mal)(i:Nat)(p:Sp)(r:Ar×Bn×Int×Sp)(e:Ending)(w':World):Prop:=
 e= returned (J r.2.2.2.pc)/\MaT w w' c bud ⟨r.1,r.2.1,r.2.2.1,h.S.set i {r.2.2.2 with pc:=p.pc}⟩
def MaT.samS{H:Ar}{b':Bn}{d':Int}(k:MaT w0 w c bud ⟨H,b',d',h.S⟩)(I:h.S[i]? =some p):MaT w0 w c bud ⟨H,b',d',h.S.set i p⟩:=by rw[cj I];exact k
def bQ.cs(k:bQ w c bud h)(H:h.S[i]? =some p):w.cell? c.l=some ↑c.b.a/\Z w c.l 1 (J 1)/\Z w c.l 2 (J bud)/\Z w c.l 4 (J h.d)/\Z w c.q (i*4+1) (J p.a)/\Z w c.q (i*4+2) (J p.b)/\Z w c.q (i*4+3) (J p.c):=⟨k.ca,k.ct,k.cb,k.cd,k.sp.cell H 1 _ rfl,k.sp.cell H 2 _ rfl,k.sp.cell H 3 _ rfl⟩
def maN(h_:Q:=by
    have e0:=ST (k.sp.cell hp 0 _ rfl)
    have HP:=qh hp
    have K1:=qh (MaT.new k).drew
    clear k hp
    first
      | go_enter func336,ntmps336
      | go_enter func337,ntmps337
      | go_enter func338,ntmps338
    go_wp2_with fail
    go_region_held3 (λW=>W.cell? c.l=some ↑c.b.a/\Z W c.l 1 (J 1)/\Z W c.l 2 (J bud)/\Z W c.l 4 (J h.d)/\Z W c.q (i*4+1) (J a)/\Z W c.q (i*4+2) (J b)/\Z W c.q (i*4+3) (J z))
      (first|(have q:=K1.o.is.cs HP.o;exact⟨q.1,q.2.1,q.2.2.1,q.2.2.2.1,q.2.2.2.2.1,q.2.2.2.2.2.1,q.2.2.2.2.2.2⟩)|(have q:=K2.o.is.cs HP.o;exact⟨q.1,q.2.1,q.2.2.1,q.2.2.2.1,q.2.2.2.2.1,q.2.2.2.2.2.1,q.2.2.2.2.2.2⟩))
      (first
        | (go_at_call 339;go_loud (refine LT (HF.o _ K1.o) ?_))
        | (go_at_call 340;go_loud (refine LT (HF.o _ K1.o) ?_))
        | (go_at_call 177;go_loud (refine Op (HO.o _ K1.o) λw3 a3=>?_);have K2:=qh (K1.o.op a3.o.2 a3.o.1))
        | (go_at_call 173;go_loud (refine Op (HO.o _ K1.o) λw3 a3=>?_);have K2:=qh (K1.o.op a3.o.2 a3.o.1))
        | (go_at_call 272;go_loud (refine Op (HO.o _ K1.o) λw3 a3=>?_);have K2:=qh (K1.o.op a3.o.2 a3.o.1)))
    have e3:=ST (K2.o.is.sp.cell HP.o 0 _ rfl)
    go_wp2
    go_ret
    rw[HX.o]
    exact⟨rfl,K2.o.samS HP.o⟩):Q:=h_
def maA(h_:Q:=by
    have e0:=ST (k.sp.cell hp 0 _ rfl)
    have HP:=qh hp
    have K1:=qh (MaT.new k).drew
    clear k hp
    first
      | go_enter func336,ntmps336
      | go_enter func337,ntmps337
      | go_enter func338,ntmps338
    go_wp2_with fail
    go_region_held3 (λW=>W.cell? c.l=some ↑c.b.a/\Z W c.l 1 (J 1)/\Z W c.l 2 (J bud)/\Z W c.l 4 (J h.d)/\Z W c.q (i*4+2) (J b)/\Z W c.q (i*4+3) (J z))
      (first|(have q:=K1.o.is.cs HP.o;exact⟨q.1,q.2.1,q.2.2.1,q.2.2.2.1,q.2.2.2.2.2.1,q.2.2.2.2.2.2⟩)|(have q:=K2.o.is.cs HP.o;exact⟨q.1,q.2.1,q.2.2.1,q.2.2.2.1,q.2.2.2.2.2.1,q.2.2.2.2.2.2⟩)|(have q:=K3.o.is.cs (au HP.o _);exact⟨q.1,q.2.1,q.2.2.1,q.2.2.2.1,q.2.2.2.2.2.1,q.2.2.2.2.2.2⟩))
      (first
        | (go_at_call 339;go_loud (refine LT (HF.o _ K1.o) ?_))
        | (go_at_call 340;go_loud (refine LT (HF.o _ K1.o) ?_))
        | (go_at_call 271;go_loud (refine Op (HO.o _ K1.o) λw3 a3=>?_);have K2:=qh (K1.o.op a3.o.2 a3.o.1);have K3:=qh (HJ.o _ _ K2.o);have e1:=K2.o.is.sp.cell HP.o 1 _ rfl;have z1:=K2.o.is.sp.free (i*4+1))
        | (go_at_call 173;go_loud (refine Op (HO.o _ K1.o) λw3 a3=>?_);have K2:=qh (K1.o.op a3.o.2 a3.o.1);have K3:=qh (HJ.o _ _ K2.o);have e1:=K2.o.is.sp.cell HP.o 1 _ rfl;have z1:=K2.o.is.sp.free (i*4+1))
        | (go_at_call 298;go_loud (refine Op (HO.o _ K1.o) λw3 a3=>?_);have K2:=qh (K1.o.op a3.o.2 a3.o.1);have K3:=qh (HJ.o _ _ K2.o);have e1:=K2.o.is.sp.cell HP.o 1 _ rfl;have z1:=K2.o.is.sp.free (i*4+1)))
    have e3:=ST (K3.o.is.sp.cell (au HP.o _) 0 _ rfl)
    go_wp2
    go_ret
    rw[HX.o]
    exact⟨rfl,K3.o⟩):Q:=h_
def maZ(h_:Q:=by
    have e0:=ST (k.sp.cell hp 0 _ rfl)
    have HP:=qh hp
    have K1:=qh (MaT.new k).drew
    clear k hp
    first
      | go_enter func336,ntmps336
      | go_enter func337,ntmps337
      | go_enter func338,ntmps338
    go_wp2_with fail
    go_region_held3 (λW=>W.cell? c.l=some ↑c.b.a/\Z W c.l 1 (J 1)/\Z W c.l 2 (J bud)/\Z W c.l 4 (J h.d)/\Z W c.q (i*4+1) (J a)/\Z W c.q (i*4+2) (J b))
      (first|(have q:=K1.o.is.cs HP.o;exact⟨q.1,q.2.1,q.2.2.1,q.2.2.2.1,q.2.2.2.2.1,q.2.2.2.2.2.1⟩)|(have q:=K2.o.is.cs HP.o;exact⟨q.1,q.2.1,q.2.2.1,q.2.2.2.1,q.2.2.2.2.1,q.2.2.2.2.2.1⟩)|(have q:=K3.o.is.cs (au HP.o _);exact⟨q.1,q.2.1,q.2.2.1,q.2.2.2.1,q.2.2.2.2.1,q.2.2.2.2.2.1⟩))
      (first
        | (go_at_call 339;go_loud (refine LT (HF.o _ K1.o) ?_))
        | (go_at_call 340;go_loud (refine LT (HF.o _ K1.o) ?_))
        | (go_at_call 271;go_loud (refine Op (HO.o _ K1.o) λw3 a3=>?_);have K2:=qh (K1.o.op a3.o.2 a3.o.1);have K3:=qh (HJ.o _ _ K2.o);have e1:=K2.o.is.sp.cell HP.o 3 _ rfl;have z1:=K2.o.is.sp.free (i*4+3))
        | (go_at_call 173;go_loud (refine Op (HO.o _ K1.o) λw3 a3=>?_);have K2:=qh (K1.o.op a3.o.2 a3.o.1);have K3:=qh (HJ.o _ _ K2.o);have e1:=K2.o.is.sp.cell HP.o 3 _ rfl;have z1:=K2.o.is.sp.free (i*4+3))
        | (go_at_call 298;go_loud (refine Op (HO.o _ K1.o) λw3 a3=>?_);have K2:=qh (K1.o.op a3.o.2 a3.o.1);have K3:=qh (HJ.o _ _ K2.o);have e1:=K2.o.is.sp.cell HP.o 3 _ rfl;have z1:=K2.o.is.sp.free (i*4+3)))
    have e3:=ST (K3.o.is.sp.cell (au HP.o _) 0 _ rfl)
    go_wp2
    go_ret
    rw[HX.o]
    exact⟨rfl,K3.o⟩):Q:=h_
def Ep(k:bQ w c bud h)(i:Nat)(hi:i<c.b.n)(a b z:Int)(hp:h.S[i]? =some (⟨1,a,b,z⟩:Sp))(V:h.ar.ops+1<=1000000000000):E 336 #[↑c.l,pointer (some ⟨c.q,i*4,none⟩),J ((i:Int)+1)] w (fM w c bud h i (⟨1,a,b,z⟩:Sp) (maP c.b.n bud h i (⟨1,a,b,z⟩:Sp))):=by have H:=k.bn.bd.2;have HX:Kq (maP c.b.n bud h i (⟨1,a,b,z⟩:Sp)=(ae h.ar (1+2*((i:Int)+1)) 0,h.bn,h.d,(⟨2,a,b,z⟩:Sp))):=qh ah1;have HO:=λW (k:MaT w W c bud h)=>an k.is.bn.ar (1+2*((i:Int)+1)) 0 V;replace HO:=qh HO;have HF:=qh (λW (k:MaT w W c bud h)=>i4 k.is ((i:Int)+1) ahB);exact maN
def Er(k:bQ w c bud h)(i:Nat)(hi:i<c.b.n)(a b z:Int)(hp:h.S[i]? =some (⟨2,a,b,z⟩:Sp))(V:h.ar.ops+1<=1000000000000):E 336 #[↑c.l,pointer (some ⟨c.q,i*4,none⟩),J ((i:Int)+1)] w (fM w c bud h i (⟨2,a,b,z⟩:Sp) (maP c.b.n bud h i (⟨2,a,b,z⟩:Sp))):=by have H:=k.bn.bd.2;have HX:Kq (maP c.b.n bud h i (⟨2,a,b,z⟩:Sp)=(ae h.ar (2+2*((i:Int)+1)) 1,h.bn,h.d,(⟨3,a,b,z⟩:Sp))):=qh ah1;have HO:=λW (k:MaT w W c bud h)=>an k.is.bn.ar (2+2*((i:Int)+1)) 1 V;replace HO:=qh HO;have HF:=qh (λW (k:MaT w W c bud h)=>qM k.is ((i:Int)+1) ahB);exact maN
def Cs(k:bQ w c bud h)(i:Nat)(hi:i<c.b.n)(a b z:Int)(hp:h.S[i]? =some (⟨3,a,b,z⟩:Sp))(V:h.ar.ops+1<=1000000000000)(H:(ldW h.ar.W 1==0)=true):E 336 #[↑c.l,pointer (some ⟨c.q,i*4,none⟩),J ((i:Int)+1)] w (fM w c bud h i (⟨3,a,b,z⟩:Sp) (maP c.b.n bud h i (⟨3,a,b,z⟩:Sp))):=by have I:=k.bn.bd.2;obtain⟨v,O⟩:=LE (ldW h.ar.W 1);have HX:Kq (maP c.b.n bud h i (⟨3,a,b,z⟩:Sp)=(cr h.ar (1) ((i:Int)+1),h.bn,h.d,(⟨10,v,b,z⟩:Sp))):=qh (by rw[O];simp[maP,fo,(by simpa using H:ldW h.ar.W 1=0)]);have HO:=λW (k:MaT w W c bud h)=>fD k.is.bn.ar (1) ((i:Int)+1) V;rw[<-O]at HO H;replace HO:=qh HO;have HJ:=qh (λW ar' (k:MaT w W c bud {h with ar:=ar'})=>k.sput (p':=(⟨3,v,b,z⟩:Sp)) hp (j:=1) (v:= J v) ahD rfl);clear O;exact maA
def Cr(k:bQ w c bud h)(i:Nat)(hi:i<c.b.n)(a b z:Int)(hp:h.S[i]? =some (⟨3,a,b,z⟩:Sp))(V:h.ar.ops+1<=1000000000000)(H:(ldW h.ar.W 1==0)=false):E 336 #[↑c.l,pointer (some ⟨c.q,i*4,none⟩),J ((i:Int)+1)] w (fM w c bud h i (⟨3,a,b,z⟩:Sp) (maP c.b.n bud h i (⟨3,a,b,z⟩:Sp))):=by have I:=k.bn.bd.2;obtain⟨v,O⟩:=LE (ldW h.ar.W 1);have HX:Kq (maP c.b.n bud h i (⟨3,a,b,z⟩:Sp)=(cr h.ar (1) ((i:Int)+1),h.bn,h.d,(⟨4,v,b,z⟩:Sp))):=qh (by rw[O];simp[maP,fo,(by simpa using H:¬ldW h.ar.W 1=0)]);have HO:=λW (k:MaT w W c bud h)=>fD k.is.bn.ar (1) ((i:Int)+1) V;rw[<-O]at HO H;replace HO:=qh HO;have HJ:=qh (λW ar' (k:MaT w W c bud {h with ar:=ar'})=>k.sput (p':=(⟨3,v,b,z⟩:Sp)) hp (j:=1) (v:= J v) ahD rfl);clear O;exact maA
def Es(k:bQ w c bud h)(i:Nat)(hi:i<c.b.n)(a b z:Int)(hp:h.S[i]? =some (⟨4,a,b,z⟩:Sp))(V:h.ar.ops+1<=1000000000000)(H:0<=a/\a<=c.b.n):E 336 #[↑c.l,pointer (some ⟨c.q,i*4,none⟩),J ((i:Int)+1)] w (fM w c bud h i (⟨4,a,b,z⟩:Sp) (maP c.b.n bud h i (⟨4,a,b,z⟩:Sp))):=by have I:=k.bn.bd.2;have HX:Kq (maP c.b.n bud h i (⟨4,a,b,z⟩:Sp)=(ae h.ar (1+2*a) ((i:Int)+1),h.bn,h.d,(⟨5,a,b,z⟩:Sp))):=qh ah1;have HO:=λW (k:MaT w W c bud h)=>an k.is.bn.ar (1+2*a) ((i:Int)+1) V;replace HO:=qh HO;have HF:=qh (λW (k:MaT w W c bud h)=>i4 k.is (a) ahB);exact maN
def Cu(k:bQ w c bud h)(i:Nat)(hi:i<c.b.n)(a b z:Int)(hp:h.S[i]? =some (⟨5,a,b,z⟩:Sp))(V:h.ar.ops+1<=1000000000000)(H:(ldW h.ar.W (2+2*((i:Int)+1))==0)=true):E 336 #[↑c.l,pointer (some ⟨c.q,i*4,none⟩),J ((i:Int)+1)] w (fM w c bud h i (⟨5,a,b,z⟩:Sp) (maP c.b.n bud h i (⟨5,a,b,z⟩:Sp))):=by have I:=k.bn.bd.2;obtain⟨v,O⟩:=LE (ldW h.ar.W (2+2*((i:Int)+1)));have HX:Kq (maP c.b.n bud h i (⟨5,a,b,z⟩:Sp)=(af h.ar (2+2*((i:Int)+1)),h.bn,h.d,(⟨10,a,b,z⟩:Sp))):=qh (by simp[maP,fo,(by simpa using H:ldW h.ar.W (2+2*((i:Int)+1))=0)]);have HO:=λW (k:MaT w W c bud h)=>aD k.is.bn.ar (2+2*((i:Int)+1)) V;rw[<-O]at HO H;replace HO:=qh HO;have HF:=qh (λW (k:MaT w W c bud h)=>qM k.is ((i:Int)+1) ahB);clear O;exact maN
def Ct(k:bQ w c bud h)(i:Nat)(hi:i<c.b.n)(a b z:Int)(hp:h.S[i]? =some (⟨5,a,b,z⟩:Sp))(V:h.ar.ops+1<=1000000000000)(H:(ldW h.ar.W (2+2*((i:Int)+1))==0)=false):E 336 #[↑c.l,pointer (some ⟨c.q,i*4,none⟩),J ((i:Int)+1)] w (fM w c bud h i (⟨5,a,b,z⟩:Sp) (maP c.b.n bud h i (⟨5,a,b,z⟩:Sp))):=by have I:=k.bn.bd.2;obtain⟨v,O⟩:=LE (ldW h.ar.W (2+2*((i:Int)+1)));have HX:Kq (maP c.b.n bud h i (⟨5,a,b,z⟩:Sp)=(af h.ar (2+2*((i:Int)+1)),h.bn,h.d,(⟨5,a,b,z⟩:Sp))):=qh (by simp[maP,fo,(by simpa using H:¬ldW h.ar.W (2+2*((i:Int)+1))=0)]);have HO:=λW (k:MaT w W c bud h)=>aD k.is.bn.ar (2+2*((i:Int)+1)) V;rw[<-O]at HO H;replace HO:=qh HO;have HF:=qh (λW (k:MaT w W c bud h)=>qM k.is ((i:Int)+1) ahB);clear O;exact maN
end
end
section
open Go.RowKit
section
variable{c:Mx}{h:Mal}
def tO(k:bQ w c bud h)(i:Nat)(hi:i<c.b.n)(a b z:Int)(hp:h.S[i]? =some (⟨11,a,b,z⟩:Sp))(V:h.ar.ops+1<=1000000000000):E 337 #[↑c.l,pointer (some ⟨c.q,i*4,none⟩),J ((i:Int)+1)] w (fM w c bud h i (⟨11,a,b,z⟩:Sp) (maP c.b.n bud h i (⟨11,a,b,z⟩:Sp))):=by have H:=k.bn.bd.2;obtain⟨v,O⟩:=LE ((if inR h.ar.W 2 then IntKind.i64.wrap (ldW h.ar.W 2+1)else 0));have HX:Kq (maP c.b.n bud h i (⟨11,a,b,z⟩:Sp)=(addA h.ar (2) 1,h.bn,h.d,(⟨12,a,b,v⟩:Sp))):=qh (by simp[maP,fo,dA,O]);have HO:=λW (k:MaT w W c bud h)=>ir k.is.bn.ar (2) 1 V;rw[<-O]at HO;replace HO:=qh HO;have HJ:=qh (λW ar' (k:MaT w W c bud {h with ar:=ar'})=>k.sput (p':=(⟨11,a,b,v⟩:Sp)) hp (j:=3) (v:= J v) ahD rfl);clear O;exact maZ
def ru(k:bQ w c bud h)(i:Nat)(hi:i<c.b.n)(a b z:Int)(hp:h.S[i]? =some (⟨12,a,b,z⟩:Sp))(V:h.ar.ops+1<=1000000000000)(h0:(ldW h.ar.W (1+2*((i:Int)+1)) !=0)=true)(h1:(z.tmod (bud+1) !=0)=true):E 337 #[↑c.l,pointer (some ⟨c.q,i*4,none⟩),J ((i:Int)+1)] w (fM w c bud h i (⟨12,a,b,z⟩:Sp) (maP c.b.n bud h i (⟨12,a,b,z⟩:Sp))):=by
  refine ajd ?_;intro hn e0 Kk KP x5 x6 HN ar' mb v O;have HX:Kq (maP c.b.n bud h i (⟨12,a,b,z⟩:Sp)=(ar',h.bn,h.d,(⟨21,v,b,z⟩:Sp))):=qh (by simp[maP,fo,dA,mb,O,(by simpa using h0:¬ldW h.ar.W (1+2*((i:Int)+1))=0),(by simpa using h1:¬z.tmod (bud+1)=0)]);have i':=λW (k:MaT w W c bud h)=>aD k.is.bn.ar (1+2*((i:Int)+1)) V;rw[<-mb,<-O]at i';rw[<-O]at h0;refine ajf ?_;intro HO HF HC HP K1;clear i' k hp mb O;go_enter func337,ntmps337;go_wp2_with fail
  go_region_held3 (λW=>W.cell? c.l=some ↑c.b.a)
    (first|with_reducible exact HC.o _ _ _ K1.o HP.o|with_reducible exact HC.o _ _ _ H.o HP.o|with_reducible exact Lf.o)
    (first
      | (go_at_call 339;go_loud (refine LT (HF.o _ K1.o) ?_))
      | (go_at_call 173;go_loud (refine Op (HO.o _ K1.o) λw3 Y=>?_);have H:=qh (K1.o.op Y.o.2 Y.o.1);have I:=qh (H.o.sput (p':=(⟨12,v,b,z⟩:Sp)) HP.o (j:=1) (v:= J v) ahD rfl);have Lf:=qh (HC.o _ _ v I.o (au HP.o _));have e1:=H.o.is.sp.cell HP.o 1 _ rfl;have z1:=H.o.is.sp.free (i*4+1)))
  have e4:=I.o.is.sp.cell (au HP.o _) 3 _ rfl;have e5:=I.o.is.cb;go_wp2;go_quiet (fail);go_wp2;go_ret;rw[HX.o];exact⟨rfl,I.o.below (Qt.below ⟨_,rfl⟩ _)⟩
def rt(k:bQ w c bud h)(i:Nat)(hi:i<c.b.n)(a b z:Int)(hp:h.S[i]? =some (⟨12,a,b,z⟩:Sp))(V:h.ar.ops+1<=1000000000000)(h0:(ldW h.ar.W (1+2*((i:Int)+1)) !=0)=true)(h1:(z.tmod (bud+1) !=0)=false):E 337 #[↑c.l,pointer (some ⟨c.q,i*4,none⟩),J ((i:Int)+1)] w (fM w c bud h i (⟨12,a,b,z⟩:Sp) (maP c.b.n bud h i (⟨12,a,b,z⟩:Sp))):=by
  refine ajd ?_;intro hn e0 Kk KP x5 x6 HN ar' mb v O;have HX:Kq (maP c.b.n bud h i (⟨12,a,b,z⟩:Sp)=(ar',bnB c.b.n h.bn 5 1,h.d,(⟨13,v,b,z⟩:Sp))):=qh (by simp[maP,fo,dA,mb,O,(by simpa using h1:z.tmod (bud+1)=0)]);have i':=λW (k:MaT w W c bud h)=>aD k.is.bn.ar (1+2*((i:Int)+1)) V;rw[<-mb,<-O]at i';rw[<-O]at h0;refine ajf ?_;intro HO HF HC HP K1;clear i' k hp mb O;go_enter func337,ntmps337;go_wp2_with fail
  go_region_held3 (λW=>W.cell? c.l=some ↑c.b.a)
    (first|with_reducible exact HC.o _ _ _ K1.o HP.o|with_reducible exact HC.o _ _ _ I.o HP.o|with_reducible exact Lf.o)
    (first
      | (go_at_call 339;go_loud (refine LT (HF.o _ K1.o) ?_))
      | (go_at_call 173;go_loud (refine Op (HO.o _ K1.o) λw3 a3=>?_);have I:=qh (K1.o.op a3.o.2 a3.o.1);have H:=qh (I.o.sput (p':=(⟨12,v,b,z⟩:Sp)) HP.o (j:=1) (v:= J v) ahD rfl);have Lf:=qh (HC.o _ _ v H.o (au HP.o _));have e1:=I.o.is.sp.cell HP.o 1 _ rfl;have z1:=I.o.is.sp.free (i*4+1)))
  have e4:=H.o.is.sp.cell (au HP.o _) 3 _ rfl;have e5:=H.o.is.cb;go_wp2;go_quiet (fail);have Qz:=qh (λm=>H.o.below (Qt.below ⟨m,rfl⟩ _));have e6:=H.o.is.ck;go_wp2_with fail;refine(Fr (Qz.o _).is.bn HN.o).mono ?_;rintro en w6 ⟨⟨vb,rfl⟩,Y⟩;have K6:=qh ((Qz.o _).bn Y.tn Y.is);clear Y;go_wp2;go_ret;rw[HX.o];exact⟨rfl,K6.o⟩
def rv(k:bQ w c bud h)(i:Nat)(hi:i<c.b.n)(a b z:Int)(hp:h.S[i]? =some (⟨12,a,b,z⟩:Sp))(V:h.ar.ops+1<=1000000000000)(h0:(ldW h.ar.W (1+2*((i:Int)+1)) !=0)=false):E 337 #[↑c.l,pointer (some ⟨c.q,i*4,none⟩),J ((i:Int)+1)] w (fM w c bud h i (⟨12,a,b,z⟩:Sp) (maP c.b.n bud h i (⟨12,a,b,z⟩:Sp))):=by
  refine ajd ?_;intro hn e0 Kk KP x5 x6 HN ar' mb v O;have HX:Kq (maP c.b.n bud h i (⟨12,a,b,z⟩:Sp)=(ar',bnB c.b.n h.bn 5 1,h.d,(⟨13,v,b,z⟩:Sp))):=qh (by simp[maP,fo,dA,mb,O,(by simpa using h0:ldW h.ar.W (1+2*((i:Int)+1))=0)]);have i':=λW (k:MaT w W c bud h)=>aD k.is.bn.ar (1+2*((i:Int)+1)) V;rw[<-mb,<-O]at i';rw[<-O]at h0;refine ajf ?_;intro HO HF HC HP K1;clear i' k hp mb O;go_enter func337,ntmps337;go_wp2_with fail
  go_region_held3 (λW=>W.cell? c.l=some ↑c.b.a)
    (first|with_reducible exact HC.o _ _ _ K1.o HP.o|with_reducible exact HC.o _ _ _ I.o HP.o|with_reducible exact Lf.o)
    (first
      | (go_at_call 339;go_loud (refine LT (HF.o _ K1.o) ?_))
      | (go_at_call 173;go_loud (refine Op (HO.o _ K1.o) λw3 a3=>?_);have I:=qh (K1.o.op a3.o.2 a3.o.1);have H:=qh (I.o.sput (p':=(⟨12,v,b,z⟩:Sp)) HP.o (j:=1) (v:= J v) ahD rfl);have Lf:=qh (HC.o _ _ v H.o (au HP.o _));have e1:=I.o.is.sp.cell HP.o 1 _ rfl;have z1:=I.o.is.sp.free (i*4+1)))
  have e4:=H.o.is.sp.cell (au HP.o _) 3 _ rfl;have e5:=H.o.is.cb;go_wp2;go_quiet (fail);have Qz:=qh (λm=>H.o.below (Qt.below ⟨m,rfl⟩ _));have e6:=H.o.is.ck;go_wp2_with fail;refine(Fr (Qz.o _).is.bn HN.o).mono ?_;rintro en w6 ⟨⟨vb,rfl⟩,Y⟩;have K6:=qh ((Qz.o _).bn Y.tn Y.is);clear Y;go_wp2;go_ret;rw[HX.o];exact⟨rfl,K6.o⟩
def tQ(k:bQ w c bud h)(i:Nat)(hi:i<c.b.n)(a b z:Int)(hp:h.S[i]? =some (⟨14,a,b,z⟩:Sp))(V:h.ar.ops+1<=1000000000000)(hb:0<=b/\b<=c.b.n):E 337 #[↑c.l,pointer (some ⟨c.q,i*4,none⟩),J ((i:Int)+1)] w (fM w c bud h i (⟨14,a,b,z⟩:Sp) (maP c.b.n bud h i (⟨14,a,b,z⟩:Sp))):=by have H:=k.bn.bd.2;have HX:Kq (maP c.b.n bud h i (⟨14,a,b,z⟩:Sp)=(ae h.ar (1+2*b) a,h.bn,h.d,(⟨18,a,b,z⟩:Sp))):=qh ah1;have HO:=λW (k:MaT w W c bud h)=>an k.is.bn.ar (1+2*b) a V;replace HO:=qh HO;have HF:=qh (λW (k:MaT w W c bud h)=>i4 k.is (b) ahB);exact maN
def tR(k:bQ w c bud h)(i:Nat)(hi:i<c.b.n)(a b z:Int)(hp:h.S[i]? =some (⟨15,a,b,z⟩:Sp))(V:h.ar.ops+1<=1000000000000)(hb:0<=b/\b<=c.b.n):E 337 #[↑c.l,pointer (some ⟨c.q,i*4,none⟩),J ((i:Int)+1)] w (fM w c bud h i (⟨15,a,b,z⟩:Sp) (maP c.b.n bud h i (⟨15,a,b,z⟩:Sp))):=by have H:=k.bn.bd.2;have HX:Kq (maP c.b.n bud h i (⟨15,a,b,z⟩:Sp)=(ae h.ar (1+2*b) 0,h.bn,h.d,(⟨16,a,b,z⟩:Sp))):=qh ah1;have HO:=λW (k:MaT w W c bud h)=>an k.is.bn.ar (1+2*b) 0 V;replace HO:=qh HO;have HF:=qh (λW (k:MaT w W c bud h)=>i4 k.is (b) ahB);exact maN
def tT(k:bQ w c bud h)(i:Nat)(hi:i<c.b.n)(a b z:Int)(hp:h.S[i]? =some (⟨16,a,b,z⟩:Sp))(V:h.ar.ops+1<=1000000000000):E 337 #[↑c.l,pointer (some ⟨c.q,i*4,none⟩),J ((i:Int)+1)] w (fM w c bud h i (⟨16,a,b,z⟩:Sp) (maP c.b.n bud h i (⟨16,a,b,z⟩:Sp))):=by have H:=k.bn.bd.2;obtain⟨v,O⟩:=LE (cJ h.ar 1 ((i:Int)+1));have HX:Kq (maP c.b.n bud h i (⟨16,a,b,z⟩:Sp)=(dX h.ar (1) ((i:Int)+1) b,h.bn,h.d,(⟨if v then 18 else 17,a,b,z⟩:Sp))):=qh (by rw[O];simp[maP,fo,dA]);have HO:=λW (k:MaT w W c bud h)=>jn k.is.bn.ar (1) ((i:Int)+1) b V;rw[<-O]at HO;replace HO:=qh HO;clear O;cases v<;>exact maN
def EW(k:MaT w0 w c bud h){a b z:Int}(H:h.S[i]? =some (⟨13,a,b,z⟩:Sp)):E 343 #[↑c.l,pointer (some ⟨c.q,i*4,none⟩)] w λe w'=>e= returned (J (kY a h.bn.got))/\MaT w0 w' c bud {h with S:=h.S.set i (⟨13,a,h.bn.got,z⟩:Sp)}:=by
 have c3:=k.is.ck;have e1:=k.is.sp.cell H 1 _ rfl;have e2:=k.is.sp.cell H 2 _ rfl;have z2:=k.is.sp.free (i*4+2);have hk:=k.is.sp.lt;obtain⟨g,hg⟩:=LE h.bn.got;have I:=JS k.is.bn;rw[<-hg]at I ⊢;have Y:=qh I;have K:=qh (k.sput (p':=(⟨13,a,g,z⟩:Sp)) H (j:=2) (v:= J g) ahD rfl);clear k H hg I;cases V:(g==0);all_goals cases a0:(a==0)
 all_goals
  have O:Kq (kY a g=if g==0 then(if a==0 then 19 else 21)else if a==0 then 15 else 14):=qh (by unfold kY;simp);go_enter func343,ntmps343;go_wp2_with fail;refine LT Y.o ?_;go_wp2;try go_quiet (fail)
  go_wp2;go_ret;first|exact⟨by rw[O.o];simp[V,a0],K.o⟩|exact⟨by rw[O.o];simp[V,a0],K.o.below (Qt.below ⟨_,rfl⟩ _)⟩
end
end
section
open Go.RowKit
section
variable{c:Mx}{h:Mal}
def ry(k:bQ w c bud h)(i:Nat)(hi:i<c.b.n)(a b z:Int)(hp:h.S[i]? =some (⟨17,a,b,z⟩:Sp))(V:h.ar.ops+1<=1000000000000)(h0:(ldW h.ar.W (1+2*((i:Int)+1))==0)=false):E 338 #[↑c.l,pointer (some ⟨c.q,i*4,none⟩),J ((i:Int)+1)] w (fM w c bud h i (⟨17,a,b,z⟩:Sp) (maP c.b.n bud h i (⟨17,a,b,z⟩:Sp))):=by have H:=k.bn.bd.2;obtain⟨v,O⟩:=LE (ldW h.ar.W (1+2*((i:Int)+1)));have HX:Kq (maP c.b.n bud h i (⟨17,a,b,z⟩:Sp)=(af h.ar (1+2*((i:Int)+1)),h.bn,h.d,(⟨14,v,b,z⟩:Sp))):=qh aiK;have HO:=λW (k:MaT w W c bud h)=>aD k.is.bn.ar (1+2*((i:Int)+1)) V;rw[<-O]at HO h0;replace HO:=qh HO;refine aj8 ?_;intro HF HJ;clear O;exact maA
def rx(k:bQ w c bud h)(i:Nat)(hi:i<c.b.n)(a b z:Int)(hp:h.S[i]? =some (⟨17,a,b,z⟩:Sp))(V:h.ar.ops+1<=1000000000000)(h0:(ldW h.ar.W (1+2*((i:Int)+1))==0)=true):E 338 #[↑c.l,pointer (some ⟨c.q,i*4,none⟩),J ((i:Int)+1)] w (fM w c bud h i (⟨17,a,b,z⟩:Sp) (maP c.b.n bud h i (⟨17,a,b,z⟩:Sp))):=by have H:=k.bn.bd.2;obtain⟨v,O⟩:=LE (ldW h.ar.W (1+2*((i:Int)+1)));have HX:Kq (maP c.b.n bud h i (⟨17,a,b,z⟩:Sp)=(af h.ar (1+2*((i:Int)+1)),h.bn,h.d,(⟨17,v,b,z⟩:Sp))):=qh aiL;have HO:=λW (k:MaT w W c bud h)=>aD k.is.bn.ar (1+2*((i:Int)+1)) V;rw[<-O]at HO h0;replace HO:=qh HO;refine aj8 ?_;intro HF HJ;clear O;exact maA
def rA(k:bQ w c bud h)(i:Nat)(hi:i<c.b.n)(a b z:Int)(hp:h.S[i]? =some (⟨20,a,b,z⟩:Sp))(V:h.ar.ops+1<=1000000000000)(h0:(ldW h.ar.W (1+2*((i:Int)+1))==0)=false):E 338 #[↑c.l,pointer (some ⟨c.q,i*4,none⟩),J ((i:Int)+1)] w (fM w c bud h i (⟨20,a,b,z⟩:Sp) (maP c.b.n bud h i (⟨20,a,b,z⟩:Sp))):=by have H:=k.bn.bd.2;obtain⟨v,O⟩:=LE (ldW h.ar.W (1+2*((i:Int)+1)));have HX:Kq (maP c.b.n bud h i (⟨20,a,b,z⟩:Sp)=(af h.ar (1+2*((i:Int)+1)),h.bn,h.d,(⟨21,v,b,z⟩:Sp))):=qh aiK;have HO:=λW (k:MaT w W c bud h)=>aD k.is.bn.ar (1+2*((i:Int)+1)) V;rw[<-O]at HO h0;replace HO:=qh HO;refine aj9 ?_;intro HF HJ;clear O;exact maA
def rz(k:bQ w c bud h)(i:Nat)(hi:i<c.b.n)(a b z:Int)(hp:h.S[i]? =some (⟨20,a,b,z⟩:Sp))(V:h.ar.ops+1<=1000000000000)(h0:(ldW h.ar.W (1+2*((i:Int)+1))==0)=true):E 338 #[↑c.l,pointer (some ⟨c.q,i*4,none⟩),J ((i:Int)+1)] w (fM w c bud h i (⟨20,a,b,z⟩:Sp) (maP c.b.n bud h i (⟨20,a,b,z⟩:Sp))):=by have H:=k.bn.bd.2;obtain⟨v,O⟩:=LE (ldW h.ar.W (1+2*((i:Int)+1)));have HX:Kq (maP c.b.n bud h i (⟨20,a,b,z⟩:Sp)=(af h.ar (1+2*((i:Int)+1)),h.bn,h.d,(⟨20,v,b,z⟩:Sp))):=qh aiL;have HO:=λW (k:MaT w W c bud h)=>aD k.is.bn.ar (1+2*((i:Int)+1)) V;rw[<-O]at HO h0;replace HO:=qh HO;refine aj9 ?_;intro HF HJ;clear O;exact maA
def tU(k:bQ w c bud h)(i:Nat)(hi:i<c.b.n)(a b z:Int)(hp:h.S[i]? =some (⟨18,a,b,z⟩:Sp))(V:h.ar.ops+1<=1000000000000)(hb:0<=b/\b<=c.b.n):E 338 #[↑c.l,pointer (some ⟨c.q,i*4,none⟩),J ((i:Int)+1)] w (fM w c bud h i (⟨18,a,b,z⟩:Sp) (maP c.b.n bud h i (⟨18,a,b,z⟩:Sp))):=by have H:=k.bn.bd.2;have HX:Kq (maP c.b.n bud h i (⟨18,a,b,z⟩:Sp)=(ae h.ar (2+2*b) 0,h.bn,h.d,(⟨0,a,b,z⟩:Sp))):=qh ah1;have HO:=λW (k:MaT w W c bud h)=>an k.is.bn.ar (2+2*b) 0 V;replace HO:=qh HO;have HF:=qh (λW (k:MaT w W c bud h)=>qM k.is (b) ahB);exact maN
def tY(k:bQ w c bud h)(i:Nat)(hi:i<c.b.n)(a b z:Int)(hp:h.S[i]? =some (⟨24,a,b,z⟩:Sp))(V:h.ar.ops+1<=1000000000000)(H:0<=a/\a<=c.b.n):E 338 #[↑c.l,pointer (some ⟨c.q,i*4,none⟩),J ((i:Int)+1)] w (fM w c bud h i (⟨24,a,b,z⟩:Sp) (maP c.b.n bud h i (⟨24,a,b,z⟩:Sp))):=by have I:=k.bn.bd.2;have HX:Kq (maP c.b.n bud h i (⟨24,a,b,z⟩:Sp)=(ae h.ar (2+2*a) 0,h.bn,h.d,(⟨0,a,b,z⟩:Sp))):=qh ah1;have HO:=λW (k:MaT w W c bud h)=>an k.is.bn.ar (2+2*a) 0 V;replace HO:=qh HO;have HF:=qh (λW (k:MaT w W c bud h)=>qM k.is (a) ahB);exact maN
def tX(k:bQ w c bud h)(i:Nat)(hi:i<c.b.n)(a b z:Int)(hp:h.S[i]? =some (⟨23,a,b,z⟩:Sp))(V:h.ar.ops+1<=1000000000000)(H:0<=h.d/\h.d<=c.b.n):E 338 #[↑c.l,pointer (some ⟨c.q,i*4,none⟩),J ((i:Int)+1)] w (fM w c bud h i (⟨23,a,b,z⟩:Sp) (maP c.b.n bud h i (⟨23,a,b,z⟩:Sp))):=by have I:=k.bn.bd.2;have HX:Kq (maP c.b.n bud h i (⟨23,a,b,z⟩:Sp)=(ae h.ar (2+2*h.d) 0,h.bn,h.d,(⟨0,a,b,z⟩:Sp))):=qh ah1;have HO:=λW (k:MaT w W c bud h)=>an k.is.bn.ar (2+2*h.d) 0 V;replace HO:=qh HO;have HF:=qh (λW (k:MaT w W c bud h)=>qM k.is (h.d) ahB);exact maN
def tV(k:bQ w c bud h)(i:Nat)(hi:i<c.b.n)(a b z:Int)(hp:h.S[i]? =some (⟨19,a,b,z⟩:Sp))(V:h.ar.ops+1<=1000000000000):E 338 #[↑c.l,pointer (some ⟨c.q,i*4,none⟩),J ((i:Int)+1)] w (fM w c bud h i (⟨19,a,b,z⟩:Sp) (maP c.b.n bud h i (⟨19,a,b,z⟩:Sp))):=by have H:=k.bn.bd.2;obtain⟨v,O⟩:=LE (cJ h.ar 1 ((i:Int)+1));have HX:Kq (maP c.b.n bud h i (⟨19,a,b,z⟩:Sp)=(dX h.ar (1) ((i:Int)+1) 0,h.bn,h.d,(⟨if v then 0 else 20,a,b,z⟩:Sp))):=qh (by rw[O];simp[maP,fo,dA]);have HO:=λW (k:MaT w W c bud h)=>jn k.is.bn.ar (1) ((i:Int)+1) 0 V;rw[<-O]at HO;replace HO:=qh HO;clear O;cases v<;>exact maN
def rC(k:bQ w c bud h)(i:Nat)(hi:i<c.b.n)(a b z:Int)(hp:h.S[i]? =some (⟨21,a,b,z⟩:Sp))(V:h.ar.ops+1<=1000000000000)(ha:0<=a/\a<=c.b.n)(h0:(ldW h.ar.W (1+2*a)==0)=true):E 338 #[↑c.l,pointer (some ⟨c.q,i*4,none⟩),J ((i:Int)+1)] w (fM w c bud h i (⟨21,a,b,z⟩:Sp) (maP c.b.n bud h i (⟨21,a,b,z⟩:Sp))):=by
  have hn:=k.bn.bd.2;have e0:=ST (k.sp.cell hp 0 _ rfl);obtain⟨ab,Y⟩:=LE (af h.ar (1+2*a));obtain⟨v,O⟩:=LE (ldW h.ar.W (1+2*a));have HX:Kq (maP c.b.n bud h i (⟨21,a,b,z⟩:Sp)=(ab,h.bn,0,(⟨24,a,b,z⟩:Sp))):=qh (by simp[maP,fo,dA,Y,(by simpa using h0:ldW h.ar.W (1+2*a)=0)]);have i':=λW (k:MaT w W c bud h)=>aD k.is.bn.ar (1+2*a) V;rw[<-Y,<-O]at i';rw[<-O]at h0;refine ajv ?_;intro HZ HA HO HF HC HP K1;clear i' k hp Y O;go_enter func338,ntmps338;go_wp2_with fail
  go_region_held3 (λW=>W.cell? c.l=some ↑c.b.a/\Z W c.q (i*4+1) (J a))
    (first|with_reducible exact HC.o _ _ K1.o HP.o|with_reducible exact HC.o _ _ H.o HP.o|with_reducible exact Lf.o)
    (first
      | (go_at_call 339;go_loud (refine LT (HF.o _ K1.o) ?_))
      | (go_at_call 173;go_loud (refine Op (HO.o _ K1.o) λw3 a3=>?_);have H:=qh (K1.o.op a3.o.2 a3.o.1);have I:=qh (H.o.dput v);have Lf:=qh (HC.o _ _ I.o HP.o);have e1:=H.o.is.cd;have z1:=H.o.is.lk.free 4))
  go_wp2;go_ret;rw[HX.o];have hz:v=0:=by simpa using HZ.o
  have K4:=I.o;rw[hz]at K4;exact⟨rfl,hz ▸ I.o.samS HP.o⟩
def rB(k:bQ w c bud h)(i:Nat)(hi:i<c.b.n)(a b z:Int)(hp:h.S[i]? =some (⟨21,a,b,z⟩:Sp))(V:h.ar.ops+1<=1000000000000)(ha:0<=a/\a<=c.b.n)(h0:(ldW h.ar.W (1+2*a)==0)=false):E 338 #[↑c.l,pointer (some ⟨c.q,i*4,none⟩),J ((i:Int)+1)] w (fM w c bud h i (⟨21,a,b,z⟩:Sp) (maP c.b.n bud h i (⟨21,a,b,z⟩:Sp))):=by
  have hn:=k.bn.bd.2;have e0:=ST (k.sp.cell hp 0 _ rfl);obtain⟨H,mb⟩:=LE (af h.ar (1+2*a));obtain⟨v,O⟩:=LE (ldW h.ar.W (1+2*a));have HX:Kq (maP c.b.n bud h i (⟨21,a,b,z⟩:Sp)=(H,bnB c.b.n h.bn 1 a,v,(⟨22,a,b,z⟩:Sp))):=qh (by rw[O];simp[maP,fo,dA,mb,(by simpa using h0:¬ldW h.ar.W (1+2*a)=0)]);have i':=λW (k:MaT w W c bud h)=>aD k.is.bn.ar (1+2*a) V;rw[<-mb,<-O]at i';rw[<-O]at h0;refine ajv ?_;intro HZ HA HO HF HC HP K1;clear i' k hp mb O;go_enter func338,ntmps338;go_wp2_with fail
  go_region_held3 (λW=>W.cell? c.l=some ↑c.b.a/\Z W c.q (i*4+1) (J a))
    (first|with_reducible exact HC.o _ _ K1.o HP.o|with_reducible exact HC.o _ _ I.o HP.o|with_reducible exact Lf.o)
    (first
      | (go_at_call 339;go_loud (refine LT (HF.o _ K1.o) ?_))
      | (go_at_call 173;go_loud (refine Op (HO.o _ K1.o) λw3 a3=>?_);have I:=qh (K1.o.op a3.o.2 a3.o.1);have Y:=qh (I.o.dput v);have Lf:=qh (HC.o _ _ Y.o HP.o);have e1:=I.o.is.cd;have z1:=I.o.is.lk.free 4))
  have e5:=Y.o.is.ck;have e6:=Y.o.is.sp.cell HP.o 1 _ rfl;go_wp2_with fail;have RY:=qh Y.o.drew;have Yc:=qh (λW (k:MaT w W c bud {h with ar:=H,d:=v})=>J0 k.is.bn a HA.o)
  go_region_held3 (λW=>Z W c.l 3 ↑c.b.k/\Z W c.q (i*4+1) (J a))
    (first|with_reducible exact⟨RY.o.is.ck,RY.o.is.sp.cell HP.o 1 _ rfl⟩|with_reducible exact⟨K6.o.is.ck,K6.o.is.sp.cell HP.o 1 _ rfl⟩)
    (first
      | (go_at_call 344;go_loud (refine(Yc.o _ RY.o).mono ?_);rintro en w6 ⟨⟨vb,rfl⟩,k6⟩;have K6:=qh (RY.o.bn k6.tn k6.is);clear k6))
  go_wp2;go_ret;rw[HX.o];exact⟨rfl,K6.o.samS HP.o⟩
def tP(k:bQ w c bud h)(i:Nat)(hi:i<c.b.n)(a b z:Int)(hp:h.S[i]? =some (⟨13,a,b,z⟩:Sp))(V:h.ar.ops+1<=1000000000000)(hw:Dp c.b.n c.b.F h.ar.W)(hF:(c.b.F:Int)=maF c.b.n):E 337 #[↑c.l,pointer (some ⟨c.q,i*4,none⟩),J ((i:Int)+1)] w (fM w c bud h i (⟨13,a,b,z⟩:Sp) (maP c.b.n bud h i (⟨13,a,b,z⟩:Sp))):=by
  have e0:=ST (k.sp.cell hp 0 _ rfl);have e3:=k.ck;have Y:=Fm k.bn hw V;obtain⟨r,I⟩:=LE (bnS c.b.F h.ar h.bn);obtain⟨r1,O,r3⟩:=r;rw[<-I]at Y;have HS:=qh Y;have HR:=qh I;have HF:=qh hF;have K:=qh (And.intro (MaT.new k) hp);clear k hp hw Y I hF;cases r3;. have HX:Kq (maP c.b.n bud h i (⟨13,a,b,z⟩:Sp)=(r1,O,h.d,(⟨13,a,b,z⟩:Sp))):=qh aii;go_enter func337,ntmps337;go_wp2_with fail;refine Op HS.o λw1 H=>?_;have K1:=qh ((K.o.1.bn H.o.tn H.o.is).samS K.o.2);go_wp2;go_ret;rw[HX.o];exact⟨rfl,K1.o⟩
  . have HX:Kq (maP c.b.n bud h i (⟨13,a,b,z⟩:Sp)=(r1,O,h.d,⟨kY a O.got,a,O.got,z⟩)):=qh aii;go_enter func337,ntmps337;go_wp2_with fail;refine Op HS.o λw1 H=>?_;have K1:=qh (K.o.1.bn H.o.tn H.o.is);go_wp2_with fail;refine Op (EW K1.o K.o.2) λw2 K2=>?_;go_wp2;go_ret;rw[HX.o];exact⟨rfl,K2.o⟩
def tW(k:bQ w c bud h)(i:Nat)(hi:i<c.b.n)(a b z:Int)(hp:h.S[i]? =some (⟨22,a,b,z⟩:Sp))(V:h.ar.ops+1<=1000000000000)(hw:Dp c.b.n c.b.F h.ar.W)(hF:(c.b.F:Int)=maF c.b.n):E 338 #[↑c.l,pointer (some ⟨c.q,i*4,none⟩),J ((i:Int)+1)] w (fM w c bud h i (⟨22,a,b,z⟩:Sp) (maP c.b.n bud h i (⟨22,a,b,z⟩:Sp))):=by
  have e0:=ST (k.sp.cell hp 0 _ rfl);have e3:=k.ck;have O:=Fm k.bn hw V;obtain⟨r,I⟩:=LE (bnS c.b.F h.ar h.bn);obtain⟨r1,r2,r3⟩:=r;rw[<-I]at O;have HS:=qh O;have HR:=qh I;have HF:=qh hF;have K:=qh (And.intro (MaT.new k) hp);clear k hp hw O I hF;cases r3;. have HX:Kq (maP c.b.n bud h i (⟨22,a,b,z⟩:Sp)=(r1,r2,h.d,(⟨22,a,b,z⟩:Sp))):=qh aii;go_enter func338,ntmps338;go_wp2_with fail;refine Op HS.o λw1 H=>?_;have Y:=qh ((K.o.1.bn H.o.tn H.o.is).samS K.o.2);go_wp2;go_ret;rw[HX.o];exact⟨rfl,Y.o⟩
  . have HX:Kq (maP c.b.n bud h i (⟨22,a,b,z⟩:Sp)=(r1,r2,h.d,(⟨23,a,b,z⟩:Sp))):=qh aii;go_enter func338,ntmps338;go_wp2_with fail;refine Op HS.o λw1 H=>?_;have Y:=qh ((K.o.1.bn H.o.tn H.o.is).samS K.o.2);go_wp2;go_ret;rw[HX.o];exact⟨rfl,Y.o⟩
end
end
section
open Go.RowKit
section
variable{c:Mx}{h:Mal}
def MaS.vals{n:Nat}{h:Mal}(k:MaS n h)(hi:i<n):((0<=(sv h.S i).a/\(sv h.S i).a<=n)/\(0<=(sv h.S i).b/\(sv h.S i).b<=n))/\(0<=h.d/\h.d<=n)/\(∀F:Nat,(F:Int)=maF n->Dp n F h.ar.W)/\((0<=(sv h.S i).pc/\(sv h.S i).pc<=5)\/(10<=(sv h.S i).pc/\(sv h.S i).pc<=24)):=
 ⟨k.i.sp i hi,k.i.vd,λF H y I=>k.i.vw y (by unfold maF at H;omega),k.i.pcs i hi⟩
def JT(k:bQ w c bud h)(hr:MaS c.b.n h)(Y:(c.b.F:Int)=maF c.b.n)(V:h.ar.ops+1<=1000000000000)(hi:i<c.b.n){p:Sp}(H:h.S[i]? =some p)(h0:¬(p.pc=0\/p.pc=10)):Calls prog (if p.pc<10 then 336 else if p.pc<17 then 337 else 338) #[↑c.l,pointer (some ⟨c.q,i*4,none⟩),J ((i:Int)+1)] w (fM w c bud h i p (maP c.b.n bud h i p)):=by
  obtain⟨O,hd,hw,hc⟩:=hr.vals hi;have I:=rW k.sl hi;rw[H]at I;injection I with I;rw[<-I]at O hc;have Ma:=hw _ Y;clear I hw hr;obtain⟨pc,a,b,z⟩:=p;simp only at O hc h0 ⊢;have:pc=1\/pc=2\/pc=3\/pc=4\/pc=5\/pc=11\/pc=12\/pc=13\/pc=14\/pc=15\/pc=16\/pc=17\/pc=18\/pc=19\/pc=20\/pc=21\/pc=22\/pc=23\/pc=24:=by omega
  rcases this with rfl|rfl|rfl|rfl|rfl|rfl|rfl|rfl|rfl|rfl|rfl|rfl|rfl|rfl|rfl|rfl|rfl|rfl|rfl
  . exact Ep k i hi a b z H V
  . exact Er k i hi a b z H V
  . by_cases e:(ldW h.ar.W 1==0)=true;. exact Cs k i hi a b z H V e
    . exact Cr k i hi a b z H V ahQ
  . exact Es k i hi a b z H V O.1
  . by_cases e:(ldW h.ar.W (2+2*((i:Int)+1))==0)=true;. exact Cu k i hi a b z H V e
    . exact Ct k i hi a b z H V ahQ
  . exact tO k i hi a b z H V
  . by_cases e:(ldW h.ar.W (1+2*((i:Int)+1)) !=0)=true
    . by_cases e2:(z.tmod (bud+1) !=0)=true;. exact ru k i hi a b z H V e e2
      . exact rt k i hi a b z H V e (by simpa using e2)
    . exact rv k i hi a b z H V ahQ
  . exact tP k i hi a b z H V Ma Y
  . exact tQ k i hi a b z H V O.2
  . exact tR k i hi a b z H V O.2
  . exact tT k i hi a b z H V
  . by_cases e:(ldW h.ar.W (1+2*((i:Int)+1))==0)=false;. exact ry k i hi a b z H V e
    . exact rx k i hi a b z H V ahQ
  . exact tU k i hi a b z H V O.2
  . exact tV k i hi a b z H V
  . by_cases e:(ldW h.ar.W (1+2*((i:Int)+1))==0)=false;. exact rA k i hi a b z H V e
    . exact rz k i hi a b z H V ahQ
  . by_cases e:(ldW h.ar.W (1+2*a)==0)=true;. exact rC k i hi a b z H V O.1 e
    . exact rB k i hi a b z H V O.1 ahQ
  . exact tW k i hi a b z H V Ma Y
  . exact tX k i hi a b z H V hd
  . exact tY k i hi a b z H V O.1
def Jf(k:bQ w c bud h)(hr:MaS c.b.n h)(hF:(c.b.F:Int)=maF c.b.n)(V:h.ar.ops+1<=1000000000000)(i:Nat)(hi:i<c.b.n):E 333 #[↑c.l,J i] w (MOk w c bud (dT c.b.n bud h i)):=by
 have LI:=aP;have hn:=k.bn.bd.2;obtain⟨p,O⟩:=LE (sv h.S i);have hp:=rW k.sl hi;rw[<-O]at hp;have Y:=C0 k i hi;rw[<-O]at Y;unfold aF at Y;have Mn:=qh Y;have SI:=k.sp.lt;have HK:=qh (And.intro (MaT.new k) hp);by_cases h0:p.pc=0\/p.pc=10
 .have HX:=qh (show dT c.b.n bud h i=(h,false)from by unfold dT;rw[<-O,if_pos h0]);clear k hr O hp Y;by_cases e0:p.pc=0;.have u0:(p.pc==0)=true:=(by simpa using e0);exact aar
  .have u0:(p.pc==0)=false:=(by simpa using e0);have u10:(p.pc==10)=true:=(by simp;omega);exact aar
 .have u0:(p.pc==0)=false:=by simp;omega
  have u10:(p.pc==10)=false:=by simp;omega
  have x7:IntKind.i64.wrap ((i:Int)+1)=(i:Int)+1:=IntWalk.i64_in _ ahB;have H:=λW (k:bQ W c bud h)=>JT k hr hF V hi hp h0;obtain⟨r,I⟩:=LE (maP c.b.n bud h i p);have HX:=qh (show dT c.b.n bud h i=(⟨r.1,r.2.1,r.2.2.1,h.S.set i r.2.2.2⟩,decide (r.2.2.2.pc=0\/r.2.2.2.pc=10))from by unfold dT;rw[<-O,if_neg h0,<-I]);rw[<-I]at H;have Nx:p.pc<10\/(10<p.pc/\p.pc<17)\/17<=p.pc:=by omega
  clear k hr O hp Y I h0;rcases Nx with e|e|e
  all_goals
   first|rw[if_pos e]at H|rw[if_neg ahB,if_pos e.2]at H|rw[if_neg ahB,if_neg ahB]at H
   have HM:=qh H;first|(have u1:decide (p.pc<10)=true:=decide_eq_true ahB)|(have u1:decide (p.pc<10)=false:=decide_eq_false ahB)
   first|(have u2:decide (p.pc<17)=true:=decide_eq_true ahB)|(have u2:decide (p.pc<17)=false:=decide_eq_false ahB)
   clear H e;go_enter func333,ntmps333;go_wp2_with fail;refine Op Mn.o λw1 b1=>?_;have K1:=qh ((HK.o.1.below b1.o).below ((Below.refl _ w1).alloc (Nat.le_refl _) (cells #[J 0,J 0,J 0,J 0] 113)));have c5:=(HK.o.1.below b1.o).is.cq;have Lo:=(HK.o.1.below b1.o).is.lk.lt;have Qe:=(HK.o.1.below b1.o).is.sp.lt;go_wp2_with fail;refine Op (HM.o _ K1.o.is) λw2 K2=>?_;have LQ:(h.S.set i {r.2.2.2 with pc:=p.pc})[i]? =some {r.2.2.2 with pc:=p.pc}:=au HK.o.2 _;have d0:=ST (K2.o.is.sp.cell LQ 0 _ rfl);have f0:=K2.o.is.sp.free (i*4);have hq:=K2.o.is.sp.lt;have K3:=K2.o.sput LQ (j:=0) (v:= J r.2.2.2.pc) (p':=r.2.2.2) ahD rfl;simp only[Nat.add_zero,List.set_set]at K3;have H2:=qh (show MaT w _ c bud _ from⟨K3.is,K1.o.tn.trans K3.tn⟩);clear LQ K3 c5;cases z0:(r.2.2.2.pc==0)
   .cases z1:(r.2.2.2.pc==10);.have HD:Kq (decide (r.2.2.2.pc=0\/r.2.2.2.pc=10)=false):=qh aij;exact aas
    .have HD:Kq (decide (r.2.2.2.pc=0\/r.2.2.2.pc=10)=true):=qh aik;exact aas
   .have HD:Kq (decide (r.2.2.2.pc=0\/r.2.2.2.pc=10)=true):=qh ail;exact aas
end
end
end Go.Proofs.YtglokdbiggbkjaaGreat
