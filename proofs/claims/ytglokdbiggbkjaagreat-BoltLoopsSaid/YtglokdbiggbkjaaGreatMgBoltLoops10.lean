/- Joined texts. -/
import Derived.Test.YtglokdbiggbkjaaGreatMgBoltLoops0
import Derived.Test.YtglokdbiggbkjaaGreatMgBoltLoops2
import Derived.Test.YtglokdbiggbkjaaGreatMgBoltLoops3
import Derived.Test.YtglokdbiggbkjaaGreatMgBoltLoops4
import Derived.Test.YtglokdbiggbkjaaGreatMgBoltLoops5
import Derived.Test.YtglokdbiggbkjaaGreatMgBoltLoops6
import Derived.Test.YtglokdbiggbkjaaGreatMgBoltLoops9
set_option linter.unusedVariables false
set_option linter.unusedSimpArgs false
set_option linter.defProp false
set_option maxRecDepth 100000
set_option maxHeartbeats 16000000
open Go.Proofs.Tryz
namespace Go.Proofs.YtglokdbiggbkjaaGreat
open Go.IntKind(i64)
open Go.Value(int bool slice agg tuple pointer)
open Go.Ending(returned)
open Go.Obj(cells)
variable{n bb B lo i c:Nat}{w w':World}{pl:List (Int×Int)}
section
open Go Go.RowKit Go.Maps
section
variable{M:LkM n}
def jS(n:Nat)(rd:Bool)(t:Int)(read:Bool):Int:=if 0<=t/\t<n then(if (read&&!rd)=true then 7 else 0)else 4
def LkM.bIn(M:LkM n)(st:M.σ)(t J' Kv:Int)(read:Bool):Nat×Int×List (Int×Int):=
 if jS n M.rd t read≠0 then(0,jS n M.rd t read,[])
 else if M.stt st t.toNat=0 then((M.unt t 2 J'.toNat (M.pick st (t,Kv)).2).1,if (M.unt t 2 J'.toNat (M.pick st (t,Kv)).2).2.1 then 0 else 10,(t,Kv) :: List.replicate (M.unt t 2 J'.toNat (M.pick st (t,Kv)).2).1 (t,0))
 else if M.stt st t.toNat≠1\/M.rds st t.toNat≠read then(0,5,[])
 else((M.unt t 2 J'.toNat st).1,if (M.unt t 2 J'.toNat st).2.1 then 0 else 10,List.replicate (M.unt t 2 J'.toNat st).1 (t,0))
def LkM.bOut(M:LkM n)(st:M.σ)(t J' Kv:Int)(read:Bool):Nat×Int×List (Int×Int):=
 if jS n M.rd t read≠0 then(0,jS n M.rd t read,[])
 else if M.rds st t.toNat≠read\/M.stt st t.toNat=0\/M.stt st t.toNat=1 then(0,6,[])
 else if M.stt st t.toNat=2 then((M.unt t 4 J'.toNat (M.pick st (t,Kv)).2).1,if (M.unt t 4 J'.toNat (M.pick st (t,Kv)).2).2.1 then 0 else 10,(t,Kv) :: List.replicate (M.unt t 4 J'.toNat (M.pick st (t,Kv)).2).1 (t,0))
 else((M.unt t 4 J'.toNat st).1,if (M.unt t 4 J'.toNat st).2.1 then 0 else 10,List.replicate (M.unt t 4 J'.toNat st).1 (t,0))
def LkM.bDo(M:LkM n)(st:M.σ)(Kv t J':Int):Nat×Int×List (Int×Int):=
 if Kv=1 then M.bIn st t J' 1 false else if Kv=3 then M.bIn st t J' 3 true else if Kv=2 then M.bOut st t J' 2 false else if Kv=4 then M.bOut st t J' 4 true else(0,7,[])
variable{X:WoB M}{C':M.σ}
def kH(X:WoB M)(bb B:Nat)(w:World)(C':M.σ)(pl:List (Int×Int))(r:Nat×Int×List (Int×Int))(e:Ending)(w':World):Prop:=
 Ae X bb B w C' (pl++r.2.2) (tuple #[J r.1,J r.2.1]) e w'/\(r.2.1≠0->r.2.1≠10->Below w.heap.size w w')
theorem Iz(G:M.Good)(h:dY X bb B w C' pl)(t:Int)(read:Bool):E 160 #[lkP bb,J t,.bool read] w λe w'=>e= returned (J (jS n M.rd t read))/\w=w':=by
  obtain⟨v,hb,-⟩:=h.bk;have c0:=hb.cell 0;have c1:=hb.cell 1;have O:=qh (uM G h.is);obtain⟨rd,V⟩:=LE M.rd;rw[<-V]at c1 ⊢;obtain⟨r,I⟩:=LE (jS n rd t read);rw[<-I];have H:=qh I;unfold lkP at *;clear hb h G V I;by_cases Y:t<0;. go_enter func160,ntmps160;go_wp2;go_ret;rw[H.o,jS,if_neg ahB];exact⟨rfl,rfl⟩
  . by_cases hn:(n:Int)<=t;. go_enter func160,ntmps160;go_wp2_with fail;refine LT O.o ?_;go_wp2;go_ret;rw[H.o,jS,if_neg ahB];exact⟨rfl,rfl⟩
    . cases read<;>cases rd;all_goals go_enter func160,ntmps160;go_wp2_with fail;refine LT O.o ?_;go_wp2;go_ret;rw[H.o,jS,if_pos ahB];exact⟨rfl,rfl⟩
theorem inB(G:M.Good)(h:dY X bb B w C' pl)(Y:M.ok C' 0)(t J' H:Int)(read:Bool)(hm:J'<=60)(hN:pl.length+61<=lkB){r:Nat×Int×List (Int×Int)}(I:r=M.bIn (M.runA C' pl pl.length) t J' H read):E 115 #[lkP bb,J t,J J',J H,.bool read] w (kH X bb B w C' pl r):=by
  have HM:=qh (Iz G h t read);have hc0:w.cell? bb=some (lkP X.wb):=h.bk.elim λv k=>k.1.cell 0;have H0:=qh h;have HG:=qh G;have RS:=qh Y;obtain⟨c,hc⟩:=LE (jS n M.rd t read);obtain⟨st,V⟩:=LE (M.runA C' pl pl.length);unfold LkM.bIn at I;rw[<-hc]at HM I;rw[<-V]at I;have LN:=qh V;have Mv:=qh hN;by_cases h0:c≠0;. rw[if_pos h0]at I;subst I;unfold lkP at *;clear h Y G V hN hc;go_enter func115,ntmps115;go_wp2_with fail;refine LT HM.o ?_;go_wp2;go_ret2;exact⟨⟨rfl,by simpa using H0.o,.refl⟩,λ_ _=>Below.refl _ _⟩
  . have h0:c=0:=(by omega);subst h0;rw[if_neg ahC]at I;have ht:0<=t/\t<n:=(by exact aai);obtain⟨i,rfl⟩:=Int.eq_ofNat_of_zero_le ht.1;have ab:i<n:=(by omega);have HS:=qh (mJ G h.is i ab);rw[<-V]at HS;simp only[Int.toNat_natCast]at I;obtain⟨s,hs⟩:=LE (M.stt st i);obtain⟨rd,La⟩:=LE (M.rds st i);rw[<-hs]at HS;simp only[<-hs]at I;rw[<-La]at HS;simp only[<-La]at I;by_cases MZ:s=0
    . subst MZ;rw[if_pos rfl]at I;have HP:=qh (λW (k:dY X bb B W C' pl)=>CM G k Y ahB (i:Int) H);have O:=qh (λW (k:dY X bb B W C' (pl++[((i:Int),H)]))=>sd .i G k Y (i:Int) J' hm ahG rfl);rw[show M.runA C' (pl++[((i:Int),H)]) (pl++[((i:Int),H)]).length=(M.pick st ((i:Int),H)).2 from by rw[kF,<-V]]at O;obtain⟨z,hz⟩:=LE (M.unt (i:Int) 2 J'.toNat (M.pick st ((i:Int),H)).2);rw[<-hz]at I O;refine aki ?_;intro rc Me;rw[<-Me]at I O;have Ob:=qh (show rc=0\/rc=10 by rw[Me];split<;>simp);subst I;have NU:pl++(((i:Int),H) :: List.replicate z.1 ((i:Int),0))=(pl++[((i:Int),H)])++List.replicate z.1 ((i:Int),0):=(by simp);unfold kH;try simp only
      rw[NU];unfold lkP at *;clear h Y G V hN hc hz Me hs La NU;go_enter func115,ntmps115;go_wp2_with fail;refine LT HM.o ?_;go_wp2_with fail;refine ajG ?_;intro w2 b2 H2;go_wp2_with fail;refine Op (HP.o _ H2.o.1) λw3 k3=>?_;have H3:=qh (And.intro k3.o.1 ((TuB.below H0.o.lt H2.o.2).trans k3.o.2));go_wp2_with fail;refine Op (O.o _ H3.o.1) λw4 k4=>?_;have H4:=qh (And.intro k4.o.1 (H3.o.2.trans k4.o.2));go_wp2;go_ret2;exact⟨⟨rfl,H4.o⟩,λa b=>by have:=Ob.o;omega⟩
    . rw[if_neg MZ]at I;by_cases hq:s≠1\/rd≠read
      . rw[if_pos hq]at I;subst I;unfold lkP at *;clear h Y G V hN hc hs La;rcases(show s≠1\/s=1/\(rd=true/\read=false\/rd=false/\read=true)by cases rd<;>cases read<;>simp_all<;>omega)with e1|⟨rfl,⟨rfl,rfl⟩|⟨rfl,rfl⟩⟩
        all_goals clear hq;go_enter func115,ntmps115;go_wp2_with fail;refine LT HM.o ?_;go_wp2_with fail;refine ajG ?_;intro w2 b2 H2;go_wp2;go_ret2;exact⟨⟨rfl,by simpa using H2.o.1,.below H0.o.lt H2.o.2⟩,λ_ _=>H2.o.2⟩
      . rw[if_neg hq]at I;have Qe:s=1:=Classical.byContradiction λe=>hq (.inl e);have PJ:rd=read:=Classical.byContradiction λe=>hq (.inr e);subst Qe PJ;have Uz:(rd !=rd)=false:=(by simp);have O:=qh (λW (k:dY X bb B W C' pl)=>sd .i G k Y (i:Int) J' hm ahB rfl);rw[<-V]at O;obtain⟨z,hz⟩:=LE (M.unt (i:Int) 2 J'.toNat st);rw[<-hz]at I O;refine aki ?_;intro rc Me;rw[<-Me]at I O;have Ob:=qh (show rc=0\/rc=10 by rw[Me];split<;>simp);subst I;unfold kH;try simp only
        unfold lkP at *;clear h Y G V hN hc hz Me hs La;go_enter func115,ntmps115;go_wp2_with fail;refine LT HM.o ?_;go_wp2_with fail;refine ajG ?_;intro w2 b2 H2;go_wp2_with fail;refine Op (O.o _ H2.o.1) λw4 k4=>?_;have H4:=qh (And.intro k4.o.1 ((TuB.below H0.o.lt H2.o.2).trans k4.o.2));go_wp2;go_ret2;exact⟨⟨rfl,H4.o⟩,λa b=>by have:=Ob.o;omega⟩
theorem I0(G:M.Good)(h:dY X bb B w C' pl)(Y:M.ok C' 0)(t J' H:Int)(read:Bool)(hm:J'<=60)(hN:pl.length+61<=lkB){r:Nat×Int×List (Int×Int)}(I:r=M.bOut (M.runA C' pl pl.length) t J' H read):E 116 #[lkP bb,J t,J J',J H,.bool read] w (kH X bb B w C' pl r):=by
  have HM:=qh (Iz G h t read);have hc0:w.cell? bb=some (lkP X.wb):=h.bk.elim λv k=>k.1.cell 0;have H0:=qh h;have HG:=qh G;have RS:=qh Y;obtain⟨c,hc⟩:=LE (jS n M.rd t read);obtain⟨st,V⟩:=LE (M.runA C' pl pl.length);unfold LkM.bOut at I;rw[<-hc]at HM I;rw[<-V]at I;have LN:=qh V;have Mv:=qh hN;by_cases h0:c≠0;. rw[if_pos h0]at I;subst I;unfold lkP at *;clear h Y G V hN hc;go_enter func116,ntmps116;go_wp2_with fail;refine LT HM.o ?_;go_wp2;go_ret2;exact⟨⟨rfl,by simpa using H0.o,.refl⟩,λ_ _=>Below.refl _ _⟩
  . have h0:c=0:=(by omega);subst h0;rw[if_neg ahC]at I;have ht:0<=t/\t<n:=(by exact aai);obtain⟨i,rfl⟩:=Int.eq_ofNat_of_zero_le ht.1;have ab:i<n:=(by omega);have HS:=qh (mJ G h.is i ab);rw[<-V]at HS;simp only[Int.toNat_natCast]at I;obtain⟨s,hs⟩:=LE (M.stt st i);obtain⟨rd,La⟩:=LE (M.rds st i);rw[<-hs]at HS;simp only[<-hs]at I;rw[<-La]at HS;simp only[<-La]at I;by_cases hq:rd≠read\/s=0\/s=1
    . rw[if_pos hq]at I;subst I;unfold lkP at *;clear h Y G V hN hc hs La;rcases(show(rd=true/\read=false)\/(rd=false/\read=true)\/rd=read/\(s=0\/s=1)by cases rd<;>cases read<;>simp_all)with⟨rfl,rfl⟩|⟨rfl,rfl⟩|⟨rfl,rfl|rfl⟩
      all_goals clear hq;go_enter func116,ntmps116;go_wp2_with fail;refine LT HM.o ?_;go_wp2_with fail;refine ajG ?_;intro w2 b2 H2;go_wp2;go_ret2;exact⟨⟨rfl,by simpa using H2.o.1,.below H0.o.lt H2.o.2⟩,λ_ _=>H2.o.2⟩
    . rw[if_neg hq]at I;have PJ:rd=read:=Classical.byContradiction λe=>hq (.inl e);have q0:s≠0:=λe=>hq (.inr (.inl e));have q1:s≠1:=λe=>hq (.inr (.inr e));clear hq;subst PJ;have Uz:(rd !=rd)=false:=(by simp);have e0:(s==0)=false:=beq_eq_false_iff_ne.2 q0;have e1:(s==1)=false:=beq_eq_false_iff_ne.2 q1;by_cases MZ:s=2
      . subst MZ;rw[if_pos rfl]at I;have HP:=qh (λW (k:dY X bb B W C' pl)=>CM G k Y ahB (i:Int) H);have O:=qh (λW (k:dY X bb B W C' (pl++[((i:Int),H)]))=>sd .o G k Y (i:Int) J' hm ahG rfl);rw[show M.runA C' (pl++[((i:Int),H)]) (pl++[((i:Int),H)]).length=(M.pick st ((i:Int),H)).2 from by rw[kF,<-V]]at O;obtain⟨z,hz⟩:=LE (M.unt (i:Int) 4 J'.toNat (M.pick st ((i:Int),H)).2);rw[<-hz]at I O;refine aki ?_;intro rc Me;rw[<-Me]at I O;have Ob:=qh (show rc=0\/rc=10 by rw[Me];split<;>simp);subst I;have NU:pl++(((i:Int),H) :: List.replicate z.1 ((i:Int),0))=(pl++[((i:Int),H)])++List.replicate z.1 ((i:Int),0):=(by simp);unfold kH;try simp only
        rw[NU];unfold lkP at *;clear h Y G V hN hc hz Me hs La NU;go_enter func116,ntmps116;go_wp2_with fail;refine LT HM.o ?_;go_wp2_with fail;refine ajG ?_;intro w2 b2 H2;go_wp2_with fail;refine Op (HP.o _ H2.o.1) λw3 k3=>?_;have H3:=qh (And.intro k3.o.1 ((TuB.below H0.o.lt H2.o.2).trans k3.o.2));go_wp2_with fail;refine Op (O.o _ H3.o.1) λw4 k4=>?_;have H4:=qh (And.intro k4.o.1 (H3.o.2.trans k4.o.2));go_wp2;go_ret2;exact⟨⟨rfl,H4.o⟩,λa b=>by have:=Ob.o;omega⟩
      . rw[if_neg MZ]at I;have e2:(s==2)=false:=beq_eq_false_iff_ne.2 MZ;have O:=qh (λW (k:dY X bb B W C' pl)=>sd .o G k Y (i:Int) J' hm ahB rfl);rw[<-V]at O;obtain⟨z,hz⟩:=LE (M.unt (i:Int) 4 J'.toNat st);rw[<-hz]at I O;refine aki ?_;intro rc Me;rw[<-Me]at I O;have Ob:=qh (show rc=0\/rc=10 by rw[Me];split<;>simp);subst I;unfold kH;try simp only
        unfold lkP at *;clear h Y G V hN hc hz Me hs La;go_enter func116,ntmps116;go_wp2_with fail;refine LT HM.o ?_;go_wp2_with fail;refine ajG ?_;intro w2 b2 H2;go_wp2_with fail;refine Op (O.o _ H2.o.1) λw4 k4=>?_;have H4:=qh (And.intro k4.o.1 ((TuB.below H0.o.lt H2.o.2).trans k4.o.2));go_wp2;go_ret2;exact⟨⟨rfl,H4.o⟩,λa b=>by have:=Ob.o;omega⟩
end
end
section
open Go Go.RowKit Go.Maps
section
variable{M:LkM n}{X:WoB M}{C':M.σ}
inductive BoC:Int->FuncId->Prop
 |l:BoC 1 71
 |r:BoC 3 73
 |u:BoC 2 72
 |v:BoC 4 75
theorem E7{Y:Int}{f:FuncId}(K:BoC Y f)(G:M.Good)(h:dY X bb B w C' pl)(V:M.ok C' 0)(t O:Int)(hm:O<=60)(hN:pl.length+61<=lkB){r:Nat×Int×List (Int×Int)}(I:r=M.bDo (M.runA C' pl pl.length) Y t O):Calls prog f #[lkP bb,J t,J O] w (kH X bb B w C' pl r):=by
  cases K;case' l=>have H:=qh (inB G h V t O 1 false hm hN (r:=r) I)
  case' r=>have H:=qh (inB G h V t O 3 true hm hN (r:=r) I)
  case' u=>have H:=qh (I0 G h V t O 2 false hm hN (r:=r) I)
  case' v=>have H:=qh (I0 G h V t O 4 true hm hN (r:=r) I)
  all_goals unfold lkP at *;clear h V G hN I hm
  case l=>go_enter func71,ntmps71;go_wp2_with fail;refine H.o.mono ?_;rintro en w2 ⟨⟨rfl,k,t⟩,b⟩;have K:=qh (And.intro (And.intro k t) b);clear k t b;go_wp2;go_ret2;exact⟨⟨rfl,K.o.1⟩,K.o.2⟩
  case r=>go_enter func73,ntmps73;go_wp2_with fail;refine H.o.mono ?_;rintro en w2 ⟨⟨rfl,k,t⟩,b⟩;have K:=qh (And.intro (And.intro k t) b);clear k t b;go_wp2;go_ret2;exact⟨⟨rfl,K.o.1⟩,K.o.2⟩
  case u=>go_enter func72,ntmps72;go_wp2_with fail;refine H.o.mono ?_;rintro en w2 ⟨⟨rfl,k,t⟩,b⟩;have K:=qh (And.intro (And.intro k t) b);clear k t b;go_wp2;go_ret2;exact⟨⟨rfl,K.o.1⟩,K.o.2⟩
  case v=>go_enter func75,ntmps75;go_wp2_with fail;refine H.o.mono ?_;rintro en w2 ⟨⟨rfl,k,t⟩,b⟩;have K:=qh (And.intro (And.intro k t) b);clear k t b;go_wp2;go_ret2;exact⟨⟨rfl,K.o.1⟩,K.o.2⟩
theorem doB(G:M.Good)(h:dY X bb B w C' pl)(hk:M.ok C' 0)(H t O:Int)(hm:O<=60)(hN:pl.length+61<=lkB){r:Nat×Int×List (Int×Int)}(I:r=M.bDo (M.runA C' pl pl.length) H t O):E 34 #[lkP bb,agg #[J H,J t,J O]] w (kH X bb B w C' pl r):=by
  obtain⟨w1,MQ⟩:=LE (w.alloc (cells #[J H,J t,J O] 69));have b1:Below w.heap.size w w1:=by rw[MQ];exact(Below.refl _ _).alloc (Nat.le_refl _) _
  have hB:Blk w1 w.heap.size 69 #[J H,J t,J O]:=by rw[MQ];exact Blk.new _ _ _
  have c0:=hB.cell 0;have c1:=hB.cell 1;have c2:=hB.cell 2;have h1:=h.below G b1;have I':=h.lt;have HF:=qh (fun(e:Ending) (w2:World) (q:kH X bb B w1 C' pl r e w2)=>show kH X bb B w C' pl r e w2 from⟨⟨q.1.1,q.1.2.1,(TuB.below I' b1).trans q.1.2.2⟩,λa c=>b1.trans ((q.2 a c).mono b1.size)⟩);have V:=qh (fun(f:FuncId) (K:BoC H f)=>E7 K G h1 hk t O hm hN I);have H5:=qh (fun(h1:H≠1) (h2:H≠2) (h3:H≠3) (h4:H≠4)=>show r=(0,7,[])from by rw[I];unfold LkM.bDo;rw[if_neg h1,if_neg h3,if_neg h2,if_neg h4]);have Y:=qh (And.intro h1 (And.intro b1 I'));have HW:=qh MQ;unfold lkP at *;clear h h1 hk G hN I hm hB b1 MQ I';by_cases e:H=1\/H=2\/H=3\/H=4
  . rcases e with rfl|rfl|rfl|rfl
    case' inl=>have HD:=qh (V.o _ .l)
    case' inr.inl=>have HD:=qh (V.o _ .u)
    case' inr.inr.inl=>have HD:=qh (V.o _ .r)
    case' inr.inr.inr=>have HD:=qh (V.o _ .v)
    all_goals clear V H5;go_enter func34,ntmps34;go_upto_region 1 with fail;rw[<-HW.o];go_wp2_with fail;refine HD.o.mono ?_;intro en w2 q;have Q:=qh (HF.o _ _ q);obtain⟨⟨rfl,-,-⟩,-⟩:=q;go_wp2;go_ret2;exact Q.o
  . have e1:H≠1:=λq=>e (.inl q);have e2:H≠2:=λq=>e (.inr (.inl q));have e3:H≠3:=λq=>e (.inr (.inr (.inl q)));have e4:H≠4:=λq=>e (.inr (.inr (.inr q)));have I:=H5.o e1 e2 e3 e4;subst I;clear e;go_enter func34,ntmps34;go_upto_region 1 with fail;rw[<-HW.o];go_wp2;go_ret2;exact⟨⟨rfl,by simpa using Y.o.1,.below Y.o.2.2 Y.o.2.1⟩,λ_ _=>Y.o.2.1⟩
end
end
section
open Go Go.RowKit Go.Maps
def DA(w:World)(n:Nat)(h1:1<=n)(h2:n<=32){v:Value}{l:List Ev}(O:RdL w v 4 encE l)(gs:Nat->List (Int×Bool))(h0:gs 0=List.replicate n (0,false))(hs:∀k e,l[k]? =some e->jk (gs k) e (gs (k+1))):E 35 #[J n,v] w λe w'=>e= returned (tuple #[J l.length,J 0])/\Below w.heap.size w w':=by
  have HN:=qh (IN w n h1 h2);obtain⟨A,cap,rfl,l1,l2,I⟩:=O;have HR:=qh I;have HS:=qh hs;have H0:=qh h0;obtain⟨m,hm⟩:=LE l.length;rw[<-hm]at l1 l2 ⊢;have Ve:=qh hm;clear I hs h0 hm;go_enter func35,ntmps35;go_wp2_with fail;refine HN.o.mono ?_;rintro en w1 ⟨sb,ab,rfl,W1,Ls,Ky,b1⟩;have HW:=qh (And.intro W1 b1);have Kl:=b1.size;clear W1 b1 HN;go_wp2;go_loopw [4,5,7,8,9,14] (λa b _ _ _ i wr=>a= J 0/\b= J 0/\∃k:Nat,i= J k/\k<=m/\gF wr sb ab (gs k)/\Below w.heap.size w wr) (λ_ _ _ _ _ i _=>m-(intOf i).toNat);case atStart=>exact⟨rfl,rfl,0,rfl,by omega,by rw[H0.o];exact HW.o.1,HW.o.2⟩
  case round=>
    obtain⟨rfl,rfl,k,rfl,hk,hS,hb⟩:=hrel;obtain⟨V,rfl⟩:∃V:World,V=wr:=⟨_,rfl⟩;by_cases I':k<m
    . obtain⟨h,H⟩:=ai (show k<l.length by have:=Ve.o;omega);obtain⟨bl,off,rfl,KQ,hc⟩:=HR.o (by have:=Ve.o;omega);have c0:=(hb.cell (p:=⟨bl,off+k*4+0,none⟩) KQ).trans (hc k _ H 0 _ rfl);have c1:=(hb.cell (p:=⟨bl,off+k*4+1,none⟩) KQ).trans (hc k _ H 1 _ rfl);have c2:=(hb.cell (p:=⟨bl,off+k*4+2,none⟩) KQ).trans (hc k _ H 2 _ rfl);have c3:=(hb.cell (p:=⟨bl,off+k*4+3,none⟩) KQ).trans (hc k _ H 3 _ rfl);simp only[Nat.add_zero]at c0;obtain⟨w2,Ni⟩:=LE (V.alloc (cells #[J h.kind,J h.thread,.bool h.read,J h.count] 55));have b2:Below V.heap.size V w2:=(by rw[Ni];exact(Below.refl _ _).alloc (Nat.le_refl _) _);have Y:Blk w2 V.heap.size 55 #[J h.kind,J h.thread,.bool h.read,J h.count]:=(by rw[Ni];exact Blk.new _ _ _);have d0:=Y.cell 0;have d1:=Y.cell 1;have d2:=Y.cell 2;have d3:=Y.cell 3;have HD:=qh (JP (hS.below b2) (HS.o k h H));unfold evV at HD;have HB:=qh (hb.trans (b2.mono hb.size));have Q1:=hb.size;have Oe:=qh Ni;have x1:IntKind.i64.wrap ((k:Int)+1)=(k:Int)+1:=IntWalk.i64_in _ ahB;clear hS hb H hc b2 Y Ni;go_upto_region 5 with fail;rw[<-Oe.o];go_wp2_with fail;refine Op HD.o λw3 s3=>?_;have H3:=qh (And.intro s3.o.1 (HB.o.trans (s3.o.2.below (λi hi=>by simp at hi;subst hi;exact Ky) HB.o.size)));clear d0 d1 d2 d3;go_wp2;go_roundw;case rel=>exact⟨rfl,rfl,k+1,by go_num,by omega,H3.o.1,H3.o.2⟩
      case measure=>simp[intOf];omega
    . obtain rfl:k=m:=by omega
      have HB:=qh hb;clear hS hb;go_wp2;go_ret2;exact⟨rfl,HB.o⟩
end
section
open Go Go.RowKit Go.Maps
def y9(w:World):(w.alloc (cells #[] 55)).ownsRow w.heap.size 55 4 (slice (some ⟨w.heap.size,0,none⟩) 0 0) 0 []:=by exact aae
def FN(w:World)(v:Value)(l:List Ev)(h:RdL w v 4 encE l)(hl:l.length<=1000000):E 74 #[v] w λe w'=>∃v',e= returned v'/\RdL w' v' 4 encE l/\(∀q,v'.ownBlock=some q->w.heap.size<=q)/\Below w.heap.size w w':=by
  obtain⟨i0,hi,Kr,Ku,hz2⟩:=info_parts Tryz.infoEvt;refine ajB ?_;intro HI;clear hi Kr Ku hz2;have HR:=qh h;obtain⟨A,cap,rfl,l1,l2,I⟩:=h;cases A with
  | none=>have hl:l=[]:=(by exact aaf);subst hl;clear I HR;simp only[List.length_nil];have hn:=Lib.run_eql_slice_nil w 70 55 none 0 cap 0 0 Tryz.underlying70;simp only[Option.isNone]at hn;go_enter func74,ntmps74;go_wp2;go_ret;refine⟨_,rfl,RdL.nil,?_,Below.refl _ _⟩;intro q hq;simp[Value.ownBlock]at hq
  | some Y=>
    have HN:=qh (show ∀(j:Nat) (u:Value),(l.flatMap encE)[j]? =some u->w.cell? (Y.add j)=some u from by
      intro j u H;obtain⟨y,hy,V⟩:=BK jL l j u H;obtain⟨b,off,e,hb,hc⟩:=I (Nat.lt_of_le_of_lt (Nat.zero_le _) (List.getElem?_eq_some_iff.1 hy).1);injection e with e;subst e;have LZ:(⟨b,off,none⟩:Addr).add j=⟨b,off+j,none⟩:=(by unfold Addr.add;split<;>simp_all);have:=hc _ _ hy _ _ V;rw[LZ]
      rwa [show off+j/4*4+j%4=off+j by omega]at this)
    have Lz:=tx jL l;have hn:=Lib.run_eql_slice_nil w 70 55 (some Y) l.length cap 0 0 Tryz.underlying70;simp only[Option.isNone]at hn;clear I;go_enter func74,ntmps74;go_wp2_with (at_builtin;go_loud (refine wpList_append_own _ rfl _ _ 70 rfl w.heap.size 55 i0 (agg #[J 0,J 0,bool false,J 0]) 4 32 Tryz.underlying70 HI.o.1 HI.o.2.1 HI.o.2.2.1 HI.o.2.2.2 rfl ahD _ 0 [] rfl (y9 w) Y l.length cap (l.flatMap encE) rfl Lz ?c1 ?c2 ?c3 ?c4 ?c5 ?_));case c1=>exact λj u H=>(World.cell?_alloc_lt _ _ _ (by have:=aI (HN.o j u H);exact this)).trans (HN.o j u H)
    case c2=>intro u H;obtain⟨y,_,V⟩:=List.mem_flatMap.1 H;exact oH y u V
    case c3=>unfold maxLen;omega
    case c4=>omega
    case c5=>simp
    intro v' w' MO MJ OR;have O:=qh (And.intro MO MJ);clear MO MJ OR;go_wp2;go_ret;refine⟨_,rfl,RdL.of_own jL (n:=l.length) rfl ahB (by have:=O.o.1;simpa using this),λq hq=>(O.o.1.lt q hq).1,(((Below.refl _ _).alloc (Nat.le_refl _) _).grown O.o.2 ahC (λj hj=>by simp[Value.ownBlock]at hj;omega))⟩
section
variable{M:LkM n}{X:WoB M}{C':M.σ}
theorem r5(h:dY X bb B w C' pl)(O:pl.length<=1000000):E 33 #[lkP bb] w λe w'=>∃v',e= returned v'/\RdL w' v' 4 encE (M.evs C' pl)/\(∀q,v'.ownBlock=some q->w.heap.size<=q)/\Below w.heap.size w w':=by obtain⟨v,hb,V⟩:=h.bk;have c2:=hb.cell 2;have I:=qh (FN w v (M.evs C' pl) (RdL.of_own jL (dC _ _).symm (by rw[dC];omega) V) (by rw[dC];exact O));unfold lkP at *;clear hb V h;go_enter func33,ntmps33;go_wp2_with fail;refine I.o.mono ?_;rintro en w2 ⟨v',rfl,r,o,b⟩;have H:=qh (And.intro r (And.intro o b));clear r o b;go_wp2;go_ret;exact⟨_,rfl,H.o⟩
theorem sf(G:M.Good)(h:dY X bb B w C' pl):E 32 #[lkP bb] w λe w'=>∃v,e= returned v/\RdL w' v 1 encI (M.ar (M.runA C' pl pl.length)).W/\(∀q,v.ownBlock=some q->w.heap.size<=q)/\Below w.heap.size w w':=by have I:=qh (Dg G h.is);obtain⟨v,hb,V⟩:=h.bk;have c0:=hb.cell 0;unfold lkP at *;clear hb V h G;go_enter func32,ntmps32;go_wp2_with fail;refine I.o.mono ?_;rintro en w2 ⟨v',rfl,r,o,b⟩;have H:=qh (And.intro r (And.intro o b));clear r o b;go_wp2;go_ret;exact⟨_,rfl,H.o⟩
end
def so(W:World)(ms:MS n)(e:Ending)(w':World):Prop:=
 ∃(X:WoB ms.1) (bb:Nat),e= returned (tuple #[lkP bb,J 0])/\ms.1.Good/\ms.1.ok ms.2 0/\cQ X w' ms.2/\(∀x∈ms.1.fp X.b,W.heap.size<=x)/\(W.heap.size<=X.wb/\W.heap.size<=ms.1.bt X.b)/\X.hi<=bb/\Blk w' bb 134 #[lkP X.wb,.bool ms.1.rd,.slice none 0 0]/\Below W.heap.size W w'
def so.at{M:LkM n}{X:WoB M}{st:M.σ}(h:cQ X w st)(hb:Blk w bb 134 #[lkP X.wb,.bool M.rd,.slice none 0 0])(hi:X.hi<=bb):dY X bb w.heap.size w st []:=
 ⟨h,⟨_,hb,World.ownsRow_nil _ _ _ _⟩,hi,hb.lt,Nat.le_refl _⟩
def Fi{W:World}{vP:Value}{AT:Option Addr}{cT:Nat}{P T:List Int}{gl pa bu k:Nat}{ms:MS T.length}(La:ms.1.rd=decide (11<=(k:Int)/\(k:Int)<=13))(HN:∀gs,Below W.heap.size W gs->E 20 #[agg #[vP,.slice AT T.length cT],agg #[J k,J gl,J lo,J pa,J bu]] gs (sq gs ms P T)):E 31 #[agg #[vP,.slice AT T.length cT],agg #[J k,J gl,J lo,J pa,J bu]] W (so W ms):=by
  obtain⟨w0,E'⟩:=LE ((W.alloc (cells #[vP,.slice AT T.length cT] 24)).alloc (cells #[J k,J gl,J lo,J pa,J bu] 38));have Y:Below W.heap.size W w0:=by rw[E'];exact((Below.refl _ _).alloc (Nat.le_refl _) _).alloc ahC _
  refine ajb ?_;intro k1 k2;have c0:=k1.cell 0;have c1:=k1.cell 1;have d0:=k2.cell 0;have d1:=k2.cell 1;have d2:=k2.cell 2;have d3:=k2.cell 3;have d4:=k2.cell 4;have Mv:=qh (HN w0 Y);have I:=qh (And.intro Y k2);have Lh:=qh E';have O7:=qh La;clear Y E' k1 k2 HN La;go_enter func31,ntmps31;go_upto_region 1 with fail;rw[<-Lh.o];go_wp2_with fail;refine Mv.o.mono ?_;rintro en w3 ⟨X,lo,rfl,hG,V,h,O,H,W6,b3⟩;have H3:=qh (And.intro hG (And.intro V (And.intro h (And.intro O (And.intro H b3)))));have e0:=(I.o.2.below b3 I.o.2.lt).cell 0;clear hG V h O H W6 b3 c0 c1 d0 d1 d2 d3 d4;unfold lkP;go_wp2_with fail;refine LT (rR _ _ ms.1.rd O7.o) ?_
  have HF:=qh (show so W ms (returned (tuple #[↑w3.heap.size,J 0])) (w3.alloc (cells #[↑X.wb,.bool ms.1.rd,.slice none 0 0] 134))from by
    obtain⟨G,V,h,O,H,b3⟩:=H3.o;have Pd:=(Below.refl w3.heap.size w3).alloc (Nat.le_refl _) (cells #[↑X.wb,.bool ms.1.rd,.slice none 0 0] 134);have hs:=I.o.1.size
    exact⟨X,w3.heap.size,rfl,G,V,h.below G Pd,λx hx=>Nat.le_trans hs (O x hx),⟨Nat.le_trans hs H.1,Nat.le_trans hs H.2⟩,h.hw.2.2,Blk.new _ _ _,(I.o.1.trans (b3.mono hs)).trans (Pd.mono (Nat.le_trans hs b3.size))⟩)
  clear e0;go_wp2;go_ret2;exact HF.o
end
section
open Go Go.RowKit
variable{r read rd:Bool}{t:Int}
def rK(e:Ev):Int×Int:=(e.thread,if e.kind=1 then(if e.read then 3 else 1)else if e.kind=3 then(if e.read then 4 else 2)else 0)
section
variable{M:LkM n}{st C':M.σ}
def LkM.Tells(M:LkM n)(st:M.σ)(l:List (Int×Int)):Prop:=∀i p,l[i]? =some p->(M.pick (M.runA st l i) p).1.kind≠5/\rK (M.pick (M.runA st l i) p).1=p
def uv(l k:List (Int×Int))(st:M.σ)(h:i<=l.length):M.runA st (l++k) i=M.runA st l i:=by unfold LkM.runA;rw[List.take_append_of_le_length h]
def uu(l k:List (Int×Int))(st:M.σ)(i:Nat):M.runA st (l++k) (l.length+i)=M.runA (M.runA st l l.length) k i:=by unfold LkM.runA;rw[List.take_length_add_append,List.foldl_append,List.take_length]
def LkM.Tells.append{l k:List (Int×Int)}(h:M.Tells st l)(I:M.Tells (M.runA st l l.length) k):M.Tells st (l++k):=by
 intro i p H;by_cases hi:i<l.length;.rw[uv l k st (Nat.le_of_lt hi)];rw[List.getElem?_append_left hi]at H;exact h i p H
 .rw[List.getElem?_append_right ahB]at H;have:=I (i-l.length) p H;rw[<-uu,show l.length+(i-l.length)=i by omega]at this;exact this
def LkM.Tells.nil:M.Tells st []:=by intro i p h;simp at h
def LkM.Tells.one{p:Int×Int}(h:(M.pick st p).1.kind≠5/\rK (M.pick st p).1=p):M.Tells st [p]:=by
 intro i q H;cases i with
 |zero=>simp at H;subst H;exact h
 |succ i=>simp at H
def wX(hi:i<n):(M.pick st ((i:Int),0)).1.kind≠5/\rK (M.pick st ((i:Int),0)).1=((i:Int),0):=by
 unfold LkM.pick LkM.stepE rK;simp only;rw[if_pos ahB,if_pos trivial,Int.toNat_natCast];repeat' split
 all_goals simp_all
def m6{i:Nat}(hi:i<n):∀(k:Nat) (st:M.σ),M.Tells st (List.replicate k ((i:Int),0))
 |0,st=> .nil
 |k+1,st=>by rw[List.replicate_succ,<-List.singleton_append];exact(LkM.Tells.one (wX hi)).append (m6 hi k _)
def zQ(hi:i<n)(I:(r&&!M.rd)=false)(h:M.stt st i=0):(M.pick st ((i:Int),if r then 3 else 1)).1.kind≠5/\rK (M.pick st ((i:Int),if r then 3 else 1)).1=((i:Int),if r then 3 else 1):=by
 have H:(M.sp st i).pc=0:=by
  unfold LkM.stt iG at h;split at h;.assumption
  .split at h;.cases h
   .split at h<;>cases h
 have hd:decide ((M.sp st i).pc=0/\(r=true->M.rd=true))=true:=decide_eq_true ⟨H,λe=>by subst e;simpa using I⟩;unfold LkM.pick LkM.askE rK;exact aal
def uK(hi:i<n)(I:M.rds st i=r)(h:M.stt st i=2):(M.pick st ((i:Int),if r then 4 else 2)).1.kind≠5/\rK (M.pick st ((i:Int),if r then 4 else 2)).1=((i:Int),if r then 4 else 2):=by
 have H:(M.sp st i).pc=10:=by
  unfold LkM.stt iG at h;split at h;.cases h
  .split at h;.cases h
   .split at h;.assumption
    .cases h
 unfold LkM.pick LkM.leaveE rK;exact aal
structure BDo(M:LkM n)(st:M.σ)(J':Int)(r:Nat×Int×List (Int×Int)):Prop where
 tells:M.Tells st r.2.2
 len:r.2.2.length<=r.1+1
 le:r.1<=J'.toNat
 bad:r.2.1≠0->r.2.1≠10->r.1=0/\r.2.2=[]
 spent:r.2.1=10->r.1=J'.toNat
 came:r.2.1=0->1<=r.1
def BDo.none{h c:Int}(H:c≠0)(h1:c≠10):BDo M st h (0,c,[]):=⟨.nil,by simp,by simp,λ_ _=>⟨rfl,rfl⟩,λe=>absurd e h1,λe=>absurd e H⟩
def BDo.unt(hi:i<n)(kd h:Int)(l:List (Int×Int))(Y:l.length<=1)(V:M.Tells st l)(s:M.σ):BDo M st h ((M.unt (i:Int) kd h.toNat s).1,if (M.unt (i:Int) kd h.toNat s).2.1 then 0 else 10,l++List.replicate (M.unt (i:Int) kd h.toNat s).1 ((i:Int),0)):=by
 obtain⟨h1,I,O⟩:=Da (M:=M) (i:Int) kd h.toNat s;refine⟨V.append (m6 hi _ _),by simp;omega,h1,λe H=>?_,λe=>?_,λe=>?_⟩;.simp only at e H;split at e<;>simp_all
 .apply O;simp only at e;split at e;.cases e
  .rename_i q;exact Bool.eq_false_iff.2 q
 .apply I;simp only at e;split at e;.assumption
  .cases e
def xO(h:¬jS n rd t read≠0):∃i:Nat,t=i/\i<n/\(read&&!rd)=false:=by
 unfold jS at h;split at h
 .rename_i q;obtain⟨i,rfl⟩:=Int.eq_ofNat_of_zero_le q.1;split at h;.exact absurd ahD h
  .rename_i H;exact⟨i,rfl,by omega,Bool.eq_false_iff.2 H⟩
 .exact absurd ahD h
def ua:jS n rd t read≠10:=by
 unfold jS;repeat' split
 all_goals decide
def At(t H:Int)(read:Bool):BDo M st H (M.bIn st t H (if read then 3 else 1) read):=by
 unfold LkM.bIn;split;.rename_i h;exact .none h ua
 .rename_i h;obtain⟨i,rfl,hi,I⟩:=xO h;simp only[Int.toNat_natCast];split;.rename_i O;exact BDo.unt hi 2 H [((i:Int),if read then 3 else 1)] ahC (.one (zQ hi I O)) _
  .split;.exact .none ahD ahD
   .exact BDo.unt hi 2 H [] ahC .nil _
def xh(t H:Int)(read:Bool):BDo M st H (M.bOut st t H (if read then 4 else 2) read):=by
 unfold LkM.bOut;split;.rename_i h;exact .none h ua
 .rename_i h;obtain⟨i,rfl,hi,I⟩:=xO h;simp only[Int.toNat_natCast];split;.exact .none ahD ahD
  .rename_i V;split;.rename_i O;exact BDo.unt hi 4 H [((i:Int),if read then 4 else 2)] ahC (.one (uK hi (Classical.byContradiction λe=>V (.inl e)) O)) _
   .exact BDo.unt hi 4 H [] ahC .nil _
def FI(H t h:Int):BDo M st h (M.bDo st H t h):=by
 unfold LkM.bDo;repeat' split
 .exact At t h false
 .exact At t h true
 .exact xh t h false
 .exact xh t h true
 .exact .none ahD ahD
end
end
section
open Go Go.RowKit Go.Maps
def FJ(h:Awk 30)(w:World)(V Y:Value)(a0 a1 I O:Int)(A:Option Addr)(m c:Nat)(h1:40<m)(h2:m<=9223372036854775807):E 5 #[agg #[V,Y],agg #[.int .u8 a0,.int .u8 a1,.int .u8 I,.int .u8 O],.slice A m c] w λe w'=>e= returned (bool true)/\Below w.heap.size w w':=by have H:=qh (((Below.refl w.heap.size w).alloc (Nat.le_refl _) (cells #[V,Y] 24)).alloc ahC (cells #[.int .u8 a0,.int .u8 a1,.int .u8 I,.int .u8 O] 25));have HA:=qh h;clear h;go_enter func5,ntmps5;go_wp2_with fail;refine Op (HA.o _) λw1 hb=>?_;have H1:=qh (H.o.trans (hb.o.mono H.o.size));go_wp2;go_ret;exact⟨rfl,H1.o⟩
def Hj(V:Awk 30)(w:World)(h H:Value)(a0 a1 a2 a3:Int)(hs:Am w h H 8)(A:Option Addr)(m c:Nat)(hm:m<=40):E 5 #[agg #[h,H],agg #[.int .u8 a0,.int .u8 a1,.int .u8 a2,.int .u8 a3],.slice A m c] w λe w'=>e= returned (bool true)/\Below w.heap.size w w':=by obtain⟨w0,I⟩:=LE ((w.alloc (cells #[h,H] 24)).alloc (cells #[.int .u8 a0,.int .u8 a1,.int .u8 a2,.int .u8 a3] 25));have O:=qh (show Below w.heap.size w w0 from by rw[I];exact((Below.refl w.heap.size w).alloc (Nat.le_refl _) _).alloc ahC _);have HX:=qh (show Blk w0 w.heap.size 24 #[h,H]from by rw[I];exact(Blk.new w 24 #[h,H]).alloc _);have HS:=qh hs;have HA:=qh V;clear hs V;go_enter func5,ntmps5;go_upto_region 1 with fail;rw[<-I];clear I;have f0:w0.cell? w.heap.size=some h:=HX.o.cell 0;have f1:Z w0 w.heap.size 1 H:=HX.o.cell 1;go_wp2_with fail;refine Op (HS.o _ O.o) λw2 b2=>?_;have Y:=qh (O.o.trans (b2.o.mono O.o.size));go_wp2_with fail;refine Op (HA.o _) λw3 b3=>?_;have XO:=qh (Y.o.trans (b3.o.mono Y.o.size));go_wp2;go_ret;exact⟨rfl,XO.o⟩
structure BlS{n:Nat}{M:LkM n}(X hv:WoB M)(bb B lo:Nat)(w0 w:World)(C':M.σ)(pl:List (Int×Int))(sy:M.σ):Prop where
 b:dY X bb B w C' pl
 y:cQ hv w sy
 bel:Below w0.heap.size w0 w
 yl:lo<=M.bt hv.b/\lo<=hv.wb/\hv.hi<=B
 bl:bb<lo/\w0.heap.size<=bb
 fx:∀i∈M.fp X.b,w0.heap.size<=i
 fy:∀i∈M.fp hv.b,lo<=i
section
variable{M:LkM n}{X hv:WoB M}{w0:World}{C' sy s':M.σ}{Qq:List (Int×Int)}
def BlS.below(G:M.Good)(h:BlS X hv bb B lo w0 w C' pl sy)(t:Below w.heap.size w w'):BlS X hv bb B lo w0 w' C' pl sy:=
 {h with b:=h.b.below G t,y:=h.y.below G t,bel:=h.bel.trans (t.mono h.bel.size)}
def BlS.actB(G:M.Good)(h:BlS X hv bb B lo w0 w C' pl sy)(t:TuB bb B (bb :: M.fp X.b) w w')(k:dY X bb B w' C' Qq):BlS X hv bb B lo w0 w' C' Qq sy:=by
 obtain⟨R,O,t,-⟩:=t
 have H:∀i∈R++bb :: M.fp X.b,B<=i\/(i<lo/\w0.heap.size<=i):=λi hi=>by
  rcases List.mem_append.1 hi with h1|h1
  .exact .inl (O i h1).1
  .rcases List.mem_cons.1 h1 with rfl|h1
   .exact .inr h.bl
   .have:=h.b.is.lo G i h1;have:=h.b.hb;have:=h.bl;have:=h.fx i h1;omega
 have V:=h.b.hb;have Y:=h.yl;have hb:=h.bl;refine {h with b:=k,y:=⟨G.far _ _ _ _ _ _ _ _ h.y.is t (λx I=>?_),t.blk h.y.wd (λm=>?_),h.y.nf,⟨h.y.hw.1,h.y.hw.2.1,Nat.le_trans h.y.hw.2.2 t.size⟩⟩,bel:=h.bel.trans (t.below (λi hi=>?_) h.bel.size)};.have:=H x I;have:=h.y.hw;omega
 .have:=H _ m;have:=h.y.hw;omega
 .have:=H i hi;omega
def BlS.actY(G:M.Good)(h:BlS X hv bb B lo w0 w C' pl sy)(t:aa (M.fp hv.b) w w')(k:cQ hv w' s'):BlS X hv bb B lo w0 w' C' pl s':=
 {h with y:=k,b:=h.b.oth G t (λx H=>by have:=h.fy x H;have:=h.y.lo G x H;have:=h.bl;have:=h.b.hb;have:=h.yl;omega),bel:=h.bel.trans (t.below (λi hi=>by have:=h.fy i hi;have:=h.bl;omega) h.bel.size)}
end
end
section
open Go Go.RowKit Go.Maps
section
variable{M:LkM n}{X:WoB M}{N8:World}{C':M.σ}
def dY.keepB(G:M.Good)(h:dY X bb B w C' pl)(b:Below w.heap.size w w')(t:TuB bb B (bb :: M.fp X.b) w' N8){ty:TypeId}{cs:Array Value}(k:Blk w' c ty cs)(hc:w.heap.size<=c):Blk N8 c ty cs:=by
 obtain⟨R,H,t,-⟩:=t;obtain⟨v,hb,V⟩:=h.bk;have I:=h.lt;refine t.blk k (λm=>?_);rcases List.mem_append.1 m with m|m
 .rcases(H c m).2 with q|⟨v',q1,q2⟩
  .have:=k.lt;omega
  .have e:=(hb.cell 2).symm.trans ((b.cell (p:=⟨bb,2,none⟩) I).symm.trans q1);injection e with e;subst e;have:=(V.lt c q2).2;omega
 .rcases List.mem_cons.1 m with rfl|m
  .omega
  .have:=h.is.lo G c m;have:=h.hb;omega
def pk2{x z:Value}(h:Blk w' c 58 #[x,z])(b:Below w.heap.size w w')(hc:w.heap.size<=c)(u:Value):Blk (w'.setCell ⟨c,1,none⟩ u) c 58 #[x,u]/\Below w.heap.size w (w'.setCell ⟨c,1,none⟩ u):=⟨h.set_ 1 u,b.setCell (p:=⟨c,1,none⟩) hc u⟩
def exi{α:Type}{P:α->Prop}{a:α}(h:P a):∃x,x=a/\P x:=⟨a,rfl,h⟩
end
def Hk{mf:(P T:List Int)->Nat->Nat->Nat->Nat->Nat->MS T.length}(AW:Awk 30)(NW:Ak mf)(RD:∀P T gl lo pa bu k,1<=k/\k<=13->(mf P T gl lo pa bu k).1.rd=decide (11<=(k:Int)/\(k:Int)<=13))(SE:∀P T gl lo pa bu k,a5 P T=0->1<=k/\k<=13->1<=gl/\gl<=5->1<=lo/\lo<=5->1<=pa/\pa<=4->(mf P T gl lo pa bu k).1.Seen/\∀i<T.length,((mf P T gl lo pa bu k).1.sp (mf P T gl lo pa bu k).2 i).pc=0)(w:World)(vP:Value)(AT:Option Addr)(cT:Nat)(P T:List Int)(hP:RdL w vP 1 encI P)(hT:RdL w (.slice AT T.length cT) 1 encI T)(a0 a1 V a3:Nat)(h0:a0<256)(h1:a1<256)(h2:V<256)(h3:a3<256)(hs:jZ P T 8=true)(v:Value)(ls:List (Int×Int×Int))(h:RdL w v 3 yP ls)(hm:ls.length<=40):E 5 #[agg #[vP,.slice AT T.length cT],agg #[.int .u8 a0,.int .u8 a1,.int .u8 V,.int .u8 a3],v] w λe w'=>e= returned (bool true)/\Below w.heap.size w w':=by
  obtain⟨A,cap,rfl,l1,l2,I⟩:=h;have HR:=qh I;have OM:a5 P T=0/\(T.length:Int)<=8:=of_decide_eq_true hs;have al:T.length<=8:=by omega
  have Mp:1<=T.length:=by
    rcases Nat.eq_zero_or_pos T.length with q|q
    . have h1:=OM.1;unfold a5 at h1;rw[if_pos (show iX P T=true from by unfold iX;exact decide_eq_true ahB)]at h1;exact absurd h1 ahD
    . exact q
  obtain⟨w0,E'⟩:=LE ((w.alloc (cells #[vP,.slice AT T.length cT] 24)).alloc (cells #[.int .u8 a0,.int .u8 a1,.int .u8 V,.int .u8 a3] 25));have KZ:=qh (show Below w.heap.size w w0 from by rw[E'];exact((Below.refl w.heap.size w).alloc (Nat.le_refl _) _).alloc ahC _);have hX:=show Blk w0 w.heap.size 24 #[vP,.slice AT T.length cT]from by rw[E'];exact(Blk.new w 24 #[vP,.slice AT T.length cT]).alloc _
  have OK:=show Blk w0 (w.heap.size+1) 25 #[.int .u8 a0,.int .u8 a1,.int .u8 V,.int .u8 a3]from by rw[E'];exact Blk.new' _ 25 #[.int .u8 a0,.int .u8 a1,.int .u8 V,.int .u8 a3] ahC
  have Tw:=CY w0 vP _ P T (hP.below KZ.o (Nat.le_refl _)) (hT.below KZ.o (Nat.le_refl _)) 8;rw[hs]at Tw;have Vu:=qh Tw
  have HC:=qh (λW (b:Below w0.heap.size w0 W)=>show W.cell? w.heap.size=some vP/\Z W w.heap.size 1 (.slice AT T.length cT)/\Z W (w.heap.size+1) 0 (.int .u8 a0)/\Z W (w.heap.size+1) 1 (.int .u8 a1)/\Z W (w.heap.size+1) 2 (.int .u8 V)/\W.cell? ⟨w.heap.size+1,3,none⟩=some (.int .u8 a3)from
    ⟨(hX.below b hX.lt).cell 0,(hX.below b hX.lt).cell 1,(OK.below b OK.lt).cell 0,(OK.below b OK.lt).cell 1,(OK.below b OK.lt).cell 2,(OK.below b OK.lt).cell 3⟩)
  have QB:=qh (λW (b:Below w0.heap.size w0 W)=>NW W vP AT cT P T (1+a3%13) (1+a0%5) (1+a1%5) (1+V/4%4) (V%4) (hP.below (KZ.o.trans (b.mono KZ.o.size)) (Nat.le_refl _)) (hT.below (KZ.o.trans (b.mono KZ.o.size)) (Nat.le_refl _)) OM.1 ahB ahB ahB ahB ahB);have Tt:=qh (SE P T (1+a0%5) (1+a1%5) (1+V/4%4) (V%4) (1+a3%13) OM.1 ahB ahB ahB ahB);have La:=RD P T (1+a0%5) (1+a1%5) (1+V/4%4) (V%4) (1+a3%13) ahB;obtain⟨ms,WH⟩:=LE (mf P T (1+a0%5) (1+a1%5) (1+V/4%4) (V%4) (1+a3%13));rw[<-WH]at QB Tt La;have Lm:=qh (λW (b:Below w0.heap.size w0 W)=>Fi (W:=W) La (λgs bV=>QB.o gs (b.trans (bV.mono b.size))));have XN:=qh AW;obtain⟨n0,e0⟩:∃x:Nat,x=1+a3%13:=⟨_,rfl⟩;obtain⟨n1,e1⟩:∃x:Nat,x=1+a0%5:=⟨_,rfl⟩;obtain⟨n2,e2⟩:∃x:Nat,x=1+a1%5:=⟨_,rfl⟩;obtain⟨n3,e3⟩:∃x:Nat,x=1+V/4%4:=⟨_,rfl⟩;obtain⟨n4,e4⟩:∃x:Nat,x=V%4:=⟨_,rfl⟩;rw[<-e0,<-e1,<-e2,<-e3,<-e4]at QB Lm;have x0:IntKind.i64.wrap (1+(a3:Int)%13)=n0:=by rw[IntWalk.i64_in _ ahB];omega
  have x1:IntKind.i64.wrap (1+(a0:Int)%5)=n1:=by rw[IntWalk.i64_in _ ahB];omega
  have x2:IntKind.i64.wrap (1+(a1:Int)%5)=n2:=by rw[IntWalk.i64_in _ ahB];omega
  have x3:IntKind.i64.wrap (1+(V:Int)/4%4)=n3:=by rw[IntWalk.i64_in _ ahB];omega
  have x4:(V:Int)%4=n4:=by omega
  clear I hP hT hs OM Tw AW NW SE RD hX OK WH La e0 e1 e2 e3 e4;go_enter func5,ntmps5;go_upto_region 1 with fail;rw[<-E'];clear E';obtain⟨f0,f1,f2,f3,f4,f5⟩:=HC.o _ (Below.refl _ _);go_wp2_with fail;refine Op Vu.o λw1 b1=>?_;have K1:=qh b1.o;have Kl:=b1.o.size;clear f0 f1 f2 f3 f4 f5 Vu;obtain⟨f0,f1,f2,f3,f4,f5⟩:=HC.o _ K1.o;obtain⟨w2,Ni⟩:=LE (w1.alloc (cells #[J n0,J n1,J n2,J n3,J n4] 38));have b2:Below w1.heap.size w1 w2:=by rw[Ni];exact(Below.refl _ _).alloc (Nat.le_refl _) _
  have k2:Blk w2 w1.heap.size 38 #[J n0,J n1,J n2,J n3,J n4]:=by rw[Ni];exact Blk.new _ _ _
  have Mw:=qh (λW (b:Below w2.heap.size w2 W)=>show W.cell? w1.heap.size=some (J n0)/\Z W w1.heap.size 1 (J n1)/\Z W w1.heap.size 2 (J n2)/\Z W w1.heap.size 3 (J n3)/\W.cell? ⟨w1.heap.size,4,none⟩=some (J n4)from
    ⟨(k2.below b k2.lt).cell 0,(k2.below b k2.lt).cell 1,(k2.below b k2.lt).cell 2,(k2.below b k2.lt).cell 3,(k2.below b k2.lt).cell 4⟩)
  have K2:=qh (K1.o.trans (b2.mono K1.o.size));have Oe:=qh Ni;have q0:w.heap.size<w1.heap.size:=aI f0;have Y:w.heap.size+1<w1.heap.size:=aI f2;go_wp2_with fail;rw[<-Oe.o];clear f0 f1 f2 f3 f4 f5 b2 k2 Ni;refine(Lm.o _ K2.o).mono ?_;rintro en w3 ⟨X,bb,rfl,hG,mT,LW,Kt,OZ,L7,MG,b3⟩;have K3:=qh (And.intro (K2.o.trans (b3.mono K2.o.size)) (And.intro K2.o.size (And.intro mT (And.intro LW (And.intro Kt (And.intro L7 MG))))));have H:=qh hG;have KQ:bb<w3.heap.size:=MG.lt;have TV:w0.heap.size<=bb:=by have:=Kt;have:=LW.hw;have:=K2.o.size;omega
  obtain⟨g0,g1,g2,g3,g4⟩:=Mw.o _ b3;have Li:=b3.size;clear mT LW Kt OZ L7 MG b3 hG;obtain⟨f0,f1,-,-,-,-⟩:=HC.o _ K3.o.1;unfold lkP;go_wp2_with fail;refine(QB.o _ K3.o.1).mono ?_;rintro en w5 ⟨hv,bA,rfl,-,-,Um,Wm,UO,-,b5⟩
  have H5:=qh (show BlS X hv bb w5.heap.size w3.heap.size w0 w5 ms.2 [] ms.2 from by
    obtain⟨h1,h2,mT,LW,Kt,L7,MG⟩:=K3.o
    exact⟨so.at (LW.below H.o b5) (MG.below b5 MG.lt) L7,Um,h1.trans (b5.mono h1.size),⟨UO.2,UO.1,Um.hw.2.2⟩,⟨KQ,TV⟩,λi hi=>Nat.le_trans h2 (Kt i hi),Wm⟩)
  have NH:=qh K3.o.2.2.1;have Xc:=KZ.o.size;clear Um Wm UO b5 f0 f1 g0 g1 g2 g3 g4 Lm QB K1 K2 K3 Mw Oe;unfold lkP;go_wp2;go_loopw [6,12,13,14,15,16,17] (λr i _ _ _ _ _ wr=>r= bool false/\∃(k:Nat) (pl:List (Int×Int)),i= J k/\k<=ls.length/\BlS X hv bb w5.heap.size w3.heap.size w0 wr ms.2 pl ms.2/\ms.1.Tells ms.2 pl/\pl.length<=61*k) (λ_ i _ _ _ _ _ _=>ls.length-(intOf i).toNat);case atStart=>exact⟨rfl,0,[],rfl,by omega,H5.o,.nil,by simp⟩
  case round=>
    clear H5;obtain⟨rfl,k,pl,rfl,hk,hB,V7,NU⟩:=hrel;obtain⟨wo,rfl⟩:∃wo:World,wo=wr:=⟨_,rfl⟩;have M5:=qh (And.intro hB V7);clear hB V7;by_cases I':k<ls.length
    . obtain⟨bl,off,rfl,TX,hc⟩:=HR.o ahB;obtain⟨⟨y0,y1,y2⟩,hx⟩:=ai I';have Sb:=KZ.o.trans (M5.o.1.bel.mono Xc);have c0:Z wo bl (off+k*3) (J y0):=(Sb.cell (p:=⟨bl,off+k*3+0,none⟩) TX).trans (hc k _ hx 0 _ rfl);have c1:Z wo bl (off+k*3+1) (J y1):=(Sb.cell (p:=⟨bl,off+k*3+1,none⟩) TX).trans (hc k _ hx 1 _ rfl);have c2:Z wo bl (off+k*3+2) (J y2):=(Sb.cell (p:=⟨bl,off+k*3+2,none⟩) TX).trans (hc k _ hx 2 _ rfl);have bc:IntKind.i64.wrap ((k:Int)+1)=(k:Int)+1:=IntWalk.i64_in _ ahB;clear hc hx Sb;by_cases ab:60<y2
      . have M4:=qh (M5.o.1.below H.o ((Below.refl _ _).alloc (Nat.le_refl _) (cells #[J y0,J y1,J y2] 69)));go_wp2;go_roundw;case rel=>exact⟨rfl,k+1,pl,by go_num,by omega,M4.o,M5.o.2,by omega⟩
        case measure=>simp[intOf];omega
      . have OO:y2<=60:=(by omega);have Zg:pl.length+61<=lkB:=(by unfold lkB;omega);have SH:pl.length<=1000000:=(by omega);have VS:=FI (M:=ms.1) (st:=ms.1.runA ms.2 pl pl.length) y0 y1 y2;have Tb:=qh (λW (q:dY X bb w5.heap.size W ms.2 pl)=>doB H.o q NH.o y0 y1 y2 OO Zg rfl);have Vy:=qh (fun(ps:List (Int×Int)) (q:ms.1.Tells (ms.1.runA ms.2 pl pl.length) ps)=>M5.o.2.append q);obtain⟨r,I⟩:=LE (ms.1.bDo (ms.1.runA ms.2 pl pl.length) y0 y1 y2);rw[<-I]at VS Tb;obtain⟨kk,g,ps⟩:=r;obtain⟨b1,b2,b3,b4,b5,b6⟩:=VS;simp only at b1 b2 b3 b4 b5 b6 Tb;have Vw:=qh (Vy.o ps b1);have Te:=qh (show(pl++ps).length<=61*(k+1)by rw[List.length_append];omega);obtain⟨w6,SR⟩:=LE (wo.alloc (cells #[J y0,J y1,J y2] 69));have TG:Below wo.heap.size wo w6:=(by rw[SR];exact(Below.refl _ _).alloc (Nat.le_refl _) _);have k6:Blk w6 wo.heap.size 69 #[J y0,J y1,J y2]:=(by rw[SR];exact Blk.new _ _ _);have H6:=qh (And.intro (M5.o.1.below H.o TG) k6);have YA:=qh SR;have U3:=qh TG;clear TG k6 SR I b1 b2 Vy;go_wp2_with fail;rw[<-YA.o];refine(sf H.o H6.o.1.b).mono ?_;rintro en w7 ⟨v7,rfl,r7,o7,b7⟩;have H7:=qh (And.intro (H6.o.1.below H.o b7) (And.intro (H6.o.2.below b7 H6.o.2.lt) (And.intro r7 o7)));have U4:=qh (U3.o.trans (b7.mono U3.o.size));clear r7 o7 b7;go_wp2_with fail;refine(r5 H7.o.1.b SH).mono ?_;rintro en w8 ⟨v8,rfl,r8,-,b8⟩;have H8:=qh (And.intro (H7.o.1.below H.o b8) (And.intro (H7.o.2.1.below b8 H7.o.2.1.lt) (And.intro (H7.o.2.2.1.below b8 (Nat.le_refl _)) (λq hq=>H7.o.2.2.2 q hq))));have PQ:=qh ((U4.o).trans (b8.mono U4.o.size));obtain⟨A8,c8,rfl,-,-,-⟩:=id r8;rw[dC];have e0:=H8.o.2.1.cell 0;have e1:=H8.o.2.1.cell 1;have e2:=H8.o.2.1.cell 2;clear r8 b8 c0 c1 c2;go_wp2_with fail;refine(Tb.o _ H8.o.1.b).mono ?_;rintro en w9 ⟨⟨rfl,k9,t9⟩,UD⟩;have H9:=qh (H8.o.1.actB H.o t9 k9);by_cases hg:g=0\/g=10
        . have Qy:=qh (And.intro Vw.o Te.o);have So:(kk:Int)<=max 0 y2:=(by omega);have ax:¬(kk:Int)<0:=(by omega);have bw:¬(kk:Int)>max 0 y2:=(by omega);have d2:=(M5.o.1.b.keepB H.o PQ.o t9 H8.o.2.1 (Nat.le_refl _)).cell 2;clear e0 e1 e2 k9 t9 UD;rcases hg with rfl|rfl
          . have h1:¬(kk:Int)<1:=(by have:=b6 rfl;omega);clear b3 b4 b5 b6;go_wp2
            all_goals
              go_roundw;case rel=>exact⟨rfl,k+1,pl++ps,by go_num,by omega,H9.o,Qy.o.1,Qy.o.2⟩
              case measure=>simp[intOf];omega
          . have h1:(kk:Int)=max 0 y2:=(by have:=b5 rfl;omega);clear b3 b4 b5 b6;go_wp2
            all_goals
              go_roundw;case rel=>exact⟨rfl,k+1,pl++ps,by go_num,by omega,H9.o,Qy.o.1,Qy.o.2⟩
              case measure=>simp[intOf];omega
        . have g0:g≠0:=λe=>hg (.inl e);have g1:g≠10:=λe=>hg (.inr e);obtain⟨rfl,rfl⟩:=b4 g0 g1;have b9:=UD g0 g1;have Qs:=qh (And.intro (H8.o.1.below H.o b9) (And.intro (H8.o.2.1.below b9 H8.o.2.1.lt) (H8.o.2.2.1.below b9 (Nat.le_refl _))));have Qy:=qh Te.o;clear e0 e1 e2 k9 t9 UD b3 b4 b5 b6 H9 Vw Te b9 hg;go_wp2_with fail;refine(r5 Qs.o.1.b SH).mono ?_;rintro en w10 ⟨v10,rfl,Xw,-,OI⟩;have NG:=qh (And.intro (Qs.o.1.below H.o OI) (And.intro (Qs.o.2.1.below OI Qs.o.2.1.lt) (Qs.o.2.2.below OI (Nat.le_refl _))));obtain⟨ad,PZ,rfl,-,-,-⟩:=id Xw;rw[dC];clear Xw OI;go_wp2_with fail;refine(sf H.o NG.o.1.b).mono ?_;rintro en w11 ⟨v11,rfl,Xx,-,PE⟩;have Mf:=qh (And.intro (NG.o.1.below H.o PE) (And.intro (NG.o.2.1.below PE NG.o.2.1.lt) (And.intro Xx (NG.o.2.2.below PE (Nat.le_refl _)))));clear Xx PE;go_wp2_with fail;refine Pi (jY w11 v11 v7 _ _ Mf.o.2.2.1 Mf.o.2.2.2) λw12 PV=>?_;rw[decide_eq_true rfl];have OE:=qh (And.intro (Mf.o.1.below H.o (PV.below _)) (Mf.o.2.1.below (PV.below _) Mf.o.2.1.lt));have e2:=OE.o.2.cell 2;clear PV;go_wp2
          all_goals
            go_roundw;case rel=>exact⟨rfl,k+1,pl,by go_num,by omega,OE.o.1,M5.o.2,by omega⟩
            case measure=>simp[intOf];omega
    . obtain rfl:k=ls.length:=by omega
      have SH:pl.length<=1000000:=(by omega);have Vk:=qh (λk (q:k<=pl.length)=>show ms.1.ok (ms.1.runA ms.2 pl k) k from by have:=H.o.runA NH.o pl k (by unfold lkB;omega);rwa [Nat.zero_add]at this);obtain⟨i0,hi,Kr,Ku,hz2⟩:=info_parts Tryz.infoEvt;refine ajB ?_;intro HI;clear hi Kr Ku hz2;go_wp2_with fail;refine(r5 M5.o.1.b SH).mono ?_;rintro en w6 ⟨v6,rfl,r6,o6,b6⟩;have H6:=qh (And.intro (M5.o.1.below H.o b6) (And.intro r6 o6));have HQ:=qh (λq (hq:v6.ownBlock=some q)=>show q∉ms.1.fp hv.b from λm=>by have:=H6.o.2.2 q hq;have:=H6.o.1.y.lo H.o q m;have:=H6.o.1.yl;have:=M5.o.1.b.hb;omega);obtain⟨A6,c6,rfl,Xp,Xq,WX⟩:=id r6;have Vq:=qh WX;rw[dC]at Xp Xq ⊢;clear r6 o6 b6 WX;go_wp2;go_loopw [6,19,20,21] (λr o i _ wr=>r= bool false/\∃k:Nat,i= J k/\k<=pl.length/\cQ hv wr (ms.1.runA ms.2 pl k)/\aa (ms.1.fp hv.b) w6 wr/\wr.ownsRow w6.heap.size 55 4 o k (((ms.1.evs ms.2 pl).take k).flatMap encE)) (λ_ _ i _ _=>pl.length-(intOf i).toNat);case atStart=>exact⟨rfl,0,rfl,by omega,H6.o.1.y,aa.refl _ _,World.ownsRow_nil _ _ _ _⟩
      case round=>
        obtain⟨rfl,k,rfl,KE,hY,hT,t3⟩:=hrel;obtain⟨O,rfl⟩:∃O:World,O=wr:=⟨_,rfl⟩;have KR:=hT.size;by_cases Pn:k<pl.length
        . obtain⟨p,hp⟩:=ai Pn;obtain⟨bl,off,rfl,KQ,hc⟩:=Vq.o (by rw[dC];omega);have Lx:=xB (M:=ms.1) (st:=ms.2) hp;have SL:=mH (M:=ms.1) (st:=ms.2) hp;obtain⟨Wx,SG⟩:=M5.o.2 k p hp;have mT:=Vk.o k (Nat.le_of_lt Pn);obtain⟨q,hq⟩:=LE (ms.1.pick (ms.1.runA ms.2 pl k) p);have hD:=λW (b:Below O.heap.size O W)=>doW H.o (hY.below H.o b) mT (show k<lkB by unfold lkB;omega) p;rw[<-hq]at Lx SL Wx SG hD;obtain⟨⟨ek,et,er,ec⟩,s2⟩:=q;simp only at Lx SL Wx SG hD
          have Lf:=qh (λW (t:aa (ms.1.fp hv.b) w6 W)=>show Z W bl (off+k*4) (J ek)/\Z W bl (off+k*4+1) (J et)/\W.cell? ⟨bl,off+k*4+2,none⟩=some (.bool er)from
            ⟨(t.cellC KQ (HQ.o bl rfl)).trans (hc k _ Lx 0 _ rfl),(t.cellC KQ (HQ.o bl rfl)).trans (hc k _ Lx 1 _ rfl),(t.cellC KQ (HQ.o bl rfl)).trans (hc k _ Lx 2 _ rfl)⟩)
          have Mu:=qh (λW (b:Below O.heap.size O W)=>Lf.o W (hT.trans (aa.of_below b)));have XU:=qh (show((ms.1.evs ms.2 pl).take (k+1)).flatMap encE=((ms.1.evs ms.2 pl).take k).flatMap encE++encE ⟨ek,et,er,ec⟩by rw[bJ Lx,List.flatMap_append];simp);have Yo:=qh SL;have HD:=qh hD;obtain⟨A5,c5,rfl⟩:=bE t3;obtain⟨wa,KM⟩:=LE (O.alloc (cells #[J et,J 0] 58));have k0:Blk wa O.heap.size 58 #[J et,J 0]:=(by rw[KM];exact Blk.new _ _ _);have b0:Below O.heap.size O wa:=(by rw[KM];exact(Below.refl _ _).alloc (Nat.le_refl _) _);have YC:=qh KM;have RW:=qh (And.intro hY (And.intro hT t3));have QD:=qh SG;have x1:IntKind.i64.wrap ((k:Int)+1)=(k:Int)+1:=IntWalk.i64_in _ ahB;have z0:=k0.free 1;have kl:=k0.lt;have e0:=k0.cell 0;have e1:=k0.cell 1;obtain⟨d0,d1,d2⟩:=Mu.o O (Below.refl _ _);clear hp Lx mT hq hD hT hY t3 SL hc KM SG;go_upto_region 25 with fail;rw[<-YC.o];clear d0 d1 d2;have MD:=qh (And.intro b0 k0);clear b0 k0
          have Wy:(ek=1/\er=true)\/(ek=1/\er=false)\/(ek=3/\er=true)\/(ek=3/\er=false)\/(ek≠1/\ek≠3):=by
            by_cases h1:ek=1
            . cases er;. exact .inr (.inl ⟨h1,rfl⟩)
              . exact .inl ⟨h1,rfl⟩
            . by_cases h3:ek=3
              . cases er;. exact .inr (.inr (.inr (.inl ⟨h3,rfl⟩)))
                . exact .inr (.inr (.inl ⟨h3,rfl⟩))
              . exact .inr (.inr (.inr (.inr ⟨h1,h3⟩)))
          have LH:=qh (λq (hq:q∈ms.1.fp hv.b)=>show q<w6.heap.size by have:=H6.o.1.y.lo H.o q hq;have:=H6.o.1.yl;have:=H6.o.1.b.hb;omega);refine Wy.elim (λq=>?A) (λq=>q.elim (λq=>?B) (λq=>q.elim (λq=>?C) (λq=>q.elim (λq=>?D) (λq=>?Ze))))
          case' A=>
            obtain⟨Y,q2⟩:=q;obtain rfl:p=(et,3):=by rw[<-QD.o,Y,q2];rfl
            rw[Y,q2]at Mu;clear Y q2;obtain⟨d0,d1,d2⟩:=Mu.o wa MD.o.1;have s1:=pk2 MD.o.2 MD.o.1 (Nat.le_refl _) (J 1);obtain⟨d3,d4,d5⟩:=Mu.o _ s1.2;have z1:=s1.1.free 1;have e2:=s1.1.cell 1;have k1:=s1.1.lt;have s2:=pk2 s1.1 s1.2 (Nat.le_refl _) (J 3);obtain⟨d6,d7,d8⟩:=Mu.o _ s2.2;obtain⟨w7,OX,s7⟩:=exi (P:=λW=>Blk W O.heap.size 58 #[J et,J 3]/\Below O.heap.size O W) s2
          case' B=>
            obtain⟨Y,q2⟩:=q;obtain rfl:p=(et,1):=by rw[<-QD.o,Y,q2];rfl
            rw[Y,q2]at Mu;clear Y q2;obtain⟨d0,d1,d2⟩:=Mu.o wa MD.o.1;have s1:=pk2 MD.o.2 MD.o.1 (Nat.le_refl _) (J 1);obtain⟨d3,d4,d5⟩:=Mu.o _ s1.2;obtain⟨w7,OX,s7⟩:=exi (P:=λW=>Blk W O.heap.size 58 #[J et,J 1]/\Below O.heap.size O W) s1
          case' C=>
            obtain⟨Y,q2⟩:=q;obtain rfl:p=(et,4):=by rw[<-QD.o,Y,q2];rfl
            rw[Y,q2]at Mu;clear Y q2;obtain⟨d0,d1,d2⟩:=Mu.o wa MD.o.1;have s1:=pk2 MD.o.2 MD.o.1 (Nat.le_refl _) (J 2);obtain⟨d3,d4,d5⟩:=Mu.o _ s1.2;have z1:=s1.1.free 1;have e2:=s1.1.cell 1;have k1:=s1.1.lt;have s2:=pk2 s1.1 s1.2 (Nat.le_refl _) (J 4);obtain⟨d6,d7,d8⟩:=Mu.o _ s2.2;obtain⟨w7,OX,s7⟩:=exi (P:=λW=>Blk W O.heap.size 58 #[J et,J 4]/\Below O.heap.size O W) s2
          case' D=>
            obtain⟨Y,q2⟩:=q;obtain rfl:p=(et,2):=by rw[<-QD.o,Y,q2];rfl
            rw[Y,q2]at Mu;clear Y q2;obtain⟨d0,d1,d2⟩:=Mu.o wa MD.o.1;have s1:=pk2 MD.o.2 MD.o.1 (Nat.le_refl _) (J 2);obtain⟨d3,d4,d5⟩:=Mu.o _ s1.2;obtain⟨w7,OX,s7⟩:=exi (P:=λW=>Blk W O.heap.size 58 #[J et,J 2]/\Below O.heap.size O W) s1
          case' Ze=>
            obtain⟨Y,q2⟩:=q;obtain rfl:p=(et,0):=by rw[<-QD.o];simp[rK,Y,q2]
            obtain⟨d0,d1,d2⟩:=Mu.o wa MD.o.1;obtain⟨w7,OX,s7⟩:=exi (P:=λW=>Blk W O.heap.size 58 #[J et,J 0]/\Below O.heap.size O W) ⟨MD.o.2,MD.o.1⟩
          all_goals
            have S9:=qh (HD.o w7 s7.2);have YB:=qh OX;have PB:=qh s7;clear OX Wy s7 HD;unfold lkP evV at S9;simp only at S9;go_upto_region 33 with fail;rw[<-YB.o];have f0:=PB.o.1.cell 0;have f1:=PB.o.1.cell 1;go_wp2_with fail;refine Op S9.o λw8 k8=>?_;have T8:=(aa.of_below (S:=ms.1.fp hv.b) PB.o.2).trans k8.o.2;have W0:=(RW.o.2.1.trans T8).size;have Tm:=qh (aa.own RW.o.2.2 T8 (λq hq hm=>by have:=(RW.o.2.2.lt q hq).1;have:=LH.o q hm;omega));have Vc:=qh (And.intro k8.o.1 (RW.o.2.1.trans T8));clear T8;go_wp2_with (at_builtin;go_loud (refine wpList_append_own _ rfl _ _ 70 rfl w6.heap.size 55 i0 (agg #[J 0,J 0,bool false,J 0]) 4 32 Tryz.underlying70 HI.o.1 HI.o.2.1 HI.o.2.2.1 HI.o.2.2.2 rfl ahD _ _ _ rfl (Tm.o.alloc _) ⟨w8.heap.size,0,none⟩ 1 1 (encE ⟨ek,et,er,ec⟩) rfl rfl (ql w8 ⟨ek,et,er,ec⟩ rfl) (oH _) ?c3 ?c4 ?c5 ?_));case c3=>unfold maxLen;omega
            case c4=>omega
            case c5=>simp;omega
            intro v9 w9 h9 NB _
            have HF:=qh (show cQ hv w9 (ms.1.runA ms.2 pl (k+1))/\aa (ms.1.fp hv.b) w6 w9/\w9.ownsRow w6.heap.size 55 4 v9 (k+1) (((ms.1.evs ms.2 pl).take (k+1)).flatMap encE)from by
              rw[Yo.o,XU.o]
              exact⟨(Vc.o.1.below H.o ((Below.refl _ _).alloc (Nat.le_refl _) _)).grown H.o NB (λj hj=>by have:=(Tm.o.lt j hj).1;have:=H6.o.1.yl;have:=H6.o.1.b.hb;omega),(Vc.o.2.alloc _).grownRow NB (λj hj=>(Tm.o.lt j hj).1),h9⟩)
            obtain⟨g0,-,-⟩:=Lf.o w9 HF.o.2.1;clear h9 NB;go_wp2;go_roundw;case rel=>exact⟨rfl,k+1,by go_num,by omega,HF.o.1,HF.o.2.1,HF.o.2.2⟩
            case measure=>simp[intOf];omega
        . obtain rfl:k=pl.length:=by omega
          have TT:RdL O (.slice A6 pl.length c6) 4 encE (ms.1.evs ms.2 pl):=⟨A6,c6,by rw[dC],by rw[dC];exact Xp,by rw[dC];exact Xq,λh0=>by
            obtain⟨b,off,e,hb,hc⟩:=Vq.o h0;subst e
            exact⟨b,off,rfl,Nat.lt_of_lt_of_le hb hT.size,λi x hx j u hu=>(hT.cellC hb (HQ.o b rfl)).trans (hc i x hx j u hu)⟩⟩
          rw[List.take_of_length_le (Nat.le_of_eq (dC _ _))]at t3;have VQ:=RdL.of_own jL (dC _ _).symm (by rw[dC];omega) t3;have HZ:=qh (And.intro (H6.o.1.actY H.o hT hY) (And.intro VQ TT))
          have XS:=qh (DA O T.length Mp ahB TT (λk=>ms.1.view (ms.1.runA ms.2 pl k)) (zT (st:=ms.2) Tt.o.2) (λk e he=>by
            have hk:=(List.getElem?_eq_some_iff.1 he).1;rw[dC]at hk;obtain⟨p,hp⟩:=ai hk;have h1:=xB (M:=ms.1) (st:=ms.2) hp;have h2:=mH (M:=ms.1) (st:=ms.2) hp;rw[h1]at he;injection he with he;subst he;show jk (ms.1.view (ms.1.runA ms.2 pl k)) _ (ms.1.view (ms.1.runA ms.2 pl (k+1)));rw[h2]
            exact(EE H.o Tt.o.1 (Vk.o k (Nat.le_of_lt hk)) (by unfold lkB;omega) (by unfold lkB;omega) p).1))
          obtain⟨f0,f1,-,-,-,-⟩:=HC.o O HZ.o.1.bel;clear hT hY t3 VQ TT;go_wp2_with fail;refine Pi XS.o λw10 OI=>?_;have NG:=qh (And.intro (HZ.o.1.below H.o OI) (And.intro (HZ.o.2.1.below OI (Nat.le_refl _)) (HZ.o.2.2.below OI (Nat.le_refl _))));rw[dC];clear OI f0 f1;go_wp2_with fail;refine Op (GN w10 _ _ _ NG.o.2.1 NG.o.2.2) λw11 PE=>?_;have Mf:=qh (NG.o.1.below H.o (PE.o.below _));go_wp2_with fail;refine(Dg H.o Mf.o.y).mono ?_;rintro en w12 ⟨v12,rfl,Xy,-,PV⟩;have OE:=qh (And.intro (Mf.o.below H.o PV) Xy);clear PV Xy;go_wp2_with fail;refine(sf H.o OE.o.1.b).mono ?_;rintro en w13 ⟨v13,rfl,RA,-,Of⟩;have Nm:=qh (And.intro (OE.o.1.below H.o Of) (And.intro (OE.o.2.below Of (Nat.le_refl _)) RA));clear Of RA;go_wp2_with fail;refine Pi (jY w13 v12 v13 _ _ Nm.o.2.1 Nm.o.2.2) λw14 QL=>?_;rw[decide_eq_true rfl];have UW:=qh (Nm.o.1.bel.trans ((QL.below _).mono Nm.o.1.bel.size));clear QL;go_wp2_with fail;refine Op (XN.o w14) λw15 PW=>?_;have RI:=qh (UW.o.trans (PW.o.mono UW.o.size));go_wp2;go_ret;exact⟨rfl,KZ.o.trans (RI.o.mono KZ.o.size)⟩
end
end Go.Proofs.YtglokdbiggbkjaaGreat
