/- Joined texts. -/
import Derived.Tactics
import Derived.Test.YtglokdbiggbkjaaGreatRows
import Derived.RegionCalls
import Derived.Laws.Strings
import Derived.WideShapes
import Derived.Test.YtglokdbiggbkjaaGreatMgLocksSafe0
import Derived.Test.YtglokdbiggbkjaaGreatMgLocksSafe1
import Derived.Test.YtglokdbiggbkjaaGreatMgLocksSafe3
import Derived.Test.YtglokdbiggbkjaaGreatMgLocksSafe26
set_option linter.unusedVariables false
set_option linter.unusedSimpArgs false
set_option maxRecDepth 100000
set_option maxHeartbeats 16000000
namespace Go.Proofs.YtglokdbiggbkjaaGreat
section
open Go Go.RowKit
def ip (f:FuncId)(xs:Array Value)(a g n:Nat)(k:Int)(V:Nat->Value)(ms:MS n)(w:World):Prop:=
 Calls Tryz.prog f xs w λe w'=>∃l,e= .returned (.tuple #[.pointer (some ⟨l,0,none⟩),.int .i64 0])/\pY w a g n k (V l) ms w'/\aa [a,g] w w'
def MkL (W:World)(a g lb n:Nat)(ms:MS n)(e:Ending)(w':World):Prop:=
 e= .returned (.int .i64 0)/\(∃b:ms.1.β,ms.1.Good/\ms.1.ok ms.2 0/\ms.1.is b w' a g lb ms.2/\∀x∈ms.1.fp b,W.heap.size<=x\/x=a\/x=g)/\aa [a,g,lb] W w'
theorem EL{W W2 w5:World}{a g lb n l:Nat}{k:Int}{V:Nat->Value}{ms:MS n}(hb:Below W.heap.size W W2)(hl:Blk W2 lb 110 #[.int .i64 k,.int .i64 n,.nilIface])(hlw:lb<W.heap.size)(hn:lb≠a/\lb≠g)(h:pY W2 a g n k (V l) ms w5)(t:aa [a,g] W2 w5):MkL W a g lb n ms (.returned (.int .i64 0)) (w5.setCell ⟨lb,2,none⟩ (V l)):=by have hs:=hb.size;have h5:=t.blk hl (by simp;exact hn);obtain⟨b,h1,h2,h3,h4⟩:=h (w5.setCell ⟨lb,2,none⟩ (V l)) lb ((aa.refl _ _).setCell (.inl QY) _) QX hn.1 hn.2 (h5.set_ 2 _);exact⟨rfl,⟨b,h1,h2,h3,λx hx=>by have:=h4 x hx;omega⟩,((aa.of_below (S:=[a,g,lb]) hb).trans (t.mono (by intro i hi;simp at hi ⊢;rcases hi with rfl|rfl<;>simp))).setCell (.inl QY) _⟩
section
variable{W:World}{a g lb n:Nat}{vP vT:Value}{gl lo pa bu:Nat}
inductive MkP (a:Nat)(vP vT:Value)(gl lo pa bu:Nat):Int->FuncId->Array Value->(Nat->Value)->Prop
 |co:MkP a vP vT gl lo pa bu 6 103 #[↑a,.agg #[vP,vT],.agg #[.int .i64 gl,.int .i64 lo,.int .i64 pa,.int .i64 bu]] zm
 |hm:MkP a vP vT gl lo pa bu 7 104 #[↑a,.agg #[vP,vT],.int .i64 bu] hmV
 |hc:MkP a vP vT gl lo pa bu 8 105 #[↑a,.agg #[vP,vT],.int .i64 bu] hcV
 |cn:MkP a vP vT gl lo pa bu 9 106 #[↑a,.agg #[vP,vT],.int .i64 bu] cnV
 |ma:MkP a vP vT gl lo pa bu 10 107 #[↑a,.agg #[vP,vT],.int .i64 bu] maV
inductive MkR (a n:Nat)(vP vT:Value)(gl lo pa bu k:Nat):FuncId->Array Value->(Nat->Value)->Prop
 |fl (h:1<=k/\k<=5):MkR a n vP vT gl lo pa bu k 109 #[↑a,.int .i64 k,.int .i64 n,.int .i64 pa] flV
 |rw (h:11<=k/\k<=13):MkR a n vP vT gl lo pa bu k 108 #[↑a,.int .i64 ((k:Int)-10),.agg #[vP,vT],.agg #[.int .i64 gl,.int .i64 lo,.int .i64 pa,.int .i64 bu]] rwV
theorem DK {Q:Prop} (h:Q:=by
    have hl5:=t5.blk H0.o.2.1 (by simp;exact hn)
    have q2:=hl5.free 2
    have q2c:=hl5.cell 2
    have HF:=qh (EL H0.o.1 H0.o.2.1 H0.o.2.2 hn hin t5)
    simp only[zm,hmV,hcV,cnV,maV,flV,rwV]at HF
    clear hin t5 hl5
    go_wp2
    go_ret
    exact HF.o):Q:=h
variable{ms:MS n}{f:FuncId}{xs:Array Value}{V:Nat->Value}
theorem pH {k:Int} (K:MkP a vP vT gl lo pa bu k f xs V) (hl:Blk W lb 110 #[.int .i64 k,.int .i64 n,.nilIface]) (hn:lb≠a/\lb≠g) (HN:∀W2,Below W.heap.size W W2->ip f xs a g n k V ms W2):
    Calls Tryz.prog 56 #[↑lb,↑a,.agg #[vP,vT],.agg #[.int .i64 gl,.int .i64 lo,.int .i64 pa,.int .i64 bu]] W (MkL W a g lb n ms):=by
  have hb0:=((Below.refl W.heap.size W).alloc (Nat.le_refl _) (.cells #[vP,vT] 24)).alloc QY (.cells #[.int .i64 gl,.int .i64 lo,.int .i64 pa,.int .i64 bu] 36);have hl1:=hl.below hb0 hl.lt;have c0:=hl1.cell 0;have c1:=hl1.cell 1;have hlw:=hl.lt;have HCN:=qh (HN _ hb0);unfold ip at HCN;have H0:=qh (And.intro hb0 (And.intro hl1 hlw));have hs0:((W.alloc (.cells #[vP,vT] 24)).alloc (.cells #[.int .i64 gl,.int .i64 lo,.int .i64 pa,.int .i64 bu] 36)).heap.size=W.heap.size+2:=by simp
  clear hb0 hl1 hl HN;cases K;all_goals go_enter Tryz.func56,Tryz.ntmps56;go_wp2_with fail;refine HCN.o.mono ?_;rintro en w5 ⟨l,rfl,hin,t5⟩;exact DK
theorem vQ {k:Nat} (K:MkR a n vP vT gl lo pa bu k f xs V) (hl:Blk W lb 110 #[.int .i64 k,.int .i64 n,.nilIface]) (hn:lb≠a/\lb≠g) (hag:a<W.heap.size/\g<W.heap.size) (HN:∀W2,Below W.heap.size W W2->ip f xs a g n k V ms W2):
    Calls Tryz.prog 56 #[↑lb,↑a,.agg #[vP,vT],.agg #[.int .i64 gl,.int .i64 lo,.int .i64 pa,.int .i64 bu]] W (MkL W a g lb n ms):=by
  obtain⟨wz,hwz⟩:∃V,V=(W.alloc (.cells #[vP,vT] 24)).alloc (.cells #[.int .i64 gl,.int .i64 lo,.int .i64 pa,.int .i64 bu] 36):=⟨_,rfl⟩;have hb0:Below W.heap.size W wz:=by rw[hwz];exact((Below.refl W.heap.size W).alloc (Nat.le_refl _) _).alloc QY _
  have hb1:Below W.heap.size W wz.drew:=hb0.drew;have hl1:=hl.below hb0 hl.lt;have k1:Blk wz W.heap.size 24 #[vP,vT]:=by rw[hwz];exact(Blk.new W _ _).alloc _
  have k2:Blk wz (W.heap.size+1) 36 #[.int .i64 gl,.int .i64 lo,.int .i64 pa,.int .i64 bu]:=by rw[hwz];exact Blk.new' _ _ _ QY
  have hn0:lb∉[a,g]:=by simp;exact hn
  have hn1:W.heap.size∉[a,g]:=by simp;omega
  have hn2:W.heap.size+1∉[a,g]:=by simp;omega
  have HC:=qh (λV (h:aa [a,g] wz V)=>And.intro ((h.blk hl1 hn0).cell 0) (And.intro ((h.blk hl1 hn0).cell 1) (And.intro ((h.blk k1 hn1).cell 0) (And.intro ((h.blk k1 hn1).cell 1) (And.intro ((h.blk k2 hn2).cell 0) (And.intro ((h.blk k2 hn2).cell 1) (And.intro ((h.blk k2 hn2).cell 2) ((h.blk k2 hn2).cell 3))))))));have hlw:=hl.lt;have HCN:=qh (HN _ hb1);unfold ip at HCN;have H0:=qh (And.intro hb1 (And.intro (hl.below hb1 hl.lt) hlw));have HD:=qh (show aa [a,g] wz wz.drew from(aa.refl _ _).drew);have HR:=qh (show aa [a,g] wz wz from aa.refl _ _);have HZ:=qh hwz;have hz1:W.heap.size<wz.heap.size:=k1.lt;clear hb0 hb1 hl1 hl HN k1 k2 hwz;have hk:(1<=k/\k<=5)\/k=11\/k=12\/k=13:=by cases K<;>omega
  have ne:∀z:Int,(6<=z/\z<=10)\/(k:Int)≠z->((k:Int)==z)=false:=λz h=>by simp;omega
  have n6:=ne 6 QX;have n7:=ne 7 QX;have n8:=ne 8 QX;have n9:=ne 9 QX;have n10:=ne 10 QX;have w1:IntKind.i64.wrap ((k:Int)-11)=k-11:=IntWalk.i64_in _ QX;have w2:IntKind.i64.wrap ((k:Int)-11+1)=k-10:=by rw[IntWalk.i64_in _ QX];omega
  cases K
  all_goals
    rcases hk with hk|hk|hk|hk
    all_goals try omega
    all_goals
      first|have n11:((k:Int)==11)=true:=by simp;omega|have n11:=ne 11 QX
      first|have n12:((k:Int)==12)=true:=by simp;omega|have n12:=ne 12 QX
      first|have n13:((k:Int)==13)=true:=by simp;omega|have n13:=ne 13 QX
      clear ne hk;go_enter Tryz.func56,Tryz.ntmps56;go_upto_region 2 with fail;rw[<-HZ.o];obtain⟨q0,q1,q2⟩:=HC.o _ HR.o;go_wp2_with fail
      go_region_held3 (λV=>V.cell? lb=some (.int .i64 k)/\V.cell? ⟨lb,1,none⟩=some (.int .i64 n)/\V.cell? W.heap.size=some vP/\V.cell? ⟨W.heap.size,1,none⟩=some vT/\V.cell? ⟨W.heap.size+1,0,none⟩=some (.int .i64 gl)/\V.cell? ⟨W.heap.size+1,1,none⟩=some (.int .i64 lo)/\V.cell? ⟨W.heap.size+1,2,none⟩=some (.int .i64 pa)/\V.cell? ⟨W.heap.size+1,3,none⟩=some (.int .i64 bu))
        (first|exact HC.o _ HR.o|exact HC.o _ HD.o|exact HC.o _ H6.o)
        (first
          | (go_at_call 108;go_loud (refine HCN.o.mono ?_);rintro en w5 ⟨l,rfl,hin,t5⟩;have H6:=qh (HD.o.trans t5))
          | (go_at_call 109;go_loud (refine HCN.o.mono ?_);rintro en w5 ⟨l,rfl,hin,t5⟩;have H6:=qh (HD.o.trans t5)))
      exact DK
end
end
section
open Go Go.RowKit
def EM (P T:List Int)(k pa:Nat):MS T.length:=⟨EG k T.length pa,(aD k (dB 4096) T.length pa,a7 k T.length)⟩
def Gl (P T:List Int)(gl lo pa bu:Nat):MS T.length:=⟨EF (eV gl lo pa bu P T (dB 4096)) P T (bz gl lo pa P T (dB 4096)).s.W.length,bz gl lo pa P T (dB 4096)⟩
def EN (P T:List Int)(room:Nat)(bu:Nat):MS T.length:=⟨CR (cf P T) bu,⟨⟨dk (hm0 (cf P T)).W P.length,room,0,0,0,false⟩,hm0 (cf P T)⟩⟩
def Gm (P T:List Int)(bu:Nat):MS T.length:=⟨EH bu P T,hc0 (dB 4096) (ab P).length T.length⟩
def Gk (P T:List Int)(bu:Nat):MS T.length:=⟨Au bu (ao P T T.length) T.length,cn0 (dB 4096) T.length⟩
def Gn (P T:List Int)(bu:Nat):MS T.length:=⟨Av T.length bu,ma0 (dB 4096) T.length⟩
def xU (F:mr)(P T:List Int)(gl lo pa bu:Nat):MS T.length:=⟨EI F (eV gl lo pa bu P T (smA (dB 4096) (ab P).length)) P T (bz gl lo pa P T (smA (dB 4096) (ab P).length)).s.W.length,⟨bz gl lo pa P T (smA (dB 4096) (ab P).length),dr0,List.replicate T.length Sp.zero⟩⟩
def EO (P T:List Int)(gl lo pa bu k:Nat):MS T.length:=
 if k<=5 then EM P T k pa else if k=6 then Gl P T gl lo pa bu else if k=7 then EN P T 4096 bu else if k=8 then Gm P T bu else if k=9 then Gk P T bu else if k=10 then Gn P T bu else if k=11 then xU wj P T gl lo pa bu else if k=12 then xU ws P T gl lo pa bu else xU wt P T gl lo pa bu
structure fi (w:World)(a g:Nat)(vP vT:Value)(P T:List Int)(gl lo pa bu:Nat):Prop where
 ar:aA w a g (dB 4096)
 rP:RdL w vP 1 encI P
 rT:RdL w vT 1 encI T
 Pa:∀i,vP.ownBlock=some i->i≠a/\i<w.heap.size
 Ta:∀i,vT.ownBlock=some i->i≠a/\i<w.heap.size
 ck:a5 P T=0
 gl:1<=gl/\gl<=5
 lo:1<=lo/\lo<=5
 pa:1<=pa/\pa<=4
 bu:bu<=3
section
variable{w w':World}{a g:Nat}{vP vT:Value}{P T:List Int}{gl lo pa bu:Nat}
theorem fi.below (h:fi w a g vP vT P T gl lo pa bu)(b:Below w.heap.size w w'):fi w' a g vP vT P T gl lo pa bu:=
 {h with ar:=h.ar.turns (S:=[]) (aa.of_below b) QY QY,rP:=h.rP.below b (Nat.le_refl _),rT:=h.rT.below b (Nat.le_refl _),Pa:=λi hi=>⟨(h.Pa i hi).1,Nat.lt_of_lt_of_le (h.Pa i hi).2 b.size⟩,Ta:=λi hi=>⟨(h.Ta i hi).1,Nat.lt_of_lt_of_le (h.Ta i hi).2 b.size⟩}
theorem fi.n32 (h:fi w a g vP vT P T gl lo pa bu):1<=T.length/\T.length<=32:=by have:=bh (aR h.ck).1;exact⟨this.2.2.1,this.2.2.2⟩
theorem Gy (h:fi w a g vP vT P T gl lo pa bu):ip 103 #[↑a,.agg #[vP,vT],.agg #[.int .i64 gl,.int .i64 lo,.int .i64 pa,.int .i64 bu]] a g T.length 6 zm (Gl P T gl lo pa bu) w:=by refine(nt h.ar vP vT P T h.rP h.rT h.ck gl lo (KOk.of h.gl) (KOk.of h.lo) pa h.pa (bu:Int) Rj (by show 0+2500<=4096;omega) (by show 0<=100;omega) (by show 0+100<=1000000000000;omega)).mono ?_;rintro e w' ⟨x,B,rfl,k,hb,t⟩;exact⟨x.l,rfl,F2 h.ck h.gl h.lo h.pa rfl rfl k hb,t⟩
theorem GB (h:fi w a g vP vT P T gl lo pa bu):ip 104 #[↑a,.agg #[vP,vT],.int .i64 bu] a g T.length 7 hmV (EN P T 4096 bu) w:=by have hP:=h.rP;have hPa:=h.Pa;obtain⟨AP,cP,e3,_⟩:=id hP;subst e3;refine(DL h.ar rfl h.ar.ne AP cP vT P T hP hPa h.rT h.ck (bu:Int) QX Rj ⟨rfl,E8 h.ck⟩).mono ?_;rintro e w' ⟨B,x,s',ha,hg,rfl,k,hs,hB,hq,hqb,t⟩;subst hs;exact⟨x.l,rfl,DH h.ck Rj rfl ha hg k hB hq hqb,t.mono QY⟩
theorem GA (h:fi w a g vP vT P T gl lo pa bu):ip 105 #[↑a,.agg #[vP,vT],.int .i64 bu] a g T.length 8 hcV (Gm P T bu) w:=by refine(EW h.ar rfl h.ar.ne vP vT P T h.rP h.rT h.ck (bu:Int) QX Rj rfl).mono ?_;rintro e w' ⟨l,q,b,u,l0,h0,rfl,k,h1,h2,h3,h4,t,h5⟩;exact⟨l,rfl,F4 h.ck Rj rfl k h1 h2 h4 h5,t.mono QY⟩
theorem Gx (h:fi w a g vP vT P T gl lo pa bu):ip 106 #[↑a,.agg #[vP,vT],.int .i64 bu] a g T.length 9 cnV (Gk P T bu) w:=by refine(EV h.ar rfl h.ar.ne vP vT P T h.rP h.rT h.ck (bu:Int) QX Rj rfl).mono ?_;rintro e w' ⟨c,cap,ha,hg,rfl,k,h1,h2,h3,t,h4⟩;have el:(ao P T T.length).length=T.length:=de (Nat.le_refl _);have:=F1 (w:=w) (a:=a) (g:=g) (ao P T T.length) (s:=dB 4096) rfl (by rw[el];exact k) ⟨ha,hg⟩ h1 h2 h3 h4;rw[el]at this;exact⟨c.l,rfl,this,t.mono QY⟩
theorem GC (h:fi w a g vP vT P T gl lo pa bu):ip 107 #[↑a,.agg #[vP,vT],.int .i64 bu] a g T.length 10 maV (Gn P T bu) w:=by refine(Hw h.ar rfl h.ar.ne vP vT P T h.rP h.rT h.ck (bu:Int) QX Rj rfl).mono ?_;rintro e w' ⟨c,rfl,k,hc,h1,h2,h3,t⟩;exact⟨c.l,rfl,F5 h.n32 rfl k hc h1 h2 h3,t.mono QY⟩
theorem Gz (h:fi w a g vP vT P T gl lo pa bu)(k:Nat)(hk:1<=k/\k<=5):ip 109 #[↑a,.int .i64 k,.int .i64 T.length,.int .i64 pa] a g T.length k flV (EM P T k pa) w:=by refine(zS h.ar k (KOk.of hk) T.length h.n32.1 h.n32.2 pa h.pa.1 h.pa.2 (by have:=jJ (k:=k) h.n32.2 h.pa.2;show 0+_<=4096;omega) (by show 0+1<=1000000000000;omega)).mono ?_;rintro e w' ⟨x,rfl,k1,h1,t⟩;exact⟨x.p,rfl,F3 hk h.n32 h.pa rfl rfl k1 h1,t⟩
theorem fi.hN (h:fi w a g vP vT P T gl lo pa bu):1<=(ab P).length:=by have h1:=eD h.ck (i:=0) (by have:=h.n32;omega);omega
theorem GG (h:fi w a g vP vT P T gl lo pa bu):ip 108 #[↑a,.int .i64 1,.agg #[vP,vT],.agg #[.int .i64 gl,.int .i64 lo,.int .i64 pa,.int .i64 bu]] a g T.length 11 rwV (xU wj P T gl lo pa bu) w:=by refine(E9 .n h.ar rfl h.ar.ne vP vT P T h.rP h.rT h.Pa h.Ta h.ck gl lo (KOk.of h.gl) (KOk.of h.lo) pa h.pa (bu:Int) Rj rfl (by show 0<=1000;omega)).mono ?_;rintro e w' ⟨q,B,BC,X,rfl,k,hfp,t,hq,hqw,hqn,hb⟩;have hs:=Hz (bud:=(bu:Int)) (s:=dB 4096) h.ck h.gl h.lo h.pa rfl;exact⟨q,rfl,Ak (F:=wj) QZ h.ck (Bi (E3 h.ck h.gl h.lo h.pa rfl h.hN)) hs.1 hs.2 k hfp hq hqw hqn hb,t⟩
theorem GH (h:fi w a g vP vT P T gl lo pa bu):ip 108 #[↑a,.int .i64 2,.agg #[vP,vT],.agg #[.int .i64 gl,.int .i64 lo,.int .i64 pa,.int .i64 bu]] a g T.length 12 rwV (xU ws P T gl lo pa bu) w:=by refine(E9 .r h.ar rfl h.ar.ne vP vT P T h.rP h.rT h.Pa h.Ta h.ck gl lo (KOk.of h.gl) (KOk.of h.lo) pa h.pa (bu:Int) Rj rfl (by show 0<=1000;omega)).mono ?_;rintro e w' ⟨q,B,BC,X,rfl,k,hfp,t,hq,hqw,hqn,hb⟩;have hs:=Ig (bud:=(bu:Int)) (s:=dB 4096) h.ck h.gl h.lo h.pa rfl;exact⟨q,rfl,Ak (F:=ws) QZ h.ck (Bj (E3 h.ck h.gl h.lo h.pa rfl h.hN)) hs.1 hs.2 k hfp hq hqw hqn hb,t⟩
theorem GI (h:fi w a g vP vT P T gl lo pa bu):ip 108 #[↑a,.int .i64 3,.agg #[vP,vT],.agg #[.int .i64 gl,.int .i64 lo,.int .i64 pa,.int .i64 bu]] a g T.length 13 rwV (xU wt P T gl lo pa bu) w:=by refine(E9 .w h.ar rfl h.ar.ne vP vT P T h.rP h.rT h.Pa h.Ta h.ck gl lo (KOk.of h.gl) (KOk.of h.lo) pa h.pa (bu:Int) Rj rfl (by show 0<=1000;omega)).mono ?_;rintro e w' ⟨q,B,BC,X,rfl,k,hfp,t,hq,hqw,hqn,hb⟩;have hs:=Ip (bud:=(bu:Int)) (s:=dB 4096) h.ck h.gl h.lo h.pa rfl;exact⟨q,rfl,Ak (F:=wt) QZ h.ck (Bk (E3 h.ck h.gl h.lo h.pa rfl h.hN)) hs.1 hs.2 k hfp hq hqw hqn hb,t⟩
end
end
section
open Go
def nmB:Nat->ByteArray
 |1=>⟨#[116,97,115]⟩
 |2=>⟨#[116,105,99,107,101,116]⟩
 |3=>⟨#[112,97,114,116,101,100]⟩
 |4=>⟨#[109,99,115]⟩
 |5=>⟨#[99,108,104]⟩
 |6=>⟨#[99,111,104,111,114,116]⟩
 |7=>⟨#[104,109,99,115]⟩
 |8=>⟨#[104,99,108,104]⟩
 |9=>⟨#[99,110,97]⟩
 |10=>⟨#[109,97,108,116,104,117,115]⟩
 |11=>⟨#[110,101,117,116,114,97,108]⟩
 |12=>⟨#[114,101,97,100,101,114,115]⟩
 |13=>⟨#[119,114,105,116,101,114,115]⟩
 |_=>⟨#[]⟩
def jv (n:Int):ByteArray:=nmB n.toNat
def gE (s:ByteArray)(k:Nat):Prop:=(k=0/\∀i,1<=i->i<=13->nmB i≠s)\/(1<=k/\k<=13/\nmB k=s)
theorem vW:∀i,i<14->∀j,j<14->nmB i=nmB j->i=j:=by
 have h:∀i,i<14->∀j,j<14->(nmB i).data=(nmB j).data->i=j:=by decide+kernel
 exact λi hi j hj e=>h i hi j hj (by rw[e])
theorem EZ:∀i,1<=i->i<=13->¬(nmB i).toList=[]/\(nmB i).toList.isEmpty=false:=by
 have h:∀i,i<14->1<=i->(¬(nmB i).toList=[]/\(nmB i).toList.isEmpty=false):=by decide+kernel
 exact λi h1 h2=>h i QX h1
theorem vX{i:Nat}(h:14<=i):nmB i=⟨#[]⟩:=by unfold nmB;split<;>first|omega|rfl
theorem gE.uniq{s:ByteArray}{j k:Nat}(h1:gE s j)(h2:gE s k):j=k:=by
 rcases h1 with⟨rfl,a⟩|⟨a1,a2,a3⟩
 ·rcases h2 with⟨rfl,_⟩|⟨b1,b2,b3⟩
  ·rfl
  ·exact absurd b3 (a k b1 b2)
 ·rcases h2 with⟨rfl,b⟩|⟨b1,b2,b3⟩
  ·exact absurd a3 (b j a1 a2)
  ·exact vW j QX k QX (a3.trans b3.symm)
theorem gE.le{s:ByteArray}{k:Nat}(h:gE s k):k<=13:=by rcases h with⟨rfl,_⟩|⟨_,a2,_⟩<;>omega
theorem gE.name{n:Int}{k:Nat}(h:gE (jv n) k):jv n=⟨#[]⟩\/(k:Int)=n:=by
 unfold jv at *;by_cases h1:1<=n.toNat/\n.toNat<=13;·have h2:gE (nmB n.toNat) n.toNat:= .inr ⟨h1.1,h1.2,rfl⟩;have:=h.uniq h2;exact .inr QX
 ·left;by_cases h0:n.toNat=0;·rw[h0];rfl
  ·exact vX QX
end
section
open Go.RowKit Go.WideShapes
theorem iI (w:World)(n:Int):Calls Tryz.prog 43 #[.int .i64 n] w λe w'=>e= .returned (.string (jv n))/\Below w.heap.size w w':=by
 rcases(show n<0\/14<=n\/n=0\/n=1\/n=2\/n=3\/n=4\/n=5\/n=6\/n=7\/n=8\/n=9\/n=10\/n=11\/n=12\/n=13 by omega)with h|h|rfl|rfl|rfl|rfl|rfl|rfl|rfl|rfl|rfl|rfl|rfl|rfl|rfl|rfl
 ·have e:jv n=⟨#[]⟩:=by unfold jv;rw[show n.toNat=0 by omega];rfl
  exact K7
 ·have e:jv n=⟨#[]⟩:=vX QX;exact K7
 all_goals go_enter Tryz.func43,Tryz.ntmps43;go_wp2;go_ret;exact⟨rfl,(Below.refl _ _).alloc (Nat.le_refl _) _⟩
theorem Fi{a b:ByteArray}(h:¬a=b):(a.toList==b.toList)=false:=by rw[ByteArray.toList_eq,ByteArray.toList_eq];simp only[beq_eq_false_iff_ne,ne_eq];exact λe=>h (bytes_inj e)
theorem r7 (w:World)(s:ByteArray):Calls Tryz.prog 54 #[.string s] w λe w'=>∃k:Nat,e= .returned (.int .i64 k)/\gE s k/\Below w.heap.size w w':=by
 go_enter Tryz.func54,Tryz.ntmps54;go_wp2;go_loopw [3] (λj wr=>∃k:Nat,j= .int .i64 k/\1<=k/\k<=14/\(∀i,1<=i->i<k->nmB i≠s)/\Below w.heap.size w wr) (λj _=>14-(intOf j).toNat);case atStart=>exact⟨1,rfl,by omega,by omega,λi h1 h2=>by omega,Below.refl _ _⟩
 case round=>
  obtain⟨k,rfl,h1,h14,hall,hB⟩:=hrel;obtain⟨wo,rfl⟩:∃wo:World,wo=wr:=⟨_,rfl⟩;have HB:=qh (And.intro hB hall);clear hB hall;by_cases hk:k=14;·subst hk;go_wp2_with fail;refine(iI _ _).mono ?_;rintro en w1 ⟨rfl,b1⟩;have H1:=qh (HB.o.1.trans (b1.mono HB.o.1.size));clear b1;have e:jv 14=⟨#[]⟩:=rfl;rw[e];go_wp2;go_ret;exact⟨0,rfl,.inl ⟨rfl,λi h1 h2=>HB.o.2 i h1 QX⟩,H1.o⟩
  ·have hne:=EZ k h1 QX;obtain⟨ne1,ne2⟩:=hne;go_wp2_with fail;refine(iI _ _).mono ?_;rintro en w1 ⟨rfl,b1⟩;have H1:=qh (HB.o.1.trans (b1.mono HB.o.1.size));clear b1;have e:jv (k:Int)=nmB k:=rfl;rw[e];go_wp2_with fail;refine(iI _ _).mono ?_;rintro en w2 ⟨rfl,b2⟩;have H2:=qh (H1.o.trans (b2.mono H1.o.size));clear b2;rw[e];by_cases hs:nmB k=s;·have he:((nmB k).toList==s.toList)=true:=(by rw[hs];simp);have HS:=qh hs;clear hs;go_wp2;go_ret;exact⟨k,rfl,.inr ⟨h1,by omega,HS.o⟩,H2.o⟩
   ·have he:((nmB k).toList==s.toList)=false:=Fi hs;have HS:=qh hs;clear hs;go_wp2;go_roundw
    case rel=>
     refine⟨k+1,by go_num,by omega,by omega,λi h1 h2=>?_,H2.o⟩;by_cases e:i=k;·subst e;exact HS.o
     ·exact HB.o.2 i h1 QX
    case measure=>simp[intOf];omega
end
section
open Go Go.RowKit
theorem E0:∀k,1<=k/\k<=13->¬(nmB k).toList=[]:=by
 intro k hk;have:(List.range 13).all (λk=>!(nmB (k+1)).toList.isEmpty)=true:=by decide+kernel
 have h:=List.all_eq_true.1 this (k-1) (List.mem_range.2 QX);rw[show k-1+1=k by omega]at h;simpa using h
theorem Gp (w:World)(k:Nat)(hk:1<=k/\k<=13):Calls Tryz.prog 43 #[.int .i64 k] w λe w'=>∃b:ByteArray,e= .returned (.string b)/\¬b.toList=[]/\Below w.heap.size w w':=
 (iI w k).mono λ_ _ h=>⟨_,h.1,E0 k hk,h.2⟩
theorem CY {W:World} {a g lb:Nat} {vP vT:Value} {P T:List Int} {gl lo pa bu k:Nat} (hp:fi W a g vP vT P T gl lo pa bu) (hk:1<=k/\k<=13) (hl:Blk W lb 110 #[.int .i64 k,.int .i64 T.length,.nilIface]) (hn:lb≠a/\lb≠g):
    Calls Tryz.prog 56 #[↑lb,↑a,.agg #[vP,vT],.agg #[.int .i64 gl,.int .i64 lo,.int .i64 pa,.int .i64 bu]] W (MkL W a g lb T.length (EO P T gl lo pa bu k)):=by
  have hag:=And.intro hp.ar.blk.lt hp.ar.wds.lt;by_cases h5:k<=5;· rw[show EO P T gl lo pa bu k=EM P T k pa from if_pos h5];exact vQ (.fl ⟨hk.1,h5⟩) hl hn hag λW2 b=>Gz (hp.below b) k ⟨hk.1,h5⟩
  have hc:k=6\/k=7\/k=8\/k=9\/k=10\/k=11\/k=12\/k=13:=by omega
  rcases hc with rfl|rfl|rfl|rfl|rfl|rfl|rfl|rfl
  · exact pH .co hl hn λW2 b=>Gy (hp.below b)
  · exact pH .hm hl hn λW2 b=>GB (hp.below b)
  · exact pH .hc hl hn λW2 b=>GA (hp.below b)
  · exact pH .cn hl hn λW2 b=>Gx (hp.below b)
  · exact pH .ma hl hn λW2 b=>GC (hp.below b)
  · exact vQ (.rw QX) hl hn hag λW2 b=>GG (hp.below b)
  · exact vQ (.rw QX) hl hn hag λW2 b=>GH (hp.below b)
  · exact vQ (.rw QX) hl hn hag λW2 b=>GI (hp.below b)
theorem AY {W:World} {a g:Nat} {vP:Value} {AT:Option Addr} {cT:Nat} {P T:List Int} {gl lo pa bu k:Nat} (hal:a<W.heap.size) (hgl:g<W.heap.size) (hP:RdL W vP 1 encI P) (hT:RdL W (.slice AT T.length cT) 1 encI T) (hck:a5 P T=0) (hk:1<=k/\k<=13) {ms:MS T.length}
    (HMA:∀V lb,Below W.heap.size W V->Blk V lb 110 #[.int .i64 k,.int .i64 T.length,.nilIface]->lb≠a/\lb≠g->Calls Tryz.prog 56 #[.pointer (some ⟨lb,0,none⟩),↑a,.agg #[vP,.slice AT T.length cT],.agg #[.int .i64 gl,.int .i64 lo,.int .i64 pa,.int .i64 bu]] V (MkL V a g lb T.length ms)):
    Calls Tryz.prog 13 #[↑a,.agg #[vP,.slice AT T.length cT],.agg #[.int .i64 k,.int .i64 gl,.int .i64 lo,.int .i64 pa,.int .i64 bu]] W (tp W a g T.length ms):=by
  have hb0:=((Below.refl W.heap.size W).alloc (Nat.le_refl _) (.cells #[vP,.slice AT T.length cT] 24)).alloc QY (.cells #[.int .i64 k,.int .i64 gl,.int .i64 lo,.int .i64 pa,.int .i64 bu] 38);obtain⟨w0,hw0⟩:∃V,V=(W.alloc (.cells #[vP,.slice AT T.length cT] 24)).alloc (.cells #[.int .i64 k,.int .i64 gl,.int .i64 lo,.int .i64 pa,.int .i64 bu] 38):=⟨_,rfl⟩;rw[<-hw0]at hb0;have hs0:w0.heap.size=W.heap.size+2:=by rw[hw0];simp
  have k1:Blk w0 W.heap.size 24 #[vP,.slice AT T.length cT]:=by rw[hw0];exact(Blk.new W _ _).alloc _
  have k2:Blk w0 (W.heap.size+1) 38 #[.int .i64 k,.int .i64 gl,.int .i64 lo,.int .i64 pa,.int .i64 bu]:=by rw[hw0];exact Blk.new' _ _ _ QY
  have HC:=qh (λV (h:Below w0.heap.size w0 V)=>show V.cell? W.heap.size=some vP/\V.cell? ⟨W.heap.size,1,none⟩=some (.slice AT T.length cT)/\V.cell? ⟨W.heap.size+1,0,none⟩=some (.int .i64 k)/\V.cell? ⟨W.heap.size+1,1,none⟩=some (.int .i64 gl)/\V.cell? ⟨W.heap.size+1,2,none⟩=some (.int .i64 lo)/\V.cell? ⟨W.heap.size+1,3,none⟩=some (.int .i64 pa)/\V.cell? ⟨W.heap.size+1,4,none⟩=some (.int .i64 bu)from
    ⟨(k1.below h k1.lt).cell 0,(k1.below h k1.lt).cell 1,(k2.below h k2.lt).cell 0,(k2.below h k2.lt).cell 1,(k2.below h k2.lt).cell 2,(k2.below h k2.lt).cell 3,(k2.below h k2.lt).cell 4⟩)
  have HCK:=qh (λV (h:Below w0.heap.size w0 V)=>jT V vP (.slice AT T.length cT) P T ((hP.below hb0 (Nat.le_refl _)).below h (Nat.le_refl _)) ((hT.below hb0 (Nat.le_refl _)).below h (Nat.le_refl _)));rw[hck]at HCK;have HMK:=qh (λV lb (h:Below w0.heap.size w0 V) (hl:Blk V lb 110 #[.int .i64 k,.int .i64 T.length,.nilIface]) (hn:w0.heap.size<=lb)=>HMA V lb (hb0.trans (h.mono hb0.size)) hl ⟨by omega,by omega⟩);have HNM:=qh (λV=>Gp V k hk);have H0:=qh hb0;have HW0:=qh hw0;clear hP hT hck HMA hb0 hw0 k1 k2;go_enter Tryz.func13,Tryz.ntmps13;go_wp2_with fail;rw[<-HW0.o];obtain⟨-,-,c0,-,-,-,-⟩:=HC.o w0 (Below.refl _ _);go_wp2_with fail;refine(HNM.o _).mono ?_;rintro en w1 ⟨nameB,rfl,hne,b1⟩;have hne2:nameB.toList.isEmpty=false:=by simpa using hne
  obtain⟨c0,c1,c2,c3,c4,c5,c6⟩:=HC.o w1 b1;have B1:=qh b1;clear b1;go_wp2_with fail;refine(HCK.o _ B1.o).mono ?_;rintro en w2 ⟨rfl,b2⟩;have B2:=qh (B1.o.trans (b2.mono B1.o.size));clear b2 c0 c1 c2 c3 c4 c5 c6;obtain⟨c0,c1,c2,c3,c4,c5,c6⟩:=HC.o w2 B2.o;have hs2:=B2.o.size;have b3:=(Below.refl w2.heap.size w2).alloc (Nat.le_refl _) (.cells #[.int .i64 k,.int .i64 T.length,.nilIface] 110);have B3:=qh (B2.o.trans (b3.mono hs2));clear b3;have HM:=qh (HMK.o _ w2.heap.size B3.o (Blk.new w2 110 #[.int .i64 k,.int .i64 T.length,.nilIface]) hs2);obtain⟨d0,d1,d2,d3,d4,d5,d6⟩:=HC.o _ B3.o;have hW1:W.heap.size<w2.heap.size:=by omega
  have hW2:W.heap.size+1<w2.heap.size:=by omega
  go_wp2_with fail;refine HM.o.mono ?_;rintro en w4 ⟨rfl,hm,t4⟩;have HF:=qh (And.intro hm t4);clear hm t4;go_wp2;go_ret2;obtain⟨⟨b,m1,m2,m3,m4⟩,t4⟩:=HF.o;refine⟨b,w2.heap.size,rfl,m1,m2,m3,λx hx=>?_,?_⟩;· have:=m4 x hx;have e2:(w2.alloc (.cells #[.int .i64 k,.int .i64 T.length,.nilIface] 110)).heap.size=w2.heap.size+1:=(by simp);rw[e2]at this;omega
  · have t:=(aa.of_below (S:=[a,g,w2.heap.size]) (H0.o.trans (B3.o.mono H0.o.size))).trans t4;exact t.fresh (λi hi=>by simp at hi ⊢;rcases hi with rfl|rfl|rfl<;>first|(left;left;rfl)|(left;right;rfl)|(right;omega))
theorem Gr {W:World} {a g:Nat} {vP:Value} {AT:Option Addr} {cT:Nat} {P T:List Int} {gl lo pa bu k:Nat} (hp:fi W a g vP (.slice AT T.length cT) P T gl lo pa bu) (hk:1<=k/\k<=13):
    Calls Tryz.prog 13 #[↑a,.agg #[vP,.slice AT T.length cT],.agg #[.int .i64 k,.int .i64 gl,.int .i64 lo,.int .i64 pa,.int .i64 bu]] W (tp W a g T.length (EO P T gl lo pa bu k)):=
  AY hp.ar.blk.lt hp.ar.wds.lt hp.rP hp.rT hp.ck hk λ_ _ h hl hn=>CY (hp.below h) hk hl hn
theorem EX:yN:=by intro w a g vP vT P T k gl lo pa bu hA hP hT hPa hTa hc hk hgl hlo hpa hbu;obtain⟨AT,cT,e,_⟩:=id hT;subst e;exact(Gr ⟨hA,hP,hT,hPa,hTa,hc,hgl,hlo,hpa,hbu⟩ hk).mono λ_ _ ⟨b,lb,h⟩=>⟨_,b,_,lb,h⟩
end
section
open Go Go.RowKit
theorem Bc (w:World)(t:TypeId)(l:List Int){g:Nat}{cs:Array Value}(hg:Blk w g t cs)(hc:cs=(l.map (Value.int .i64)).toArray)(h:l.length<=1000):RdL w (.slice (some ⟨g,0,none⟩) l.length l.length) 1 encI l:=by
 subst hc;refine⟨some ⟨g,0,none⟩,l.length,rfl,Nat.le_refl _,by omega,λ_=>⟨g,0,rfl,hg.lt,λi x hx j u hu=>?_⟩⟩;rw[hg.cell];match j,hu with
 |0,hu=>
  obtain rfl:Value.int .i64 x=u:=by simpa[encI]using hu
  simp[List.getElem?_map,hx]
 |k+1,hu=>simp[encI]at hu
section
variable{n:Nat}{M:LkM n}{b:M.β}{w0 w:World}{a g lb:Nat}{st:M.σ}{N:Nat}
def fT.On (M:LkM n)(b:M.β)(w0:World)(a g lb:Nat)(st:M.σ)(N:Nat)(v:Value)(e:Ending)(w':World):Prop:=e= .returned v/\fT M b w0 w' a g lb st N
theorem fT.actS (h:fT M b w0 w a g lb st N) (G:M.Good) (hN:N<lkB) (hfp:∀x∈M.fp b,w0.heap.size<=x) {i:Nat} (hi:i<n) (v:Bool) (hv:dA (M.sp st i) (M.sp (M.step st i) i)=v):
    Calls Tryz.prog 51 #[lkP lb,.int .i64 i] w (fT.On M b w0 a g lb (M.step st i) (N+1) (.bool v)):=by refine(G.cS b w a g lb st N i h.is h.ok hN hi).mono ?_;rintro e w' ⟨he,k1,t1⟩;exact⟨by rw[he,hv],k1,G.okS _ _ _ h.ok hN hi,h.bel.trans (t1.below hfp h.bel.size)⟩
theorem fT.actA (h:fT M b w0 w a g lb st N) (G:M.Good) (hN:N<lkB) (hfp:∀x∈M.fp b,w0.heap.size<=x) {i:Nat} (hi:i<n) (r v:Bool) (hv:decide ((M.sp st i).pc=0/\(r=true->M.rd=true))=v):
    Calls Tryz.prog 50 #[lkP lb,.int .i64 i,.bool r] w (fT.On M b w0 a g lb (M.ask st i r) (N+1) (.bool v)):=by refine(G.cA b w a g lb st N i r h.is h.ok hN hi).mono ?_;rintro e w' ⟨he,k1,t1⟩;exact⟨by rw[he,hv],k1,G.okA _ _ _ _ h.ok hN hi,h.bel.trans (t1.below hfp h.bel.size)⟩
theorem fT.actL (h:fT M b w0 w a g lb st N) (G:M.Good) (hN:N<lkB) (hfp:∀x∈M.fp b,w0.heap.size<=x) {i:Nat} (hi:i<n) (v:Bool) (hv:decide ((M.sp st i).pc=10)=v):
    Calls Tryz.prog 52 #[lkP lb,.int .i64 i] w (fT.On M b w0 a g lb (M.leave st i) (N+1) (.bool v)):=by refine(G.cL b w a g lb st N i h.is h.ok hN hi).mono ?_;rintro e w' ⟨he,k1,t1⟩;exact⟨by rw[he,hv],k1,G.okL _ _ _ h.ok hN hi,h.bel.trans (t1.below hfp h.bel.size)⟩
end
theorem Gs (W:World) (vA vP vT:Value) (k:Int) (hk:jv k=⟨#[]⟩) (gl lo pa bu:Int):
    Calls Tryz.prog 13 #[vA,.agg #[vP,vT],.agg #[.int .i64 k,.int .i64 gl,.int .i64 lo,.int .i64 pa,.int .i64 bu]] W λe w'=>e= .returned (.tuple #[.pointer none,.int .i64 7])/\Below W.heap.size W w':=by have hb0:=((Below.refl W.heap.size W).alloc (Nat.le_refl _) (.cells #[vP,vT] 24)).alloc QY (.cells #[.int .i64 k,.int .i64 gl,.int .i64 lo,.int .i64 pa,.int .i64 bu] 38);have HN:=qh (λV=>iI V k);rw[hk]at HN;have H0:=qh hb0;clear hb0 hk;go_enter Tryz.func13,Tryz.ntmps13;go_wp2_with fail;refine(HN.o _).mono ?_;rintro en w1 ⟨rfl,b1⟩;have B1:=qh (H0.o.trans (b1.mono H0.o.size));clear b1;go_wp2;go_ret2;exact⟨rfl,B1.o⟩
end
section
open Go Go.RowKit
abbrev P40:List Int:=[-1,0,0]
abbrev T40:List Int:=[1,2]
abbrev eY:MS T40.length:=EN P40 T40 99 1
theorem Eb:a5 P40 T40=0:=by decide+kernel
def mx:Nat->eY.1.σ
 |0=>eY.1.ask (eY.1.ask eY.2 0 true) 0 false
 |k+1=>eY.1.step (mx k) 0
theorem D9:∀k,k<8->dA (eY.1.sp (mx k) 0) (eY.1.sp (eY.1.step (mx k) 0) 0)=decide (k=7):=by decide+kernel
theorem rQ:(eY.1.sp (mx 8) 0).pc=10/\eY.1.cn (mx 8) 0=1/\(eY.1.sp (eY.1.leave (mx 8) 0) 0).pc=11/\(eY.1.sp eY.2 0).pc=0/\(eY.1.sp (eY.1.ask eY.2 0 true) 0).pc=0:=by decide+kernel
theorem Gq {W:World} {a g:Nat} {AP AT:Option Addr} {cP cT:Nat} (hA:aA W a g (dB 99)) (hP:RdL W (.slice AP P40.length cP) 1 encI P40) (hT:RdL W (.slice AT T40.length cT) 1 encI T40) (hPa:∀i,(Value.slice AP P40.length cP).ownBlock=some i->i≠a/\i<W.heap.size):
    Calls Tryz.prog 13 #[↑a,.agg #[.slice AP P40.length cP,.slice AT T40.length cT],.agg #[.int .i64 (7:Nat),.int .i64 (0:Nat),.int .i64 (0:Nat),.int .i64 (0:Nat),.int .i64 (1:Nat)]] W (tp W a g T40.length eY):=by refine AY hA.blk.lt hA.wds.lt hP hT Eb QZ λV lb h hl hn=>pH .hm hl hn λW2 h2=>?_;have bb:=h.trans (h2.mono h.size);refine(DL (hA.turns (S:=[]) (aa.of_below bb) QY QY) rfl hA.ne AP cP _ P40 T40 (hP.below bb (Nat.le_refl _)) (λi hi=>⟨(hPa i hi).1,Nat.lt_of_lt_of_le (hPa i hi).2 bb.size⟩) (hT.below bb (Nat.le_refl _)) Eb ((1:Nat):Int) QX QX ⟨rfl,by decide+kernel⟩).mono ?_;rintro e w' ⟨B,x,s',ha,hg,rfl,k,hs,hB,hq,hqb,t⟩;subst hs;exact⟨x.l,rfl,DH Eb QX rfl ha hg k hB hq hqb,t.mono QY⟩
end
section
open Go Go.RowKit
theorem DV (w:World):Calls Tryz.prog 49 #[] w λe w'=>∃gP gT,e= .returned (.agg #[.slice (some ⟨gP,0,none⟩) P40.length P40.length,.slice (some ⟨gT,0,none⟩) T40.length T40.length])/\RdL w' (.slice (some ⟨gP,0,none⟩) P40.length P40.length) 1 encI P40/\RdL w' (.slice (some ⟨gT,0,none⟩) T40.length T40.length) 1 encI T40/\w.heap.size<=gP/\Below w.heap.size w w':=by
 go_enter Tryz.func49,Tryz.ntmps49;go_wp2;refine bodyPost_ret (v:= .agg #[.slice (some ⟨w.heap.size+1,0,none⟩) 3 3,.slice (some ⟨w.heap.size+1+1,0,none⟩) 2 2]) (by simp[results,Tryz.results49,go_sem]) rfl ⟨_,_,rfl,?_,?_,by omega,?_⟩;·exact Bc _ 3 P40 ((Blk.new' _ _ _ QY).alloc _) rfl QZ
 ·exact Bc _ 3 T40 (Blk.new' _ _ _ QY) rfl QZ
 ·exact(((Below.refl _ _).alloc (Nat.le_refl _) _).alloc (by simp<;>omega) _).alloc (by simp<;>omega) _
theorem xE{k k1:Nat}(hk:1<=k/\k<=13)(h:gE (nmB k) k1):k1=k:=by
 rcases h with⟨_,h⟩|⟨h1,h2,h⟩
 ·exact absurd rfl (h k hk.1 hk.2)
 ·exact vW k1 QX k QX h
theorem xC{s:ByteArray}{k1:Nat}(h:gE s k1)(hn:∀i,i<14->1<=i->(nmB i).data≠s.data):k1=0:=by
 rcases h with⟨h,_⟩|⟨h1,h2,h⟩
 ·exact h
 ·exact absurd (congrArg ByteArray.data h) (hn k1 QX h1)
theorem mA:Awk 11:=by
 intro w;go_enter Tryz.func11,Tryz.ntmps11;go_wp2_with fail;refine(sE _ 99).mono ?_;rintro en w1 ⟨a,g,rfl,hA,ha,hg,b1⟩;have H1:=qh (And.intro hA (And.intro ha (And.intro hg b1)));clear hA ha hg b1;go_wp2_with fail;refine(DV _).mono ?_;rintro en w2 ⟨gP,gT,rfl,hP,hT,hgP,b2⟩
 have HN:=qh (Gq (H1.o.1.turns (S:=[]) (aa.of_below b2) QY QY) hP hT (λi hi=>by
  obtain rfl:gP=i:=by simpa[Value.ownBlock]using hi
  have:=H1.o.1.blk.lt;obtain⟨_,_,e,_,_,h⟩:=hP;obtain⟨_,_,e2,h3,_⟩:=h QZ;cases e;injection e2 with e2;injection e2 with e2;subst e2
  exact⟨by omega,h3⟩))
 have B2:=qh (H1.o.2.2.2.trans (b2.mono H1.o.2.2.2.size));clear hP hT hgP b2;go_wp2_with fail;refine HN.o.mono ?_;rintro en w3 ⟨b,lb,rfl,G,hok,his,hfp,t3⟩;unfold lkP;have HG:=qh G
 have HL:=qh (show ∀x∈eY.1.fp b,w.heap.size<=x from λx hx=>by
  have h1:=hfp x hx;have h2:=B2.o.size;have h3:=H1.o.2
  omega)
 have H3:=qh (show fT eY.1 b w w3 a g lb eY.2 0 from⟨his,hok,B2.o.trans (t3.below (λx hx=>by simp at hx;have h3:=H1.o.2;omega) B2.o.size)⟩);clear G hok his hfp t3 HN;go_wp2_with fail;refine(DV _).mono ?_;rintro en w4 ⟨gP,gT,rfl,hP,hT,hgP,b4⟩;have H4:=qh (H3.o.below HG.o b4);clear hP hT hgP b4;go_wp2_with fail;refine(Gs _ _ _ _ 14 Q5 0 0 0 0).mono ?_;rintro en w5 ⟨rfl,b5⟩;have H5:=qh (H4.o.below HG.o b5);clear b5;go_wp2_with fail;refine(H5.o.actA HG.o QZ HL.o (i:=0) QZ true false (by decide+kernel)).mono ?_;rintro en w6 ⟨rfl,h6⟩;have H6:=qh h6;clear h6;go_wp2_with fail;refine(H6.o.actA HG.o QZ HL.o (i:=0) QZ false true (by decide+kernel)).mono ?_;rintro en w7 ⟨rfl,h7⟩;have H7:=qh (show fT eY.1 b w w7 a g lb (mx 0) 2 from h7);clear h7 H1 H3 H4 H5 H6 B2;go_wp2;go_loopw [6] (λi wr=>∃k:Nat,i= .int .i64 k/\k<=7/\fT eY.1 b w wr a g lb (mx k) (k+2)) (λi _=>7-(intOf i).toNat);case atStart=>exact⟨0,rfl,by omega,H7.o⟩
 case round=>
  clear H7;obtain⟨k,rfl,hk,hW⟩:=hrel;have HW:=qh hW;clear hW;have HD:=qh (HW.o.actS HG.o (Nat.lt_of_le_of_lt (show k+2<=9 by omega) QZ) HL.o (i:=0) QZ (decide (k=7)) (D9 k QX));unfold lkP at HD;have h20:((k:Int)<20):=by omega
  by_cases h7:k=7;·subst h7;go_wp2_with fail;refine HD.o.mono ?_;rintro en w8 ⟨rfl,h8⟩;have H8:=qh (show fT eY.1 b w w8 a g lb (mx 8) 10 from h8);clear h8 HW HD;have HS:=qh (qW HG.o H8.o.is 0 QZ);have HC:=qh (HG.o.cC b w8 a g lb _ 0 H8.o.is QZ);rw[show(j5 (eY.1.sp (mx 8) 0).pc)=2 by rw[rQ.1];rfl]at HS;rw[rQ.2.1]at HC;go_wp2_with fail;refine HS.o.mono ?_;rintro en w9 ⟨rfl,b9⟩;have H9:=qh (H8.o.below HG.o b9);clear b9 HS HC H8;have HC:=qh (HG.o.cC b w9 a g lb _ 0 H9.o.is QZ);rw[rQ.2.1]at HC;go_wp2_with fail;refine HC.o.mono ?_;rintro en w10 ⟨rfl,b10⟩;have H10:=qh (H9.o.below HG.o b10);clear b10 HC H9;have HR:=qh (Bg HG.o H10.o.is 0 QZ);rw[show yc eY.1.rd (eY.1.sp (mx 8) 0)=false from Bool.and_false _]at HR;go_wp2_with fail;refine HR.o.mono ?_;rintro en w11 ⟨rfl,b11⟩;have H11:=qh (H10.o.below HG.o b11);clear b11 HR H10;have HE:=qh (H11.o.actL HG.o QZ HL.o (i:=0) QZ true (decide_eq_true rQ.1));go_wp2_with fail;refine HE.o.mono ?_;rintro en w12 ⟨rfl,h12⟩;have H12:=qh h12;clear h12 HE H11;have HS:=qh (qW HG.o H12.o.is 0 QZ);rw[show(j5 (eY.1.sp (eY.1.leave (mx 8) 0) 0).pc)=3 by rw[rQ.2.2.1];rfl]at HS;go_wp2_with fail;refine HS.o.mono ?_;rintro en w13 ⟨rfl,b13⟩;have H13:=qh (H12.o.below HG.o b13);clear b13 HS H12;have HT:=qh (sW (HG.o.lk b w13 a g lb _ H13.o.is));go_wp2_with fail;refine HT.o.mono ?_;rintro en w14 ⟨rfl,rfl⟩;have H14:=qh H13.o.bel;clear HT H13;go_wp2_with fail;have HNm:=λV=>iI V 9;rw[show jv 9=(⟨#[99,110,97]⟩:ByteArray)from rfl]at HNm;refine(HNm _).mono ?_;rintro en w15 ⟨rfl,b15⟩;have H15:=qh (H14.o.trans (b15.mono H14.o.size));clear b15 H14;go_wp2_with fail;refine(r7 _ _).mono ?_;rintro en w16 ⟨k1,rfl,hk1,b16⟩;have H16:=qh (H15.o.trans (b16.mono H15.o.size));obtain rfl:k1=13:=xE (k:=13) QZ hk1;clear b16 H15 hk1;go_wp2_with fail;refine(r7 _ _).mono ?_;rintro en w17 ⟨k2,rfl,hk2,b17⟩;have H17:=qh (H16.o.trans (b17.mono H16.o.size));obtain rfl:k2=0:=xC hk2 (by decide+kernel);clear b17 H16 hk2;go_wp2_with fail;refine(qT 11 _ true QZ).mono ?_;rintro en w18 ⟨rfl,rfl⟩;go_wp2_with fail;refine(qT 10 _ false QZ).mono ?_;rintro en w19 ⟨rfl,rfl⟩;go_wp2;go_ret;exact⟨rfl,H17.o⟩
  ·rw[show decide (k=7)=false from decide_eq_false h7]at HD;go_wp2_with fail;refine HD.o.mono ?_;rintro en w8 ⟨rfl,h8⟩;have H8:=qh h8;clear h8 HW HD;go_wp2;go_roundw;case rel=>exact⟨k+1,by go_num,by omega,H8.o⟩
   case measure=>simp[intOf];omega
end
end Go.Proofs.YtglokdbiggbkjaaGreat
