/- Joined texts. -/
import Derived.Test.YtglokdbiggbkjaaGreatRows
import Derived.Deep.AppendLies
import Derived.Deep.RegionHeld3
import Derived.Laws.MakeOwn
import Derived.Deep.DeepCutAuto
import Derived.Deep.RegionLaw
import Derived.Test.YtglokdbiggbkjaaGreatMgLocksSafe0
import Derived.Test.YtglokdbiggbkjaaGreatMgLocksSafe1
import Derived.Test.YtglokdbiggbkjaaGreatMgLocksSafe2
import Derived.Test.YtglokdbiggbkjaaGreatMgLocksSafe3
import Derived.Test.YtglokdbiggbkjaaGreatMgLocksSafe4
import Derived.Test.YtglokdbiggbkjaaGreatMgLocksSafe5
import Derived.Test.YtglokdbiggbkjaaGreatMgLocksSafe11
set_option linter.unusedVariables false
set_option linter.unusedSimpArgs false
set_option maxRecDepth 100000
set_option maxHeartbeats 16000000
namespace Go.Proofs.YtglokdbiggbkjaaGreat
section
open Go
def cG (p:Sp):Prop:=p.pc=3\/p.pc=4\/(10<=p.pc/\p.pc<=15)
def StP (p g:Sp)(v:Int):Prop:=
 (p.pc=3->(0<g.pc/\g.pc<10)/\¬0<v)/\(p.pc=4->g.pc=10/\¬0<v)/\(10<=p.pc/\p.pc<=14->g.pc=10)/\(p.pc=13->1<=p.a)/\(p.pc=15->10<g.pc/\¬0<v)
def FrP (g:Sp)(v:Int):Prop:=g.pc=if 0<v then 10 else 0
structure cp (c:CoC)(n N:Nat)(ml:Nat->Nat):Prop where
 k:(1<=c.kg/\c.kg<=5)/\1<=c.kl/\c.kl<=5
 inj:Inj c n
 nd:∀i,i<n->c.node i<N/\c.slot i<ml (c.node i)
 cw:∀a,a<N->c.cw a=c.tl a+szI c.kl (ml a) c.m
 gl:∀a,a<N->c.tg+szI c.kg N c.m<=c.tl a
 sz:∀a,a<N->0<=szI c.kl (ml a) c.m
 ap:∀a b,a<N->b<N->a≠b->c.cw a<c.tl b\/c.cw b<c.tl a
structure CoM (c:CoC)(n N:Nat)(ml:Nat->Nat)(st:Co):Prop where
 fG:bZ c.kg c.tg c.m N st.s.W st.G
 fL:∀a,a<N->bZ c.kl (c.tl a) c.m (ml a) st.s.W (st.L.getD a [])
 lL:st.L.length=N
 lW:∀a,a<N->1<=c.cw a/\c.cw a<=st.s.W.length
 v:CoV c n st
 sj:∀j,j<n->StP (sv st.T j) (sv st.G (c.node j)) (ldW st.s.W (c.cw (c.node j)))
 fr:∀a,a<N->(∀j,j<n->c.node j=a->¬cG (sv st.T j))->FrP (sv st.G a) (ldW st.s.W (c.cw a))
section
variable{c:CoC}{n N:Nat}{ml:Nat->Nat}{st st':Co}
theorem jE{p g:Sp}{v:Int}(h:¬cG p):StP p g v:=by unfold cG at h;refine⟨?_,?_,?_,?_,?_⟩<;>intro hc<;>omega
theorem CoM.uniq (h:CoM c n N ml st)(y:cp c n N ml){i j:Nat}(hi:i<n)(hj:j<n)(hn:c.node i=c.node j)(h1:(lsp st.L (c.node i) (c.slot i)).pc=10)(h2:cG (sv st.T j)):i=j:=by
 have hk:=h.v.k j hj;have h3:(lsp st.L (c.node j) (c.slot j)).pc=10:=by unfold db at hk;unfold cG at h2;omega
 have ha:=(y.nd i hi).1;have e:=(h.fL _ ha).one y.k.2 (i:=c.slot i) (j:=c.slot j) (y.nd i hi).2 (by rw[hn];exact(y.nd j hj).2) h1 (by rw[hn];exact h3);exact y.inj i j hi hj hn e
theorem CoM.one (h:CoM c n N ml st)(y:cp c n N ml){i j:Nat}(hi:i<n)(hj:j<n)(h1:10<=(sv st.T i).pc/\(sv st.T i).pc<=14)(h2:10<=(sv st.T j).pc/\(sv st.T j).pc<=14):i=j:=by have g1:=(h.sj i hi).2.2.1 h1;have g2:=(h.sj j hj).2.2.1 h2;have hn:=h.fG.one y.k.1 (y.nd i hi).1 (y.nd j hj).1 g1 g2;have hk:=h.v.k i hi;exact h.uniq y hi hj hn (by unfold db at hk;omega) (by unfold cG;omega)
theorem CoM.updA (h:CoM c n N ml st) {i:Nat} (hi:i<n) {p':Sp} (hb:¬cG (sv st.T i)) (hb':¬cG p') (hT:st'.T=st.T.set i p') (hG:st'.G=st.G) (hc:∀a,a<N->ldW st'.s.W (c.cw a)=ldW st.s.W (c.cw a))
    (hN:∀j,j<n->c.node j<N) (hl:st'.s.W.length=st.s.W.length) (fG:bZ c.kg c.tg c.m N st'.s.W st'.G) (fL:∀a,a<N->bZ c.kl (c.tl a) c.m (ml a) st'.s.W (st'.L.getD a [])) (lL:st'.L.length=N) (v:CoV c n st'):CoM c n N ml st':=by
  have hiT:i<st.T.length:=by have:=h.v.lT;omega
  have hs:=svS hiT p';refine⟨fG,fL,lL,λa ha=>by rw[hl];exact h.lW a ha,v,λj hj=>?_,λa ha hf=>?_⟩
  · rw[hT,hs,hG,hc _ (hN j hj)];split;· exact jE hb'
    · exact h.sj j hj
  · rw[hG,hc a ha];refine h.fr a ha (λj hj hja=>?_);have:=hf j hj hja;rw[hT,hs]at this;split at this;· rename_i e;rw[e];exact hb
    · exact this
theorem CoM.updB (h:CoM c n N ml st) (y:cp c n N ml) {i:Nat} (hi:i<n) {p':Sp} (h10:(lsp st.L (c.node i) (c.slot i)).pc=10) (hT:st'.T=st.T.set i p') (hG:∀a,a≠c.node i->sv st'.G a=sv st.G a) (hc:∀a,a<N->a≠c.node i->ldW st'.s.W (c.cw a)=ldW st.s.W (c.cw a))
    (hS:StP p' (sv st'.G (c.node i)) (ldW st'.s.W (c.cw (c.node i)))) (hF:¬cG p'->FrP (sv st'.G (c.node i)) (ldW st'.s.W (c.cw (c.node i))))
    (hl:st'.s.W.length=st.s.W.length) (fG:bZ c.kg c.tg c.m N st'.s.W st'.G) (fL:∀a,a<N->bZ c.kl (c.tl a) c.m (ml a) st'.s.W (st'.L.getD a [])) (lL:st'.L.length=N) (v:CoV c n st'):CoM c n N ml st':=by
  have hiT:i<st.T.length:=by have:=h.v.lT;omega
  have hs:=svS hiT p';refine⟨fG,fL,lL,λa ha=>by rw[hl];exact h.lW a ha,v,λj hj=>?_,λa ha hf=>?_⟩
  · rw[hT,hs];split;· rename_i e;rw[e];exact hS
    · rename_i e;by_cases hn:c.node i=c.node j;· exact jE (λhb=>e (h.uniq y hi hj hn h10 hb).symm)
      · rw[hG _ (λe=>hn e.symm),hc _ (y.nd j hj).1 (λe=>hn e.symm)];exact h.sj j hj
  · by_cases e:a=c.node i;· rw[e];refine hF ?_;have:=hf i hi e.symm;rw[hT,hs,if_pos rfl]at this;exact this
    · rw[hG a e,hc a ha e];refine h.fr a ha (λj hj hja=>?_);have:=hf j hj hja;rw[hT,hs]at this;split at this;· rename_i e2;rw[e2]at hja;exact absurd hja.symm e
      · exact this
theorem pG (L:List (List Sp))(a s:Nat)(p:Sp)(ha:a<L.length)(b:Nat):(js L a s p).getD b []=if b=a then(L.getD a []).set s p else L.getD b []:=by
 unfold js;rw[List.getD_eq_getElem?_getD,List.getElem?_set];by_cases e:a=b;·subst e;rw[if_pos rfl,if_pos ha,if_pos rfl];rfl
 ·rw[if_neg e,if_neg (λh=>e h.symm),<-List.getD_eq_getElem?_getD]
theorem sO (c:CoC)(st:Co)(i:Nat)(p:Sp):(setL c st i p).length=st.L.length:=(nU _ _ _ _ 0).2
theorem CoM.frL (h:CoM c n N ml st) (y:cp c n N ml) {a:Nat} (ha:a<N) {W':List Int} (hl:W'.length=st.s.W.length) (hf:∀x,¬(c.tl a<=x/\x<c.tl a+szI c.kl (ml a) c.m)->ldW W' x=ldW st.s.W x):
    bZ c.kg c.tg c.m N W' st.G/\(∀b,b<N->b≠a->bZ c.kl (c.tl b) c.m (ml b) W' (st.L.getD b []))/\∀b,b<N->ldW W' (c.cw b)=ldW st.s.W (c.cw b):=by
  have g1:=y.gl a ha;have c1:=y.cw a ha;refine⟨h.fG.frame hl (λx h1 h2=>hf x QX),λb hb hn=>(h.fL b hb).frame hl (λx h1 h2=>hf x ?_),λb hb=>hf _ ?_⟩;· have:=y.ap a b ha hb (λe=>hn e.symm);have c2:=y.cw b hb;omega
  · by_cases e:b=a;· subst e;omega
    · have:=y.ap a b ha hb (λe2=>e e2.symm);have c2:=y.cw b hb;have s2:=y.sz b hb;omega
theorem CoM.frG (h:CoM c n N ml st) (y:cp c n N ml) {W':List Int} (hl:W'.length=st.s.W.length) (hf:∀x,¬(c.tg<=x/\x<c.tg+szI c.kg N c.m)->ldW W' x=ldW st.s.W x):
    (∀b,b<N->bZ c.kl (c.tl b) c.m (ml b) W' (st.L.getD b []))/\∀b,b<N->ldW W' (c.cw b)=ldW st.s.W (c.cw b):=by refine⟨λb hb=>(h.fL b hb).frame hl (λx h1 h2=>hf x (by have:=y.gl b hb;omega)),λb hb=>hf _ (by have:=y.gl b hb;have:=y.cw b hb;have:=y.sz b hb;omega)⟩
theorem CoM.frC (h:CoM c n N ml st) (y:cp c n N ml) {a:Nat} (ha:a<N) (u:Int):
    bZ c.kg c.tg c.m N (stW st.s.W (c.cw a) u) st.G/\(∀b,b<N->bZ c.kl (c.tl b) c.m (ml b) (stW st.s.W (c.cw a) u) (st.L.getD b []))/\(∀b,b<N->b≠a->ldW (stW st.s.W (c.cw a) u) (c.cw b)=ldW st.s.W (c.cw b))/\ldW (stW st.s.W (c.cw a) u) (c.cw a)=u:=by
  have hw:=gf (aO.2 (h.lW a ha)) u;have g1:=y.gl a ha;have c1:=y.cw a ha;have s1:=y.sz a ha
  refine⟨h.fG.frame (bE _ _ _) (λx h1 h2=>by rw[hw,if_neg QX]),λb hb=>(h.fL b hb).frame (bE _ _ _) (λx h1 h2=>by
    rw[hw,if_neg];by_cases e:b=a;· subst e;omega
    · have:=y.ap a b ha hb (λe2=>e e2.symm);have:=y.cw b hb
      omega),λb hb hn=>by
    rw[hw,if_neg];have:=y.ap a b ha hb (λe2=>hn e2.symm);have:=y.cw b hb;have:=y.sz b hb
    omega,by rw[hw,if_pos rfl]⟩
theorem FrP.of{g:Sp}{v:Int}(h:FrP g v):(0<v->g.pc=10)/\(¬0<v->g.pc=0):=by unfold FrP at h;exact⟨λhv=>by rw[h,if_pos hv],λhv=>by rw[h,if_neg hv]⟩
theorem CoM.setLL (h:CoM c n N ml st) {i:Nat} (ha:c.node i<N) {W':List Int} (fL:∀b,b<N->bZ c.kl (c.tl b) c.m (ml b) W' (st.L.getD b [])) {p:Sp} (hp:bZ c.kl (c.tl (c.node i)) c.m (ml (c.node i)) W' ((st.L.getD (c.node i) []).set (c.slot i) p)):
    ∀b,b<N->bZ c.kl (c.tl b) c.m (ml b) W' ((setL c st i p).getD b []):=λb hb=>by
  unfold setL
  rw[pG _ _ _ _ (by rw[h.lL];exact ha)]
  split
  · rename_i e;rw[e];exact hp
  · exact fL b hb
theorem AC (L:List (List Sp))(a s:Nat):lsp L a s=sv (L.getD a []) s:=rfl
theorem CoM.ask (h:CoM c n N ml st)(y:cp c n N ml){i:Nat}(hi:i<n):CoM c n N ml (bD c st i):=by
 have hv:=vu h.v y.inj hi;unfold bD at hv ⊢;split
 ·rename_i h0;rw[if_pos h0]at hv;have ha:=y.nd i hi
  exact h.updA hi (p':={(sv st.T i)with pc:=1}) (by unfold cG;omega) Rw rfl rfl (λ_ _=>rfl) (λj hj=>(y.nd j hj).1) rfl h.fG
   (h.setLL ha.1 h.fL (by rw[AC];exact(h.fL _ ha.1).ask y.k.2 ha.2)) (by show(setL c st i _).length=N;rw[sO,h.lL]) hv
 ·exact h
theorem CoM.leave (h:CoM c n N ml st)(y:cp c n N ml){i:Nat}(hi:i<n):CoM c n N ml (ay st i):=by
 have hv:=px h.v y.inj hi;unfold ay at hv ⊢;split;·rename_i h0;rw[if_pos h0]at hv;have hk:=h.v.k i hi;have hs:=(h.sj i hi).2.2.1 QX;exact h.updB y hi (p':={(sv st.T i)with pc:=11}) (by unfold db at hk;omega) rfl (λ_ _=>rfl) (λ_ _ _=>rfl) ⟨λe=>by simp at e,λe=>by simp at e,λ_=>hs,λe=>by simp at e,λe=>by simp at e⟩ (λhb=>absurd (show cG {(sv st.T i)with pc:=11} from .inr (.inr ⟨by show(10:Int)<=11;decide,by show(11:Int)<=15;decide⟩)) hb) rfl h.fG h.fL h.lL hv
 ·exact h
theorem CoM.step (h:CoM c n N ml st)(y:cp c n N ml){B:Int}(hB:CoB c B st)(hB0:1<=B)(hB1:B<=10000000000000){i:Nat}(hi:i<n):CoM c n N ml (ak c st i):=by
 have hv:=rF h.v y.inj y.k hi;have ha:=y.nd i hi;have hlk:=h.v.k i hi;have hq:=h.v.lpc hi;have hg:=h.v.gpc hi;have sL:=jG (t:=c.tl (c.node i)) (m:=c.m) (s:=st.s) (i:=(c.slot i:Int)) y.k.2 hq;have sG:=jG (t:=c.tg) (m:=c.m) (s:=st.s) (i:=(c.node i:Int)) y.k.1 hg;have hiT:i<st.T.length:=by have:=h.v.lT;omega
 have hGl:c.node i<st.G.length:=by rw[h.fG.len];exact ha.1
 have gne:∀q a,a≠c.node i->sv (st.G.set (c.node i) q) a=sv st.G a:=λq a e=>by rw[svS hGl,if_neg e]
 have geq:∀q,sv (st.G.set (c.node i) q) (c.node i)=q:=λq=>by rw[svS hGl,if_pos rfl]
 have hst:=h.sj i hi;have hfr:¬cG (sv st.T i)->(lsp st.L (c.node i) (c.slot i)).pc=10->FrP (sv st.G (c.node i)) (ldW st.s.W (c.cw (c.node i))):=λhb h10=>by refine h.fr _ ha.1 (λj hj hn hbj=>?_);have e:=h.uniq y hi hj hn.symm h10 hbj;rw[<-e]at hbj;exact hb hbj
 unfold ak at hv ⊢;split;·exact h
 rename_i hne;rw[if_neg hne]at hv;obtain⟨p,hp⟩:∃p,p=sv st.T i:=⟨_,rfl⟩;rw[<-hp]at hlk hne hv hst hfr ⊢;have hc:p.pc=1\/p.pc=2\/p.pc=3\/p.pc=4\/p.pc=11\/p.pc=12\/p.pc=13\/p.pc=14\/p.pc=15\/p.pc=16:=by unfold db at hlk;omega
 have hbp:¬cG p->¬cG (sv st.T i):=by rw[hp];exact id
 have LS:=(h.fL _ ha.1).step y.k.2 hB.w QX hB1 ha.2 hq;have LF:=h.frL y ha.1 (cJ _ _ _ _ _ _).2 LS.2;have GS:=h.fG.step y.k.1 hB.w QX hB1 ha.1 hg;have GF:=h.frG y (cJ _ _ _ _ _ _).2 GS.2;obtain⟨pc,u,b,z⟩:=p;simp only at hc;have hL10:pc≠0->pc≠1->pc≠16->(lsp st.L (c.node i) (c.slot i)).pc=10:=λa0 a1 a2=>by unfold db at hlk;simp only at hlk;omega
 have nl:=λb hb=>(h.fL b hb)
 have fLs:∀b,b<N->bZ c.kl (c.tl b) c.m (ml b) (stL c st i).1.W ((setL c st i (stL c st i).2).getD b []):=λb hb=>by
  unfold setL;rw[pG _ _ _ _ (by rw[h.lL];exact ha.1)];split;·rename_i e;rw[e];exact LS.1
  ·rename_i e;exact LF.2.1 b hb e
 have lSL:∀q,(setL c st i q).length=N:=λq=>by rw[sO,h.lL]
 rcases hc with rfl|rfl|rfl|rfl|rfl|rfl|rfl|rfl|rfl|rfl
 ·rw[mv1]at hv ⊢;refine h.updA (p':=if lj c st i then⟨2,u,b,z⟩else⟨1,u,b,z⟩) hi (hbp Rw) ?_ rfl rfl LF.2.2 (λj hj=>(y.nd j hj).1) (cJ _ _ _ _ _ _).2 LF.1 fLs (lSL _) hv;unfold cG;split<;>simp
 ·have h10:=hL10 QZ QZ QZ;have hF:=(hfr Rw h10).of;rw[mv2]at hv ⊢;split;·rename_i hpos;rw[if_pos hpos]at hv;refine h.updB y (p':=⟨10,ldW st.s.W (c.cw (c.node i)),b,z⟩) hi h10 rfl (λ_ _=>rfl) (λa _ _=>by show ldW (ae _ _).W _=_;rw[aM]) ?_ (λhb=>absurd (show cG _ from .inr (.inr ⟨by show(10:Int)<=10;decide,by show(10:Int)<=15;decide⟩)) hb) RU (by show bZ _ _ _ _ (ae _ _).W _;rw[aM];exact h.fG) (λb hb=>by show bZ _ _ _ _ (ae _ _).W _;rw[aM];exact h.fL b hb) h.lL hv;exact⟨λe=>by simp at e,λe=>by simp at e,λ_=>hF.1 hpos,λe=>by simp at e,λe=>by simp at e⟩
  ·rename_i hpos;rw[if_neg hpos]at hv;have g0:=hF.2 hpos;refine h.updB y (p':=⟨3,ldW st.s.W (c.cw (c.node i)),b,z⟩) hi h10 rfl (λa e=>gne _ a e) (λa _ _=>by show ldW (ae _ _).W _=_;rw[aM]) ?_ (λhb=>absurd (show cG _ from .inl rfl) hb) RU (by show bZ _ _ _ _ (ae _ _).W _;rw[aM];exact h.fG.ask y.k.1 ha.1) (λb hb=>by show bZ _ _ _ _ (ae _ _).W _;rw[aM];exact h.fL b hb) h.lL hv;refine⟨λ_=>⟨?_,?_⟩,λe=>by simp at e,λe=>by simp at e,λe=>by simp at e,λe=>by simp at e⟩;·show 0<(sv (st.G.set (c.node i) (askK c.kg (sv st.G (c.node i)))) (c.node i)).pc/\(sv (st.G.set (c.node i) (askK c.kg (sv st.G (c.node i)))) (c.node i)).pc<10;rw[geq,mz g0];decide
   ·show ¬0<ldW (ae _ _).W _;rw[aM];exact hpos
 ·have h10:=hL10 QZ QZ QZ;have hs3:=hst.1 rfl;have s2:=sG.2.1 hs3.1.1 hs3.1.2;have ec:mX c st i=decide ((stG c st i).2.pc=10):=p7 hs3.1.1 hs3.1.2 s2.1;rw[mv3]at hv ⊢;refine h.updB y (p':=if mX c st i then⟨4,u,b,z⟩else⟨3,u,b,z⟩) hi h10 rfl (λa e=>gne _ a e) (λa ha' _=>GF.2 a ha') ?_ ?_ (cJ _ _ _ _ _ _).2 GS.1 GF.1 h.lL hv
  ·show StP _ (sv (st.G.set (c.node i) (stG c st i).2) (c.node i)) (ldW (stG c st i).1.W (c.cw (c.node i)));rw[geq,show ldW (stG c st i).1.W (c.cw (c.node i))=_ from GF.2 _ ha.1];split;·rename_i e;rw[ec]at e;have e':(stG c st i).2.pc=10:=(by simpa using e);exact⟨λe=>by simp at e,λ_=>⟨e',hs3.2⟩,λe=>by simp at e,λe=>by simp at e,λe=>by simp at e⟩
   ·rename_i e;rw[ec]at e;have e':¬(stG c st i).2.pc=10:=(by simpa using e);refine⟨λ_=>⟨⟨s2.1,?_⟩,hs3.2⟩,λe=>by simp at e,λe=>by simp at e,λe=>by simp at e,λe=>by simp at e⟩;have:=s2.2;show(stG c st i).2.pc<10;unfold stG at *;omega
  ·intro hb;exfalso;apply hb;unfold cG;split<;>simp
 ·have h10:=hL10 QZ QZ QZ;have hs4:=hst.2.1 rfl;have CF:=h.frC y ha.1 1;rw[mv4]at hv ⊢;refine h.updB y (p':=⟨10,1,b,z⟩) hi h10 rfl (λ_ _=>rfl) (λa ha' e=>by show ldW (ac _ _ _).W _=_;rw[aw];exact CF.2.2.1 a ha' e) ?_ (λhb=>absurd (show cG _ from .inr (.inr ⟨by show(10:Int)<=10;decide,by show(10:Int)<=15;decide⟩)) hb) RV (by show bZ _ _ _ _ (ac _ _ _).W _;rw[aw];exact CF.1) (λb hb=>by show bZ _ _ _ _ (ac _ _ _).W _;rw[aw];exact CF.2.1 b hb) h.lL hv;exact⟨λe=>by simp at e,λe=>by simp at e,λ_=>hs4.1,λe=>by simp at e,λe=>by simp at e⟩
 ·have h10:=hL10 QZ QZ QZ;have hs:=hst.2.2.1 QY;rw[EP]at hv ⊢;refine h.updB y (p':=⟨if c.bud<ldW st.s.W (c.cw (c.node i))then 14 else 12,ldW st.s.W (c.cw (c.node i)),b,z⟩) hi h10 rfl (λ_ _=>rfl) (λa _ _=>by show ldW (ae _ _).W _=_;rw[aM]) ?_ ?_ RU (by show bZ _ _ _ _ (ae _ _).W _;rw[aM];exact h.fG) (λb hb=>by show bZ _ _ _ _ (ae _ _).W _;rw[aM];exact h.fL b hb) h.lL hv;·refine⟨λe=>?_,λe=>?_,λ_=>hs,λe=>?_,λe=>?_⟩<;>(simp only at e;split at e<;>omega)
  ·intro hb;exfalso;apply hb;unfold cG;simp only;split<;>simp
 ·have h10:=hL10 QZ QZ QZ;have hs:=hst.2.2.1 QY;rw[EQ]at hv ⊢;have hal:(ch c.kl (c.tl (c.node i)) st.s (c.slot i) (lsp st.L (c.node i) (c.slot i))).1.W=st.s.W:=by unfold ch;(repeat' split)<;>first|rfl|exact aM _ _
  refine h.updB y (p':=⟨if mn u c.bud (ch c.kl (c.tl (c.node i)) st.s (c.slot i) (lsp st.L (c.node i) (c.slot i))).2 then 13 else 14,u,b,z⟩) hi h10 rfl (λ_ _=>rfl) (λa _ _=>by show ldW (ch _ _ _ _ _).1.W _=_;rw[hal]) ?_ ?_ (by show(ch _ _ _ _ _).1.W.length=_;rw[hal]) (by show bZ _ _ _ _ (ch _ _ _ _ _).1.W _;rw[hal];exact h.fG) (λb hb=>by show bZ _ _ _ _ (ch _ _ _ _ _).1.W _;rw[hal];exact h.fL b hb) h.lL hv
  ·refine⟨λe=>?_,λe=>?_,λ_=>hs,λe=>?_,λe=>?_⟩;·simp only at e;split at e<;>omega
   ·simp only at e;split at e<;>omega
   ·simp only at e;split at e;·rename_i hpass;unfold mn at hpass;simp only[Bool.and_eq_true,decide_eq_true_eq]at hpass;exact hpass.1.1
    ·omega
   ·simp only at e;split at e<;>omega
  ·intro hb;exfalso;apply hb;unfold cG;simp only;split<;>simp
 ·have h10:=hL10 QZ QZ QZ;have hs:=hst.2.2.1 QY;have hu:=hst.2.2.2.1 rfl;have CF:=h.frC y ha.1 (u+1);rw[ER]at hv ⊢;refine h.updB y (p':=⟨16,u,b,z⟩) hi h10 rfl (λ_ _=>rfl) (λa ha' e=>by show ldW (ac _ _ _).W _=_;rw[aw];exact CF.2.2.1 a ha' e) (jE Rw) ?_ RV (by show bZ _ _ _ _ (ac _ _ _).W _;rw[aw];exact CF.1) ?_ (lSL _) hv;·intro _;show FrP _ (ldW (ac _ _ _).W _);rw[aw,CF.2.2.2];unfold FrP;rw[if_pos (by simp only at hu;omega)];exact hs
  ·show ∀b,b<N->bZ _ _ _ _ (ac _ _ _).W _;rw[aw];exact h.setLL ha.1 CF.2.1 (by rw[AC];exact(CF.2.1 _ ha.1).leave y.k.2 ha.2)
 ·have h10:=hL10 QZ QZ QZ;have hs:=hst.2.2.1 QY;have CF:=h.frC y ha.1 0;rw[ES]at hv ⊢;refine h.updB y (p':=⟨15,u,b,z⟩) hi h10 rfl (λa e=>gne _ a e) (λa ha' e=>by show ldW (ac _ _ _).W _=_;rw[aw];exact CF.2.2.1 a ha' e) ?_ (λhb=>absurd (show cG _ from .inr (.inr ⟨by show(10:Int)<=15;decide,by show(15:Int)<=15;decide⟩)) hb) RV (by show bZ _ _ _ _ (ac _ _ _).W _;rw[aw];exact CF.1.leave y.k.1 ha.1) (λb hb=>by show bZ _ _ _ _ (ac _ _ _).W _;rw[aw];exact CF.2.1 b hb) h.lL hv;refine⟨λe=>by simp at e,λe=>by simp at e,λe=>by simp at e,λe=>by simp at e,λ_=>⟨?_,?_⟩⟩;·show 10<(sv (st.G.set (c.node i) (be (sv st.G (c.node i)))) (c.node i)).pc;rw[geq,lJ hs];decide
  ·show ¬0<ldW (ac _ _ _).W _;rw[aw,CF.2.2.2];decide
 ·have h10:=hL10 QZ QZ QZ;have hs:=hst.2.2.2.2 rfl;have s2:=sG.2.2 hs.1;have ec:mX c st i=decide ((stG c st i).2.pc=0):=mY hs.1 s2;rw[ET]at hv ⊢;split;·rename_i e;rw[if_pos e]at hv;rw[ec]at e;have e':(stG c st i).2.pc=0:=(by simpa using e);refine h.updB y (p':=⟨16,u,b,z⟩) hi h10 rfl (λa e=>gne _ a e) (λa ha' _=>GF.2 a ha') (jE Rw) ?_ (cJ _ _ _ _ _ _).2 GS.1 (h.setLL ha.1 GF.1 (by rw[AC];exact(GF.1 _ ha.1).leave y.k.2 ha.2)) (lSL _) hv;intro _;show FrP (sv (st.G.set (c.node i) (stG c st i).2) (c.node i)) (ldW (stG c st i).1.W (c.cw (c.node i)));rw[geq,show ldW (stG c st i).1.W (c.cw (c.node i))=_ from GF.2 _ ha.1];unfold FrP;rw[if_neg hs.2];exact e'
  ·rename_i e;rw[if_neg e]at hv;rw[ec]at e;have e':¬(stG c st i).2.pc=0:=(by simpa using e);refine h.updB y (p':=⟨15,u,b,z⟩) hi h10 rfl (λa e=>gne _ a e) (λa ha' _=>GF.2 a ha') ?_ (λhb=>absurd (show cG _ from .inr (.inr ⟨by show(10:Int)<=15;decide,by show(15:Int)<=15;decide⟩)) hb) (cJ _ _ _ _ _ _).2 GS.1 GF.1 h.lL hv;refine⟨λe=>by simp at e,λe=>by simp at e,λe=>by simp at e,λe=>by simp at e,λ_=>⟨?_,?_⟩⟩;·show 10<(sv (st.G.set (c.node i) (stG c st i).2) (c.node i)).pc;rw[geq];unfold stG at *;omega
   ·show ¬0<ldW (stG c st i).1.W (c.cw (c.node i));rw[show ldW (stG c st i).1.W (c.cw (c.node i))=_ from GF.2 _ ha.1];exact hs.2
 ·rw[EU]at hv ⊢;refine h.updA (p':=if lj c st i then⟨0,u,b,z⟩else⟨16,u,b,z⟩) hi (hbp Rw) ?_ rfl rfl LF.2.2 (λj hj=>(y.nd j hj).1) (cJ _ _ _ _ _ _).2 LF.1 fLs (lSL _) hv;unfold cG;split<;>simp
end
end
section
open Go.RowKit
def bi (s:Ar)(n:Nat):Ar:={s with W:=s.W++List.replicate n 0}
theorem mq {w:World} {a g:Nat} {s:Ar} (h:aA w a g s) (n:Nat) (hn:s.W.length+n<=s.room):
    Calls Tryz.prog 139 #[↑a,.int .i64 n] w λe w'=>e= .returned (.tuple #[.int .i64 ((s.W.length:Int)+1),.int .i64 0])/\aA w' a g (bi s n)/\aa [a] w w':=by
  refine(gb h n).mono ?_;have e:dV s n=(bi s n,(s.W.length:Int)+1,(0:Int)):=by unfold dV;rw[if_neg QX,if_neg QX,Int.toNat_natCast];rfl
  rw[e];rintro en w' ⟨h1,h2,h3⟩;exact⟨h1,h2,h3⟩
theorem m6 (w:World)(xs:List Value)(t:TypeId):∀j u,xs[j]? =some u->(w.alloc (.cells xs.toArray t)).cell? ((⟨w.heap.size,0,none⟩:Addr).add j)=some u:=by
 intro j u hj;have k:=Blk.new w t xs.toArray;have c:=k.cell j;have e:(⟨w.heap.size,0,none⟩:Addr).add j=⟨w.heap.size,j,none⟩:=by simp[Addr.add];exact λh=>h.symm
 rw[e,c];simpa using hj
theorem Tryz.infoSpF:(Tryz.prog.info? 113).map (λi=>(i.zero,i.size,i.bytes))=some (some (.agg #[.int .i64 0,.int .i64 0,.int .i64 0,.int .i64 0]),4,32):=by kernel_rfl
theorem E6 {w:World} {l:Nat} {va vs:Value} (nx:Nat) (m:Nat) (hm:1<=m) (hx:nx<=100000) (h:Blk w l 345 #[va,.int .i64 nx,.int .i64 m,vs]):
    Calls Tryz.prog 178 #[↑l,.int .i64 0] w λe w'=>e= .returned (.int .i64 ((nx:Int)+1))/\Below w.heap.size w w':=by
  have c1:w.cell? ⟨l,1,none⟩=some (.int .i64 nx):=h.cell 1;have c2:w.cell? ⟨l,2,none⟩=some (.int .i64 m):=h.cell 2;have t1:¬(m:Int)=0:=by omega
  have t2:((m:Int)==0)=false:=by simpa using t1
  have x1:IntKind.i64.wrap ((nx:Int)+1)=(nx:Int)+1:=IntWalk.i64_in _ QX;clear h;go_enter Tryz.func178,Tryz.ntmps178;go_wp2_with fail;go_quiet (fail);go_wp2;go_ret;exact⟨rfl,cE (Below.refl _ _) _⟩
theorem Gi (w:World)(n:Nat)(h1:1<=n)(h2:n<=32):Calls Tryz.prog 176 #[.int .i64 n] w λe w'=>e= .returned (.bool true)/\w=w':=by
 have t1:(1:Int)<=n:=by omega
 have t2:(n:Int)<=32:=by omega
 go_enter Tryz.func176,Tryz.ntmps176;exact gs
end
section
open Go.RowKit
theorem qj (u:Value)(n:Nat):(madeCells #[u,u,u,u] n).toList=List.replicate n u:=by exact II
theorem tR (n:Nat):(List.replicate n Sp.zero).flatMap a9=List.replicate (n*4) (.int .i64 0):=by exact IJ
theorem jD{w:World}{base q n:Nat}(h:w.ownsRow base 113 4 (.slice (some ⟨q,0,none⟩) n n) n (madeCells #[Value.int .i64 0,.int .i64 0,.int .i64 0,.int .i64 0] (n*4)).toList):SpR w q (List.replicate n Sp.zero):=by have:=gu h;refine⟨[],?_⟩;rw[List.append_nil,tR];have e:(madeCells #[Value.int .i64 0,.int .i64 0,.int .i64 0,.int .i64 0] (n*4)).toList=List.replicate (n*4) (.int .i64 0):=qj _ _;exact Ji
def szK (k n m:Nat):Nat:=if k=1 then 1 else if k=2 then 2 else if k=3 then 1+m else if k=4 then 1+2*n else n+2
def aD (k:Nat)(s:Ar)(n m:Nat):Ar:=
 if k=3 then ac (bi s (szK k n m)) ((s.W.length:Int)+2) 1 else if k=5 then ac (bi s (szK k n m)) ((s.W.length:Int)+1) ((n:Int)+1)else bi s (szK k n m)
def a7 (k n:Nat):List Sp:=if k=5 then(List.range n).map fun(i:Nat)=>(⟨0,(i:Int)+1,0,0⟩:Sp)else List.replicate n Sp.zero
def yM (w:World)(a g k:Nat)(s:Ar)(n m:Nat)(e:Ending)(w':World):Prop:=
 ∃x:Fx,e= .returned (.tuple #[↑x.l,.int .i64 0])/\KIs w' a g k x (aD k s n m) (a7 k n)/\(w.heap.size<=x.l/\w.heap.size<=x.q/\x.n=n/\x.m=m/\x.t=s.W.length+1/\x.k=k)/\aa [a,g] w w'
theorem uU {w:World} {a g:Nat} {s:Ar} (h:aA w a g s) (n:Nat) (h1:1<=n) (h2:n<=32) (m:Nat) (hm1:1<=m) (hm2:m<=4) (hr:s.W.length+(2)<=s.room):
    Calls Tryz.prog 152 #[↑a,.int .i64 n] w (yM w a g 2 s n m):=by
  obtain⟨i0,hi,hz0,hz1,hz2⟩:=info_parts Tryz.infoSpF;have HT:=qh (mq h (2) hr);have t1:¬(n:Int)<1:=by omega
  have t2:¬32<(n:Int):=by omega
  have HR:=qh (And.intro hr h.room);have HG:=qh (And.intro h.blk.lt h.wds.lt);clear h hr;go_enter Tryz.func152,Tryz.ntmps152;go_wp2_with fail;refine HT.o.mono ?_;rintro en w1 ⟨rfl,k1,t1'⟩;have H1:=qh (And.intro k1 t1');clear k1 t1' HT;go_wp2_with (refine wpList_make_full _ rfl _ _ 237 rfl w1.heap.size 113 i0 (.agg #[.int .i64 0,.int .i64 0,.int .i64 0,.int .i64 0]) 4 Tryz.underlying237 hi hz0 hz1 .i64 .i64 n n n rfl rfl rfl rfl ?b2 ?b3 (Nat.le_refl _) ?_);case b2=>rw[hz2];omega
  case b3=>unfold maxLen;omega
  intro w2 hown hg;have t2':aa [] w1 w2:=aa.of_below ((Below.refl w1.heap.size w1).grown hg (Nat.le_refl _) (λj hj=>by cases hj));have H2:=qh t2';have HS:=qh (jD hown);clear hown hg t2';go_wp2;go_ret2;have k2:=H1.o.1.turns H2.o QY QY;have s1:=H1.o.2.size;have s2:=H2.o.size;have hq:=HS.o.lt;have hgg:=HG.o;have hrr:=HR.o;have tA:aa [] w2 (w2.alloc (.cells (lkC 2 a ⟨0,w2.heap.size,w1.heap.size,2,s.W.length+1,m,n,n⟩) (lkT 2))):=(aa.refl _ _).alloc _;have hb:=Blk.new w2 (lkT 2) (lkC 2 a ⟨0,w2.heap.size,w1.heap.size,2,s.W.length+1,m,n,n⟩);refine⟨⟨0,w2.heap.size,w1.heap.size,2,s.W.length+1,m,n,n⟩,rfl,?_,⟨by show w.heap.size<=w2.heap.size;omega,by show w.heap.size<=w1.heap.size;omega,rfl,rfl,rfl,rfl⟩,((H1.o.2.mono QY).trans (H2.o.mono QY)).alloc _⟩;exact⟨k2.turns tA QY QY,hb,HS.o.turns tA QY,by show(List.replicate n Sp.zero).length=n;simp,by show w2.heap.size≠a;omega,by show w2.heap.size≠g;omega,by show w2.heap.size≠w1.heap.size;omega,by show w1.heap.size≠a;omega,by show w1.heap.size≠g;omega,h2,by show 1<=s.W.length+1;omega,by show s.W.length+1<=5000;omega,hm1,hm2,Nat.le_refl _⟩
theorem C3 {w:World} {a g:Nat} {s:Ar} (h:aA w a g s) (n:Nat) (h1:1<=n) (h2:n<=32) (m:Nat) (hm1:1<=m) (hm2:m<=4) (hr:s.W.length+(1+2*n)<=s.room):
    Calls Tryz.prog 154 #[↑a,.int .i64 n] w (yM w a g 4 s n m):=by
  obtain⟨i0,hi,hz0,hz1,hz2⟩:=info_parts Tryz.infoSpF;have HT:=qh (mq h (1+2*n) hr);have t1:¬(n:Int)<1:=by omega
  have t2:¬32<(n:Int):=by omega
  have HR:=qh (And.intro hr h.room);have HG:=qh (And.intro h.blk.lt h.wds.lt);have x1:IntKind.i64.wrap (2*(n:Int))=2*(n:Int):=IntWalk.i64_in _ QX;have x2:IntKind.i64.wrap (1+2*(n:Int))=((1+2*n:Nat):Int):=by rw[IntWalk.i64_in _ QX];omega
  clear h hr;go_enter Tryz.func154,Tryz.ntmps154;go_wp2_with fail;refine HT.o.mono ?_;rintro en w1 ⟨rfl,k1,t1'⟩;have H1:=qh (And.intro k1 t1');clear k1 t1' HT;go_wp2_with (refine wpList_make_full _ rfl _ _ 237 rfl w1.heap.size 113 i0 (.agg #[.int .i64 0,.int .i64 0,.int .i64 0,.int .i64 0]) 4 Tryz.underlying237 hi hz0 hz1 .i64 .i64 n n n rfl rfl rfl rfl ?b2 ?b3 (Nat.le_refl _) ?_);case b2=>rw[hz2];omega
  case b3=>unfold maxLen;omega
  intro w2 hown hg;have t2':aa [] w1 w2:=aa.of_below ((Below.refl w1.heap.size w1).grown hg (Nat.le_refl _) (λj hj=>by cases hj));have H2:=qh t2';have HS:=qh (jD hown);clear hown hg t2';go_wp2;go_ret2;have k2:=H1.o.1.turns H2.o QY QY;have s1:=H1.o.2.size;have s2:=H2.o.size;have hq:=HS.o.lt;have hgg:=HG.o;have hrr:=HR.o;have tA:aa [] w2 (w2.alloc (.cells (lkC 4 a ⟨0,w2.heap.size,w1.heap.size,4,s.W.length+1,m,n,n⟩) (lkT 4))):=(aa.refl _ _).alloc _;have hb:=Blk.new w2 (lkT 4) (lkC 4 a ⟨0,w2.heap.size,w1.heap.size,4,s.W.length+1,m,n,n⟩);refine⟨⟨0,w2.heap.size,w1.heap.size,4,s.W.length+1,m,n,n⟩,rfl,?_,⟨by show w.heap.size<=w2.heap.size;omega,by show w.heap.size<=w1.heap.size;omega,rfl,rfl,rfl,rfl⟩,((H1.o.2.mono QY).trans (H2.o.mono QY)).alloc _⟩;exact⟨k2.turns tA QY QY,hb,HS.o.turns tA QY,by show(List.replicate n Sp.zero).length=n;simp,by show w2.heap.size≠a;omega,by show w2.heap.size≠g;omega,by show w2.heap.size≠w1.heap.size;omega,by show w1.heap.size≠a;omega,by show w1.heap.size≠g;omega,h2,by show 1<=s.W.length+1;omega,by show s.W.length+1<=5000;omega,hm1,hm2,Nat.le_refl _⟩
theorem Dt {w:World} {a g:Nat} {s:Ar} (h:aA w a g s) (n:Nat) (h1:1<=n) (h2:n<=32) (m:Nat) (hm1:1<=m) (hm2:m<=4) (hr:s.W.length+(1)<=s.room):
    Calls Tryz.prog 151 #[↑a,.int .i64 n,.int .i64 m] w (yM w a g 1 s n m):=by
  obtain⟨i0,hi,hz0,hz1,hz2⟩:=info_parts Tryz.infoSpF;have HT:=qh (mq h (1) hr);have t1:¬(n:Int)<1:=by omega
  have t2:¬32<(n:Int):=by omega
  have HR:=qh (And.intro hr h.room);have HG:=qh (And.intro h.blk.lt h.wds.lt);have t3:¬(m:Int)<1:=by omega
  have t4:¬1024<(m:Int):=by omega
  clear h hr;go_enter Tryz.func151,Tryz.ntmps151;go_wp2_with fail;refine HT.o.mono ?_;rintro en w1 ⟨rfl,k1,t1'⟩;have H1:=qh (And.intro k1 t1');clear k1 t1' HT;go_wp2_with (refine wpList_make_full _ rfl _ _ 237 rfl w1.heap.size 113 i0 (.agg #[.int .i64 0,.int .i64 0,.int .i64 0,.int .i64 0]) 4 Tryz.underlying237 hi hz0 hz1 .i64 .i64 n n n rfl rfl rfl rfl ?b2 ?b3 (Nat.le_refl _) ?_);case b2=>rw[hz2];omega
  case b3=>unfold maxLen;omega
  intro w2 hown hg;have t2':aa [] w1 w2:=aa.of_below ((Below.refl w1.heap.size w1).grown hg (Nat.le_refl _) (λj hj=>by cases hj));have H2:=qh t2';have HS:=qh (jD hown);clear hown hg t2';go_wp2;go_ret2;have k2:=H1.o.1.turns H2.o QY QY;have s1:=H1.o.2.size;have s2:=H2.o.size;have hq:=HS.o.lt;have hgg:=HG.o;have hrr:=HR.o;have tA:aa [] w2 (w2.alloc (.cells (lkC 1 a ⟨0,w2.heap.size,w1.heap.size,1,s.W.length+1,m,n,n⟩) (lkT 1))):=(aa.refl _ _).alloc _;have hb:=Blk.new w2 (lkT 1) (lkC 1 a ⟨0,w2.heap.size,w1.heap.size,1,s.W.length+1,m,n,n⟩);refine⟨⟨0,w2.heap.size,w1.heap.size,1,s.W.length+1,m,n,n⟩,rfl,?_,⟨by show w.heap.size<=w2.heap.size;omega,by show w.heap.size<=w1.heap.size;omega,rfl,rfl,rfl,rfl⟩,((H1.o.2.mono QY).trans (H2.o.mono QY)).alloc _⟩;exact⟨k2.turns tA QY QY,hb,HS.o.turns tA QY,by show(List.replicate n Sp.zero).length=n;simp,by show w2.heap.size≠a;omega,by show w2.heap.size≠g;omega,by show w2.heap.size≠w1.heap.size;omega,by show w1.heap.size≠a;omega,by show w1.heap.size≠g;omega,h2,by show 1<=s.W.length+1;omega,by show s.W.length+1<=5000;omega,hm1,hm2,Nat.le_refl _⟩
end
section
open Go.RowKit
theorem sI{w:World}{base:Nat}{e:TypeId}{sz n:Nat}{v:Value}{xs:List Value}(h:w.ownsRow base e sz v n xs)(hn:1<=n):∃q cap,v= .slice (some ⟨q,0,none⟩) n cap/\n<=cap/\base<=q/\∃Z:List Value,Blk w q e (xs++Z).toArray:=by
 rcases h.2 with⟨_,h0⟩|⟨q,cap,cur,rfl,hb,hq,hnc,hcm,hcs,ht⟩
 ·omega
 ·refine⟨q,cap,rfl,hnc,hb,cur.toList.drop (n*sz),?_⟩;rw[<-ht,List.take_append_drop,Array.toArray_toList];exact hq
theorem ut (k:Nat):(a7 5 k).length=k:=by unfold a7;simp
theorem zj (k:Nat):(a7 5 (k+1)).flatMap a9=(a7 5 k).flatMap a9++[.int .i64 0,.int .i64 ((k:Int)+1),.int .i64 0,.int .i64 0]:=by unfold a7;rw[if_pos rfl,if_pos rfl,List.range_succ,List.map_append,List.flatMap_append];rfl
theorem uz {w:World} {a g:Nat} {s:Ar} (h:aA w a g s) (n:Nat) (h1:1<=n) (h2:n<=32) (m:Nat) (hm1:1<=m) (hm2:m<=4) (hr:s.W.length+(1+m)<=s.room) (ho:s.ops+1<=1000000000000):
    Calls Tryz.prog 153 #[↑a,.int .i64 n,.int .i64 m] w (yM w a g 3 s n m):=by
  obtain⟨i0,hi,hz0,hz1,hz2⟩:=info_parts Tryz.infoSpF;have HT:=qh (mq h (1+m) hr);have x1:IntKind.i64.wrap (1+(m:Int))=((1+m:Nat):Int):=by rw[IntWalk.i64_in _ QX];omega
  have hlen:s.W.length<=4096:=by have:=h.le;have:=h.room;omega
  have ha0:=h.blk.lt;have hg0:=h.wds.lt;have HO:=qh ho;clear h hr ho;go_enter Tryz.func153,Tryz.ntmps153;go_wp2_with fail;refine(Gi _ n h1 h2).mono ?_;rintro en w0 ⟨rfl,rfl⟩;go_wp2_with fail;refine(Gi _ m hm1 QX).mono ?_;rintro en w0 ⟨rfl,rfl⟩;go_wp2_with fail;refine HT.o.mono ?_;rintro en w1 ⟨rfl,k1,t1'⟩;have H1:=qh (And.intro k1 t1');clear k1 t1' HT;go_wp2_with (refine wpList_make_full _ rfl _ _ 237 rfl w1.heap.size 113 i0 (.agg #[.int .i64 0,.int .i64 0,.int .i64 0,.int .i64 0]) 4 Tryz.underlying237 hi hz0 hz1 .i64 .i64 n n n rfl rfl rfl rfl ?b2 ?b3 (Nat.le_refl _) ?_);case b2=>rw[hz2];omega
  case b3=>unfold maxLen;omega
  intro w2 hown hg;have t2':aa [] w1 w2:=aa.of_below ((Below.refl w1.heap.size w1).grown hg (Nat.le_refl _) (λj hj=>by cases hj));have H2:=qh t2';have HSP:=qh (jD hown);clear hown hg t2';go_upto_region 7 with fail;obtain⟨l,hl⟩:∃l,l=w2.heap.size:=⟨_,rfl⟩;obtain⟨nx,hnx⟩:∃x:Nat,x=s.W.length+1:=⟨_,rfl⟩;have hnx2:((s.W.length:Int)+1)=(nx:Int):=by omega
  obtain⟨w3,hw3⟩:∃W,W=w2.alloc (.cells #[↑a,.int .i64 nx,.int .i64 m,.slice (some ⟨w1.heap.size,0,none⟩) n n] 345):=⟨_,rfl⟩;rw[hnx2,<-hw3,<-hl];have HB:=qh (show Blk w3 l 345 #[↑a,.int .i64 nx,.int .i64 m,.slice (some ⟨w1.heap.size,0,none⟩) n n]from by rw[hw3,hl];exact Blk.new _ _ _);have HT3:=qh (show aa [a] w w3 from by rw[hw3];exact(H1.o.2.trans (H2.o.mono QY)).alloc _);have HA3:=qh (show aA w3 a g (bi s (1+m))from by rw[hw3];exact(H1.o.1.turns H2.o QY QY).turns (S:=[]) ((aa.refl _ _).alloc _) QY QY);have HSP3:=qh (show SpR w3 w1.heap.size (List.replicate n Sp.zero)from by rw[hw3];exact HSP.o.turns ((aa.refl [] _).alloc _) QY);have HL:=qh (show w.heap.size<=l/\nx=s.W.length+1/\w1.heap.size<l/\w.heap.size<=w1.heap.size from by have:=H1.o.2.size;have:=H2.o.size;have:=HSP.o.lt;omega);clear hl hw3 hnx hnx2;go_wp2_with fail;refine(E6 nx m hm1 (by have:=HL.o.2.1;omega) HB.o).mono ?_;rintro en w4 ⟨rfl,b4⟩;have HA4:=qh (And.intro (HA3.o.turns (aa.of_below (S:=[]) b4) QY QY) b4);clear b4;go_wp2_with fail;refine(am HA4.o.1 ((nx:Int)+1) 1 (by show s.ops+1<=_;have:=HO.o;omega)).mono ?_;rintro en w5 ⟨rfl,k5,t5⟩;have H5:=qh (And.intro k5 t5);clear k5 t5;go_wp2;go_ret2;have s3:=HT3.o.size;have s4:=HA4.o.2.size;have s5:=H5.o.2.size;have hb:=HB.o.lt;have hL:=HL.o;have e3:((nx:Int)+1)=(s.W.length:Int)+2:=by omega
  have tt:aa [a,g] w3 w5:=(aa.of_below HA4.o.2).trans H5.o.2;have ka:=H5.o.1;rw[e3]at ka;refine⟨⟨0,l,w1.heap.size,3,nx,m,n,n⟩,rfl,?_,⟨by show w.heap.size<=l;omega,by show w.heap.size<=w1.heap.size;omega,rfl,rfl,hL.2.1,rfl⟩,(HT3.o.mono QY).trans tt⟩;exact⟨ka,tt.blk HB.o Q1,HSP3.o.turns tt Q1,by show(List.replicate n Sp.zero).length=n;simp,by show l≠a;omega,by show l≠g;omega,by show l≠w1.heap.size;omega,by show w1.heap.size≠a;omega,by show w1.heap.size≠g;omega,h2,by show 1<=nx;omega,by show nx<=5000;omega,hm1,hm2,Nat.le_refl _⟩
theorem Cb {w:World} {a g:Nat} {s:Ar} (h:aA w a g s) (n:Nat) (h1:1<=n) (h2:n<=32) (m:Nat) (hm1:1<=m) (hm2:m<=4) (hr:s.W.length+(n+2)<=s.room) (ho:s.ops+1<=1000000000000):
    Calls Tryz.prog 155 #[↑a,.int .i64 n] w (yM w a g 5 s n m):=by
  obtain⟨i0,hi,hz0,hz1,hz2⟩:=info_parts Tryz.infoSpF;have HI:=qh (And.intro hi (And.intro hz0 (And.intro hz1 hz2)));have HT:=qh (mq h (n+2) hr);have t1:¬(n:Int)<1:=by omega
  have t2:¬32<(n:Int):=by omega
  have x1:IntKind.i64.wrap ((n:Int)+2)=((n+2:Nat):Int):=by rw[IntWalk.i64_in _ QX];omega
  have x2:IntKind.i64.wrap ((n:Int)+1)=((n+1:Nat):Int):=by rw[IntWalk.i64_in _ QX];omega
  have hlen:s.W.length<=4096:=by have:=h.le;have:=h.room;omega
  have HG:=qh (And.intro h.blk.lt h.wds.lt);have HO:=qh ho;clear h hr ho hi hz0 hz1 hz2;go_enter Tryz.func155,Tryz.ntmps155;go_wp2_with fail;refine HT.o.mono ?_;rintro en w1 ⟨rfl,k1,t1'⟩;have H1:=qh (And.intro k1 t1');clear k1 t1' HT;go_upto_region 7 with fail;obtain⟨l,hl⟩:∃l,l=w1.heap.size:=⟨_,rfl⟩;obtain⟨nx,hnx⟩:∃x:Nat,x=s.W.length+1:=⟨_,rfl⟩;have hnx2:((s.W.length:Int)+1)=(nx:Int):=by omega
  obtain⟨w3,hw3⟩:∃W,W=w1.alloc (.cells #[↑a,.int .i64 nx,.slice none 0 0] 350):=⟨_,rfl⟩;rw[hnx2,<-hw3,<-hl];have HB:=qh (show Blk w3 l 350 #[↑a,.int .i64 nx,.slice none 0 0]from by rw[hw3,hl];exact Blk.new _ _ _);have HT3:=qh (show aa [a] w w3 from by rw[hw3];exact H1.o.2.alloc _);have HA3:=qh (show aA w3 a g (bi s (n+2))from by rw[hw3];exact H1.o.1.turns (S:=[]) ((aa.refl _ _).alloc _) QY QY);have HL:=qh (show w.heap.size<=l/\nx=s.W.length+1/\w3.heap.size=l+1 from by have:=H1.o.2.size;rw[hw3];simp;omega);clear hl hw3 hnx hnx2;go_wp2;go_loopw [31] (λi wr=>∃(k:Nat) (v:Value),i= .int .i64 k/\k<=n/\Blk wr l 350 #[↑a,.int .i64 nx,v]/\wr.ownsRow w3.heap.size 113 4 v k ((a7 5 k).flatMap a9)/\aa [l] w3 wr) (λi _=>n-(intOf i).toNat);case atStart=>exact⟨0,_,rfl,by omega,HB.o,World.ownsRow_nil _ _ _ _,aa.refl _ _⟩
  case round=>
    obtain⟨k,v,rfl,hk,hb,hown,ht⟩:=hrel;have HXS:=qh (zj k);obtain⟨xs,hxs⟩:∃l,l=(a7 5 k).flatMap a9:=⟨_,rfl⟩;rw[<-hxs]at hown HXS;have HXE:=qh hxs;clear hxs;obtain⟨wo,rfl⟩:∃wo:World,wo=wr:=⟨_,rfl⟩;by_cases hlt:k<n
    · obtain⟨A,cap,rfl⟩:=bO hown;have c2:wo.cell? ⟨l,2,none⟩=some (.slice A k cap):=hb.cell 2;have hll:=hb.lt;have hs3:=ht.size;have H:=qh (And.intro hb (And.intro hown ht));have hlow:(Value.slice A k cap).ownBlock≠some l:=λe=>by have:=(hown.lt l e).1;have:=HL.o.2.2;omega
      clear hb hown ht;go_wp2_with (at_builtin;refine wpList_append_lies _ rfl _ _ 237 rfl w3.heap.size 113 i0 (.agg #[.int .i64 0,.int .i64 0,.int .i64 0,.int .i64 0]) 4 32 Tryz.underlying237 HI.o.1 HI.o.2.1 HI.o.2.2.1 HI.o.2.2.2 rfl QZ _ _ _ rfl (H.o.2.1.alloc _) ⟨wo.heap.size,0,none⟩ 1 1 [.int .i64 0,.int .i64 ((k:Int)+1),.int .i64 0,.int .i64 0] rfl rfl (m6 _ _ _) Rv QZ ?c3 ?c4 ?c5 _ rfl ?_);case c3=>unfold maxLen;omega
      case c4=>omega
      case c5=>simp;omega
      intro g3 cap3 w7 h3 hg3 hl3 hlt3;have bl7:=(H.o.1.alloc (.cells #[.int .i64 0,.int .i64 ((k:Int)+1),.int .i64 0,.int .i64 0] 113)).grown hg3 (λe=>hlow e.symm);have c27:w7.cell? ⟨l,2,none⟩=some (.slice A k cap):=bl7.cell 2;have z27:=bl7.free 2;have ts:aa [l] w7 (w7.setCell ⟨l,2,none⟩ (.slice (some ⟨g3,0,none⟩) (k+1) cap3)):=(aa.refl _ _).setCell (.inl QY) _
      have HRR:=qh (show Blk (w7.setCell ⟨l,2,none⟩ (.slice (some ⟨g3,0,none⟩) (k+1) cap3)) l 350 #[↑a,.int .i64 nx,.slice (some ⟨g3,0,none⟩) (k+1) cap3]/\(w7.setCell ⟨l,2,none⟩ (.slice (some ⟨g3,0,none⟩) (k+1) cap3)).ownsRow w3.heap.size 113 4 (.slice (some ⟨g3,0,none⟩) (k+1) cap3) (k+1) (xs++[.int .i64 0,.int .i64 ((k:Int)+1),.int .i64 0,.int .i64 0])/\aa [l] w3 (w7.setCell ⟨l,2,none⟩ (.slice (some ⟨g3,0,none⟩) (k+1) cap3))from by
        have hg35:=(h3.lt g3 rfl).1;have hl3':=HL.o.2.2;refine⟨bl7.set_ 2 _,aa.own h3 ts (λx hx=>by injection hx with hx;subst hx;simp;omega),?_⟩
        have t37:aa [l] w3 w7:=⟨hg3.os.trans H.o.2.2.os,hg3.tape.trans H.o.2.2.tape,hg3.output.trans H.o.2.2.output,by have:=hg3.size;simp at this;omega,λi hi hn=>by
          have h9:=hg3.block i Q1 (λe=>by have:=(H.o.2.1.lt i e.symm).1;omega);rw[h9];have h8:=((aa.refl [l] wo).alloc (.cells #[.int .i64 0,.int .i64 ((k:Int)+1),.int .i64 0,.int .i64 0] 113)).block i QX hn;rw[h8]
          exact H.o.2.2.block i hi hn⟩
        exact t37.trans ts)
      clear h3 hg3 hl3 bl7 H;go_wp2;go_roundw;case rel=>exact⟨k+1,_,by go_num,by omega,HRR.o.1,by rw[HXS.o];exact HRR.o.2.1,HRR.o.2.2⟩
      case measure=>simp[intOf];omega
    · obtain rfl:k=n:=by omega
      obtain⟨q,cap,rfl,hcap,hql,Z,hZ⟩:=sI hown h1;have H:=qh (And.intro hb ht);have HZ:=qh (show SpR wo q (a7 5 k)from⟨Z,by rw[<-HXE.o];exact hZ⟩);clear hb hown ht hZ;have HA4:=qh (HA3.o.turns H.o.2 (by have:=HG.o;have:=HL.o;simp;omega) (by have:=HG.o;have:=HL.o;simp;omega));go_wp2_with fail;refine(am HA4.o (nx:Int) ((k+1:Nat):Int) (by show s.ops+1<=_;have:=HO.o;omega)).mono ?_;rintro en w5 ⟨rfl,k5,t5⟩;have H5:=qh (And.intro k5 t5);clear k5 t5;go_wp2;go_ret2;have s3:=HT3.o.size;have s5:=H5.o.2.size;have hb:=H.o.1.lt;have s6:=H.o.2.size;have hL:=HL.o;have hG:=HG.o;have e3:(nx:Int)=(s.W.length:Int)+1:=(by omega);have ka:=H5.o.1;rw[e3,show(((k+1:Nat):Nat):Int)=(k:Int)+1 by omega]at ka;have t9:aa [a,g,l] w w5:=((HT3.o.mono QY).trans (H.o.2.mono QY)).trans (H5.o.2.mono QY);refine⟨⟨0,l,q,5,nx,m,k,cap⟩,rfl,?_,⟨by show w.heap.size<=l;omega,by show w.heap.size<=q;omega,rfl,rfl,hL.2.1,rfl⟩,t9.fresh λi hi=>by simp at hi ⊢;omega⟩;exact⟨ka,H5.o.2.blk H.o.1 Q1,HZ.o.turns H5.o.2 Q1,ut k,by show l≠a;omega,by show l≠g;omega,by show l≠q;omega,by show q≠a;omega,by show q≠g;omega,h2,by show 1<=nx;omega,by show nx<=5000;omega,hm1,hm2,hcap⟩
end
section
open Go.RowKit
def pp (w:World)(a g k:Nat)(s:Ar)(n m:Nat)(e:Ending)(w':World):Prop:=
 ∃x:Fx,e= .returned (.tuple #[↑x.p,.int .i64 0])/\di w' a g k x (aD k s n m) (a7 k n)/\(w.heap.size<=x.p/\w.heap.size<=x.l/\w.heap.size<=x.q/\x.n=n/\x.m=m/\x.t=s.W.length+1)/\aa [a,g] w w'
theorem CC {w:World} {a g:Nat} {s:Ar} (h:aA w a g s) (n:Nat) (h1:1<=n) (h2:n<=32) (m:Nat) (hm1:1<=m) (hm2:m<=4) (hr:s.W.length+szK 1 n m<=s.room) (ho:s.ops+1<=1000000000000):
    Calls Tryz.prog 109 #[↑a,.int .i64 1,.int .i64 n,.int .i64 m] w (pp w a g 1 s n m):=by have H2:=qh (Dt h n h1 h2 m hm1 hm2 (show s.W.length+(1)<=s.room from hr));have HG:=qh (And.intro h.blk.lt h.wds.lt);clear h hr ho;go_enter Tryz.func109,Tryz.ntmps109;go_wp2_with fail;refine H2.o.mono ?_;rintro en w1 ⟨x,rfl,e1,e2,e3⟩;have HE:=qh (And.intro e1 (And.intro e2 e3));clear e1 e2 e3;go_wp2;go_ret2;obtain⟨e1,e2,e3⟩:=HE.o;have hq:=e1.sp.lt;have hs:=e3.size;have hg:=HG.o;have tA:aa [] w1 (w1.alloc (.cells #[.int .i64 ((1:Nat):Int),ifV 1 x.l] 303)):=(aa.refl _ _).alloc _;exact⟨{x with p:=w1.heap.size},rfl,⟨Blk.new w1 303 #[.int .i64 ((1:Nat):Int),ifV 1 x.l],⟨e1.ar.turns tA QY QY,tA.blk e1.lk QY,e1.sp.turns tA QY,e1.n,e1.la,e1.lg,e1.lq,e1.qa,e1.qg,e1.n32,e1.t0,e1.t1,e1.m0,e1.m1,e1.cap⟩,by show w1.heap.size≠a;omega,by show w1.heap.size≠g;omega,by show w1.heap.size≠x.q;omega⟩,⟨by show w.heap.size<=w1.heap.size;omega,e2.1,e2.2.1,e2.2.2.1,e2.2.2.2.1,e2.2.2.2.2.1⟩,e3.alloc _⟩
theorem CD {w:World} {a g:Nat} {s:Ar} (h:aA w a g s) (n:Nat) (h1:1<=n) (h2:n<=32) (m:Nat) (hm1:1<=m) (hm2:m<=4) (hr:s.W.length+szK 2 n m<=s.room) (ho:s.ops+1<=1000000000000):
    Calls Tryz.prog 109 #[↑a,.int .i64 2,.int .i64 n,.int .i64 m] w (pp w a g 2 s n m):=by have H2:=qh (uU h n h1 h2 m hm1 hm2 (show s.W.length+(2)<=s.room from hr));have HG:=qh (And.intro h.blk.lt h.wds.lt);clear h hr ho;go_enter Tryz.func109,Tryz.ntmps109;go_wp2_with fail;refine H2.o.mono ?_;rintro en w1 ⟨x,rfl,e1,e2,e3⟩;have HE:=qh (And.intro e1 (And.intro e2 e3));clear e1 e2 e3;go_wp2;go_ret2;obtain⟨e1,e2,e3⟩:=HE.o;have hq:=e1.sp.lt;have hs:=e3.size;have hg:=HG.o;have tA:aa [] w1 (w1.alloc (.cells #[.int .i64 ((2:Nat):Int),ifV 2 x.l] 303)):=(aa.refl _ _).alloc _;exact⟨{x with p:=w1.heap.size},rfl,⟨Blk.new w1 303 #[.int .i64 ((2:Nat):Int),ifV 2 x.l],⟨e1.ar.turns tA QY QY,tA.blk e1.lk QY,e1.sp.turns tA QY,e1.n,e1.la,e1.lg,e1.lq,e1.qa,e1.qg,e1.n32,e1.t0,e1.t1,e1.m0,e1.m1,e1.cap⟩,by show w1.heap.size≠a;omega,by show w1.heap.size≠g;omega,by show w1.heap.size≠x.q;omega⟩,⟨by show w.heap.size<=w1.heap.size;omega,e2.1,e2.2.1,e2.2.2.1,e2.2.2.2.1,e2.2.2.2.2.1⟩,e3.alloc _⟩
theorem CE {w:World} {a g:Nat} {s:Ar} (h:aA w a g s) (n:Nat) (h1:1<=n) (h2:n<=32) (m:Nat) (hm1:1<=m) (hm2:m<=4) (hr:s.W.length+szK 3 n m<=s.room) (ho:s.ops+1<=1000000000000):
    Calls Tryz.prog 109 #[↑a,.int .i64 3,.int .i64 n,.int .i64 m] w (pp w a g 3 s n m):=by have H2:=qh (uz h n h1 h2 m hm1 hm2 (show s.W.length+(1+m)<=s.room from hr) ho);have HG:=qh (And.intro h.blk.lt h.wds.lt);clear h hr ho;go_enter Tryz.func109,Tryz.ntmps109;go_wp2_with fail;refine H2.o.mono ?_;rintro en w1 ⟨x,rfl,e1,e2,e3⟩;have HE:=qh (And.intro e1 (And.intro e2 e3));clear e1 e2 e3;go_wp2;go_ret2;obtain⟨e1,e2,e3⟩:=HE.o;have hq:=e1.sp.lt;have hs:=e3.size;have hg:=HG.o;have tA:aa [] w1 (w1.alloc (.cells #[.int .i64 ((3:Nat):Int),ifV 3 x.l] 303)):=(aa.refl _ _).alloc _;exact⟨{x with p:=w1.heap.size},rfl,⟨Blk.new w1 303 #[.int .i64 ((3:Nat):Int),ifV 3 x.l],⟨e1.ar.turns tA QY QY,tA.blk e1.lk QY,e1.sp.turns tA QY,e1.n,e1.la,e1.lg,e1.lq,e1.qa,e1.qg,e1.n32,e1.t0,e1.t1,e1.m0,e1.m1,e1.cap⟩,by show w1.heap.size≠a;omega,by show w1.heap.size≠g;omega,by show w1.heap.size≠x.q;omega⟩,⟨by show w.heap.size<=w1.heap.size;omega,e2.1,e2.2.1,e2.2.2.1,e2.2.2.2.1,e2.2.2.2.2.1⟩,e3.alloc _⟩
theorem CG {w:World} {a g:Nat} {s:Ar} (h:aA w a g s) (n:Nat) (h1:1<=n) (h2:n<=32) (m:Nat) (hm1:1<=m) (hm2:m<=4) (hr:s.W.length+szK 4 n m<=s.room) (ho:s.ops+1<=1000000000000):
    Calls Tryz.prog 109 #[↑a,.int .i64 4,.int .i64 n,.int .i64 m] w (pp w a g 4 s n m):=by have H2:=qh (C3 h n h1 h2 m hm1 hm2 (show s.W.length+(1+2*n)<=s.room from hr));have HG:=qh (And.intro h.blk.lt h.wds.lt);clear h hr ho;go_enter Tryz.func109,Tryz.ntmps109;go_wp2_with fail;refine H2.o.mono ?_;rintro en w1 ⟨x,rfl,e1,e2,e3⟩;have HE:=qh (And.intro e1 (And.intro e2 e3));clear e1 e2 e3;go_wp2;go_ret2;obtain⟨e1,e2,e3⟩:=HE.o;have hq:=e1.sp.lt;have hs:=e3.size;have hg:=HG.o;have tA:aa [] w1 (w1.alloc (.cells #[.int .i64 ((4:Nat):Int),ifV 4 x.l] 303)):=(aa.refl _ _).alloc _;exact⟨{x with p:=w1.heap.size},rfl,⟨Blk.new w1 303 #[.int .i64 ((4:Nat):Int),ifV 4 x.l],⟨e1.ar.turns tA QY QY,tA.blk e1.lk QY,e1.sp.turns tA QY,e1.n,e1.la,e1.lg,e1.lq,e1.qa,e1.qg,e1.n32,e1.t0,e1.t1,e1.m0,e1.m1,e1.cap⟩,by show w1.heap.size≠a;omega,by show w1.heap.size≠g;omega,by show w1.heap.size≠x.q;omega⟩,⟨by show w.heap.size<=w1.heap.size;omega,e2.1,e2.2.1,e2.2.2.1,e2.2.2.2.1,e2.2.2.2.2.1⟩,e3.alloc _⟩
theorem CH {w:World} {a g:Nat} {s:Ar} (h:aA w a g s) (n:Nat) (h1:1<=n) (h2:n<=32) (m:Nat) (hm1:1<=m) (hm2:m<=4) (hr:s.W.length+szK 5 n m<=s.room) (ho:s.ops+1<=1000000000000):
    Calls Tryz.prog 109 #[↑a,.int .i64 5,.int .i64 n,.int .i64 m] w (pp w a g 5 s n m):=by have H2:=qh (Cb h n h1 h2 m hm1 hm2 (show s.W.length+(n+2)<=s.room from hr) ho);have HG:=qh (And.intro h.blk.lt h.wds.lt);clear h hr ho;go_enter Tryz.func109,Tryz.ntmps109;go_wp2_with fail;refine H2.o.mono ?_;rintro en w1 ⟨x,rfl,e1,e2,e3⟩;have HE:=qh (And.intro e1 (And.intro e2 e3));clear e1 e2 e3;go_wp2;go_ret2;obtain⟨e1,e2,e3⟩:=HE.o;have hq:=e1.sp.lt;have hs:=e3.size;have hg:=HG.o;have tA:aa [] w1 (w1.alloc (.cells #[.int .i64 ((5:Nat):Int),ifV 5 x.l] 303)):=(aa.refl _ _).alloc _;exact⟨{x with p:=w1.heap.size},rfl,⟨Blk.new w1 303 #[.int .i64 ((5:Nat):Int),ifV 5 x.l],⟨e1.ar.turns tA QY QY,tA.blk e1.lk QY,e1.sp.turns tA QY,e1.n,e1.la,e1.lg,e1.lq,e1.qa,e1.qg,e1.n32,e1.t0,e1.t1,e1.m0,e1.m1,e1.cap⟩,by show w1.heap.size≠a;omega,by show w1.heap.size≠g;omega,by show w1.heap.size≠x.q;omega⟩,⟨by show w.heap.size<=w1.heap.size;omega,e2.1,e2.2.1,e2.2.2.1,e2.2.2.2.1,e2.2.2.2.2.1⟩,e3.alloc _⟩
theorem zS {w:World} {a g:Nat} {s:Ar} (h:aA w a g s) (k:Nat) (hk:KOk k) (n:Nat) (h1:1<=n) (h2:n<=32) (m:Nat) (hm1:1<=m) (hm2:m<=4) (hr:s.W.length+szK k n m<=s.room) (ho:s.ops+1<=1000000000000):
    Calls Tryz.prog 109 #[↑a,.int .i64 (k:Int),.int .i64 n,.int .i64 m] w (pp w a g k s n m):=by
  rcases hk with rfl|rfl|rfl|rfl|rfl
  · exact CC h n h1 h2 m hm1 hm2 hr ho
  · exact CD h n h1 h2 m hm1 hm2 hr ho
  · exact CE h n h1 h2 m hm1 hm2 hr ho
  · exact CG h n h1 h2 m hm1 hm2 hr ho
  · exact CH h n h1 h2 m hm1 hm2 hr ho
end
section
open Go.RowKit
theorem iq.upAt {w:World} {b:Nat} {P T:List Int} (h:iq w b P T) {k:Nat} {x:Int} (hx:T[k]? =some x):
    ∃b1 o1 cu A c,w.cell? ⟨b,5,none⟩=some (.slice (some ⟨b1,o1,none⟩) T.length cu)/\w.cell? ⟨b1,o1+k,none⟩=some (.slice A (upL P x).length c)/\RdL w (.slice A (upL P x).length c) 1 encI (upL P x)/\T.length<=cu/\b1<w.heap.size:=by obtain⟨AP,cP,AT,cT,vU,vN,vS,vM,us,h1,h2,h3,h4,h5,h6,h7,h8,h9⟩:=h.ex;have hk:=(List.getElem?_eq_some_iff.1 hx).1;obtain⟨v,hv⟩:=aj (show k<us.length by omega);have hr:=h9 k x v hx hv;obtain⟨A,c,rfl,_,_⟩:=bQ hr;obtain⟨AU,cU,rfl,m1,m2,m3⟩:=h7;obtain⟨b1,o1,rfl,hb,hc⟩:=m3 QX;have c5:=h1.cell 5;simp only[eR,h8]at c5;exact⟨b1,o1,cU,A,c,c5,by simpa using hc k _ hv 0 _ rfl,hr,by omega,hb⟩
end
section
open Go.RowKit
theorem uv (w:World) (b:Nat) (P T:List Int) (R:World->Prop) (hR:∀w1,R w1->iq w1 b P T) (hf:Calls Tryz.prog 133 #[↑b] w λe w'=>e= .returned ↑b/\R w'):
    Calls Tryz.prog 137 #[↑b] w λe w'=>e= .returned (.int .i64 ((ab P).length:Nat))/\R w':=by have HF:=qh hf;have HRR:=qh hR;clear hf hR;go_enter Tryz.func137,Tryz.ntmps137;go_wp2_with fail;refine HF.o.mono ?_;rintro en w' ⟨rfl,hr⟩;have HTF:=qh hr;obtain⟨AP,cP,AT,cT,vU,vN,vS,vM,us,h1,h2,h3,h4,h5,h6,h7,h8,h9⟩:=(HRR.o _ hr).ex;obtain⟨AM,cM,rfl,_,_⟩:=bQ h6;have c8:=h1.cell 8;simp only[eR,cH]at c8;clear hr h1 h2 h3 h4 h5 h6 h7 h8 h9;go_wp2;go_ret;exact⟨rfl,HTF.o⟩
theorem AJ (w:World) (b:Nat) (P T:List Int) (hc:a5 P T=0) (R:World->Prop) (hR:∀w1,R w1->iq w1 b P T) (hf:Calls Tryz.prog 133 #[↑b] w λe w'=>e= .returned ↑b/\R w') {k:Nat} {x:Int} (hk:(ab P)[k]? =some x):
    Calls Tryz.prog 138 #[↑b,.int .i64 k] w λe w'=>e= .returned (.int .i64 ((T.count x:Nat):Int))/\R w':=by
  have HN:=qh (uv w b P T R hR hf);have HRR:=qh hR;have hll:(ab P).length<=32:=by have h1:=(bh (aR hc).1).2.1;have:=aZ P P.length;show(ai P P.length).length<=_;omega
  have hkl:=(List.getElem?_eq_some_iff.1 hk).1
  have HX:Kq ((aF P T T.length)[k]? =some ((T.count x:Nat):Int)):=qh (by
    unfold aF
    rw[List.take_length,List.getElem?_map,hk];rfl)
  obtain⟨L,hL⟩:∃L,L=(ab P).length:=⟨_,rfl⟩;rw[<-hL]at HN hll hkl;have HL:=qh hL;clear hR hf hk hL hc;go_enter Tryz.func138,Tryz.ntmps138;go_wp2_with fail;refine HN.o.mono ?_;rintro en w1 ⟨rfl,hr⟩;have HTF:=qh hr;have HF:=qh (eO w1 b P T (HRR.o _ hr));clear hr;go_wp2_with fail;refine HF.o.mono ?_;rintro en w2 ⟨rfl,rfl⟩;obtain⟨AP,cP,AT,cT,vU,vN,vS,vM,us,h1,h2,h3,h4,h5,h6,h7,h8,h9⟩:=(HRR.o _ HTF.o).ex;have hl:(aF P T T.length).length=L:=by rw[cH];exact HL.o.symm
  obtain⟨AM,cM,rfl,_,_⟩:=bQ h6;obtain⟨b1,o1,hA,_,hc1⟩:=fM h6 QX;subst hA;have q1:=hc1 k _ HX.o;have c8:=h1.cell 8;rw[hl]at *;simp only[eR]at c8;clear h1 h2 h3 h4 h5 h6 h7 h8 h9 hc1 hl;go_wp2;go_ret;exact⟨rfl,HTF.o⟩
theorem AI (B:Nat->Prop) (w:World) (b:Nat) (P T:List Int) (hc:a5 P T=0) (h:gW B w b P T) {k:Nat} {x:Int} (hk:(ab P)[k]? =some x):
    Calls Tryz.prog 138 #[↑b,.int .i64 k] w λe w'=>e= .returned (.int .i64 ((T.count x:Nat):Int))/\d7 (λi=>B i\/w.heap.size<=i) w' b P T/\aa [b] w w':=
  AJ w b P T hc (λw'=>d7 (λi=>B i\/w.heap.size<=i) w' b P T/\aa [b] w w') (λ_ h=>h.1.f) (i4 B w b P T hc h) hk
theorem AH (w:World) (b:Nat) (P T:List Int) (h:iq w b P T) {k:Nat} {x:Int} (hk:(ab P)[k]? =some x):
    Calls Tryz.prog 138 #[↑b,.int .i64 k] w λe w'=>e= .returned (.int .i64 ((T.count x:Nat):Int))/\w=w':=
  AJ w b P T h.ok (λw'=>w=w') (λ_ e=>e ▸ h) (eO w b P T h) hk
theorem DN (w:World) (b:Nat) (P T:List Int) (i:Nat) (hi:i<T.length) (h:iq w b P T):
    Calls Tryz.prog 143 #[↑b,.int .i64 i] w λe w'=>e= .returned (.int .i64 (cr T i))/\w=w':=by have HF:=qh (eO w b P T h);have HH:=qh (vE w b P T i true (decide_eq_true QX) h.tab);have HX:Kq ((aY T T.length)[i]? =some (cr T i)):=qh (by unfold aY;simp[hi]);have HTF:=qh h;clear h;go_enter Tryz.func143,Tryz.ntmps143;go_wp2_with fail;refine HH.o.mono ?_;rintro en w' ⟨rfl,rfl⟩;go_wp2_with fail;refine HF.o.mono ?_;rintro en w' ⟨rfl,rfl⟩;obtain⟨AP,cP,AT,cT,vU,vN,vS,vM,us,h1,h2,h3,h4,h5,h6,h7,h8,h9⟩:=HTF.o.ex;have hl:(aY T T.length).length=T.length:=fZ _ _;obtain⟨AM,cM,rfl,_,_⟩:=bQ h5;obtain⟨b1,o1,hA,_,hc1⟩:=fM h5 QX;subst hA;have q1:=hc1 i _ HX.o;have c8:=h1.cell 7;rw[hl]at *;simp only[eR]at c8;clear h1 h2 h3 h4 h5 h6 h7 h8 h9 hc1 hl;go_wp2;go_ret;exact⟨rfl,rfl⟩
theorem In (w:World) (b:Nat) (P T:List Int) (k:Nat) (x:Int) (hx:T[k]? =some x) (h:iq w b P T):
    Calls Tryz.prog 142 #[↑b,.int .i64 k] w λe w'=>∃v,e= .returned v/\w'.ownsRow w.heap.size 3 1 v (upL P x).length ((upL P x).flatMap encI)/\Below w.heap.size w w':=by
  have hk:=(List.getElem?_eq_some_iff.1 hx).1;have HH:=qh (vE w b P T k true (decide_eq_true QX) h.tab);have HF:=qh (eO w b P T h);have H32:(upL P x).length<=32:=by have h1:=(bh (aR h.ok).1).2.1;have:=rb P x;omega
  obtain⟨b1,o1,cu,A,c,c5,cu1,hr,hcu,hb1⟩:=h.upAt hx;have HR:=qh hr;clear h hx hr;go_enter Tryz.func142,Tryz.ntmps142;go_wp2_with fail;refine HH.o.mono ?_;rintro en w' ⟨rfl,rfl⟩;go_wp2_with fail;refine HF.o.mono ?_;rintro en w1 ⟨rfl,rfl⟩;go_wp2_with fail;refine(lp _ _ (upL P x) HR.o QX).mono ?_;rintro en w2 ⟨v2,rfl,o2,b2⟩;have HO:=qh (And.intro o2 b2);clear o2 b2;go_wp2;go_ret;exact⟨_,rfl,HO.o.1,HO.o.2⟩
theorem RdQ.lt{B:Nat->Prop}{w:World}{v:Value}{sz:Nat}{α:Type}{enc:α->List Value}{l:List α}(h:RdQ B w v sz enc l):RdQ (λi=>B i/\i<w.heap.size) w v sz enc l:=⟨h.1,λhl g hg=>⟨h.2 hl g hg,jA h.1 hl hg⟩⟩
theorem d7.lt{B:Nat->Prop}{w:World}{b:Nat}{P T:List Int}(h:d7 B w b P T):d7 (λi=>B i/\i<w.heap.size) w b P T:=by obtain⟨AP,cP,AT,cT,vU,vN,vS,vM,us,h1,h2,h3,h4,h5,h6,h7,h8,h9⟩:=h.ex;exact⟨h.ok,⟨h.low,h1.lt⟩,AP,cP,AT,cT,vU,vN,vS,vM,us,h1,h2.lt,h3.lt,h4.lt,h5.lt,h6.lt,h7.lt,h8,λi x v a c=>(h9 i x v a c).lt⟩
end
section
open Go.RowKit
def fY (P T:List Int)(n:Nat):Nat:=(fy (ab P) (T.getD n 0)).toNat
theorem aa.cellQ{S:List Nat}{w w':World}(k:aa S w w'){p:Addr}{u:Value}(h:w.cell? p=some u)(hS:p.block∉S):w'.cell? p=some u:=by exact Jj
theorem aa.grownByQ{w w':World}{row:Option Nat}(h:w.grownBy w' row):aa row.toList w w':=
 ⟨h.os,h.tape,h.output,h.size,λi hi hn=>h.block i hi RW⟩
theorem qP (u:Value)(n:Nat):(madeCells #[u,u,u,u] n).toList=List.replicate n u:=by exact II
theorem uC (n:Nat):(List.replicate n Sp.zero).flatMap a9=List.replicate (n*4) (.int .i64 0):=by exact IJ
theorem Tryz.infoNd:(Tryz.prog.info? 243).map (λi=>(i.zero,i.size,i.bytes))=some (some (.agg #[.pointer none,.int .i64 0]),2,16):=by kernel_rfl
theorem pK (B:Nat->Prop) (w:World) (b:Nat) (P T:List Int) (hc:a5 P T=0) (h:gW B w b P T):
    Calls Tryz.prog 137 #[↑b] w λe w'=>e= .returned (.int .i64 ((ab P).length:Nat))/\d7 (λi=>B i\/w.heap.size<=i) w' b P T/\aa [b] w w':=
  uv w b P T (λw'=>d7 (λi=>B i\/w.heap.size<=i) w' b P T/\aa [b] w w') (λ_ h=>h.1.f) (i4 B w b P T hc h)
theorem kS (w:World) (b:Nat) (P T:List Int) (h:iq w b P T):
    Calls Tryz.prog 137 #[↑b] w λe w'=>e= .returned (.int .i64 ((ab P).length:Nat))/\w=w':=
  uv w b P T (λw'=>w=w') (λ_ e=>e ▸ h) (eO w b P T h)
def coC (a b:Nat)(G L par bud:Int)(gp nd sp:Value):Array Value:=#[↑a,↑b,.int .i64 G,.int .i64 L,.int .i64 par,.int .i64 bud,gp,nd,sp]
end
end Go.Proofs.YtglokdbiggbkjaaGreat
