/- Joined texts. -/
import Derived.Test.YtglokdbiggbkjaaGreatMgWholeRefuses0
import Derived.Test.YtglokdbiggbkjaaGreatMgWholeRefuses5
import Derived.Test.YtglokdbiggbkjaaGreatMgWholeRefuses10
import Derived.Test.YtglokdbiggbkjaaGreatMgWholeRefuses12
set_option linter.unusedVariables false
set_option linter.unusedSimpArgs false
set_option linter.defProp false
set_option maxRecDepth 100000
set_option maxHeartbeats 16000000
open Go.Proofs.Tryz
namespace Go.Proofs.YtglokdbiggbkjaaGreat
open Go.IntKind(i64)
open Go.Value(int bool slice agg tuple pointer)
open Go.Ending(returned)
open Go.Obj(cells)
variable{i j a:Nat}{u:Value}{B:Nat->Prop}{w w' w0:World}{P T:List Int}{BB:Int}
section
open Go
variable{p g p':Sp}{W':List Int}
def cO(p:Sp):Prop:=p.pc=3\/p.pc=4\/(10<=p.pc/\p.pc<=15)
def StP(p g:Sp)(v:Int):Prop:=
 (p.pc=3->(0<g.pc/\g.pc<10)/\¬0<v)/\(p.pc=4->g.pc=10/\¬0<v)/\(10<=p.pc/\p.pc<=14->g.pc=10)/\(p.pc=13->1<=p.a)/\(p.pc=15->10<g.pc/\¬0<v)
def FrP(g:Sp)(v:Int):Prop:=g.pc=if 0<v then 10 else 0
structure cH(c:CoC)(n N:Nat)(ml:Nat->Nat):Prop where
 k:(1<=c.kg/\c.kg<=5)/\1<=c.kl/\c.kl<=5
 inj:Inj c n
 nd:∀i,i<n->c.node i<N/\c.slot i<ml (c.node i)
 cw:∀a,a<N->c.cw a=c.tl a+szI c.kl (ml a) c.m
 gl:∀a,a<N->c.tg+szI c.kg N c.m<=c.tl a
 sz:∀a,a<N->0<=szI c.kl (ml a) c.m
 ap:∀a b,a<N->b<N->a≠b->c.cw a<c.tl b\/c.cw b<c.tl a
structure CoM(c:CoC)(n N:Nat)(ml:Nat->Nat)(st:Co):Prop where
 fG:cr c.kg c.tg c.m N st.s.W st.G
 fL:∀a,a<N->cr c.kl (c.tl a) c.m (ml a) st.s.W (st.L.getD a [])
 lL:st.L.length=N
 lW:∀a,a<N->1<=c.cw a/\c.cw a<=st.s.W.length
 v:CoV c n st
 sj:∀j,j<n->StP (sv st.T j) (sv st.G (c.node j)) (ldW st.s.W (c.cw (c.node j)))
 fr:∀a,a<N->(∀j,j<n->c.node j=a->¬cO (sv st.T j))->FrP (sv st.G a) (ldW st.s.W (c.cw a))
section
variable{c:CoC}{n N:Nat}{ml:Nat->Nat}{st st':Co}
def jO{v:Int}(h:¬cO p):StP p g v:=by unfold cO at h;refine⟨?_,?_,?_,?_,?_⟩<;>intro hc<;>omega
def CoM.uniq(h:CoM c n N ml st)(y:cH c n N ml)(hi:i<n)(H:j<n)(I:c.node i=c.node j)(h1:(lsp st.L (c.node i) (c.slot i)).pc=10)(O:cO (sv st.T j)):i=j:=by
 have hk:=h.v.k j H;have V:(lsp st.L (c.node j) (c.slot j)).pc=10:=by unfold di at hk;unfold cO at O;omega
 have Y:=(y.nd i hi).1;have e:=(h.fL _ Y).one y.k.2 (i:=c.slot i) (j:=c.slot j) (y.nd i hi).2 (by rw[I];exact(y.nd j H).2) h1 (by rw[I];exact V);exact y.inj i j hi H I e
def CoM.one(h:CoM c n N ml st)(y:cH c n N ml)(hi:i<n)(H:j<n)(h1:10<=(sv st.T i).pc/\(sv st.T i).pc<=14)(V:10<=(sv st.T j).pc/\(sv st.T j).pc<=14):i=j:=by have I:=(h.sj i hi).2.2.1 h1;have O:=(h.sj j H).2.2.1 V;have hn:=h.fG.one y.k.1 (y.nd i hi).1 (y.nd j H).1 I O;have Y:=h.v.k i hi;exact h.uniq y hi H hn (by unfold di at Y;omega) (by unfold cO;omega)
def CoM.updA(h:CoM c n N ml st)(hi:i<n)(I:¬cO (sv st.T i))(V:¬cO p')(hT:st'.T=st.T.set i p')(Y:st'.G=st.G)(hc:∀a,a<N->ldW st'.s.W (c.cw a)=ldW st.s.W (c.cw a))(hN:∀j,j<n->c.node j<N)(hl:st'.s.W.length=st.s.W.length)(fG:cr c.kg c.tg c.m N st'.s.W st'.G)(fL:∀a,a<N->cr c.kl (c.tl a) c.m (ml a) st'.s.W (st'.L.getD a []))(lL:st'.L.length=N)(v:CoV c n st'):CoM c n N ml st':=by
  have Na:i<st.T.length:=by have:=h.v.lT;omega
  have hs:=svS Na p';refine⟨fG,fL,lL,λa H=>by rw[hl];exact h.lW a H,v,λj O=>?_,λa H hf=>?_⟩
  . rw[hT,hs,Y,hc _ (hN j O)];split;. exact jO V
    . exact h.sj j O
  . rw[Y,hc a H];refine h.fr a H (λj O Qd=>?_);have:=hf j O Qd;rw[hT,hs]at this;split at this;. rename_i e;rw[e];exact I
    . exact this
def CoM.updB(h:CoM c n N ml st)(y:cH c n N ml)(hi:i<n)(h10:(lsp st.L (c.node i) (c.slot i)).pc=10)(Y:st'.T=st.T.set i p')(hG:∀a,a≠c.node i->sv st'.G a=sv st.G a)(hc:∀a,a<N->a≠c.node i->ldW st'.s.W (c.cw a)=ldW st.s.W (c.cw a))(hS:StP p' (sv st'.G (c.node i)) (ldW st'.s.W (c.cw (c.node i))))(hF:¬cO p'->FrP (sv st'.G (c.node i)) (ldW st'.s.W (c.cw (c.node i))))(hl:st'.s.W.length=st.s.W.length)(fG:cr c.kg c.tg c.m N st'.s.W st'.G)(fL:∀a,a<N->cr c.kl (c.tl a) c.m (ml a) st'.s.W (st'.L.getD a []))(lL:st'.L.length=N)(v:CoV c n st'):CoM c n N ml st':=by
  have Na:i<st.T.length:=by have:=h.v.lT;omega
  have hs:=svS Na p';refine⟨fG,fL,lL,λa O=>by rw[hl];exact h.lW a O,v,λj H=>?_,λa O hf=>?_⟩
  . rw[Y,hs];split;. rename_i e;rw[e];exact hS
    . rename_i e;by_cases hn:c.node i=c.node j;. exact jO (λI=>e (h.uniq y hi H hn h10 I).symm)
      . rw[hG _ (λe=>hn e.symm),hc _ (y.nd j H).1 (λe=>hn e.symm)];exact h.sj j H
  . by_cases e:a=c.node i;. rw[e];refine hF ?_;have:=hf i hi e.symm;rw[Y,hs,if_pos rfl]at this;exact this
    . rw[hG a e,hc a O e];refine h.fr a O (λj H V=>?_);have:=hf j H V;rw[Y,hs]at this;split at this;. rename_i e2;rw[e2]at V;exact absurd V.symm e
      . exact this
def pW(L:List (List Sp))(a s:Nat)(p:Sp)(H:a<L.length)(b:Nat):(jE L a s p).getD b []=if b=a then(L.getD a []).set s p else L.getD b []:=by
 unfold jE;rw[List.getD_eq_getElem?_getD,List.getElem?_set];by_cases e:a=b;.subst e;rw[if_pos rfl,if_pos H,if_pos rfl];rfl
 .rw[if_neg e,if_neg (λh=>e h.symm),<-List.getD_eq_getElem?_getD]
def tJ(c:CoC)(st:Co)(i:Nat)(p:Sp):(setL c st i p).length=st.L.length:=(oj _ _ _ _ 0).2
def CoM.frL(h:CoM c n N ml st)(y:cH c n N ml)(H:a<N)(V:W'.length=st.s.W.length)(O:∀x,¬(c.tl a<=x/\x<c.tl a+szI c.kl (ml a) c.m)->ldW W' x=ldW st.s.W x):cr c.kg c.tg c.m N W' st.G/\(∀b,b<N->b≠a->cr c.kl (c.tl b) c.m (ml b) W' (st.L.getD b []))/\∀b,b<N->ldW W' (c.cw b)=ldW st.s.W (c.cw b):=by
  have g1:=y.gl a H;have c1:=y.cw a H;refine⟨h.fG.frame V (λx h1 h2=>O x ahE),λb I hn=>(h.fL b I).frame V (λx h1 h2=>O x ?_),λb I=>O _ ?_⟩;. have:=y.ap a b H I (λe=>hn e.symm);have c2:=y.cw b I;omega
  . by_cases e:b=a;. subst e;omega
    . have:=y.ap a b H I (λY=>e Y.symm);have c2:=y.cw b I;have s2:=y.sz b I;omega
def CoM.frG(h:CoM c n N ml st)(y:cH c n N ml)(O:W'.length=st.s.W.length)(H:∀x,¬(c.tg<=x/\x<c.tg+szI c.kg N c.m)->ldW W' x=ldW st.s.W x):(∀b,b<N->cr c.kl (c.tl b) c.m (ml b) W' (st.L.getD b []))/\∀b,b<N->ldW W' (c.cw b)=ldW st.s.W (c.cw b):=by refine⟨λb I=>(h.fL b I).frame O (λx h1 V=>H x (by have:=y.gl b I;omega)),λb I=>H _ (by have:=y.gl b I;have:=y.cw b I;have:=y.sz b I;omega)⟩
def CoM.frC(h:CoM c n N ml st)(y:cH c n N ml)(H:a<N)(u:Int):cr c.kg c.tg c.m N (stW st.s.W (c.cw a) u) st.G/\(∀b,b<N->cr c.kl (c.tl b) c.m (ml b) (stW st.s.W (c.cw a) u) (st.L.getD b []))/\(∀b,b<N->b≠a->ldW (stW st.s.W (c.cw a) u) (c.cw b)=ldW st.s.W (c.cw b))/\ldW (stW st.s.W (c.cw a) u) (c.cw a)=u:=by
  have hw:=gu (aR.2 (h.lW a H)) u;have g1:=y.gl a H;have c1:=y.cw a H;have s1:=y.sz a H
  refine⟨h.fG.frame (bI _ _ _) (λx h1 V=>by rw[hw,if_neg ahE]),λb I=>(h.fL b I).frame (bI _ _ _) (λx h1 V=>by
    rw[hw,if_neg];by_cases e:b=a;. subst e;omega
    . have:=y.ap a b H I (λO=>e O.symm);have:=y.cw b I
      omega),λb I Y=>by
    rw[hw,if_neg];have:=y.ap a b H I (λO=>Y O.symm);have:=y.cw b I;have:=y.sz b I
    omega,by rw[hw,if_pos rfl]⟩
def FrP.of{v:Int}(h:FrP g v):(0<v->g.pc=10)/\(¬0<v->g.pc=0):=by unfold FrP at h;exact⟨λO=>by rw[h,if_pos O],λO=>by rw[h,if_neg O]⟩
def CoM.setLL(h:CoM c n N ml st)(H:c.node i<N)(fL:∀b,b<N->cr c.kl (c.tl b) c.m (ml b) W' (st.L.getD b []))(O:cr c.kl (c.tl (c.node i)) c.m (ml (c.node i)) W' ((st.L.getD (c.node i) []).set (c.slot i) p)):∀b,b<N->cr c.kl (c.tl b) c.m (ml b) W' ((setL c st i p).getD b []):=λb I=>by
  unfold setL
  rw[pW _ _ _ _ (by rw[h.lL];exact H)]
  split
  . rename_i e;rw[e];exact O
  . exact fL b I
def Bo(L:List (List Sp))(a s:Nat):lsp L a s=sv (L.getD a []) s:=rfl
def CoM.ask(h:CoM c n N ml st)(y:cH c n N ml)(hi:i<n):CoM c n N ml (bz c st i):=by
 have O:=wu h.v y.inj hi;unfold bz at O ⊢;split
 .rename_i I;rw[if_pos I]at O;have H:=y.nd i hi
  exact h.updA hi (p':={(sv st.T i)with pc:=1}) (by unfold cO;omega) ah7 rfl rfl (λ_ _=>rfl) (λj V=>(y.nd j V).1) rfl h.fG
   (h.setLL H.1 h.fL (by rw[Bo];exact(h.fL _ H.1).ask y.k.2 H.2)) (by show(setL c st i _).length=N;rw[tJ,h.lL]) O
 .exact h
def CoM.leave(h:CoM c n N ml st)(y:cH c n N ml)(hi:i<n):CoM c n N ml (az st i):=by
 have O:=pN h.v y.inj hi;unfold az at O ⊢;split;.rename_i H;rw[if_pos H]at O;have V:=h.v.k i hi;have hs:=(h.sj i hi).2.2.1 ahE;exact h.updB y hi (p':={(sv st.T i)with pc:=11}) (by unfold di at V;omega) rfl (λ_ _=>rfl) (λ_ _ _=>rfl) ⟨λe=>by simp at e,λe=>by simp at e,λ_=>hs,λe=>by simp at e,λe=>by simp at e⟩ (λI=>absurd (show cO {(sv st.T i)with pc:=11} from .inr (.inr ⟨by show(10:Int)<=11;decide,by show(11:Int)<=15;decide⟩)) I) rfl h.fG h.fL h.lL O
 .exact h
theorem CoM.step(h:CoM c n N ml st)(y:cH c n N ml){B:Int}(hB:CoB c B st)(JJ:1<=B)(JM:B<=10000000000000)(hi:i<n):CoM c n N ml (aj c st i):=by
 have O:=r8 h.v y.inj y.k hi;have H:=y.nd i hi;have KN:=h.v.k i hi;have hq:=h.v.lpc hi;have hg:=h.v.gpc hi;have sL:=i1 (t:=c.tl (c.node i)) (m:=c.m) (s:=st.s) (i:=(c.slot i:Int)) y.k.2 hq;have sG:=i1 (t:=c.tg) (m:=c.m) (s:=st.s) (i:=(c.node i:Int)) y.k.1 hg;have Na:i<st.T.length:=by have:=h.v.lT;omega
 have Mq:c.node i<st.G.length:=by rw[h.fG.len];exact H.1
 have PO:∀q a,a≠c.node i->sv (st.G.set (c.node i) q) a=sv st.G a:=λq a e=>by rw[svS Mq,if_neg e]
 have PN:∀q,sv (st.G.set (c.node i) q) (c.node i)=q:=λq=>by rw[svS Mq,if_pos rfl]
 have JA:=h.sj i hi;have Ve:¬cO (sv st.T i)->(lsp st.L (c.node i) (c.slot i)).pc=10->FrP (sv st.G (c.node i)) (ldW st.s.W (c.cw (c.node i))):=λI h10=>by refine h.fr _ H.1 (λj hj hn SR=>?_);have e:=h.uniq y hi hj hn.symm h10 SR;rw[<-e]at SR;exact I SR
 unfold aj at O ⊢;split;.exact h
 rename_i ab;rw[if_neg ab]at O;obtain⟨p,hp⟩:=LE (sv st.T i);rw[<-hp]at KN ab O JA Ve ⊢;have hc:p.pc=1\/p.pc=2\/p.pc=3\/p.pc=4\/p.pc=11\/p.pc=12\/p.pc=13\/p.pc=14\/p.pc=15\/p.pc=16:=by unfold di at KN;omega
 have NS:¬cO p->¬cO (sv st.T i):=by rw[hp];exact id
 have LS:=(h.fL _ H.1).step y.k.2 hB.w ahE JM H.2 hq;have LF:=h.frL y H.1 (cY _ _ _ _ _ _).2 LS.2;have GS:=h.fG.step y.k.1 hB.w ahE JM H.1 hg;have GF:=h.frG y (cY _ _ _ _ _ _).2 GS.2;obtain⟨pc,u,b,z⟩:=p;simp only at hc;have Lb:pc≠0->pc≠1->pc≠16->(lsp st.L (c.node i) (c.slot i)).pc=10:=λa0 a1 a2=>by unfold di at KN;simp only at KN;omega
 have nl:=λb I=>(h.fL b I)
 have UJ:∀b,b<N->cr c.kl (c.tl b) c.m (ml b) (stL c st i).1.W ((setL c st i (stL c st i).2).getD b []):=λb I=>by
  unfold setL;rw[pW _ _ _ _ (by rw[h.lL];exact H.1)];split;.rename_i e;rw[e];exact LS.1
  .rename_i e;exact LF.2.1 b I e
 have RO:∀q,(setL c st i q).length=N:=λq=>by rw[tJ,h.lL]
 rcases hc with rfl|rfl|rfl|rfl|rfl|rfl|rfl|rfl|rfl|rfl
 .rw[mv1]at O ⊢;refine h.updA (p':=if lC c st i then⟨2,u,b,z⟩else⟨1,u,b,z⟩) hi (NS ah7) ?_ rfl rfl LF.2.2 (λj hj=>(y.nd j hj).1) (cY _ _ _ _ _ _).2 LF.1 UJ (RO _) O;unfold cO;split<;>simp
 .have h10:=Lb ahG ahG ahG;have hF:=(Ve ah7 h10).of;rw[mv2]at O ⊢;split;.rename_i LK;rw[if_pos LK]at O;refine h.updB y (p':=⟨10,ldW st.s.W (c.cw (c.node i)),b,z⟩) hi h10 rfl (λ_ _=>rfl) (λa _ _=>by show ldW (af _ _).W _=_;rw[aP]) ?_ (λI=>absurd (show cO _ from .inr (.inr ⟨by show(10:Int)<=10;decide,by show(10:Int)<=15;decide⟩)) I) aiu (by show cr _ _ _ _ (af _ _).W _;rw[aP];exact h.fG) (λb I=>by show cr _ _ _ _ (af _ _).W _;rw[aP];exact h.fL b I) h.lL O;exact⟨λe=>by simp at e,λe=>by simp at e,λ_=>hF.1 LK,λe=>by simp at e,λe=>by simp at e⟩
  .rename_i LK;rw[if_neg LK]at O;have g0:=hF.2 LK;refine h.updB y (p':=⟨3,ldW st.s.W (c.cw (c.node i)),b,z⟩) hi h10 rfl (λa e=>PO _ a e) (λa _ _=>by show ldW (af _ _).W _=_;rw[aP]) ?_ (λI=>absurd (show cO _ from .inl rfl) I) aiu (by show cr _ _ _ _ (af _ _).W _;rw[aP];exact h.fG.ask y.k.1 H.1) (λb I=>by show cr _ _ _ _ (af _ _).W _;rw[aP];exact h.fL b I) h.lL O;refine⟨λ_=>⟨?_,?_⟩,λe=>by simp at e,λe=>by simp at e,λe=>by simp at e,λe=>by simp at e⟩;.show 0<(sv (st.G.set (c.node i) (askK c.kg (sv st.G (c.node i)))) (c.node i)).pc/\(sv (st.G.set (c.node i) (askK c.kg (sv st.G (c.node i)))) (c.node i)).pc<10;rw[PN,mH g0];decide
   .show ¬0<ldW (af _ _).W _;rw[aP];exact LK
 .have h10:=Lb ahG ahG ahG;have Kp:=JA.1 rfl;have s2:=sG.2.1 Kp.1.1 Kp.1.2;have ec:nt c st i=decide ((stG c st i).2.pc=10):=qx Kp.1.1 Kp.1.2 s2.1;rw[mv3]at O ⊢;refine h.updB y (p':=if nt c st i then⟨4,u,b,z⟩else⟨3,u,b,z⟩) hi h10 rfl (λa e=>PO _ a e) (λa Y _=>GF.2 a Y) ?_ ?_ (cY _ _ _ _ _ _).2 GS.1 GF.1 h.lL O
  .show StP _ (sv (st.G.set (c.node i) (stG c st i).2) (c.node i)) (ldW (stG c st i).1.W (c.cw (c.node i)));rw[PN,show ldW (stG c st i).1.W (c.cw (c.node i))=_ from GF.2 _ H.1];split;.rename_i e;rw[ec]at e;have e':(stG c st i).2.pc=10:=(by simpa using e);exact⟨λe=>by simp at e,λ_=>⟨e',Kp.2⟩,λe=>by simp at e,λe=>by simp at e,λe=>by simp at e⟩
   .rename_i e;rw[ec]at e;have e':¬(stG c st i).2.pc=10:=(by simpa using e);refine⟨λ_=>⟨⟨s2.1,?_⟩,Kp.2⟩,λe=>by simp at e,λe=>by simp at e,λe=>by simp at e,λe=>by simp at e⟩;have:=s2.2;show(stG c st i).2.pc<10;unfold stG at *;omega
  .intro I;exfalso;apply I;unfold cO;split<;>simp
 .have h10:=Lb ahG ahG ahG;have LL:=JA.2.1 rfl;have V:=h.frC y H.1 1;rw[mv4]at O ⊢;refine h.updB y (p':=⟨10,1,b,z⟩) hi h10 rfl (λ_ _=>rfl) (λa Y e=>by show ldW (ae _ _ _).W _=_;rw[aw];exact V.2.2.1 a Y e) ?_ (λI=>absurd (show cO _ from .inr (.inr ⟨by show(10:Int)<=10;decide,by show(10:Int)<=15;decide⟩)) I) aiv (by show cr _ _ _ _ (ae _ _ _).W _;rw[aw];exact V.1) (λb I=>by show cr _ _ _ _ (ae _ _ _).W _;rw[aw];exact V.2.1 b I) h.lL O;exact⟨λe=>by simp at e,λe=>by simp at e,λ_=>LL.1,λe=>by simp at e,λe=>by simp at e⟩
 .have h10:=Lb ahG ahG ahG;have hs:=JA.2.2.1 ahF;rw[Fw]at O ⊢;refine h.updB y (p':=⟨if c.bud<ldW st.s.W (c.cw (c.node i))then 14 else 12,ldW st.s.W (c.cw (c.node i)),b,z⟩) hi h10 rfl (λ_ _=>rfl) (λa _ _=>by show ldW (af _ _).W _=_;rw[aP]) ?_ ?_ aiu (by show cr _ _ _ _ (af _ _).W _;rw[aP];exact h.fG) (λb I=>by show cr _ _ _ _ (af _ _).W _;rw[aP];exact h.fL b I) h.lL O;.refine⟨λe=>?_,λe=>?_,λ_=>hs,λe=>?_,λe=>?_⟩<;>(simp only at e;split at e<;>omega)
  .intro I;exfalso;apply I;unfold cO;simp only;split<;>simp
 .have h10:=Lb ahG ahG ahG;have hs:=JA.2.2.1 ahF;rw[Fy]at O ⊢;have M6:(cB c.kl (c.tl (c.node i)) st.s (c.slot i) (lsp st.L (c.node i) (c.slot i))).1.W=st.s.W:=by unfold cB;(repeat' split)<;>first|rfl|exact aP _ _
  refine h.updB y (p':=⟨if mz u c.bud (cB c.kl (c.tl (c.node i)) st.s (c.slot i) (lsp st.L (c.node i) (c.slot i))).2 then 13 else 14,u,b,z⟩) hi h10 rfl (λ_ _=>rfl) (λa _ _=>by show ldW (cB _ _ _ _ _).1.W _=_;rw[M6]) ?_ ?_ (by show(cB _ _ _ _ _).1.W.length=_;rw[M6]) (by show cr _ _ _ _ (cB _ _ _ _ _).1.W _;rw[M6];exact h.fG) (λb I=>by show cr _ _ _ _ (cB _ _ _ _ _).1.W _;rw[M6];exact h.fL b I) h.lL O
  .refine⟨λe=>?_,λe=>?_,λ_=>hs,λe=>?_,λe=>?_⟩;.simp only at e;split at e<;>omega
   .simp only at e;split at e<;>omega
   .simp only at e;split at e;.rename_i Tn;unfold mz at Tn;simp only[Bool.and_eq_true,decide_eq_true_eq]at Tn;exact Tn.1.1
    .omega
   .simp only at e;split at e<;>omega
  .intro I;exfalso;apply I;unfold cO;simp only;split<;>simp
 .have h10:=Lb ahG ahG ahG;have hs:=JA.2.2.1 ahF;have hu:=JA.2.2.2.1 rfl;have V:=h.frC y H.1 (u+1);rw[Fz]at O ⊢;refine h.updB y (p':=⟨16,u,b,z⟩) hi h10 rfl (λ_ _=>rfl) (λa Y e=>by show ldW (ae _ _ _).W _=_;rw[aw];exact V.2.2.1 a Y e) (jO ah7) ?_ aiv (by show cr _ _ _ _ (ae _ _ _).W _;rw[aw];exact V.1) ?_ (RO _) O;.intro _;show FrP _ (ldW (ae _ _ _).W _);rw[aw,V.2.2.2];unfold FrP;rw[if_pos (by simp only at hu;omega)];exact hs
  .show ∀b,b<N->cr _ _ _ _ (ae _ _ _).W _;rw[aw];exact h.setLL H.1 V.2.1 (by rw[Bo];exact(V.2.1 _ H.1).leave y.k.2 H.2)
 .have h10:=Lb ahG ahG ahG;have hs:=JA.2.2.1 ahF;have V:=h.frC y H.1 0;rw[FA]at O ⊢;refine h.updB y (p':=⟨15,u,b,z⟩) hi h10 rfl (λa e=>PO _ a e) (λa Y e=>by show ldW (ae _ _ _).W _=_;rw[aw];exact V.2.2.1 a Y e) ?_ (λI=>absurd (show cO _ from .inr (.inr ⟨by show(10:Int)<=15;decide,by show(15:Int)<=15;decide⟩)) I) aiv (by show cr _ _ _ _ (ae _ _ _).W _;rw[aw];exact V.1.leave y.k.1 H.1) (λb I=>by show cr _ _ _ _ (ae _ _ _).W _;rw[aw];exact V.2.1 b I) h.lL O;refine⟨λe=>by simp at e,λe=>by simp at e,λe=>by simp at e,λe=>by simp at e,λ_=>⟨?_,?_⟩⟩;.show 10<(sv (st.G.set (c.node i) (a9 (sv st.G (c.node i)))) (c.node i)).pc;rw[PN,mc hs];decide
  .show ¬0<ldW (ae _ _ _).W _;rw[aw,V.2.2.2];decide
 .have h10:=Lb ahG ahG ahG;have hs:=JA.2.2.2.2 rfl;have s2:=sG.2.2 hs.1;have ec:nt c st i=decide ((stG c st i).2.pc=0):=ny hs.1 s2;rw[FB]at O ⊢;split;.rename_i e;rw[if_pos e]at O;rw[ec]at e;have e':(stG c st i).2.pc=0:=(by simpa using e);refine h.updB y (p':=⟨16,u,b,z⟩) hi h10 rfl (λa e=>PO _ a e) (λa Y _=>GF.2 a Y) (jO ah7) ?_ (cY _ _ _ _ _ _).2 GS.1 (h.setLL H.1 GF.1 (by rw[Bo];exact(GF.1 _ H.1).leave y.k.2 H.2)) (RO _) O;intro _;show FrP (sv (st.G.set (c.node i) (stG c st i).2) (c.node i)) (ldW (stG c st i).1.W (c.cw (c.node i)));rw[PN,show ldW (stG c st i).1.W (c.cw (c.node i))=_ from GF.2 _ H.1];unfold FrP;rw[if_neg hs.2];exact e'
  .rename_i e;rw[if_neg e]at O;rw[ec]at e;have e':¬(stG c st i).2.pc=0:=(by simpa using e);refine h.updB y (p':=⟨15,u,b,z⟩) hi h10 rfl (λa e=>PO _ a e) (λa Y _=>GF.2 a Y) ?_ (λI=>absurd (show cO _ from .inr (.inr ⟨by show(10:Int)<=15;decide,by show(15:Int)<=15;decide⟩)) I) (cY _ _ _ _ _ _).2 GS.1 GF.1 h.lL O;refine⟨λe=>by simp at e,λe=>by simp at e,λe=>by simp at e,λe=>by simp at e,λ_=>⟨?_,?_⟩⟩;.show 10<(sv (st.G.set (c.node i) (stG c st i).2) (c.node i)).pc;rw[PN];unfold stG at *;omega
   .show ¬0<ldW (stG c st i).1.W (c.cw (c.node i));rw[show ldW (stG c st i).1.W (c.cw (c.node i))=_ from GF.2 _ H.1];exact hs.2
 .rw[FC]at O ⊢;refine h.updA (p':=if lC c st i then⟨0,u,b,z⟩else⟨16,u,b,z⟩) hi (NS ah7) ?_ rfl rfl LF.2.2 (λj hj=>(y.nd j hj).1) (cY _ _ _ _ _ _).2 LF.1 UJ (RO _) O;unfold cO;split<;>simp
end
end
section
open Go.RowKit
variable{y:Fx}{p' p:Sp}
structure Cox where
 l:Nat
 b:Nat
 qn:Nat
 qs:Nat
 n:Nat
 N:Nat
 capn:Nat
 par:Int
 g:Fx
 X:List Fx
 W:List Nat
 o:Nat->Nat
def ndE(y:Fx×Nat):List Value:=[pointer (some ⟨y.1.p,0,none⟩),J y.2]
def wR(y:Fx×Nat):(ndE y).length=2:=rfl
structure xq(B:Nat->Prop)(a g:Nat)(x:Cox)(c:CoC)(P T:List Int):Prop where
 ck:a8 P T=0
 nT:x.n=T.length
 nN:x.N=(ac P).length
 lX:x.X.length=x.N
 lW:x.W.length=x.N
 cap:x.N<=x.capn
 cn:∀i,i<x.n->c.node i=gj P T i/\(c.slot i:Int)=cI T i
 tg:c.tg=x.g.t
 tl:∀(n:Nat) (y:Fx),x.X[n]? =some y->c.tl n=y.t/\(y.m:Int)=c.m
 gm:(x.g.m:Int)=c.m
 cc:∀(n v:Nat),x.W[n]? =some v->c.cw n=v/\v<=5000
 kg:KOk c.kg
 kl:KOk c.kl
 bud:0<=c.bud/\c.bud<=1000
 ol:x.o x.l=1
 on:x.o x.qn=1
 os:x.o x.qs=2
 oa:x.o a=3
 og:x.o g=3
 oG:x.o x.g.p=4/\x.o x.g.l=4/\x.o x.g.q=4
 oL:∀(n:Nat) (y:Fx),x.X[n]? =some y->x.o y.p=5+n/\x.o y.l=5+n/\x.o y.q=5+n
 oB:∀i,B i->x.o i=0
structure aC(B:Nat->Prop)(w:World)(a g:Nat)(x:Cox)(c:CoC)(P T:List Int)(st:Co):Prop where
 fx:xq B a g x c P T
 ar:aB w a g st.s
 lk:Blk w x.l 240 (coC a x.b c.kg c.kl x.par c.bud ↑x.g.p (slice (some ⟨x.qn,0,none⟩) x.N x.capn) (slice (some ⟨x.qs,0,none⟩) x.n x.n))
 tb:eM B w x.b P T
 nd:∃Ze:List Value,Blk w x.qn 243 ((x.X.zip x.W).flatMap ndE++Ze).toArray
 sp:SpR w x.qs st.T
 gl:de w a g c.kg x.g st.s st.G
 lo:∀(n:Nat) (y:Fx) (S:List Sp),x.X[n]? =some y->st.L[n]? =some S->de w a g c.kl y st.s S
 lL:st.L.length=x.N
 lG:st.G.length=x.N
 lS:st.T.length=x.n
 sl:∀(i:Nat) (S:List Sp),i<x.n->st.L[c.node i]? =some S->c.slot i<S.length
section
variable{g:Nat}{x:Cox}{c:CoC}{st:Co}{s':Ar}
def xq.n32(h:xq B a g x c P T):x.n<=32/\x.N<=32:=by
 have h1:=bi (aQ h.ck).1;have:=a7 P P.length;have H:=h.nT;have I:=h.nN;have:(ac P).length<=32:=by show(ay P P.length).length<=32;omega
 omega
def xq.node(h:xq B a g x c P T)(hi:i<x.n):c.node i<x.N/\(ao P T T.length)[i]? =some (c.node i:Int):=by
 have O:i<T.length:=by rw[<-h.nT];exact hi
 obtain⟨y,I⟩:=ak O;have hm:=jo (aQ h.ck).2.2.2 I;obtain⟨k,H⟩:=Int.eq_ofNat_of_zero_le ((eP (ac P) y).1.2 hm);have hg:=mR hm H;have e:c.node i=k:=by rw[(h.cn i hi).1];unfold gj;rw[bH I,H];rfl
 rw[e,h.nN];refine⟨(List.getElem?_eq_some_iff.1 hg).1,?_⟩;unfold ao;rw[List.take_length,List.getElem?_map,I];show some (fI (ac P) y)=_;rw[H]
def aC.loc(h:aC B w a g x c P T st)(hi:i<x.n):∃(y:Fx) (v:Nat) (S:List Sp),x.X[c.node i]? =some y/\x.W[c.node i]? =some v/\st.L[c.node i]? =some S/\c.slot i<S.length/\S[c.slot i]? =some (lsp st.L (c.node i) (c.slot i)):=by
 have I:=(h.fx.node hi).1;obtain⟨y,V⟩:=ak (show c.node i<x.X.length by rw[h.fx.lX];exact I);obtain⟨v,O⟩:=ak (show c.node i<x.W.length by rw[h.fx.lW];exact I);obtain⟨S,H⟩:=ak (show c.node i<st.L.length by rw[h.lL];exact I);have hs:=h.sl i S hi H;refine⟨y,v,S,V,O,H,hs,?_⟩;unfold lsp;have e:st.L.getD (c.node i) []=S:=by rw[List.getD_eq_getElem?_getD,H];rfl
 rw[e,List.getD_eq_getElem?_getD,List.getElem?_eq_getElem hs];rfl
def aC.glo(h:aC B w a g x c P T st)(hi:i<x.n):st.G[c.node i]? =some (sv st.G (c.node i)):=by
 have H:=(h.fx.node hi).1;have:c.node i<st.G.length:=by rw[h.lG];exact H
 exact aaq
def aC.thr(h:aC B w a g x c P T st)(hi:i<x.n):st.T[i]? =some (sv st.T i):=by
 have:i<st.T.length:=by rw[h.lS];exact hi
 exact aaq
def mh{o:Nat->Nat}{u v:Nat}(hi:o i=u)(H:o j=v)(h:u≠v):i≠j:=λe=>h (by rw[<-hi,<-H,e])
def aC.turns0(h:aC B w a g x c P T st)(t:aa [] w w'):aC B w' a g x c P T st:=
  {h with ar:=h.ar.turns t ahF ahF,lk:=t.blk h.lk ahF,tb:=h.tb.turns t ahF,nd:=by obtain⟨H,z⟩:=h.nd;exact⟨H,t.blk z ahF⟩,
           sp:=h.sp.turns t ahF,gl:=h.gl.turns t ahF ahF ahF ahF ahF,lo:=λn y S O I=>(h.lo n y S O I).turns t ahF ahF ahF ahF ahF}
def aC.below(h:aC B w a g x c P T st)(t:Below w.heap.size w w'):aC B w' a g x c P T st:=h.turns0 (aa.of_below t)
def aC.rest(h:aC B w a g x c P T st){S:List Nat}(t:aa S w w')(O:∀i∈S,2<=x.o i):Blk w' x.l 240 (coC a x.b c.kg c.kl x.par c.bud ↑x.g.p (slice (some ⟨x.qn,0,none⟩) x.N x.capn) (slice (some ⟨x.qs,0,none⟩) x.n x.n))/\
    eM B w' x.b P T/\∃H:List Value,Blk w' x.qn 243 ((x.X.zip x.W).flatMap ndE++H).toArray:=by obtain⟨H,z⟩:=h.nd;exact⟨t.blk h.lk (λk=>by have:=O _ k;rw[h.fx.ol]at this;omega),h.tb.turns t (λi hi I=>by have:=O i hi;rw[h.fx.oB i I]at this;omega),H,t.blk z (λk=>by have:=O _ k;rw[h.fx.on]at this;omega)⟩
def aC.cnt(h:aC B w a g x c P T st)(t:aa [a,g] w w')(I:aB w' a g s'):aC B w' a g x c P T {st with s:=s'}:=by
 obtain⟨h1,V,Y⟩:=h.rest t (by intro i hi;simp at hi;rcases hi with rfl|rfl<;>first|(rw[h.fx.oa];omega)|(rw[h.fx.og];omega));have n2:∀r u,x.o r=u->u≠3->r∉[a,g]:=λr u e O=>by simp only[List.mem_cons,List.not_mem_nil,or_false,not_or];exact⟨mh e h.fx.oa O,mh e h.fx.og O⟩
 exact⟨h.fx,I,h1,V,Y,h.sp.turns t (n2 _ _ h.fx.os ahG),h.gl.oth t I (n2 _ _ h.fx.oG.1 ahG) (n2 _ _ h.fx.oG.2.1 ahG) (n2 _ _ h.fx.oG.2.2 ahG),
  λn y S H hS=>(h.lo n y S H hS).oth t I (n2 _ _ (h.fx.oL n y H).1 ahE) (n2 _ _ (h.fx.oL n y H).2.1 ahE) (n2 _ _ (h.fx.oL n y H).2.2 ahE),h.lL,h.lG,h.lS,h.sl⟩
def Hw{o:Nat->Nat}{g q r u v:Nat}(H:o a=3)(hg:o g=3)(I:o q=v)(e:o r=u)(h:u≠3)(O:u≠v):r∉[a,g,q]:=by simp only[List.mem_cons,List.not_mem_nil,or_false,not_or];exact⟨mh e H h,mh e hg h,mh e I O⟩
def aC.locOp(h:aC B w a g x c P T st)(hi:i<x.n)(hy:x.X[c.node i]? =some y)(t:aa [a,g,y.q] w w')(hf:de w' a g c.kl y s' ((st.L.getD (c.node i) []).set (c.slot i) p')):aC B w' a g x c P T {st with s:=s',L:=jE st.L (c.node i) (c.slot i) p'}:=by
  have hq:=(h.fx.oL _ y hy).2.2;obtain⟨h1,h2,h3⟩:=h.rest t aiN;have V:∀r u,x.o r=u->u≠3->u≠5+c.node i->r∉[a,g,y.q]:=λr u e hu O=>Hw h.fx.oa h.fx.og hq e hu O
  refine⟨h.fx,hf.ki.ar,h1,h2,h3,h.sp.turns t (V _ _ h.fx.os ahG ahE),h.gl.oth t hf.ki.ar (V _ _ h.fx.oG.1 ahG ahE) (V _ _ h.fx.oG.2.1 ahG ahE) (V _ _ h.fx.oG.2.2 ahG ahE),
    λn z S I H=>?_,?_,h.lG,h.lS,λj S hj H=>?_⟩
  . unfold jE at H;simp only at H;rw[List.getElem?_set]at H;split at H
    . rename_i e;split at H;. simp only[Option.some.injEq]at H;subst e;rw[hy]at I;injection I with I;subst I;subst H;exact hf
      . cases H
    . rename_i e;have Y:∀u,u=5+n->u≠5+c.node i:=(by omega);exact(h.lo n z S I H).oth t hf.ki.ar (V _ _ (h.fx.oL n z I).1 ahE (Y _ rfl)) (V _ _ (h.fx.oL n z I).2.1 ahE (Y _ rfl)) (V _ _ (h.fx.oL n z I).2.2 ahE (Y _ rfl))
  . show(jE _ _ _ _).length=_;unfold jE;rw[List.length_set];exact h.lL
  . unfold jE at H;simp only at H;rw[List.getElem?_set]at H;split at H
    . rename_i e;split at H;. simp only[Option.some.injEq]at H;subst H;rw[List.length_set];rename_i hl;have:=h.sl j (st.L.getD (c.node i) []) hj (by rw[<-e,List.getD_eq_getElem?_getD,List.getElem?_eq_getElem hl];rfl);exact this
      . cases H
    . exact h.sl j S hj H
def aC.gloOp(h:aC B w a g x c P T st){n:Nat}(t:aa [a,g,x.g.q] w w')(V:de w' a g c.kg x.g s' (st.G.set n p')):aC B w' a g x c P T {st with s:=s',G:=st.G.set n p'}:=by
  have hq:=h.fx.oG.2.2;obtain⟨h1,Y,h3⟩:=h.rest t aiN;have I:∀r u,x.o r=u->u≠3->u≠4->r∉[a,g,x.g.q]:=λr u e hu O=>Hw h.fx.oa h.fx.og hq e hu O
  exact⟨h.fx,V.ki.ar,h1,Y,h3,h.sp.turns t (I _ _ h.fx.os ahG ahE),V,
    λn z S H hS=>(h.lo n z S H hS).oth t V.ki.ar (I _ _ (h.fx.oL n z H).1 ahE ahE) (I _ _ (h.fx.oL n z H).2.1 ahE ahE) (I _ _ (h.fx.oL n z H).2.2 ahE ahE),h.lL,by show(st.G.set n p').length=_;rw[List.length_set];exact h.lG,h.lS,h.sl⟩
def aC.put(h:aC B w a g x c P T st)(hp:st.T[i]? =some p)(hj:j<4)(he:(bf p).set j u=bf p'):aC B (w.setCell ⟨x.qs,i*4+j,none⟩ u) a g x c P T {st with T:=st.T.set i p'}:=by
  have t:aa [x.qs] w (w.setCell ⟨x.qs,i*4+j,none⟩ u):=aV _ _ _;obtain⟨h1,Y,h3⟩:=h.rest t (by intro i hi;simp at hi;subst hi;rw[h.fx.os];omega);have n1:∀r v,x.o r=v->v≠2->r∉[x.qs]:=λr v e O=>by simpa using mh e h.fx.os O
  have I:=n1 _ _ h.fx.oa ahG;have V:=n1 _ _ h.fx.og ahG
  exact⟨h.fx,h.ar.turns t I V,h1,Y,h3,h.sp.put hp hj he,h.gl.turns t (n1 _ _ h.fx.oG.1 ahG) (n1 _ _ h.fx.oG.2.1 ahG) I V (n1 _ _ h.fx.oG.2.2 ahG),
    λn z S H hS=>(h.lo n z S H hS).turns t (n1 _ _ (h.fx.oL n z H).1 ahE) (n1 _ _ (h.fx.oL n z H).2.1 ahE) I V (n1 _ _ (h.fx.oL n z H).2.2 ahE),h.lL,h.lG,by show(st.T.set i p').length=_;rw[List.length_set];exact h.lS,h.sl⟩
def aC.put0(h:aC B w a g x c P T st)(I:st.T[i]? =some p)(H:(bf p).set 0 u=bf p'):aC B (w.setCell ⟨x.qs,i*4,none⟩ u) a g x c P T {st with T:=st.T.set i p'}:=h.put I (j:=0) ahG H
def aC.row(h:aC B w a g x c P T st){n:Nat}{v:Nat}(V:x.X[n]? =some y)(O:x.W[n]? =some v):Z w x.qn (n*2) ↑y.p/\Z w x.qn (n*2+1) (J v):=by
  obtain⟨Y,z⟩:=h.nd;have I:(x.X.zip x.W)[n]? =some (y,v):=by rw[List.getElem?_zip_eq_some];exact⟨V,O⟩
  have c0:=bX ndE 2 wR _ n _ 0 ↑y.p I rfl;have c1:=bX ndE 2 wR _ n _ 1 (J v) I rfl;have l0:=(List.getElem?_eq_some_iff.1 c0).1;have l1:=(List.getElem?_eq_some_iff.1 c1).1;have e0:=z.cell (n*2);have H:=z.cell (n*2+1);simp only[List.getElem?_toArray]at e0 H;rw[List.getElem?_append_left (by simpa using l0),show n*2=n*2+0 from rfl,c0]at e0;rw[List.getElem?_append_left l1,c1]at H;exact⟨e0,H⟩
def ln{P:Program}{I:Func}{p u v:Tmp}{ty:TypeId}(h:I.results=#[.cell p ty,.tmp u,.tmp v])(H:Array Value)(w:World)(g:Nat)(t:TypeId)(cs:Array Value)(fr:Nat×Nat)(d:TypeDesc)(V:H.getD p undef= ↑g)(hg:w.heap[g]? =some (.cells cs t fr))(Y:P.underlying ty=some d)(hd:(match d with|.struct _|.array _ _=>true|_=>false)=true)(hi:(P.info? ty).map (·.size)=some cs.size):(results I H).run P w= .ok (tuple #[.agg cs,H.getD u undef,H.getD v undef]) w:=by
  have O:H[p]?.getD undef= ↑g:=by simpa using V
  simp[results,h,O,asAddr,run_loadVar_row w g t ty cs fr d hg Y hd hi]
def yZ(h:aC B w a g x c P T st):E 238 #[↑x.l] w λe w'=>e= returned (J x.n)/\w=w':=by have H:Z w x.l 8 (slice (some ⟨x.qs,0,none⟩) x.n x.n):=h.lk.cell 8;clear h;go_enter func238,ntmps238;exact aaa
def Es(h:aC B w a g x c P T st)(i:Nat)(hi:i<x.n):E 239 #[↑x.l,J i] w λe w'=>e= returned (bool true)/\w=w':=by
 have HT:=qh (yZ h);have H:=h.fx.n32;have t1:(0:Int)<=i:=by omega
 have t2:(i:Int)<x.n:=by omega
 clear h;go_enter func239,ntmps239;exact aad
def mj(h:aC B w a g x c P T st)(i:Nat)(hi:i<x.n):E 236 #[↑x.l,J i] w λe w'=>e= returned (aF (sv st.T i))/\Below w.heap.size w w':=by
  have H:Kq (aC B (w.alloc (cells #[J 0,J 0,J 0,J 0] 113)) a g x c P T st):=qh (h.below ((Below.refl _ _).alloc (Nat.le_refl _) _));have hp:=h.thr hi;obtain⟨p,I⟩:=LE (sv st.T i);rw[<-I]at hp ⊢;have c8:Z w x.l 8 (slice (some ⟨x.qs,0,none⟩) x.n x.n):=h.lk.cell 8;refine ai1 ?_;intro a0 a1 a2 a3;have O:=qh (Es H.o i hi);have V:=h.lk.lt;have Y:=h.sp.lt;have t2:¬(i:Int)<0:=by omega
  clear h hp I;go_enter func236,ntmps236;go_wp2_with (go_at_call 239;refine O.o.mono ?_;rintro e w' ⟨rfl,rfl⟩);exact bodyPost_ret (results_cell_row ahI _ _ w.heap.size 113 _ (0,0) _ ahI (heap_alloc_new w _) Tryz.underlying113 rfl ahH) rfl ⟨rfl,(Below.refl _ _).alloc (Nat.le_refl _) _⟩
def oz(h:aC B w a g x c P T st)(i:Nat)(hi:i<x.n){v:Nat}(V:x.X[c.node i]? =some y)(O:x.W[c.node i]? =some v):E 240 #[↑x.l,J i] w λe w'=>e= returned (tuple #[agg #[↑y.p,J v],J (c.node i:Int),J (c.slot i:Int)])/\Below w.heap.size w w':=by
  have hn:=h.fx.n32;obtain⟨hN,I⟩:=h.fx.node hi;have hT:i<T.length:=by rw[<-h.fx.nT];exact hi
  have Jy:=(h.fx.cn i hi).2;obtain⟨r0,r1⟩:=h.row V O;have b1:=(Below.refl w.heap.size w).alloc (Nat.le_refl _) (cells #[.pointer none,J 0] 243);have h1:=h.below b1;have c1:Z w x.l 1 ↑x.b:=h.lk.cell 1;have c7:Z w x.l 7 (slice (some ⟨x.qn,0,none⟩) x.N x.capn):=h.lk.cell 7;have HN:=qh (kq (w.alloc (cells #[.pointer none,J 0] 243)) x.b P T i hT h1.tb.f _ I);have Ts:=Ey (w.alloc (cells #[.pointer none,J 0] 243)).drew x.b P T i hT (h1.below (Below.drew (Below.refl _ _))).tb.f;rw[<-Jy]at Ts;have HS:=qh Ts;have Ko:=h.lk.lt;obtain⟨nd,H⟩:=LE (c.node i);rw[<-H]at hN r0 r1 HN ⊢;obtain⟨sl,hs⟩:=LE (c.slot i);rw[<-hs]at HS ⊢;have t1:(0:Int)<=(nd:Int):=by omega
  have t2:(nd:Int)<x.N:=by omega
  have t3:(nd:Int)<=x.N:=by omega
  have HB:=qh b1;have HK:Kq (∀o:Obj,(w.alloc o).drew.cell? ⟨x.l,1,none⟩=some ↑x.b/\(w.alloc o).drew.cell? ⟨x.l,7,none⟩=some (slice (some ⟨x.qn,0,none⟩) x.N x.capn)/\(w.alloc o).drew.cell? ⟨x.qn,nd*2,none⟩=some ↑y.p/\(w.alloc o).drew.cell? ⟨x.qn,nd*2+1,none⟩=some (J v)):=qh λo=>by have Y:=h.below (((Below.refl w.heap.size w).alloc (Nat.le_refl _) o).drew);exact⟨Y.lk.cell 1,Y.lk.cell 7,(Y.row (H ▸ V) (H ▸ O)).1,(Y.row (H ▸ V) (H ▸ O)).2⟩
  clear h h1 b1 Ts V O I Jy H hs r0 r1;go_enter func240,ntmps240;go_wp2_with fail;refine LT HN.o ?_;go_wp2_with fail
  go_region_held3 (λW=>Z W x.l 1 ↑x.b/\Z W x.l 7 (slice (some ⟨x.qn,0,none⟩) x.N x.capn)/\Z W x.qn (nd*2) ↑y.p/\Z W x.qn (nd*2+1) (J v))
    (first|exact HK.o _)
    (first|(go_at_call 143;go_loud (refine LT HS.o ?_)))
  all_goals go_wp2;exact bodyPost_ret (ln ahI _ _ w.heap.size 243 _ (0,0) _ ahI (heap_alloc_new w _) Tryz.underlying243 rfl ahH) rfl ⟨rfl,((Below.refl _ _).alloc (Nat.le_refl _) _).drew⟩
end
end
section
open Go.RowKit
variable{y:Fx}
def CoS(a g:Nat)(x:Cox):List Nat:=a :: g :: x.qs :: x.g.q :: x.X.map Fx.q
structure dc(BB:Int)(x:Cox)(c:CoC)(st:Co):Prop where
 ops:st.s.ops+1<=1000000000000
 bd:CoB c BB st
 B0:1<=BB
 B1:BB<=10000000000
 ig:inR st.s.W x.g.t=true
 il:∀(n:Nat) (y:Fx),x.X[n]? =some y->inR st.s.W y.t=true
 v:CoV c x.n st
section
variable{g:Nat}{x:Cox}{c:CoC}{st st':Co}{s':Ar}
def aC.lts(h:aC B w a g x c P T st):∀r∈CoS a g x,r<w.heap.size:=by
 intro r V;unfold CoS at V;simp only[List.mem_cons]at V;rcases V with rfl|rfl|rfl|rfl|V
 .exact h.ar.blk.lt
 .exact h.ar.wds.lt
 .exact h.sp.lt
 .exact h.gl.ki.sp.lt
 .obtain⟨y,O,rfl⟩:=List.mem_map.1 V;obtain⟨n,H,e⟩:=List.getElem_of_mem O;have I:n<st.L.length:=by rw[h.lL,<-h.fx.lX];exact H
  exact(h.lo n y _ (by rw[List.getElem?_eq_getElem H,e]) (List.getElem?_eq_getElem I)).ki.sp.lt
def rz{n:Nat}(h:x.X[n]? =some y)(t:aa [a,g,y.q] w w'):aa (CoS a g x) w w':=by
 refine t.mono ?_;intro i hi;have hm:y.q∈x.X.map Fx.q:=List.mem_map.2 ⟨y,List.mem_of_getElem? h,rfl⟩;unfold CoS;simp only[List.mem_cons,List.not_mem_nil,or_false]at hi ⊢;rcases hi with rfl|rfl|rfl
 .exact .inl rfl
 .exact .inr (.inl rfl)
 .exact .inr (.inr (.inr (.inr hm)))
def vE(t:aa [a,g,x.g.q] w w'):aa (CoS a g x) w w':=by refine t.mono ?_;intro i hi;unfold CoS;simp only[List.mem_cons,List.not_mem_nil,or_false]at hi ⊢;rcases hi with rfl|rfl|rfl<;>simp
def EC(t:aa [a,g] w w'):aa (CoS a g x) w w':=by refine t.mono ?_;intro i hi;unfold CoS;simp only[List.mem_cons,List.not_mem_nil,or_false]at hi ⊢;rcases hi with rfl|rfl<;>simp
def tP(i:Nat)(u:Value):aa (CoS a g x) w (w.setCell ⟨x.qs,i,none⟩ u):=(aa.refl _ _).setCell (.inl aie) _
def Ia(h:aC B w a g x c P T st)(C:dc BB x c st){n:Nat}{S:List Sp}(I:x.X[n]? =some y)(H:st.L[n]? =some S):kH c.kl y st.s S BB:=
 ⟨C.ops,C.bd.w,C.bd.l S (List.mem_of_getElem? H),C.B0,C.B1,C.il n y I⟩
def Jc(C:dc BB x c st):kH c.kg x.g st.s st.G BB:=⟨C.ops,C.bd.w,C.bd.g,C.B0,C.B1,C.ig⟩
def jf{α:Type}{l:List α}{n:Nat}{z d:α}(h:l[n]? =some z):l.getD n d=z:=by rw[List.getD_eq_getElem?_getD,h];rfl
def sd(h:aC B w a g x c P T st)(C:dc BB x c st)(i:Nat)(hi:i<x.n)(H:x.X[c.node i]? =some y):E 245 #[↑y.p,J (c.slot i)] w λe w'=>e= returned (bool (lC c st i))/\aC B w' a g x c P T {st with s:=(stL c st i).1,L:=setL c st i (stL c st i).2}/\aa (CoS a g x) w w':=by obtain⟨y',v,S,V,O,I,hs,Jr⟩:=h.loc hi;rw[H]at V;injection V with e;subst e;have Y:=(h.fx.tl _ _ H).1;have e2:=(h.fx.tl _ _ H).2;have eS:st.L.getD (c.node i) []=S:=jf I;refine(qE (h.lo _ _ _ H I) h.fx.kl (c.slot i) _ Jr (Ia h C H I) (C.v.lpc hi)).mono ?_;rintro e w' ⟨rfl,hf,t⟩;rw[<-Y,e2]at hf;rw[<-Y,e2];refine⟨rfl,?_,rz H t⟩;refine h.locOp hi H t ?_;rw[eS];exact hf
def r9(h:aC B w a g x c P T st)(C:dc BB x c st)(i:Nat)(hi:i<x.n):E 245 #[↑x.g.p,J (c.node i)] w λe w'=>e= returned (bool (nt c st i))/\aC B w' a g x c P T {st with s:=(stG c st i).1,G:=st.G.set (c.node i) (stG c st i).2}/\aa (CoS a g x) w w':=by have H:=h.fx.tg;have I:=h.fx.gm;refine(qE h.gl h.fx.kg (c.node i) _ (h.glo hi) (Jc C) (C.v.gpc hi)).mono ?_;rintro e w' ⟨rfl,O,t⟩;rw[<-H,I]at O;rw[<-H,I];exact⟨rfl,h.gloOp t O,vE t⟩
def pQ(h:aC B w a g x c P T st)(i:Nat)(hi:i<x.n)(H:x.X[c.node i]? =some y):E 248 #[↑y.p,J (c.slot i)] w λe w'=>(∃b,e= returned (.bool b))/\aC B w' a g x c P T {st with L:=setL c st i (a9 (lsp st.L (c.node i) (c.slot i)))}/\aa (CoS a g x) w w':=by obtain⟨y',v,S,I,O,V,hs,Jr⟩:=h.loc hi;rw[H]at I;injection I with e;subst e;have eS:st.L.getD (c.node i) []=S:=jf V;refine(nX (h.lo _ _ _ H V) h.fx.kl (c.slot i) _ Jr).mono ?_;rintro e w' ⟨rfl,hf,t⟩;have Y:aa [a,g,y.q] w w':=aI t;refine⟨⟨_,rfl⟩,?_,rz H Y⟩;refine h.locOp hi H Y ?_;rw[eS];exact hf
def x8(h:aC B w a g x c P T st)(i:Nat)(hi:i<x.n):E 248 #[↑x.g.p,J (c.node i)] w λe w'=>(∃b,e= returned (.bool b))/\aC B w' a g x c P T {st with G:=st.G.set (c.node i) (a9 (sv st.G (c.node i)))}/\aa (CoS a g x) w w':=by refine(nX h.gl h.fx.kg (c.node i) _ (h.glo hi)).mono ?_;rintro e w' ⟨rfl,H,t⟩;exact⟨⟨_,rfl⟩,h.gloOp (aI t) H,vE (aI t)⟩
def CV(h:aC B w a g x c P T st)(i:Nat)(hi:i<x.n)(H:x.X[c.node i]? =some y):E 241 #[↑y.p,J (c.slot i)] w λe w'=>(∃b,e= returned (.bool b))/\aC B w' a g x c P T {st with L:=setL c st i (askK c.kl (lsp st.L (c.node i) (c.slot i)))}/\aa (CoS a g x) w w':=by obtain⟨y',v,S,I,O,V,hs,Jr⟩:=h.loc hi;rw[H]at I;injection I with e;subst e;have eS:st.L.getD (c.node i) []=S:=jf V;refine(uE (h.lo _ _ _ H V) h.fx.kl (c.slot i) _ Jr).mono ?_;rintro e w' ⟨rfl,hf,t⟩;have Y:aa [a,g,y.q] w w':=aI t;refine⟨⟨_,rfl⟩,?_,rz H Y⟩;refine h.locOp hi H Y ?_;rw[eS];exact hf
def CU(h:aC B w a g x c P T st)(i:Nat)(hi:i<x.n):E 241 #[↑x.g.p,J (c.node i)] w λe w'=>(∃b,e= returned (.bool b))/\aC B w' a g x c P T {st with G:=st.G.set (c.node i) (askK c.kg (sv st.G (c.node i)))}/\aa (CoS a g x) w w':=by refine(uE h.gl h.fx.kg (c.node i) _ (h.glo hi)).mono ?_;rintro e w' ⟨rfl,H,t⟩;exact⟨⟨_,rfl⟩,h.gloOp (aI t) H,vE (aI t)⟩
def qq(c:CoC)(st:Co)(i:Nat):Ar×Bool:=cB c.kl (c.tl (c.node i)) st.s (c.slot i) (lsp st.L (c.node i) (c.slot i))
def zY(h:aC B w a g x c P T st)(C:dc BB x c st)(i:Nat)(hi:i<x.n)(H:x.X[c.node i]? =some y)(h10:(lsp st.L (c.node i) (c.slot i)).pc=10):E 247 #[↑y.p,J (c.slot i)] w λe w'=>e= returned (bool (qq c st i).2)/\aC B w' a g x c P T {st with s:=(qq c st i).1}/\aa (CoS a g x) w w':=by
  obtain⟨y',v,S,MZ,O,I,hs,Y⟩:=h.loc hi;rw[H]at MZ;injection MZ with e;subst e;have e1:=(h.fx.tl _ _ H).1;have eS:st.L.getD (c.node i) []=S:=jf I;refine(AD (h.lo _ _ _ H I) h.fx.kl (c.slot i) _ Y (Ia h C H I) h10).mono ?_;rintro e w' ⟨rfl,hf,t⟩;rw[<-e1]at hf;rw[<-e1];refine⟨rfl,?_,rz H t⟩;have V:=h.locOp (p':=lsp st.L (c.node i) (c.slot i)) hi H t (s':=(qq c st i).1) (by rw[eS,b9 Y];exact hf);have eL:jE st.L (c.node i) (c.slot i) (lsp st.L (c.node i) (c.slot i))=st.L:=by unfold jE;rw[eS,b9 Y];obtain⟨V,he⟩:=List.getElem?_eq_some_iff.1 I;rw[<-he];exact List.set_getElem_self V
  rw[eL]at V;exact V
def ww(h:aC B w a g x c P T st)(Y:st.s.ops+1<=1000000000000)(n:Nat){v:Nat}(O:x.W[n]? =some v):E 173 #[↑a,J v] w λe w'=>e= returned (J (ldW st.s.W (c.cw n)))/\aC B w' a g x c P T {st with s:=af st.s (c.cw n)}/\aa (CoS a g x) w w':=by have H:=(h.fx.cc n v O).1;rw[H];refine(aD h.ar v Y).mono ?_;rintro e w' ⟨rfl,I,t⟩;exact⟨rfl,h.cnt t I,EC t⟩
def nJ(h:aC B w a g x c P T st)(Y:st.s.ops+1<=1000000000000)(n:Nat){v:Nat}(O:x.W[n]? =some v)(u:Int):E 177 #[↑a,J v,J u] w λe w'=>e= returned (tuple #[])/\aC B w' a g x c P T {st with s:=ae st.s (c.cw n) u}/\aa (CoS a g x) w w':=by have H:=(h.fx.cc n v O).1;rw[H];refine(am h.ar v u Y).mono ?_;rintro e w' ⟨rfl,I,t⟩;exact⟨rfl,h.cnt t I,EC t⟩
structure CoN(B:Nat->Prop)(w0 w:World)(a g:Nat)(x:Cox)(c:CoC)(P T:List Int)(st:Co)(k:Nat)(y:Fx)(v:Nat):Prop where
 is:aC B w a g x c P T st
 nb:Blk w k 243 #[↑y.p,int i64 v]
 nS:k∉CoS a g x
 tn:aa (CoS a g x) w0 w
def CoN.to{k:Nat}{v:Nat}(h:CoN B w0 w a g x c P T st k y v)(H:aC B w' a g x c P T st')(t:aa (CoS a g x) w w'):CoN B w0 w' a g x c P T st' k y v:=
 ⟨H,t.blk h.nb h.nS,h.nS,h.tn.trans t⟩
def CoN.put{k:Nat}{v:Nat}(h:CoN B w0 w a g x c P T st k y v){p p':Sp}(O:st.T[i]? =some p)(I:j<4)(H:(bf p).set j u=bf p'):CoN B w0 (w.setCell ⟨x.qs,i*4+j,none⟩ u) a g x c P T {st with T:=st.T.set i p'} k y v:=h.to (h.is.put O I H) (tP _ _)
def CoN.drew{k:Nat}{v:Nat}(h:CoN B w0 w a g x c P T st k y v):CoN B w0 w.drew a g x c P T st k y v:=h.to (h.is.below (Below.refl _ _).drew) (aa.refl _ _).drew
def CoN.ar(h:aC B w a g x c P T st):w.cell? x.l=some ↑a:=h.lk.cell 0
def CoN.bud(h:aC B w a g x c P T st):Z w x.l 5 (J c.bud):=h.lk.cell 5
def CoN.glo(h:aC B w a g x c P T st):Z w x.l 6 ↑x.g.p:=h.lk.cell 6
def CoN.spots(h:aC B w a g x c P T st):Z w x.l 8 (slice (some ⟨x.qs,0,none⟩) x.n x.n):=h.lk.cell 8
def CoN.n0{k:Nat}{v:Nat}(h:CoN B w0 w a g x c P T st k y v):w.cell? k=some ↑y.p:=h.nb.cell 0
def CoN.n1{k:Nat}{v:Nat}(h:CoN B w0 w a g x c P T st k y v):Z w k 1 (J v):=h.nb.cell 1
def CoN.mk'(h:aC B w a g x c P T st){w1:World}(b1:Below w.heap.size w w1)(y:Fx)(v:Nat):CoN B w (w1.alloc (cells #[↑y.p,J v] 243)) a g x c P T st w1.heap.size y v:=by have hs:=b1.size;refine⟨h.below (b1.alloc hs _),Blk.new w1 _ _,λk=>?_,aa.of_below (b1.alloc hs _)⟩;have:=h.lts _ k;omega
end
end
section
open Go.RowKit
variable{q:Sp}{e:Ending}
def xY(c:CoC)(st:Co)(i:Nat)(p:Sp):Co:=iF st i ((cX c st i p).1,(cX c st i p).2.1,(cX c st i p).2.2.1,{(cX c st i p).2.2.2 with pc:=p.pc})
def gJ(B:Nat->Prop)(w:World)(a g:Nat)(x:Cox)(c:CoC)(P T:List Int)(st:Co)(i:Nat)(p:Sp)(e:Ending)(w':World):Prop:=
 e= returned (J (cX c st i p).2.2.2.pc)/\aC B w' a g x c P T (xY c st i p)/\aa (CoS a g x) w w'
section
variable{g:Nat}{x:Cox}{c:CoC}{st st':Co}{s':Ar}
def pO(i:Nat)(p:Sp){n:Int}{s':Ar}{H:List Sp}{I:List (List Sp)}(O:(cX c st i p)=(s',H,I,q))(V:e= returned (J n))(e3:q.pc=n)(h:aC B w' a g x c P T ⟨s',H,I,st.T.set i {q with pc:=p.pc}⟩)(t:aa (CoS a g x) w w'):gJ B w a g x c P T st i p e w':=by unfold gJ xY iF;rw[O];exact⟨by rw[V,e3],h,t⟩
def CoN.drewN{k:Nat}{y:Fx}{v:Nat}(h:CoN B w0 w a g x c P T st k y v)(n:Nat):CoN B w0 (w.drewN n) a g x c P T st k y v:=h.to (h.is.turns0 ((aa.refl [] w).drewN n)) ((aa.refl _ _).drewN n)
def jx(i:Nat)(p:Sp)(Y:st.T[i]? =some p){n:Int}{s':Ar}{H:List Sp}{I:List (List Sp)}(O:(cX c st i p)=(s',H,I,q))(V:e= returned (J n))(e3:q.pc=n)(e4:{q with pc:=p.pc}=p)(h:aC B w' a g x c P T ⟨s',H,I,st.T⟩)(t:aa (CoS a g x) w w'):gJ B w a g x c P T st i p e w':=pO i p O V e3 (by rw[e4,b9 Y];exact h) t
def vo(b:Int)(w:World)(h:0<=b)(h1:b<=1000):E 135 #[J b] w λe w'=>e= returned (bool true)/\w=w':=by go_enter func135,ntmps135;exact aaa
def Fh(n f t:Int)(w:World):E 171 #[J n,J f,J t] w λe w'=>e= returned (bool (decide (f<=n)&&decide (n<=t)))/\w=w':=by cases h1:decide (f<=n)<;>cases H:decide (n<=t);all_goals have h:decide (n >= f)=decide (f<=n):=rfl;rw[h1]at h;go_enter func171,ntmps171;go_wp2;go_ret;exact⟨rfl,rfl⟩
def vi(u bud:Int)(h:Bool)(I:0<=bud/\bud<=1000)(w:World):E 246 #[J u,J bud,.bool h] w λe w'=>e= returned (bool (mz u bud h))/\w=w':=by
 obtain⟨V,h1⟩:=I;have H:=qh (λw=>Fh u 1 bud w);have e:mz u bud h=((decide (1<=u)&&decide (u<=bud))&&!h):=by unfold mz;rw[Bool.decide_and]
 rw[e];clear e;obtain⟨q,O⟩:=LE ((decide (1<=u)&&decide (u<=bud)));rw[<-O]at H ⊢;clear O;cases q<;>cases h;all_goals go_enter func246,ntmps246;go_wp2_with (first|(go_at_call 135;refine(vo bud _ V h1).mono ?_;rintro e w' ⟨rfl,rfl⟩)|(go_at_call 171;refine(H.o _).mono ?_;rintro e w' ⟨rfl,rfl⟩));go_ret;exact⟨rfl,rfl⟩
def EX(h:aC B w a g x c P T st)(C:dc BB x c st)(i:Nat)(hi:i<x.n)(u b z:Int)(hp:sv st.T i=⟨1,u,b,z⟩):E 242 #[↑x.l,J i] w (gJ B w a g x c P T st i ⟨1,u,b,z⟩):=by
  obtain⟨y,v,S,hy,O,hS,hs,Jr⟩:=h.loc hi;have Y:st.T[i]? =some (⟨1,u,b,z⟩:Sp):=by rw[h.thr hi,hp]
  refine aiX ?_;intro hn c8 t2 Ko Jx KT Kv;obtain⟨r,V⟩:=LE (stL c st i);obtain⟨q,I⟩:=LE (lC c st i);have H:=(λW (k:aC B W a g x c P T st)=>sd k C i hi hy);rw[<-V,<-I]at H;have HF:=qh H;have HX:Kq (cX c st i ⟨1,u,b,z⟩=(r.1,st.G,setL c st i r.2,if q then⟨2,u,b,z⟩else⟨1,u,b,z⟩)):=qh (by rw[V,I];rfl);have HP:=qh Y;clear H V I;clear h C hp Y hy O hS hs Jr;cases q;all_goals go_enter func242,ntmps242;go_wp2_with fail;refine aiZ ?_;intro w1 b1 N1 JY e0 k0 k6;go_wp2_with fail;refine ajF ?_;intro w2 k2 N2 e2;clear e0;go_wp2;go_ret;exact jx i _ HP.o HX.o rfl rfl rfl N2.o.is N2.o.tn
def EY(h:aC B w a g x c P T st)(C:dc BB x c st)(i:Nat)(hi:i<x.n)(u b z:Int)(hp:sv st.T i=⟨2,u,b,z⟩):E 242 #[↑x.l,J i] w (gJ B w a g x c P T st i ⟨2,u,b,z⟩):=by
  obtain⟨y,v,S,hy,O,hS,hs,Jr⟩:=h.loc hi;have JT:st.T[i]? =some (⟨2,u,b,z⟩:Sp):=by rw[h.thr hi,hp]
  refine aiX ?_;intro hn c8 t2 Ko Jx KT Kv;obtain⟨I,hv⟩:=LE (af st.s (c.cw (c.node i)));obtain⟨q,hq⟩:=LE (ldW st.s.W (c.cw (c.node i)));have hr:=(λW (k:aC B W a g x c P T st)=>ww k C.ops (c.node i) O);rw[<-hv,<-hq]at hr;have HO:=qh hr;have HA:=qh (λW (s:Ar) (T':List Sp) (k:aC B W a g x c P T ⟨s,st.G,st.L,T'⟩)=>CU k i hi);have HX:Kq (cX c st i ⟨2,u,b,z⟩=if 0<q then(I,st.G,st.L,⟨10,q,b,z⟩)else(I,st.G.set (c.node i) (askK c.kg (sv st.G (c.node i))),st.L,⟨3,q,b,z⟩)):=qh (by rw[hv,hq];rfl);refine ajE ?_;intro HC HP;have HL:=qh (show i<st.T.length by rw[h.lS];exact hi);clear hr hv hq;clear h C hp JT hy O hS hs Jr;cases hc:decide (0<q)
  all_goals
    have LC:decide (q>0)=decide (0<q):=rfl;rw[hc]at LC;go_enter func242,ntmps242;go_wp2_with fail;refine aiZ ?_;intro w1 b1 N1 JY e0 k0 k6;have Y:=qh N1.o.drew;have HW:=qh (show ∃W,W=(w1.alloc (cells #[↑y.p,J v] 243))from⟨_,rfl⟩);go_wp2_with fail
    go_region_held3 (λW=>W.cell? x.l=some ↑a/\Z W w1.heap.size 1 (J v))
      (first|with_reducible exact HC.o _ _ _ _ _ Y.o|with_reducible exact HC.o _ _ _ _ _ V.o|with_reducible exact HC.o _ _ _ _ _ H.o)
      (first
        | (go_at_call 173;go_loud (refine Op (HO.o _ Y.o.is) λw3 k3=>?_);have V:=qh (Y.o.to k3.o.1 k3.o.2);have H:=qh (V.o.put (p':=(⟨2,q,b,z⟩:Sp)) HP.o (j:=1) (u:= J q) ahG rfl);have e1:=V.o.is.sp.cell HP.o 1 _ rfl;have z1:=V.o.is.sp.free (i*4+1)))
  all_goals
    have e4:=H.o.is.sp.cell (Jp HP.o _) 1 _ rfl;have Y8:=CoN.glo H.o.is
    first
      | (go_wp2
         go_ret
         exact pO i _ (HX.o.trans (if_pos ahL)) rfl rfl H.o.is H.o.tn)
      | (go_wp2_with fail
         refine(HA.o _ _ _ H.o.is).mono ?_
         rintro en w4 ⟨⟨bb,rfl⟩,k4,t4⟩
         have N4:=qh (H.o.to k4 t4)
         clear k4 t4
         go_wp2
         go_ret
         exact pO i _ (HX.o.trans (if_neg ahL)) rfl rfl N4.o.is N4.o.tn)
def EZ(h:aC B w a g x c P T st)(C:dc BB x c st)(i:Nat)(hi:i<x.n)(u b z:Int)(hp:sv st.T i=⟨3,u,b,z⟩):E 242 #[↑x.l,J i] w (gJ B w a g x c P T st i ⟨3,u,b,z⟩):=by
  obtain⟨y,v,S,hy,O,hS,hs,Jr⟩:=h.loc hi;have Y:st.T[i]? =some (⟨3,u,b,z⟩:Sp):=by rw[h.thr hi,hp]
  refine aiX ?_;intro hn c8 t2 Ko Jx KT Kv;obtain⟨r,V⟩:=LE (stG c st i);obtain⟨q,I⟩:=LE (nt c st i);have H:=(λW (k:aC B W a g x c P T st)=>r9 k C i hi);rw[<-V,<-I]at H;have HF:=qh H;have HX:Kq (cX c st i ⟨3,u,b,z⟩=(r.1,st.G.set (c.node i) r.2,st.L,if q then⟨4,u,b,z⟩else⟨3,u,b,z⟩)):=qh (by rw[V,I];rfl);have HP:=qh Y;clear H V I;clear h C hp Y hy O hS hs Jr;cases q;all_goals go_enter func242,ntmps242;go_wp2_with fail;refine aiZ ?_;intro w1 b1 N1 JY e0 k0 k6;go_wp2_with fail;refine ajF ?_;intro w2 k2 N2 e2;clear e0;go_wp2;go_ret;exact jx i _ HP.o HX.o rfl rfl rfl N2.o.is N2.o.tn
def E0(h:aC B w a g x c P T st)(C:dc BB x c st)(i:Nat)(hi:i<x.n)(u b z:Int)(hp:sv st.T i=⟨4,u,b,z⟩):E 242 #[↑x.l,J i] w (gJ B w a g x c P T st i ⟨4,u,b,z⟩):=by
  obtain⟨y,v,S,hy,O,hS,hs,Jr⟩:=h.loc hi;have JT:st.T[i]? =some (⟨4,u,b,z⟩:Sp):=by rw[h.thr hi,hp]
  refine aiX ?_;intro hn c8 t2 Ko Jx KT Kv;obtain⟨Y,hv⟩:=LE (ae st.s (c.cw (c.node i)) 1);have V:=(λW (k:aC B W a g x c P T st)=>nJ k C.ops (c.node i) O 1);rw[<-hv]at V;have HO:=qh V;have HX:Kq (cX c st i ⟨4,u,b,z⟩=(Y,st.G,st.L,⟨10,1,b,z⟩)):=qh ahX;refine ajE ?_;intro HC HP;clear V hv;clear h C hp JT hy O hS hs Jr;go_enter func242,ntmps242;go_wp2_with fail;refine aiZ ?_;intro w1 b1 N1 JY e0 k0 k6;have I:=qh N1.o.drew;go_wp2_with fail
  go_region_held3 (λW=>W.cell? x.l=some ↑a/\Z W w1.heap.size 1 (J v))
    (first|with_reducible exact HC.o _ _ _ _ _ I.o|with_reducible exact HC.o _ _ _ _ _ H.o)
    (first
      | (go_at_call 177;go_loud (refine Op (HO.o _ I.o.is) λw3 k3=>?_);have H:=qh (I.o.to k3.o.1 k3.o.2)))
  all_goals have e1:=H.o.is.sp.cell HP.o 1 _ rfl;have z1:=H.o.is.sp.free (i*4+1);have N3:=qh (H.o.put (p':=(⟨4,1,b,z⟩:Sp)) HP.o (j:=1) (u:= J 1) ahG rfl);go_wp2;go_ret;exact pO i _ HX.o rfl rfl N3.o.is N3.o.tn
end
end
section
open Go.RowKit
section
variable{g:Nat}{x:Cox}{c:CoC}{st st':Co}{s':Ar}
def zZ(h:aC B w a g x c P T st)(C:dc BB x c st)(i:Nat)(hi:i<x.n)(u b z:Int)(hp:sv st.T i=⟨11,u,b,z⟩):E 243 #[↑x.l,J i] w (gJ B w a g x c P T st i ⟨11,u,b,z⟩):=by
  obtain⟨y,v,S,hy,O,hS,hs,Jr⟩:=h.loc hi;have JT:st.T[i]? =some (⟨11,u,b,z⟩:Sp):=by rw[h.thr hi,hp]
  refine aiX ?_;intro hn c8 t2 Ko Jx KT Kv;obtain⟨ab,hv⟩:=LE (af st.s (c.cw (c.node i)));obtain⟨q,hq⟩:=LE (ldW st.s.W (c.cw (c.node i)));have hr:=(λW (k:aC B W a g x c P T st)=>ww k C.ops (c.node i) O);rw[<-hv,<-hq]at hr;have HO:=qh hr;have HX:Kq (cX c st i ⟨11,u,b,z⟩=(ab,st.G,st.L,⟨if c.bud<q then 14 else 12,q,b,z⟩)):=qh (by rw[hv,hq];rfl);refine ajE ?_;intro HC HP;clear hr hv hq;clear h C hp JT hy O hS hs Jr;obtain⟨bud,Y⟩:=LE c.bud;rw[<-Y]at HX;have HD:=qh Y;clear Y;cases hc:decide (bud<q)
  all_goals
    have LC:decide (q>bud)=decide (bud<q):=rfl;rw[hc]at LC;go_enter func243,ntmps243;go_wp2_with fail;refine aiZ ?_;intro w1 b1 N1 JY e0 k0 k6;have V:=qh N1.o.drew;go_wp2_with fail
    go_region_held3 (λW=>W.cell? x.l=some ↑a/\Z W w1.heap.size 1 (J v))
      (first|with_reducible exact HC.o _ _ _ _ _ V.o|with_reducible exact HC.o _ _ _ _ _ I.o|with_reducible exact HC.o _ _ _ _ _ H.o)
      (first
        | (go_at_call 173;go_loud (refine Op (HO.o _ V.o.is) λw3 k3=>?_);have I:=qh (V.o.to k3.o.1 k3.o.2);have H:=qh (I.o.put (p':=(⟨11,q,b,z⟩:Sp)) HP.o (j:=1) (u:= J q) ahG rfl);have e1:=I.o.is.sp.cell HP.o 1 _ rfl;have z1:=I.o.is.sp.free (i*4+1)))
  all_goals have e4:=H.o.is.sp.cell (Jp HP.o _) 1 _ rfl;have e5:=CoN.bud H.o.is;rw[<-HD.o]at e5;clear e1 z1;go_wp2_with fail;go_quiet (fail);go_wp2;go_ret;first| (rw[if_pos ahL]at HX;exact pO i _ HX.o rfl rfl (H.o.drewN _).is (H.o.drewN _).tn)| (rw[if_neg ahL]at HX;exact pO i _ HX.o rfl rfl (H.o.drewN _).is (H.o.drewN _).tn)
def Aa(h:aC B w a g x c P T st)(C:dc BB x c st)(i:Nat)(hi:i<x.n)(u b z:Int)(h10:(lsp st.L (c.node i) (c.slot i)).pc=10)(H:sv st.T i=⟨12,u,b,z⟩):E 243 #[↑x.l,J i] w (gJ B w a g x c P T st i ⟨12,u,b,z⟩):=by
  obtain⟨y,v,S,hy,O,hS,hs,Jr⟩:=h.loc hi;have JT:st.T[i]? =some (⟨12,u,b,z⟩:Sp):=by rw[h.thr hi,H]
  refine aiX ?_;intro hn c8 t2 Ko Jx KT Kv;obtain⟨r,V⟩:=LE (qq c st i);have hr:=(λW (k:aC B W a g x c P T st)=>zY k C i hi hy h10);rw[<-V]at hr;have HO:=qh hr;obtain⟨q,hq⟩:=LE (mz u c.bud r.2);have Y:=qh (λW=>vi u c.bud r.2 h.fx.bud W);rw[<-hq]at Y;have HX:Kq (cX c st i ⟨12,u,b,z⟩=(r.1,st.G,st.L,⟨if q then 13 else 14,u,b,z⟩)):=qh (by rw[hq,V];rfl);have I:=qh (λW st (N:∃k,k=w.heap.size/\aC B W a g x c P T st) (H:st.T[i]? =some (⟨12,u,b,z⟩:Sp))=>And.intro (N.choose_spec.2.sp.cell H 1 _ rfl) (CoN.bud N.choose_spec.2));have HP:=qh JT;clear hr V hq I;have I:=qh (λW st (k y v) (N:CoN B w W a g x c P T st k y v) (H:st.T[i]? =some (⟨12,u,b,z⟩:Sp))=>And.intro (N.is.sp.cell H 1 _ rfl) (And.intro (CoN.bud N.is) N.n0));clear h C H JT hy O hS hs Jr;obtain⟨r1,r2⟩:=r;simp only at HO Y HX;cases q
  all_goals
    go_enter func243,ntmps243;go_wp2_with fail;refine aiZ ?_;intro w1 b1 N1 JY e0 k0 k6;have KK:=qh N1.o.drew;go_wp2_with fail
    go_region_held3 (λW=>Z W x.qs (i*4+1) (J u)/\Z W x.l 5 (J c.bud)/\W.cell? w1.heap.size=some ↑y.p)
      (first|with_reducible exact I.o _ _ _ _ _ KK.o HP.o|with_reducible exact I.o _ _ _ _ _ N2.o HP.o)
      (first
        | (go_at_call 247;go_loud (refine Op (HO.o _ KK.o.is) λw3 k3=>?_);have N2:=qh (KK.o.to k3.o.1 k3.o.2))
        | (go_at_call 246;go_loud (refine LT (Y.o _) ?_)))
  all_goals go_wp2;go_ret;exact jx i _ HP.o HX.o rfl rfl rfl N2.o.is N2.o.tn
def Ab(h:aC B w a g x c P T st)(C:dc BB x c st)(i:Nat)(hi:i<x.n)(u b z:Int)(hu:0<=u/\u<=100000000000)(I:sv st.T i=⟨13,u,b,z⟩):E 243 #[↑x.l,J i] w (gJ B w a g x c P T st i ⟨13,u,b,z⟩):=by
  obtain⟨y,v,S,hy,O,hS,hs,Jr⟩:=h.loc hi;have JT:st.T[i]? =some (⟨13,u,b,z⟩:Sp):=by rw[h.thr hi,I]
  refine aiX ?_;intro hn c8 t2 Ko Jx KT Kv;have x1:IntKind.i64.wrap (u+1)=u+1:=IntWalk.i64_in _ ahE;obtain⟨ab,hv⟩:=LE (ae st.s (c.cw (c.node i)) (u+1));have Y:=(λW (k:aC B W a g x c P T st)=>nJ k C.ops (c.node i) O (u+1));rw[<-hv]at Y;have HO:=qh Y;have HA:=qh (λW (s:Ar) (k:aC B W a g x c P T ⟨s,st.G,st.L,st.T⟩)=>pQ k i hi hy);have HX:Kq (cX c st i ⟨13,u,b,z⟩=(ab,st.G,setL c st i (a9 (lsp st.L (c.node i) (c.slot i))),⟨16,u,b,z⟩)):=qh ahX;have HC:=qh (λW st (k y v) (N:CoN B w W a g x c P T st k y v) (I:st.T[i]? =some (⟨13,u,b,z⟩:Sp))=>And.intro (CoN.ar N.is) (And.intro N.n1 (N.is.sp.cell I 1 _ rfl)));have HP:=qh JT;clear Y hv;clear h C I JT hy O hS hs Jr;go_enter func243,ntmps243;go_wp2_with fail;refine aiZ ?_;intro w1 b1 N1 JY e0 k0 k6;have V:=qh N1.o.drew;go_wp2_with fail
  go_region_held3 (λW=>W.cell? x.l=some ↑a/\Z W w1.heap.size 1 (J v)/\Z W x.qs (i*4+1) (J u))
    (first|with_reducible exact HC.o _ _ _ _ _ V.o HP.o|with_reducible exact HC.o _ _ _ _ _ H.o HP.o)
    (first
      | (go_at_call 177;go_loud (refine Op (HO.o _ V.o.is) λw3 k3=>?_);have H:=qh (V.o.to k3.o.1 k3.o.2)))
  all_goals have Y7:=H.o.n0;go_wp2_with fail;refine(HA.o _ _ H.o.is).mono ?_;rintro en w4 ⟨⟨bb,rfl⟩,k4,t4⟩;have N4:=qh (H.o.to k4 t4);clear k4 t4;go_wp2;go_ret;exact jx i _ HP.o HX.o rfl rfl rfl N4.o.is N4.o.tn
def Ac(h:aC B w a g x c P T st)(C:dc BB x c st)(i:Nat)(hi:i<x.n)(u b z:Int)(hp:sv st.T i=⟨14,u,b,z⟩):E 243 #[↑x.l,J i] w (gJ B w a g x c P T st i ⟨14,u,b,z⟩):=by
  obtain⟨y,v,S,hy,O,hS,hs,Jr⟩:=h.loc hi;have JT:st.T[i]? =some (⟨14,u,b,z⟩:Sp):=by rw[h.thr hi,hp]
  refine aiX ?_;intro hn c8 t2 Ko Jx KT Kv;obtain⟨Y,hv⟩:=LE (ae st.s (c.cw (c.node i)) 0);have V:=(λW (k:aC B W a g x c P T st)=>nJ k C.ops (c.node i) O 0);rw[<-hv]at V;have HO:=qh V;have HA:=qh (λW (s:Ar) (k:aC B W a g x c P T ⟨s,st.G,st.L,st.T⟩)=>x8 k i hi);have HX:Kq (cX c st i ⟨14,u,b,z⟩=(Y,st.G.set (c.node i) (a9 (sv st.G (c.node i))),st.L,⟨15,u,b,z⟩)):=qh ahX;refine ajE ?_;intro HC HP;clear V hv;clear h C hp JT hy O hS hs Jr;go_enter func243,ntmps243;go_wp2_with fail;refine aiZ ?_;intro w1 b1 N1 JY e0 k0 k6;have I:=qh N1.o.drew;go_wp2_with fail
  go_region_held3 (λW=>W.cell? x.l=some ↑a/\Z W w1.heap.size 1 (J v))
    (first|with_reducible exact HC.o _ _ _ _ _ I.o|with_reducible exact HC.o _ _ _ _ _ H.o)
    (first
      | (go_at_call 177;go_loud (refine Op (HO.o _ I.o.is) λw3 k3=>?_);have H:=qh (I.o.to k3.o.1 k3.o.2)))
  all_goals have Y8:=CoN.glo H.o.is;go_wp2_with fail;refine(HA.o _ _ H.o.is).mono ?_;rintro en w4 ⟨⟨bb,rfl⟩,k4,t4⟩;have N4:=qh (H.o.to k4 t4);clear k4 t4;go_wp2;go_ret;exact jx i _ HP.o HX.o rfl rfl rfl N4.o.is N4.o.tn
def Ad(h:aC B w a g x c P T st)(C:dc BB x c st)(i:Nat)(hi:i<x.n)(u b z:Int)(hp:sv st.T i=⟨15,u,b,z⟩):E 243 #[↑x.l,J i] w (gJ B w a g x c P T st i ⟨15,u,b,z⟩):=by
  obtain⟨y,v,S,hy,O,hS,hs,Jr⟩:=h.loc hi;have Y:st.T[i]? =some (⟨15,u,b,z⟩:Sp):=by rw[h.thr hi,hp]
  refine aiX ?_;intro hn c8 t2 Ko Jx KT Kv;obtain⟨r,V⟩:=LE (stG c st i);obtain⟨q,I⟩:=LE (nt c st i);have H:=(λW (k:aC B W a g x c P T st)=>r9 k C i hi);rw[<-V,<-I]at H;have HF:=qh H;have HA:=qh (λW (s:Ar) (G':List Sp) (k:aC B W a g x c P T ⟨s,G',st.L,st.T⟩)=>pQ k i hi hy);have HX:Kq (cX c st i ⟨15,u,b,z⟩=if q then(r.1,st.G.set (c.node i) r.2,setL c st i (a9 (lsp st.L (c.node i) (c.slot i))),⟨16,u,b,z⟩)else(r.1,st.G.set (c.node i) r.2,st.L,⟨15,u,b,z⟩)):=qh (by rw[V,I];rfl);have HP:=qh Y;clear H V I;clear h C hp Y hy O hS hs Jr;cases q
  all_goals
    go_enter func243,ntmps243;go_wp2_with fail;refine aiZ ?_;intro w1 b1 N1 JY e0 k0 k6;go_wp2_with fail;refine ajF ?_;intro w2 k2 N2 e2;have Y7:=N2.o.n0;clear e0
    first
      | (go_wp2_with fail
         refine(HA.o _ _ _ N2.o.is).mono ?_
         rintro en w4 ⟨⟨bb,rfl⟩,k4,t4⟩
         have N4:=qh (N2.o.to k4 t4)
         clear k4 t4 e2
         go_wp2
         go_ret
         exact jx i _ HP.o HX.o rfl rfl rfl N4.o.is N4.o.tn)
      | (go_wp2
         go_ret
         exact jx i _ HP.o HX.o rfl rfl rfl N2.o.is N2.o.tn)
def Ae(h:aC B w a g x c P T st)(C:dc BB x c st)(i:Nat)(hi:i<x.n)(u b z:Int)(hp:sv st.T i=⟨16,u,b,z⟩):E 243 #[↑x.l,J i] w (gJ B w a g x c P T st i ⟨16,u,b,z⟩):=by
  obtain⟨y,v,S,hy,O,hS,hs,Jr⟩:=h.loc hi;have Y:st.T[i]? =some (⟨16,u,b,z⟩:Sp):=by rw[h.thr hi,hp]
  refine aiX ?_;intro hn c8 t2 Ko Jx KT Kv;obtain⟨r,V⟩:=LE (stL c st i);obtain⟨q,I⟩:=LE (lC c st i);have H:=(λW (k:aC B W a g x c P T st)=>sd k C i hi hy);rw[<-V,<-I]at H;have HF:=qh H;have HX:Kq (cX c st i ⟨16,u,b,z⟩=(r.1,st.G,setL c st i r.2,if q then⟨0,u,b,z⟩else⟨16,u,b,z⟩)):=qh (by rw[V,I];rfl);have HP:=qh Y;clear H V I;clear h C hp Y hy O hS hs Jr;cases q;all_goals go_enter func243,ntmps243;go_wp2_with fail;refine aiZ ?_;intro w1 b1 N1 JY e0 k0 k6;go_wp2_with fail;refine ajF ?_;intro w2 k2 N2 e2;clear e0;go_wp2;go_ret;exact jx i _ HP.o HX.o rfl rfl rfl N2.o.is N2.o.tn
end
end
section
open Go.RowKit
section
variable{g:Nat}{x:Cox}{c:CoC}{st st':Co}{s':Ar}
def Gr(h:aC B w a g x c P T st)(C:dc BB x c st)(i:Nat)(hi:i<x.n)(p:Sp)(H:sv st.T i=p)(O:0<p.pc)(h1:p.pc<10):E 242 #[↑x.l,J i] w (gJ B w a g x c P T st i p):=by
  have I:=C.v.k i hi;rw[H]at I;obtain⟨pc,u,b,z⟩:=p;simp only at O h1;have hc:pc=1\/pc=2\/pc=3\/pc=4:=by unfold di at I;simp only at I;omega
  rcases hc with rfl|rfl|rfl|rfl
  . exact EX h C i hi u b z H
  . exact EY h C i hi u b z H
  . exact EZ h C i hi u b z H
  . exact E0 h C i hi u b z H
def E1(h:aC B w a g x c P T st)(C:dc BB x c st)(i:Nat)(hi:i<x.n)(p:Sp)(H:sv st.T i=p)(h1:10<p.pc):E 243 #[↑x.l,J i] w (gJ B w a g x c P T st i p):=by
  have I:=C.v.k i hi;have O:=C.bd.tsp (by have:=C.B0;omega) i;have V:=C.B1;rw[H]at I O;obtain⟨pc,u,b,z⟩:=p;simp only at h1 O;have hc:pc=11\/pc=12\/pc=13\/pc=14\/pc=15\/pc=16:=by unfold di at I;simp only at I;omega
  rcases hc with rfl|rfl|rfl|rfl|rfl|rfl
  . exact zZ h C i hi u b z H
  . exact Aa h C i hi u b z (by unfold di at I;simp only at I;omega) H
  . exact Ab h C i hi u b z ahE H
  . exact Ac h C i hi u b z H
  . exact Ad h C i hi u b z H
  . exact Ae h C i hi u b z H
def mr(B:Nat->Prop)(w:World)(a g:Nat)(x:Cox)(c:CoC)(P T:List Int)(st':Co)(r:Bool)(e:Ending)(w':World):Prop:=
 e= returned (.bool r)/\aC B w' a g x c P T st'/\aa (CoS a g x) w w'
def Af(h:aC B w a g x c P T st)(i:Nat)(hi:i<x.n)(hc:(sv st.T i).pc=0\/(sv st.T i).pc=10):E 237 #[↑x.l,J i] w (mr B w a g x c P T (aj c st i) (bo (sv st.T i) (sv (aj c st i).T i))):=by
  have I:=qh (mj h i hi);have H:=qh h;have V:aj c st i=st:=by unfold aj;rw[if_pos hc]
  rw[V];have Y:bo (sv st.T i) (sv st.T i)=false:=by unfold bo;rcases hc with hc|hc<;>simp[hc]
  rw[Y];obtain⟨p,hp⟩:=LE (sv st.T i);rw[<-hp]at hc I;clear V Y hp h;obtain⟨pc,u,b,z⟩:=p;simp only at hc;unfold aF at I;have KE:=aM;rcases hc with rfl|rfl
  all_goals go_enter func237,ntmps237;go_wp2_with fail;refine Op I.o λw1 O=>?_;go_wp2;go_ret;exact⟨rfl,H.o.below O.o,aa.of_below O.o⟩
def uw(h:aC B w a g x c P T st)(C:dc BB x c st)(i:Nat)(hi:i<x.n)(hc:0<(sv st.T i).pc/\(sv st.T i).pc<10):E 237 #[↑x.l,J i] w (mr B w a g x c P T (aj c st i) (bo (sv st.T i) (sv (aj c st i).T i))):=by
  have hT:=h.thr hi;have J4:i<st.T.length:=by rw[h.lS];exact hi
  have HS:=qh (mj h i hi);have hn:=h.fx.n32;have Ko:=h.lk.lt;have Jx:=h.sp.lt;have t2:¬(i:Int)<0:=by omega
  obtain⟨p,hp⟩:=LE (sv st.T i);have hI:=(λW (k:aC B W a g x c P T st)=>Gr k C i hi p hp.symm);rw[<-hp]at hc HS hT;have HI:=qh (λW (k:aC B W a g x c P T st)=>hI W k hc.1 hc.2);refine ajJ ?_;intro m hm HM e1 e2 q1 q2
  have HQ:Kq (bo p m.2.2.2=((m.2.2.2.pc==10)||(m.2.2.2.pc==0))):=qh (by
    unfold bo;simp only[q1,q2,ne_eq,not_false_eq_true,and_true,Bool.decide_or]
    rfl)
  have u1:(p.pc==0)=false:=by simpa using q1
  have u2:(p.pc==10)=false:=by simpa using q2
  have u3:decide (p.pc<10)=true:=by simpa using hc.2
  obtain⟨s1,G1,L1,r⟩:=m;simp only at HQ e1;refine ajO ?_;intro HC HT H HX HR;clear hI h C hp hT hm e1 e2 q1 q2 hc J4;obtain⟨pc,u,b,z⟩:=p;obtain⟨I,Y,b',z'⟩:=r;simp only at u1 u2 u3 HQ HR;unfold aF at HS;have KE:=aM;cases v1:(I==10)<;>cases v2:(I==0)
  all_goals
    go_enter func237,ntmps237;go_wp2_with fail;refine Op HS.o λw1 b1=>?_;have K1:=qh (H.o.below b1.o.drew);have T1:=qh (aa.of_below (S:=CoS a g x) b1.o.drew);have JY:=b1.o.size;go_wp2_with fail
    go_region_held3 (λW=>Z W x.l 8 (slice (some ⟨x.qs,0,none⟩) x.n x.n))
      (first|with_reducible exact HC.o _ _ K1.o|with_reducible exact HC.o _ _ O.o|with_reducible exact HC.o _ _ V.o)
      (first
        | (go_at_call 242;go_loud (refine(HI.o _ K1.o).mono ?_);rintro en w3 ⟨he,k3,t3⟩;rw[HR.o]at he;subst he;rw[HX.o]at k3;have O:=qh k3;have T2:=qh (T1.o.trans t3);have V:=qh (O.o.put0 (p':=(⟨I,Y,b',z'⟩:Sp)) (Jp HT.o _) (u:= J I) rfl);have e1:=O.o.sp.cell (Jp HT.o _) 0 _ rfl;have z1:=O.o.sp.free (i*4);simp only[Nat.add_zero]at e1;clear k3 t3))
  all_goals have e4:=V.o.sp.cell (Jp (Jp HT.o _) _) 0 _ rfl;have SD:=HC.o _ _ V.o;simp only[Nat.add_zero]at e4;clear e1 z1;go_wp2;go_ret;refine⟨by rw[HQ.o,v1,v2];rfl,?_,T2.o.trans (tP _ _)⟩;have k:=V.o;rw[show(({s:=s1,G:=G1,L:=L1,T:=(st.T.set i {(⟨I,Y,b',z'⟩:Sp)with pc:=pc}).set i ⟨I,Y,b',z'⟩}:Co))=iF st i (s1,G1,L1,⟨I,Y,b',z'⟩)from by unfold iF;simp]at k;exact k
def se(h:aC B w a g x c P T st)(C:dc BB x c st)(i:Nat)(hi:i<x.n)(hc:10<(sv st.T i).pc):E 237 #[↑x.l,J i] w (mr B w a g x c P T (aj c st i) (bo (sv st.T i) (sv (aj c st i).T i))):=by
  have hT:=h.thr hi;have J4:i<st.T.length:=by rw[h.lS];exact hi
  have HS:=qh (mj h i hi);have hn:=h.fx.n32;have Ko:=h.lk.lt;have Jx:=h.sp.lt;have t2:¬(i:Int)<0:=by omega
  obtain⟨p,hp⟩:=LE (sv st.T i);have hI:=(λW (k:aC B W a g x c P T st)=>E1 k C i hi p hp.symm);rw[<-hp]at hc HS hT;have HI:=qh (λW (k:aC B W a g x c P T st)=>hI W k hc);refine ajJ ?_;intro m hm HM e1 e2 q1 q2
  have HQ:Kq (bo p m.2.2.2=((m.2.2.2.pc==10)||(m.2.2.2.pc==0))):=qh (by
    unfold bo;simp only[q1,q2,ne_eq,not_false_eq_true,and_true,Bool.decide_or]
    rfl)
  have u1:(p.pc==0)=false:=by simpa using q1
  have u2:(p.pc==10)=false:=by simpa using q2
  have u3:decide (p.pc<10)=false:=by simp;omega
  obtain⟨s1,G1,L1,r⟩:=m;simp only at HQ e1;refine ajO ?_;intro HC HT H HX HR;clear hI h C hp hT hm e1 e2 q1 q2 hc J4;obtain⟨pc,u,b,z⟩:=p;obtain⟨I,Y,b',z'⟩:=r;simp only at u1 u2 u3 HQ HR;unfold aF at HS;have KE:=aM;cases v1:(I==10)<;>cases v2:(I==0)
  all_goals
    go_enter func237,ntmps237;go_wp2_with fail;refine Op HS.o λw1 b1=>?_;have K1:=qh (H.o.below b1.o.drew);have T1:=qh (aa.of_below (S:=CoS a g x) b1.o.drew);have JY:=b1.o.size;go_wp2_with fail
    go_region_held3 (λW=>Z W x.l 8 (slice (some ⟨x.qs,0,none⟩) x.n x.n))
      (first|with_reducible exact HC.o _ _ K1.o|with_reducible exact HC.o _ _ O.o|with_reducible exact HC.o _ _ V.o)
      (first
        | (go_at_call 243;go_loud (refine(HI.o _ K1.o).mono ?_);rintro en w3 ⟨he,k3,t3⟩;rw[HR.o]at he;subst he;rw[HX.o]at k3;have O:=qh k3;have T2:=qh (T1.o.trans t3);have V:=qh (O.o.put0 (p':=(⟨I,Y,b',z'⟩:Sp)) (Jp HT.o _) (u:= J I) rfl);have e1:=O.o.sp.cell (Jp HT.o _) 0 _ rfl;have z1:=O.o.sp.free (i*4);simp only[Nat.add_zero]at e1;clear k3 t3))
  all_goals have e4:=V.o.sp.cell (Jp (Jp HT.o _) _) 0 _ rfl;have SD:=HC.o _ _ V.o;simp only[Nat.add_zero]at e4;clear e1 z1;go_wp2;go_ret;refine⟨by rw[HQ.o,v1,v2];rfl,?_,T2.o.trans (tP _ _)⟩;have k:=V.o;rw[show(({s:=s1,G:=G1,L:=L1,T:=(st.T.set i {(⟨I,Y,b',z'⟩:Sp)with pc:=pc}).set i ⟨I,Y,b',z'⟩}:Co))=iF st i (s1,G1,L1,⟨I,Y,b',z'⟩)from by unfold iF;simp]at k;exact k
def mn(h:aC B w a g x c P T st)(C:dc BB x c st)(i:Nat)(hi:i<x.n):E 237 #[↑x.l,J i] w (mr B w a g x c P T (aj c st i) (bo (sv st.T i) (sv (aj c st i).T i))):=by
  have I:=C.v.k i hi;by_cases H:(sv st.T i).pc=0\/(sv st.T i).pc=10;. exact Af h i hi H
  by_cases h1:(sv st.T i).pc<10;. exact uw h C i hi (by unfold di at I;omega)
  . exact se h C i hi ahE
def rQ(h:aC B w a g x c P T st)(i:Nat)(hi:i<x.n):E 233 #[↑x.l,J i] w (mr B w a g x c P T (bz c st i) (decide ((sv st.T i).pc=0))):=by
  obtain⟨y,v,S,hy,O,hS,hs,Jr⟩:=h.loc hi;have hT:=h.thr hi;have e0:=ST (h.sp.cell hT 0 _ rfl);have hn:=h.fx.n32;have c8:=CoN.spots h;have Ko:=h.lk.lt;have Jx:=h.sp.lt;have t2:¬(i:Int)<0:=by omega
  have HH:=qh (Es h i hi);have KT:=qh (oz h i hi hy O);have Kv:=qh (λw1 (b1:Below w.heap.size w w1)=>CoN.mk' h b1 y v);have HA:=qh (λW (k:aC B W a g x c P T st)=>CV k i hi hy);have H:=qh h;obtain⟨Ps,I⟩:=LE (bz c st i);rw[<-I];unfold bz at I;obtain⟨L1,UP⟩:=LE (setL c st i (askK c.kl (lsp st.L (c.node i) (c.slot i))));rw[<-UP]at I HA;obtain⟨p,hp⟩:=LE (sv st.T i);rw[<-hp]at I e0 hT ⊢;have HT:=qh hT;have HE:=qh I;clear h hy O hS hs Jr hp UP I hT;obtain⟨pc,u,b,z⟩:=p;simp only at HE;by_cases Y:pc=0;. subst Y;go_enter func233,ntmps233;go_wp2_with fail;refine LT HH.o ?_;go_wp2_with fail;refine Op KT.o λw1 b1=>?_;have N1:=qh (Kv.o w1 b1.o);have JY:=b1.o.size;have k0:=N1.o.n0;go_wp2_with fail;refine(HA.o _ N1.o.is).mono ?_;rintro en w2 ⟨⟨bb,rfl⟩,k2,Kf⟩;have V:=qh (N1.o.to k2 Kf);have SD:=CoN.spots V.o.is;have e2:=ST (V.o.is.sp.cell HT.o 0 _ rfl);have z2:=V.o.is.sp.free (i*4);clear k2 Kf k0;have N3:=qh (V.o.is.put0 (p':=(⟨1,u,b,z⟩:Sp)) HT.o (u:= J 1) rfl);have T3:=qh (V.o.tn.trans (tP (a:=a) (g:=g) (x:=x) (w:=w2) (i*4) (J 1)));go_wp2;go_ret;refine⟨rfl,?_,T3.o⟩;rw[HE.o];exact N3.o
  . have u1:(pc !=0)=true:=(by simpa using Y);have e9:decide (pc=0)=false:=(by simpa using Y);show Calls _ _ _ _ (mr B w a g x c P T Ps (decide (pc=0)));rw[e9];go_enter func233,ntmps233;go_wp2_with fail;refine LT HH.o ?_;go_wp2;go_ret;refine⟨rfl,?_,aa.refl _ _⟩;rw[HE.o,if_neg Y];exact H.o
def kT(h:aC B w a g x c P T st)(i:Nat)(hi:i<x.n):E 235 #[↑x.l,J i] w (mr B w a g x c P T (az st i) (decide ((sv st.T i).pc=10))):=by
  have hT:=h.thr hi;have hn:=h.fx.n32;have t2:¬(i:Int)<0:=by omega
  have V:=qh (mj h i hi);have H:=qh h;obtain⟨Ps,I⟩:=LE (az st i);rw[<-I];unfold az at I;obtain⟨p,hp⟩:=LE (sv st.T i);rw[<-hp]at I hT V ⊢;have HT:=qh hT;have HE:=qh I;clear h hp I hT;obtain⟨pc,u,b,z⟩:=p;simp only at HE;unfold aF at V;have KE:=aM;by_cases O:pc=10;. subst O;go_enter func235,ntmps235;go_wp2_with fail;refine Op V.o λw1 b1=>?_;have Y:=qh (H.o.below b1.o);have T1:=qh (aa.of_below (S:=CoS a g x) b1.o);have SD:=CoN.spots Y.o;have e2:=ST (Y.o.sp.cell HT.o 0 _ rfl);have z2:=Y.o.sp.free (i*4);have N3:=qh (Y.o.put0 (p':=(⟨11,u,b,z⟩:Sp)) HT.o (u:= J 11) rfl);have T3:=qh (T1.o.trans (tP (a:=a) (g:=g) (x:=x) (w:=w1) (i*4) (J 11)));go_wp2;go_ret;refine⟨rfl,?_,T3.o⟩;rw[HE.o];exact N3.o
  . have u1:(pc !=10)=true:=(by simpa using O);have e9:decide (pc=10)=false:=(by simpa using O);show Calls _ _ _ _ (mr B w a g x c P T Ps (decide (pc=10)));rw[e9];go_enter func235,ntmps235;go_wp2_with fail;refine Op V.o λw1 HB=>?_;go_wp2;go_ret;refine⟨rfl,?_,aa.of_below HB.o⟩;rw[HE.o,if_neg O];exact H.o.below HB.o
end
end
end Go.Proofs.YtglokdbiggbkjaaGreat
