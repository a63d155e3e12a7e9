/- Joined texts: what stands in several places. -/
import Derived.Test.YtglokdbiggbkjaaGreatRows
import Derived.WalkKit
import Derived.ProofKit
import Derived.ChangeOld
import Derived.WalkSpells
import Derived.WalkLawsBesides
import Derived.Below
import Derived.Outline
import Derived.Lib.Hide
import Derived.Deep.QuietTactic
import Derived.BigQuiet
import Derived.Deep.Draws
import Derived.Maps.OwnSet
import Derived.Maps.OwnOps
import Derived.OpenShut
import Derived.Deep.Slices
import Derived.Deep.Fields
import Derived.ChangeSame
import Derived.Carry
import GoSem.Core.View
import Derived.RegionCalls
import Derived.StillTailTactics
import Derived.Laws.LoneSync
import Derived.Laws.OwnMore
import Derived.OwnWalk
import Derived.Deep.RegionHeld3
import Derived.Handy
import Derived.Laws.Externs
import Derived.IntWalk
import Derived.Tactics
import Derived.Laws.BitsAllLaws
import Derived.Maps.AppendAt
import Derived.Deep.DeepCutAuto
import Derived.Tactics2
import Derived.Defers
import Derived.Laws.Pointers
import Derived.RegionTactic
import Derived.ChangeAlike
import Derived.Deep.RegionLaw
import Derived.Deep.AppendLies
import Derived.Laws.EntriesVeiled
import Derived.BigRegion
import Derived.Laws.MakeOwn
import Derived.ScopeJumps
import Derived.WalkMore
import Derived.Laws.CopyOwn
import Derived.RowKit
import Derived.Laws.Strings
import Derived.WideShapes
set_option linter.unusedVariables false
set_option linter.defProp false
open Go.Proofs.Tryz
namespace Go.Proofs.YtglokdbiggbkjaaGreat
open Go.IntKind(i64)
open Go.Value(int bool slice agg tuple pointer)
open Go.Ending(returned)
open Go.Obj(cells)
structure Kq(Q:Prop):Prop where
 o:Q
theorem qh{Q:Prop}(h:Q):Kq Q:=⟨h⟩
instance:Coe Nat Go.Addr:=⟨λa=>⟨a,0,none⟩⟩
instance:Coe Nat Go.Value:=⟨λa=>.pointer (some ⟨a,0,none⟩)⟩
structure akl where
structure akn where
structure akm(w:World)(b i:Nat)(v:Value) where
instance:CoeFun akl λ_=>Int->Value:=⟨λ_=>.int .i64⟩
instance:CoeFun akn λ_=>FuncId->Array Value->World->(Ending->World->Prop)->Prop:=⟨λ_=>Calls Tryz.prog⟩
instance{w b i v}:CoeSort (akm w b i v) Prop:=⟨λ_=>w.cell? ⟨b,i,none⟩=some v⟩
instance{w b i v}:CoeOut (akm w b i v) Prop:=⟨λ_=>w.cell? ⟨b,i,none⟩=some v⟩
def J:akl:=⟨⟩
def E:akn:=⟨⟩
def Z(w:World)(b i:Nat)(v:Value):akm w b i v:=⟨⟩
variable{P Q:Prop}
def ahE(h:P:=by omega):P:=h
def ahF(h:P:=by simp):P:=h
def ahG(h:P:=by decide):P:=h
def ahI(h:P:=by rfl):P:=h
def ahP(h:P:=by exact H3.o.2.1.set4):P:=h
def ahH(h:P:=by kernel_rfl):P:=h
def aiq(h:P:=by show w.heap.size<=w1.heap.size;omega):P:=h
def ahV(h:P:=by have:=HM.o;omega):P:=h
def aiI(h:P:=by exact((((H2.o.2.set_ 0 _).set_ 1 _).set_ 2 _).set_ 3 _)):P:=h
def ahW(h:P:=by assumption):P:=h
def aiJ(h:P:=by have:=HI.o;have:=HS.o;unfold BnB at *;simp only;omega):P:=h
def aib(h:P:=by have:=HI.o;unfold BnB at *;simp only at *;omega):P:=h
def ah1(h:P:=by have:=HI.o;have:=HV.o;unfold BnB at *;simp only at *;omega):P:=h
def ahJ(h:P:=by simp;omega):P:=h
def ah2(h:P:=by simp[maP,fi,dw]):P:=h
def aiK(h:P:=by rw[O];simp[maP,fi,dw,(by simpa using h0:¬ldW h.ar.W (1+2*((i:Int)+1))=0)]):P:=h
def aiL(h:P:=by rw[O];simp[maP,fi,dw,(by simpa using h0:ldW h.ar.W (1+2*((i:Int)+1))=0)]):P:=h
def aig(h:P:=by simp[maP,dw,<-HF.o,<-HR.o]):P:=h
def ahT(h:P:=by simpa using e):P:=h
def aih(h:P:=by simp at z0 z1;simp[z0,z1]):P:=h
def aii(h:P:=by simp at z1;simp[z1]):P:=h
def aij(h:P:=by simp at z0;simp[z0]):P:=h
def aic(h:P:=by rw[h.sl];exact hi):P:=h
def ah6(h:P:=by simp[Value.oneCell']):P:=h
def aik(h:P:=by simp[List.mem_of_getElem? hu]):P:=h
def ail(h:P:=by simp[K4.o.sl,hin]):P:=h
def ahQ(h:P:=by rw[hv,O];rfl):P:=h
def ahL(h:P:=by simpa using hc):P:=h
def ahX(h:P:=by rw[hv];rfl):P:=h
def ahU(h:P:=by simpa using hd):P:=h
def aid(h:P:=by have:=hk.le;omega):P:=h
def aim(h:P:=by first|exact λk _=>rfl|exact λk hk=>eu _ hk):P:=h
def air(h:P:=by first|exact .inl rfl|(right;omega)):P:=h
def ahS(h:P:=by dsimp only;omega):P:=h
def ait(h:P:=by first|exact .inl (λ_=>rfl)|exact .inr ⟨⟨_,λk hk=>eu _ hk⟩,rfl⟩):P:=h
def aiM(h:P:=by first|exact .inl (by dsimp only;omega)|exact .inr (.inl ⟨by dsimp only;omega,by rw[gI];simp⟩)|exact .inr (.inr ⟨by omega,by dsimp only;omega,rfl⟩)):P:=h
def ahY(h:P:=by rw[hz];omega):P:=h
def ah7(h:P:=by unfold cO;simp):P:=h
def aiu(h:P:=by show(af _ _).W.length=_;rw[aP]):P:=h
def aiv(h:P:=by show(ae _ _ _).W.length=_;rw[aw,bI]):P:=h
def aiw(h:P:=by intro e;rw[<-e]at hn;simp at hn):P:=h
def aiN(h:P:=by intro i hi;simp at hi;rcases hi with rfl|rfl|rfl<;>first|(rw[h.fx.oa];omega)|(rw[h.fx.og];omega)|(rw[hq];omega)):P:=h
def aie(h:P:=by unfold CoS;simp):P:=h
def ahN(h:P:=by have:=HO.o;simp;omega):P:=h
def aiO(h:P:=by have:=HO.o;have:=H7.o.2.1;have:=T6.o.size;simp;omega):P:=h
def ah8(h:P:=by simpa using hi):P:=h
def ahZ(h:P:=by unfold bdF;omega):P:=h
def ah9(h:P:=by simp[HL.o]):P:=h
def aif(h:P:=by simpa using hm):P:=h
def aiP(h:P:=by first|exact λk _=>rfl|exact λk hk=>eu _ (by rw[hx];exact hk)):P:=h
def ah0(h:P:=by push_cast;omega):P:=h
def aiQ(h:P:=by show ¬((11:Int)=10\/(11:Int)=15\/(11:Int)=16);decide):P:=h
def aiR(h:P:=by have:=(List.getElem?_eq_some_iff.1 HP.o).1;simp[this]):P:=h
def ah3(h:P:=by simpa using hz):P:=h
def aix(h:P:=by rw[O];first|rfl|(unfold eB;simp)):P:=h
def ain(h:P:=by show((eI m _ _ _ _).S.set n _)[n]? =_;rw[rE];exact H.o.gt hn _):P:=h
def aiy(h:P:=by rw[HG.o.1,HG.o.2 _ H4.o.2.2,<-HZ.o];exact ur _ f1 f2):P:=h
def aiz(h:P:=by rw[HE.o,if_neg ne,if_pos e1]):P:=h
def aiA(h:P:=by rw[HG.o.1,HG.o.2 _ H4.o.2.2,<-HZ.o];exact uq h0 f2):P:=h
def aiB(h:P:=by rw[HG.o.1,HG.o.2 _ H4.o.2.2,<-HZ.o];exact un h0 f1):P:=h
def aiC(h:P:=by rw[HE.o,if_neg ne,if_neg e1,if_pos e2]):P:=h
def aiD(h:P:=by rw[HE.o,if_neg ne,if_neg e1,if_neg e2]):P:=h
def ah4(h:P:=by have:=HO.o;omega):P:=h
def aiE(h:P:=by have:=k.2;rw[Jy]at this;exact this):P:=h
def ahO(h:P:=by first|exact bS u0 u1 v1|exact bU u0 u1 v2|exact bV u0 u1 v1 v2|(rw[HP0.o];rfl)|rfl|(rw[HP0.o];decide)|decide|exact bQ HV.o):P:=h
def ahK(h:P:=by rw[<-hp];rfl):P:=h
def ahM(h:P:=by have:=(bD ha).2;omega):P:=h
def aiF(h:P:=by have:=l.tg;unfold nuFl at hq;omega):P:=h
def ahR(h:P:=by rw[<-hp]):P:=h
def aia(h:P:=by rw[hl];omega):P:=h
def aio(h:P:=by show ldW (af _ _).W _=_;rw[eL]):P:=h
def aiG(h:P:=by rw[h.nT.1,h.nT.2.1];exact hk.w):P:=h
def aip(h:P:=by intro i hi;simp at hi ⊢;omega):P:=h
def aiS(h:P:=by intro i hi;simp at hi ⊢;rcases hi with rfl|rfl<;>simp):P:=h
def aiH(h:P:=by exact(HE.o.2.set_ 0 _).set_ 1 _):P:=h
def ah5(h:P:=by show w.heap.size<=w.heap.size+2;omega):P:=h
def LE{α}(a:α):∃x,x=a:=⟨a,rfl⟩
def LT{G R C:Prop}(t:C)(q:R)(h:C->(R)->G:=by intro t_ q_;refine t_.mono ?_;rintro en w_ ⟨rfl,rfl⟩;exact q_):G:=h t q
def Op{G C:Prop}{Q T:World->Prop}(t:C)(q:∀w,Kq (Q w)->T w)(h:C->(∀w,Kq (Q w)->T w)->G:=by intro t_ q_;refine t_.mono ?_;rintro en w_ ⟨rfl,k_⟩;exact q_ w_ (qh k_)):G:=h t q
def Pi{G C:Prop}{Q0 T:World->Prop}(t:C)(q:∀w,Q0 w->T w)(h:C->(∀w,Q0 w->T w)->G:=by intro t_ q_;refine t_.mono ?_;rintro en w_ ⟨rfl,k0_⟩;exact q_ w_ k0_):G:=h t q
def ST{w:World}{q k:Nat}{v}(h:w.cell? ⟨q,k+0,none⟩=v):w.cell? ⟨q,k,none⟩=v:=h
def abH(h:P:=by exact⟨rfl,rfl⟩):P:=h
def ahD(h:P:=by go_ret;exact abH):P:=h
def aaa(h:P:=by go_wp2;exact ahD):P:=h
def ahC(h:P:=by
 rcases q with q|q
 .simp only at q;split at q<;>simp at q
 .exact absurd hi q):P:=h
def aab(h:P:=by refine⟨hS.1,hS.2,λq=>?_⟩;exact ahC):P:=h
def aac(h:P:=by exact⟨nil.1,nil.2,λ_=>rfl⟩):P:=h
def ahB(h:P:=by refine LT HT.o ?_;exact aaa):P:=h
def aad(h:P:=by go_wp2_with fail;exact ahB):P:=h
def ahA(h:P:=by rintro en w1 ⟨⟨v,rfl⟩,k1⟩;have K:=qh k1;clear k1;go_wp2;go_ret;exact⟨⟨_,rfl⟩,K.o⟩):P:=h
def ahz(h:P:=by refine H.o.mono ?_;exact ahA):P:=h
def aae(h:P:=by go_wp2_with fail;exact ahz):P:=h
def ahy(h:P:=by exact⟨rfl,K2.o.put (b':=⟨4,x,m,g⟩) 3 rfl aib⟩):P:=h
def ahx(h:P:=by rw[HX.o];exact ahy):P:=h
def ahw(h:P:=by go_ret;exact ahx):P:=h
def ahv(h:P:=by go_wp2;exact ahw):P:=h
def ahu(h:P:=by have z3:=K2.o.is.blk.free 3;exact ahv):P:=h
def aht(h:P:=by have e3:=K2.o.is.cs;exact ahu):P:=h
def ahs(h:P:=by
 go_region_held3 (λW=>W.cell? c.k=some ↑c.a/\Z W c.k 4 (J x))
  (first|with_reducible exact HC.o _ _ _ K1.o rfl|with_reducible exact HC.o _ _ _ K2.o rfl)
  (first
   |(go_at_call 177;go_loud (refine(HO.o _ K1.o).mono ?_);rintro en w3 ⟨rfl,a3,t3⟩;have K2:=qh (K1.o.op t3 a3);skip;clear a3 t3))
 exact aht):P:=h
def aaf(h:P:=by go_wp2_with fail;exact ahs):P:=h
def ahr(h:P:=by exact⟨bZ ahE,rfl⟩):P:=h
def ahq(h:P:=by go_ret;exact ahr):P:=h
def aag(h:P:=by go_wp2;exact ahq):P:=h
def aah(h:P:=by go_wp2_with fail;refine Op H.o λw1 H1=>?_;go_wp2;go_ret;exact⟨rfl,H1.o⟩):P:=h
def ahp(h:P:=by have:=(List.getElem?_eq_some_iff.1 hp).1;rw[if_pos rfl,if_pos this,hp]):P:=h
def aho(h:P:=by subst e;exact ahp):P:=h
def ahn(h:P:=by
 by_cases e:i=j;.exact aho
 .rw[if_neg e]):P:=h
def ahm(h:P:=by rw[List.getElem?_set];exact ahn):P:=h
def ahl(h:P:=by intro j;exact ahm):P:=h
def aai(h:P:=by apply List.ext_getElem?;exact ahl):P:=h
def ahk(h:P:=by exact⟨rfl,(HK.o.1.below B1.o).below ((Below.refl _ _).alloc (Nat.le_refl _) _)⟩):P:=h
def ahj(h:P:=by rw[HX.o];exact ahk):P:=h
def ahi(h:P:=by go_ret;exact ahj):P:=h
def ahh(h:P:=by go_wp2;exact ahi):P:=h
def ahg(h:P:=by refine Op Ll.o λw1 B1=>?_;exact ahh):P:=h
def ahf(h:P:=by go_wp2_with fail;exact ahg):P:=h
def ahe(h:P:=by go_enter func333,ntmps333;exact ahf):P:=h
def aaj(h:P:=by clear h0 e0;exact ahe):P:=h
def ahd(h:P:=by go_ret;rw[HX.o];exact⟨aA HD.o.symm,H2.o⟩):P:=h
def aak(h:P:=by go_wp2;exact ahd):P:=h
def aal(h:P:=by go_enter func304,ntmps304;go_wp2;go_ret2;exact abH):P:=h
def ahc(h:P:=by go_quiet (fail);go_wp2;go_ret;exact⟨by rw[HV.o];rfl,Qt.below ⟨_,rfl⟩ _⟩):P:=h
def aam(h:P:=by go_wp2;exact ahc):P:=h
def aan(h:P:=by go_wp2;go_ret;exact⟨rfl,B1.o⟩):P:=h
def aao(h:P:=by rw[if_pos (decide_eq_true ahE),show((k:Int)+1).toNat-1=k by omega]):P:=h
def ahb(h:P:=by exact⟨aA (by rw[<-HB.o];symm;exact decide_eq_false ahE),rfl⟩):P:=h
def aha(h:P:=by go_ret;exact ahb):P:=h
def aap(h:P:=by go_wp2;exact aha):P:=h
def ag9(h:P:=by rw[List.getD_eq_getElem?_getD,List.getElem?_eq_getElem this];rfl):P:=h
def aaq(h:P:=by unfold sv;exact ag9):P:=h
def aar(h:P:=by have:b≠i:=λe=>hk k (e ▸ List.mem_of_mem_tail I);unfold HLk;rw[cf this];exact JD):P:=h
def aas(h:P:=by
 cases hn:P.length with
 |zero=>rfl
 |succ n=>unfold upF;rw[if_neg ahE]):P:=h
def ag8(h:P:=by exact⟨h.ok,AP,cP,AT,cT,vU,vN,vS,vM,us,h1,h2.1,h3.1,h4.1,h5.1,h6.1,h7.1,h8,λi x v a c=>(h9 i x v a c).1⟩):P:=h
def aat(h:P:=by obtain⟨AP,cP,AT,cT,vU,vN,vS,vM,us,h1,h2,h3,h4,h5,h6,h7,h8,h9⟩:=h.ex;exact ag8):P:=h
def aau(h:P:=by go_enter func171,ntmps171;exact aaa):P:=h
def aav(h:P:=by go_enter func135,ntmps135;go_wp2_with fail;refine LT H.o ?_;exact aaa):P:=h
def ag7(h:P:=by rcases this with e|e|e|e<;>simp[e]):P:=h
def ag6(h:P:=by
 have:i%4=0\/i%4=1\/i%4=2\/i%4=3:=by omega
 exact ag7):P:=h
def ag5(h:P:=by rw[List.getElem?_range h,if_pos h];exact ag6):P:=h
def ag4(h:P:=by
 by_cases h:i<n;.exact ag5
 .rw[if_neg h];simp;omega):P:=h
def ag3(h:P:=by rw[List.getElem?_map,List.getElem?_replicate];exact ag4):P:=h
def ag2(h:P:=by refine List.ext_getElem? λi=>?_;exact ag3):P:=h
def ag1(h:P:=by rw[Array.toList_map,Array.toList_range];exact ag2):P:=h
def aaw(h:P:=by unfold madeCells;exact ag1):P:=h
def aax(h:P:=by
 induction n with
 |zero=>rfl
 |succ n ih=>rw[List.replicate_succ,List.flatMap_cons,ih,show(n+1)*4=4+n*4 by omega,<-List.replicate_append_replicate];rfl):P:=h
def ag0(h:P:=by show(ay P P.length).length<=32;omega):P:=h
def aay(h:P:=by have:=a7 P P.length;exact ag0):P:=h
def aa2(h:P:=by rw[e]at this;exact this):P:=h
def agZ(h:P:=by have e:(madeCells #[Value.int .i64 0,J 0,J 0,J 0] (T.length*4)).toList=List.replicate (T.length*4) (J 0):=jF _ _;exact aa2):P:=h
def agY(h:P:=by have:=fU r';exact agZ):P:=h
def agX(h:P:=by rw[lY];exact agY):P:=h
def aaz(h:P:=by unfold dy;exact agX):P:=h
def aaA(h:P:=by rw[decide_eq_true c];symm;exact decide_eq_true ahE):P:=h
def aaB(h:P:=by rw[decide_eq_false c];symm;exact decide_eq_false ahE):P:=h
def aaC(h:P:=by show(sv st.S i).pc=10↔0<(if (sv st.S i).pc=10 then(1:Int)else 0);split<;>simp[*]):P:=h
def agW(h:P:=by obtain⟨he,h1,h2⟩:=hR.to (λr w' q=>⟨q.1,q.2⟩);exact⟨he,⟨h1,hc,hd.own h2⟩,h2⟩):P:=h
def aaD(h:P:=by intro e w' hR;exact agW):P:=h
def agV(h:P:=by exact⟨by simp,k.below bw,aa.of_below bw⟩):P:=h
def aaE(h:P:=by subst V;exact agV):P:=h
def aaF(h:P:=by exact⟨rfl,H.o,aa.refl _ _⟩):P:=h
def agU(h:P:=by go_wp2_with (go_at_call 421;refine HT.o.mono ?_;rintro e w' ⟨rfl,k1,t1⟩;have HK:=qh (And.intro k1 t1);clear k1 t1);go_ret;exact mZ):P:=h
def aaG(h:P:=by go_wp2_with (go_at_call 419;refine(eg _ _).mono ?_;rintro e w' ⟨rfl,rfl⟩);exact agU):P:=h
def aaH(h:P:=by rw[decide_eq_false h,decide_eq_false (λk=>by rcases k.1 with k|k<;>contradiction)]):P:=h
def agT(h:P:=by go_wp2_with fail;refine Op HL.o λw2 H2=>?_;go_wp2;go_ret;exact⟨rfl,H2.o⟩):P:=h
def agR(h:P:=by go_wp2_with (go_at_call 434;refine(bE .parted K0.o i hi).mono ?_;rintro e w' ⟨rfl,rfl⟩);exact agT):P:=h
def agQ(h:P:=by go_enter func431,ntmps431;exact agR):P:=h
def agP(h:P:=by clear h hp;exact agQ):P:=h
def aaI(h:P:=by have K0:=qh h;exact agP):P:=h
def aaJ(h:P:=by
 split;.omega
 split<;>omega):P:=h
def aaK(h:P:=by rw[List.getD_eq_getElem?_getD,List.getElem?_eq_getElem h1];exact List.getElem_mem h1):P:=h
def aaL(h:P:=by exact h.upd0 hI hi _ h.g rfl (lk _ ahF _ (Lb ahG ahG ahG))):P:=h
def aaM(h:P:=by refine h.upd0 hI hi _ h.g rfl (lk _ ?_ _ (Lb ahG ahG ahG));simp only;split<;>simp):P:=h
def agO(h:P:=by exact absurd (by rw[e1,e2]) (h.ne i j hi hj e (.inr (.inl h1)) (.inr (.inl h2)))):P:=h
def agN(h:P:=by
 by_cases e:i=j;.exact e
 .exact agO):P:=h
def agM(h:P:=by have e2:=(h.hd j hj (.inl h2)).1;exact agN):P:=h
def aaN(h:P:=by have e1:=(h.hd i hi (.inl h1)).1;exact agM):P:=h
def agK(h:P:=by
 rcases h1 with h1|h1
 .exact .inl ((kc j).1 h1)
 .exact .inr ((kc j).2 h1)):P:=h
def agL(h:P:=by
 rcases h2 with h2|h2
 .exact .inl ((kc k).1 h2)
 .exact .inr ((kc k).2 h2)):P:=h
def agJ(h:P:=by
 refine h.ne j k hj hk hn ?_ ?_;.exact agK
 .exact agL):P:=h
def aaO(h:P:=by rw[JU,JU];exact agJ):P:=h
def agI(h:P:=by
 split;.rw[ha];omega
 .rename_i e;rw[if_neg e]at hc;have:=h.w j hj hc;omega):P:=h
def aaP(h:P:=by rw[hs]at hc ⊢;exact agI):P:=h
def agr(h:P:=by rename_i e;rw[if_pos e]at hc;omega):P:=h
def agH(h:P:=by
 split;.exact agr
 .rename_i e;rw[if_neg e]at hc;have:=h.hd j hj hc;omega):P:=h
def aaQ(h:P:=by rw[hs]at hc ⊢;exact agH):P:=h
def agA(h:P:=by
 rcases hc with hc|hc
 .exact(h.w j hj hc).2
 .exact(h.hd j hj hc).2):P:=h
def agG(h:P:=by rw[if_neg e2]at h2;rw[if_neg e1,if_neg e2];exact h.ne j k hj hk hn h1 h2):P:=h
def agF(h:P:=by rw[if_neg e1]at h1;exact agG):P:=h
def agE(h:P:=by
 by_cases e1:j=i<;>by_cases e2:k=i;.omega
 .rw[if_neg e2]at h2;rw[if_pos e1,if_neg e2,ha];have:=lt k hk h2;omega
 .rw[if_neg e1]at h1;rw[if_neg e1,if_pos e2,ha];have:=lt j hj h1;omega
 .exact agF):P:=h
def agD(h:P:=by rw[hs,hs];exact agE):P:=h
def agC(h:P:=by rw[hs]at h2;exact agD):P:=h
def agB(h:P:=by rw[hs]at h1;exact agC):P:=h
def aaR(h:P:=by
 have lt:∀j,j<n->((σ j).pc=2\/(σ j).pc=10\/(σ j).pc=11)->(σ j).a<f t:=λj hj hc=>by exact agA
 exact agB):P:=h
def agz(h:P:=by
 rw[hs]at hc;split at hc;.rename_i e;subst e;omega
 .exact h.hd j hj hc):P:=h
def aaS(h:P:=by rw[JU];exact agz):P:=h
def agy(h:P:=by rename_i e;subst e;exact .inl h2):P:=h
def agw(h:P:=by
 rw[hs]at h1;split at h1;.exact agy
 .exact h1):P:=h
def agx(h:P:=by
 rw[hs]at h3;split at h3;.exact agy
 .exact h3):P:=h
def agv(h:P:=by
 refine h.ne j k hj hk hn ?_ ?_;.exact agw
 .exact agx):P:=h
def aaT(h:P:=by rw[JU,JU];exact agv):P:=h
def agu(h:P:=by have a1:=h.w j hj hc;have a2:=h.ne j i hj hi e (.inl hc) (.inr (.inr h1));omega):P:=h
def agt(h:P:=by rw[if_neg e]at hc;exact agu):P:=h
def ags(h:P:=by rename_i e;exact agt):P:=h
def agq(h:P:=by
 split;.exact agr
 .exact ags):P:=h
def aaU(h:P:=by rw[hs]at hc ⊢;exact agq):P:=h
def agp(h:P:=by have a1:=h.hd j hj hc;have a2:=h.ne j i hj hi e (.inr hc) (.inr (.inr h1));omega):P:=h
def ago(h:P:=by rename_i e;exact agp):P:=h
def agn(h:P:=by
 split at hc;.omega
 .exact ago):P:=h
def aaV(h:P:=by rw[hs]at hc;exact agn):P:=h
def agm(h:P:=by
 split at h3;.omega
 rename_i e1 e2;rw[if_neg e1,if_neg e2];exact h.ne j k hj hk hn h2 h3):P:=h
def agl(h:P:=by
 split at h2;.omega
 exact agm):P:=h
def agk(h:P:=by rw[hs,hs];exact agl):P:=h
def agj(h:P:=by rw[hs]at h3;exact agk):P:=h
def aaW(h:P:=by rw[hs]at h2;exact agj):P:=h
def aaY(h:P:=by refine⟨?_,λy=>?_,λy=>?_⟩<;>grind):P:=h
def aaX(h:P:=by simp only[funext_iff,updF,fN,fW,hf,mNx,mWt];exact aaY):P:=h
def aaZ(h:P:=by
 rcases hp with⟨h1,h2⟩|⟨h1,h2⟩
 .exact tk.own hi he ahE (λ_ _=>rfl) (.inl rfl)
 .exact tk.low hi he (.inl ahE) ahG (λ_ _=>rfl)):P:=h
def aa0(h:P:=by exact⟨jS hl h.i,λ_ _=>rfl⟩):P:=h
def aa1(h:P:=by go_enter func176,ntmps176;exact aaa):P:=h
def aa3(h:P:=by rw[World.cell?_of_block (w:=w) (w':=w') (a:=p) (k.block p.block (aT h) hS)];exact h):P:=h
def aa4(h:P:=by
 unfold szK;split;.omega
 split;.omega
 exact aaJ):P:=h
def aa5(h:P:=by clear h h1;exact aa1):P:=h
def aa6(h:P:=by obtain⟨x,hx⟩:=ak (show 0<T.length by omega);exact List.length_pos_of_mem (jo (aQ hc).2.2.2 hx)):P:=h
def aa9(h:P:=by rw[List.getD_eq_getElem?_getD,List.getElem?_replicate];split<;>rfl):P:=h
def aa7(h:P:=by unfold sv;exact aa9):P:=h
def agi(h:P:=by exact⟨he,⟨h1,⟨rfl,rfl,hc⟩,hd.own h2,hp,hl⟩,h2⟩):P:=h
def agh(h:P:=by obtain⟨he,h1,h2⟩:=hR.to (λr w' q=>⟨q.1,q.2⟩);exact agi):P:=h
def aa8(h:P:=by intro e w' hR;exact agh):P:=h
def age(h:P:=by rw[if_pos ⟨this,e⟩,if_pos e];exact⟨rfl,(decide_eq_true e).symm⟩):P:=h
def agf(h:P:=by rw[if_neg (λq=>e q.2),if_neg e];exact⟨rfl,(decide_eq_false e).symm⟩):P:=h
def agd(h:P:=by
 by_cases e:(sv st.S i).pc=u;.exact age
 .exact agf):P:=h
def aba(h:P:=by have:okI st.S i:=⟨by omega,by omega⟩;exact agd):P:=h
def abb(h:P:=by show false=decide (((sv st.S i).pc=10\/(sv st.S i).pc=0)/\(sv st.S i).pc≠0/\(sv st.S i).pc≠10);exact(decide_eq_false ahE).symm):P:=h
def agc(h:P:=by
 show kP (sv (st.S.set i _) j);rw[fZ hl];split;.unfold kP;simp
 .exact hp j):P:=h
def abc(h:P:=by
 split;.exact agc
 .exact hp j):P:=h
def agb(h:P:=by exact⟨he,⟨h1,⟨rfl,rfl⟩,MN.own h2,hl,hh⟩,h2⟩):P:=h
def aga(h:P:=by obtain⟨he,h1,h2⟩:=hR.to (λr w' q=>⟨q.1,q.2⟩);exact agb):P:=h
def abd(h:P:=by intro e w' hR;exact aga):P:=h
def abe(h:P:=by have:=xd (h.1.below bw) (i:Int);rwa [gh (by rw[h.1.sl];exact hi)]at this):P:=h
def af9(h:P:=by exact⟨rfl,(hd.o _).put rfl,(aa.of_qt ⟨_,rfl⟩).trans (fw _ _ _)⟩):P:=h
def af8(h:P:=by rw[HT.o];exact af9):P:=h
def af7(h:P:=by go_ret;exact af8):P:=h
def af6(h:P:=by go_wp2;exact af7):P:=h
def af5(h:P:=by go_quiet ((go_at_call 329;exact bG (HI.o _ (hd.o _))));exact af6):P:=h
def af4(h:P:=by go_wp2_with fail;exact af5):P:=h
def abf(h:P:=by go_enter func327,ntmps327;exact af4):P:=h
def afH(h:P:=by exact⟨rfl,H1.o.1,H1.o.2⟩):P:=h
def af3(h:P:=by go_ret;exact afH):P:=h
def abg(h:P:=by go_wp2;exact af3):P:=h
def af2(h:P:=by go_enter func320,ntmps320;go_wp2;go_ret;exact⟨bZ HV.o.symm,rfl⟩):P:=h
def af1(h:P:=by clear O;exact af2):P:=h
def abh(h:P:=by have HV:=qh O;exact af1):P:=h
def af0(h:P:=by
 refine Code.wp_mono ?_ h;intro e a' w' hq;cases e with
 |goto l'=>exact hq.elim
 |_=>exact hq):P:=h
def abi(h:P:=by
 refine wp_scope_jumps l (λa' w'=>rest.wp P (Exit.noGoto Q) a' w') (λ_ _=>0) hf first λa w h=>?_
 exact af0):P:=h
def abj(h:P:=by
 by_cases ha:1<=a/\a<=m;.rw[gu (aR.2 ahE)];simp[ha]
 .unfold stW;rw[iO.2 ahE];simp[ha]):P:=h
def afZ(h:P:=by exact⟨he,⟨h1,hc,hd.own h2,hl⟩,h2⟩):P:=h
def afY(h:P:=by obtain⟨he,h1,h2⟩:=hR.to (λr w' q=>⟨q.1,q.2⟩);exact afZ):P:=h
def abk(h:P:=by intro e w' hR;exact afY):P:=h
def abl(h:P:=by have:=tL (h.1.below bw) (i:Int);rwa [gF (by rw[h.1.sl];exact hi)]at this):P:=h
def abm(h:P:=by
 split;.exact EW st i _ j (h3 j) (λe=>by simp only at e;omega)
 .exact h3 j):P:=h
def afX(h:P:=by exact⟨_,rfl,rfl,k2,(aa.of_below bw).trans t2⟩):P:=h
def abn(h:P:=by rintro e w' ⟨rfl,k2,t2⟩;exact afX):P:=h
def afW(h:P:=by exact⟨he,⟨h1,⟨rfl,rfl⟩,hd.own h2,hl⟩,h2⟩):P:=h
def afV(h:P:=by obtain⟨he,h1,h2⟩:=hR.to (λr w' q=>⟨q.1,q.2⟩);exact afW):P:=h
def abo(h:P:=by intro e w' hR;exact afV):P:=h
def abp(h:P:=by rintro e w' ⟨rfl,k2,t2⟩;exact⟨_,rfl,by simp,k2,(aa.of_below bw).trans t2⟩):P:=h
def abq(h:P:=by simp only[funext_iff,updF,rN,rS,qO wl];exact aaY):P:=h
def abr(h:P:=by first|grind [updF]|(intros;grind [updF])):P:=h
def abs(h:P:=by clear tk pcs z n2 tl l u4 nx u s14 s16 he;grind):P:=h
def abt(h:P:=by rw[e1,e2];exact⟨λv=>rt v ahE ahE,qP ahE ahE⟩):P:=h
def abu(h:P:=by rw[Jr,if_pos ⟨rfl,rfl⟩];exact⟨by show(11:Int)<=11;decide,by show(11:Int)<=14;decide⟩):P:=h
def abv(h:P:=by rw[MC k ahE ahE];exact I k hk):P:=h
def abw(h:P:=by
 by_cases e:k=c;.subst e;rw[<-KI,<-KV,Ju];exact e2
 .rw[MC k hk e];exact I k hk e):P:=h
def abx(h:P:=by
 cases hO:hb v s with
 |none=>have:=hx.fr v s O Pf hO;have Xz:(m.sp v s).pc=5:=e5;omega
 |some u=>exact⟨u,rfl⟩):P:=h
def aby(h:P:=by have l1:=hT.lv u k Lh hk;have l2:=hT.lv i c hi J7;rw[<-h1]at l1;rw[<-KI]at l2;omega):P:=h
def afU(h:P:=by exact⟨λh=>(by cases h),λh=>by omega⟩):P:=h
def afT(h:P:=by rw[<-KI,<-KV,fV];exact afU):P:=h
def abz(h:P:=by subst e;exact afT):P:=h
def afS(h:P:=by
 by_cases e:k=c;.exact abz
 .rw[fm (λe'=>Nc k hk e e'.1),o k hk];omega):P:=h
def abA(h:P:=by
 refine⟨_,nU hrel hT hi J7 (λk hk=>?_) λk hk=>?_⟩;.exact afS
 .exact abv):P:=h
def abB(h:P:=by unfold sv;rw[List.getD_eq_getElem?_getD,List.getElem?_replicate];split<;>rfl):P:=h
def afQ(h:P:=by rw[HR.o,HA.o];exact aaF):P:=h
def afP(h:P:=by unfold zi;exact afQ):P:=h
def abD(h:P:=by go_ret;exact afP):P:=h
def afR(h:P:=by go_wp2_with (go_at_call 255;refine(i5 H.o).mono ?_;rintro e w' ⟨rfl,rfl⟩);exact abD):P:=h
def abC(h:P:=by go_enter func250,ntmps250;exact afR):P:=h
def afO(h:P:=by exact⟨rfl,H3.o.1.put1c Le.o.1 (j:=0) ahG rfl,cZ H3.o.2 (q_mv x T) _ _⟩):P:=h
def afN(h:P:=by rw[HE.o];exact afO):P:=h
def afM(h:P:=by unfold VD;exact afN):P:=h
def afL(h:P:=by go_end0;exact afM):P:=h
def abE(h:P:=by go_wp2;exact afL):P:=h
def abF(h:P:=by apply Classical.byContradiction;intro hn;rw[dz hn]at i';rw[i']at h10;exact absurd h10 ahG):P:=h
def afK(h:P:=by rw[<-HP.o];unfold aF;have HB:=qh b1;clear b1;go_wp2;go_ret;exact HF.o _ HB.o):P:=h
def afJ(h:P:=by refine Pi (jM H.o i) λw1 b1=>?_;exact afK):P:=h
def afI(h:P:=by go_wp2_with fail;exact afJ):P:=h
def abG(h:P:=by go_enter func254,ntmps254;exact afI):P:=h
def afG(h:P:=by refine Op HA.o λw1 H1=>?_;clear HA;go_wp2;go_end0;exact afH):P:=h
def abI(h:P:=by go_wp2_with fail;exact afG):P:=h
def afF(h:P:=by clear HA;exact abg):P:=h
def afE(h:P:=by refine Op HA.o λw1 H1=>?_;exact afF):P:=h
def abJ(h:P:=by go_wp2_with fail;exact afE):P:=h
def abK(h:P:=by exact⟨rfl,K2.o,T2.o⟩):P:=h
def afD(h:P:=by refine Op HF.o λw2 H2=>?_;go_wp2;go_ret;rw[HX.o];exact⟨rfl,H2.o⟩):P:=h
def afC(h:P:=by go_wp2_with fail;exact afD):P:=h
def afB(h:P:=by refine LT HB.o ?_;exact afC):P:=h
def afA(h:P:=by go_wp2_with fail;exact afB):P:=h
def afz(h:P:=by go_enter func374,ntmps374;exact afA):P:=h
def afy(h:P:=by clear h I Jx;exact afz):P:=h
def abL(h:P:=by rw[Jx]at c5;exact afy):P:=h
def afx(h:P:=by exact⟨congrArg (λb=>Ending.returned (Value.bool b)) (decide_eq_false ahE),rfl⟩):P:=h
def afw(h:P:=by go_ret;exact afx):P:=h
def afv(h:P:=by go_wp2;exact afw):P:=h
def afu(h:P:=by refine LT HT.o ?_;exact afv):P:=h
def abM(h:P:=by go_wp2_with fail;exact afu):P:=h
def abN(h:P:=by
 intro hj;split;.show sv (st.T.set i _) j=_;rw[svS hl,if_neg hj]
 .rfl):P:=h
def abO(h:P:=by exact⟨h.m.one y hj hi ahE ahE,t2.2⟩):P:=h
def aft(h:P:=by rw[h1,if_neg (by have:=l.tg;unfold nuFl at hz;omega)]):P:=h
def afs(h:P:=by refine⟨h1,h.m.low y (by rw[e,bI]) (λq hq=>?_) (h.m.v.ars s')⟩;exact aft):P:=h
def afr(h:P:=by
 have h1:∀q,ldW s'.W q=if q=z then v else ldW x.st.s.W q:=λq=>by rw[e,hw]
 exact afs):P:=h
def abP(h:P:=by have hw:=gu (W:=x.st.s.W) (x:=z) (aR.2 ⟨hz.1,by have:=l.len;unfold nuFl at hz;omega⟩) v;exact afr):P:=h
def afl(h:P:=by simp[e]at h2;omega):P:=h
def afj(h:P:=by rw[if_pos (by rw[e]),e];exact afl):P:=h
def afq(h:P:=by rw[if_neg (by unfold gaA;omega)];exact afl):P:=h
def afp(h:P:=by
 by_cases e:c.node i=a;.exact afj
 .exact afq):P:=h
def afo(h:P:=by rw[hw,hw,if_neg (show ¬gaW a=gaA (c.node i)by unfold gaA gaW;omega)];exact afp):P:=h
def afn(h:P:=by have:=hn i hi;exact afo):P:=h
def afm(h:P:=by have hg:=h.g a ha;exact afn):P:=h
def abQ(h:P:=by rw[h0,h1]at h2;exact afm):P:=h
def afk(h:P:=by rw[if_neg (by unfold gaW;omega)];exact afl):P:=h
def afi(h:P:=by
 by_cases e:c.node i=a;.exact afj
 .exact afk):P:=h
def afh(h:P:=by rw[hw,hw,if_neg (show ¬gaA a=gaW (c.node i)by unfold gaA gaW;omega)];exact afi):P:=h
def afg(h:P:=by have:=hn i hi;exact afh):P:=h
def aff(h:P:=by have hg:=h.g a ha;exact afg):P:=h
def abR(h:P:=by rw[h0,h1]at h2;exact aff):P:=h
def afe(h:P:=by first|exact au.stay (H2.o.put4 hn ⟨7,0,0,0⟩) (T2.o.trans (ft _ _ _ _ _ _)) rfl|exact au.put HP.o (H2.o.put4 hn ⟨7,0,0,0⟩) (T2.o.trans (ft _ _ _ _ _ _)) rfl ahO):P:=h
def afd(h:P:=by rw[HX.o,if_pos HP0.o,if_neg ahG];exact afe):P:=h
def afc(h:P:=by go_ret;exact afd):P:=h
def afb(h:P:=by go_wp2;exact afc):P:=h
def afa(h:P:=by have f2:∀j,w2.frozen? ⟨X.q,j,none⟩=false:=λj=>H2.o.sp.free j;exact afb):P:=h
def ae9(h:P:=by have b3:=H2.o.sp.cell HP.o 3 _ rfl;exact afa):P:=h
def ae8(h:P:=by have b2:=H2.o.sp.cell HP.o 2 _ rfl;exact ae9):P:=h
def ae7(h:P:=by have b1:=H2.o.sp.cell HP.o 1 _ rfl;exact ae8):P:=h
def ae6(h:P:=by have b0:=ST (H2.o.sp.cell HP.o 0 _ rfl);exact ae7):P:=h
def ae5(h:P:=by have d6:=H2.o.cs.2.2.2.2.2.2;exact ae6):P:=h
def ae4(h:P:=by have T2:=qh (gZ k2.o.2);exact ae5):P:=h
def ae3(h:P:=by have H2:=qh (H.o.coT k2.o.2 k2.o.1);exact ae4):P:=h
def ae2(h:P:=by refine Op HA.o λw2 k2=>?_;exact ae3):P:=h
def ae1(h:P:=by go_wp2_with fail;exact ae2):P:=h
def ae0(h:P:=by refine LT HH.o ?_;exact ae1):P:=h
def abS(h:P:=by go_wp2_with fail;exact ae0):P:=h
def aeZ(h:P:=by first|exact au.stay (H.o.put4 hn ⟨1,1,0,0⟩) (ft _ _ _ _ _ _) rfl|exact au.put HP.o (H.o.put4 hn ⟨1,1,0,0⟩) (ft _ _ _ _ _ _) rfl ahO):P:=h
def aeY(h:P:=by rw[HX.o,if_pos HP0.o];exact aeZ):P:=h
def aeX(h:P:=by go_ret;exact aeY):P:=h
def aeW(h:P:=by go_wp2;exact aeX):P:=h
def aeV(h:P:=by refine LT HH.o ?_;exact aeW):P:=h
def abT(h:P:=by go_wp2_with fail;exact aeV):P:=h
def aeU(h:P:=by first|exact au.stay (H.o) (aa.refl _ _) rfl|exact au.put HP.o (H.o) (aa.refl _ _) rfl ahO):P:=h
def aeT(h:P:=by rw[HX.o,if_neg HP0.o];exact aeU):P:=h
def aeS(h:P:=by go_ret;exact aeT):P:=h
def aeR(h:P:=by go_wp2;exact aeS):P:=h
def aeQ(h:P:=by refine LT HH.o ?_;exact aeR):P:=h
def abU(h:P:=by go_wp2_with fail;exact aeQ):P:=h
def aeP(h:P:=by rw[if_pos ⟨by omega,by rw[h.lU];omega⟩,Int.toNat_natCast]):P:=h
def abV(h:P:=by unfold getS sv;exact aeP):P:=h
def aeO(h:P:=by first|exact au.stay (K3.o) (T3.o) rfl|exact au.put HP.o (K3.o) (T3.o) rfl ahO):P:=h
def aeN(h:P:=by rw[HX.o];exact aeO):P:=h
def aeM(h:P:=by go_ret;exact aeN):P:=h
def abW(h:P:=by go_wp2;exact aeM):P:=h
def aeL(h:P:=by
 split;. rename_i e;rw[e];omega
 . exact Int.le_refl _):P:=h
def abX(h:P:=by rw[lW.1];exact aeL):P:=h
def aeK(h:P:=by exact⟨r.bd.mono ahE,r.v,r.len,by rw[gA];exact q.ops⟩):P:=h
def abY(h:P:=by have r:=q.ask k ahE hi;exact aeK):P:=h
def aeJ(h:P:=by exact⟨r.bd.mono ahE,r.v,r.len,by rw[fF];exact q.ops⟩):P:=h
def abZ(h:P:=by have r:=q.leave k ahE hi;exact aeJ):P:=h
def ab0(h:P:=by exact(Ln _).mono ahE):P:=h
def ab1(h:P:=by exact(h.step k hB ahE hi).mono ahE):P:=h
def aeI(h:P:=by rw[e1];show ldW (aG _ _ _ _).W y=0;rw[e2];omega):P:=h
def aeH(h:P:=by show ldW (aJ _ _ _ _ _).W y=0;exact aeI):P:=h
def aeG(h:P:=by have e3:=hz.1.ld ahE y;exact aeH):P:=h
def aeF(h:P:=by have e2:ldW (aG kg (smA s (ac P).length) (ac P).length par).W y=_:=j9 _ _ _ _ hy;exact aeG):P:=h
def ab2(h:P:=by
 have e1:ldW (aJ kl par (mtQ P T) (aG kg (smA s (ac P).length) (ac P).length par) (ac P).length).W y=_:=fH (Nat.zero_le _) (by
   show y<=((aG kg (smA s (ac P).length) (ac P).length par).W.length:Int)
   rw[be];omega)
 exact aeF):P:=h
def aeE(h:P:=by exact⟨he,⟨h1,⟨rfl,rfl⟩,hd.own h2,⟨h2.blk hq.1 hq.2.2,hq.2⟩,hl⟩,h2⟩):P:=h
def aeD(h:P:=by obtain⟨he,h1,h2⟩:=hR.to (λr w' q=>⟨q.1,q.2⟩);exact aeE):P:=h
def ab3(h:P:=by intro e w' hR;exact aeD):P:=h
def aeC(h:P:=by go_enter func357,ntmps357;exact aaa):P:=h
def ab4(h:P:=by clear I;exact aeC):P:=h
def aeB(h:P:=by exact bodyPost_ret (results_cell_row ahI _ _ w.heap.size 113 _ (0,0) _ ahI aiI Tryz.underlying113 rfl ahH) rfl ⟨rfl,((((HB.o.trans (H2.o.1.mono ahF)).setCell (Nat.le_refl _) _).setCell (Nat.le_refl _) _).setCell (Nat.le_refl _) _).setCell (Nat.le_refl _) _⟩):P:=h
def aeA(h:P:=by go_wp2;exact aeB):P:=h
def aez(h:P:=by unfold aF;exact aeA):P:=h
def aey(h:P:=by obtain⟨pc,u,b,z⟩:=p;exact aez):P:=h
def aex(h:P:=by clear I;exact aey):P:=h
def aew(h:P:=by have H2:=qh (And.intro b2.o I);exact aex):P:=h
def aev(h:P:=by have f3:=I.free 3;exact aew):P:=h
def aeu(h:P:=by have f2:=I.free 2;exact aev):P:=h
def aet(h:P:=by have f1:=I.free 1;exact aeu):P:=h
def aes(h:P:=by have f0:=I.free 0;exact aet):P:=h
def aer(h:P:=by have z3:=I.cell 3;exact aes):P:=h
def aeq(h:P:=by have z2:=I.cell 2;exact aer):P:=h
def aep(h:P:=by have z1:=I.cell 1;exact aeq):P:=h
def aeo(h:P:=by have z0:=I.cell 0;exact aep):P:=h
def aen(h:P:=by have I:Blk w2 w.heap.size 113 #[J 0,J 0,J 0,J 0]:=aa.blk (S:=[]) (aa.of_below b2.o) (Blk.new w 113 #[J 0,J 0,J 0,J 0]) ahF;exact aeo):P:=h
def aem(h:P:=by
 have hs:w.heap.size<w2.heap.size:=by have:=b2.o.size;simp at this;omega
 exact aen):P:=h
def ael(h:P:=by refine Op HS.o λw2 b2=>?_;exact aem):P:=h
def aek(h:P:=by go_wp2_with fail;exact ael):P:=h
def aej(h:P:=by refine LT HM.o ?_;exact aek):P:=h
def aei(h:P:=by go_wp2_with fail;exact aej):P:=h
def aeh(h:P:=by go_enter func355,ntmps355;exact aei):P:=h
def aeg(h:P:=by clear H h1 Jt b1;exact aeh):P:=h
def aef(h:P:=by have HB:=qh b1;exact aeg):P:=h
def ab5(h:P:=by have HS:=qh (H _ b1);exact aef):P:=h
def aea(h:P:=by exact⟨b,rfl,H3.o⟩):P:=h
def ad9(h:P:=by go_ret;exact aea):P:=h
def ad8(h:P:=by go_wp2;exact ad9):P:=h
def ad7(h:P:=by clear k2;exact ad8):P:=h
def ad6(h:P:=by have H3:=qh k2;exact ad7):P:=h
def ad5(h:P:=by rintro en w2 ⟨b,rfl,k2⟩;exact ad6):P:=h
def ad4(h:P:=by refine H2.o.mono ?_;exact ad5):P:=h
def ad3(h:P:=by go_wp2_with fail;exact ad4):P:=h
def ad2(h:P:=by refine LT HM.o ?_;exact ad3):P:=h
def ad1(h:P:=by go_wp2_with fail;exact ad2):P:=h
def aee(h:P:=by go_enter func356,ntmps356;exact ad1):P:=h
def aed(h:P:=by clear I hD;exact aee):P:=h
def ab6(h:P:=by have H2:=qh hD;exact aed):P:=h
def aec(h:P:=by go_enter func353,ntmps353;exact ad1):P:=h
def aeb(h:P:=by clear I hD;exact aec):P:=h
def ab7(h:P:=by have H2:=qh hD;exact aeb):P:=h
def ad0(h:P:=by go_enter func352,ntmps352;exact ad1):P:=h
def adZ(h:P:=by clear I hD;exact ad0):P:=h
def ab8(h:P:=by have H2:=qh hD;exact adZ):P:=h
def adY(h:P:=by
 rcases V with rfl|rfl|V
 .exact h.sp.lt
 .exact h.gd.dr.lt
 .exact h.co.lts r V):P:=h
def adX(h:P:=by simp only[List.mem_cons]at V;exact adY):P:=h
def adW(h:P:=by unfold SmS at V;exact adX):P:=h
def ab9(h:P:=by intro r V;exact adW):P:=h
def aca(h:P:=by have:=h.co.fx.node (i:=n) (by rw[h.nT.1];exact hn);rw[h.nT.2.1]at this;exact this):P:=h
def adV(h:P:=by first|exact au.stay ((H.o.below HB.o).below ((Below.refl _ _).alloc (Nat.le_refl _) _)) ((aa.of_below HB.o).alloc _) rfl|exact au.put HP.o ((H.o.below HB.o).below ((Below.refl _ _).alloc (Nat.le_refl _) _)) ((aa.of_below HB.o).alloc _) rfl ahO):P:=h
def adU(h:P:=by rw[HX.o,if_neg HP0.o];exact adV):P:=h
def adT(h:P:=by go_ret;exact adU):P:=h
def adS(h:P:=by go_wp2;exact adT):P:=h
def adR(h:P:=by refine Op HS.o λw1 HB=>?_;exact adS):P:=h
def acb(h:P:=by go_wp2_with fail;exact adR):P:=h
def adh(h:P:=by exact⟨rfl,K1.o,T1.o⟩):P:=h
def adg(h:P:=by go_ret;exact adh):P:=h
def acm(h:P:=by go_wp2;exact adg):P:=h
def adM(h:P:=by have T1:=qh (T0.o.trans (fo a2.o.2));exact acm):P:=h
def adL(h:P:=by have K1:=qh (K0.o.arT a2.o.2 a2.o.1);exact adM):P:=h
def adQ(h:P:=by refine Op (qI K0.o.gd.ga K0.o.gd.ar nd hnd.o K0.o.gd.n32 Y) λw1 a2=>?_;exact adL):P:=h
def adP(h:P:=by go_wp2_with fail;exact adQ):P:=h
def adO(h:P:=by have d2:=K0.o.cs.2.2.1;exact adP):P:=h
def adN(h:P:=by have T0:=qh (aa.refl (SmS a g X) w);exact adO):P:=h
def acc(h:P:=by have K0:=H;exact adN):P:=h
def adK(h:P:=by refine Op (qJ K0.o.gd.ga K0.o.gd.ar nd hnd.o K0.o.gd.n32 Y) λw1 a2=>?_;exact adL):P:=h
def adJ(h:P:=by go_wp2_with fail;exact adK):P:=h
def adI(h:P:=by have d2:=K0.o.cs.2.2.1;exact adJ):P:=h
def adH(h:P:=by have T0:=qh (aa.refl (SmS a g X) w);exact adI):P:=h
def acd(h:P:=by have K0:=H;exact adH):P:=h
def ac3(h:P:=by go_ret;exact abK):P:=h
def ac2(h:P:=by go_wp2;exact ac3):P:=h
def adF(h:P:=by
 go_region_held3 (λW=>Z W X.l 3 ↑X.dd/\Z W X.l 1 ↑X.b)
  (first|exact⟨KY.o.cs.2.2.2.1,KY.o.cs.2.1⟩|exact⟨K2.o.cs.2.2.2.1,K2.o.cs.2.1⟩)
  (first
   |(go_at_call 137;go_loud (refine LT ME.o ?_))
   |(go_at_call 373;go_loud (refine Op KO.o λw2 k4=>?_);have K2:=qh (KY.o.gdT k4.o.2 k4.o.1);have T2:=qh (T1.o.drew.trans (jk k4.o.2))))
 exact ac2):P:=h
def adE(h:P:=by go_wp2_with fail;exact adF):P:=h
def acf(h:P:=by have ME:=qh (kZ _ X.b P T (KY.o).tb.f);exact adE):P:=h
def adG(h:P:=by have KO:=qh (mK (KY.o).gd hN false);exact acf):P:=h
def ace(h:P:=by have KY:=qh K1.o.drw;exact adG):P:=h
def adD(h:P:=by have T1:=qh (jk (X:=X) k4.o.2);exact acm):P:=h
def adC(h:P:=by have K1:=qh (H.o.gdT k4.o.2 k4.o.1);exact adD):P:=h
def adB(h:P:=by refine Op HD.o λw1 k4=>?_;exact adC):P:=h
def adA(h:P:=by go_wp2_with fail;exact adB):P:=h
def adz(h:P:=by have d3:=H.o.cs.2.2.2.1;exact adA):P:=h
def acg(h:P:=by go_enter func394,ntmps394;exact adz):P:=h
def ady(h:P:=by cases q;all_goals go_enter func393,ntmps393;go_wp2_with fail;refine Op HS.o λw1 k3=>?_;have K1:=qh (H.o.coT k3.o.2 k3.o.1);have T1:=qh (gZ (X:=X) k3.o.2);go_wp2;go_ret;exact⟨rfl,K1.o,T1.o⟩):P:=h
def adx(h:P:=by clear h hq F';exact ady):P:=h
def adw(h:P:=by have H:=qh h;exact adx):P:=h
def adv(h:P:=by have l5:=h.cs.2.2.2.2.2.1;exact adw):P:=h
def adu(h:P:=by have HS:=qh F';exact adv):P:=h
def adt(h:P:=by rw[<-hq]at F' ⊢;exact adu):P:=h
def ads(h:P:=by obtain⟨q,hq⟩:=LE (bo (sv st.T n) (sv (aj c st n).T n));exact adt):P:=h
def adr(h:P:=by have F':=mn h.co C n JG;exact ads):P:=h
def ach(h:P:=by
 have JG:n<X.x.n:=by rw[h.nT.1];exact hn
 exact adr):P:=h
def ac1(h:P:=by clear l5;exact ac2):P:=h
def ac0(h:P:=by have T2:=qh (T1.o.trans (gZ k3.o.2));exact ac1):P:=h
def acp(h:P:=by have K2:=qh (K1.o.coT k3.o.2 k3.o.1);exact ac0):P:=h
def adq(h:P:=by refine Op (kT K1.o.co n JG) λw2 k3=>?_;exact acp):P:=h
def adp(h:P:=by go_wp2_with fail;exact adq):P:=h
def aci(h:P:=by have l5:=K1.o.cs.2.2.2.2.2.1;exact adp):P:=h
def ado(h:P:=by go_ret;exact⟨rfl,HK.o.1,HK.o.2⟩):P:=h
def adn(h:P:=by go_wp2;exact ado):P:=h
def adm(h:P:=by refine Op HL.o λw1 HK=>?_;exact adn):P:=h
def adl(h:P:=by go_wp2_with fail;exact adm):P:=h
def adk(h:P:=by go_enter func393,ntmps393;exact adl):P:=h
def adj(h:P:=by clear V Km h;exact adk):P:=h
def adi(h:P:=by have HL:=qh Km;exact adj):P:=h
def acj(h:P:=by rw[<-V]at Km ⊢;exact adi):P:=h
def ack(h:P:=by rw[if_neg (by rw[hU];simp only;omega),V,hU]):P:=h
def acl(h:P:=by have:=nD (n:=n) (show i<x.U.length by rw[h.lU];exact hi) hi p';rw[h0,h1]at this;simp at this;rw[O,h.fl];omega):P:=h
def adf(h:P:=by refine LT Lz.o ?_;exact acd):P:=h
def ade(h:P:=by go_wp2_with fail;exact adf):P:=h
def adc(h:P:=by go_enter func404,ntmps404;exact ade):P:=h
def adb(h:P:=by clear h JB;exact adc):P:=h
def ada(h:P:=by have H:=qh h;exact adb):P:=h
def ac9(h:P:=by have hnd:=qh hnd;exact ada):P:=h
def ac8(h:P:=by have l1:=h.cs.2.1;exact ac9):P:=h
def acn(h:P:=by have Lz:=qh (kq w X.b P T n hn h.tb.f _ JB);exact ac8):P:=h
def ac7(h:P:=by
 cases hz:(q==0)
 all_goals
   rw[hz]at Ns;have HQ:=qh Ns;clear Ns;go_enter func404,ntmps404;go_wp2_with fail;refine LT Lz.o ?_;go_wp2_with fail;refine Op HQ.o λw1 HK=>?_;go_wp2;go_ret;first
   | (rw[HV.o,if_pos ah3]
      exact⟨rfl,HK.o.1,HK.o.2⟩)
   | (rw[HV.o,if_neg ah3]
      exact⟨rfl,HK.o.1,HK.o.2⟩)):P:=h
def ac6(h:P:=by clear h JB hq O;exact ac7):P:=h
def ac5(h:P:=by have H:=qh h;exact ac6):P:=h
def ac4(h:P:=by have HV:=qh O;exact ac5):P:=h
def aco(h:P:=by rw[<-O];exact ac4):P:=h
def acZ(h:P:=by have h1:=q6 j hj JZ;have h2:=MA j hj JZ;show x.d.at_+1<=c.node j;omega):P:=h
def acq(h:P:=by have JZ:=(nr 9 j V).2;exact acZ):P:=h
def acY(h:P:=by cases r;all_goals (have q:=this.1;simp at q;exact q)):P:=h
def acX(h:P:=by rw[if_pos hl,Int.toNat_natCast]at this;exact acY):P:=h
def acW(h:P:=by have:=a1 r;exact acX):P:=h
def acV(h:P:=by refine⟨⟨a0.1,a0.2.1⟩,λr=>?_,by have q:=a2.1;simp at q;exact q⟩;exact acW):P:=h
def acr(h:P:=by rw[if_pos hl,Int.toNat_natCast]at a0 a2;exact acV):P:=h
def acs(h:P:=by
 show(cE c x i r).st.s=x.st.s;unfold cE;split;.cases r<;>simp[bz]<;>split<;>rfl
 .rfl):P:=h
def acu(h:P:=by unfold dg;rw[<-ie];exact(decide_eq_false ahE).symm):P:=h
def acv(h:P:=by rw[decide_eq_true (by exact .inr ⟨e,f.symm⟩)];exact(decide_eq_true ⟨f,λz=>e (.inl z),λz=>e (.inr z)⟩).symm):P:=h
def acw(h:P:=by rw[decide_eq_false (by intro z;rcases z with z|z;exact e z.1;exact f z.2.symm)];exact(decide_eq_false λz=>f z.1).symm):P:=h
def acR(h:P:=by rw[if_pos e,decide_eq_true e,e];cases r<;>simp[fZ hl,kx]):P:=h
def acA(h:P:=by
 by_cases e:(sv x.U i).pc=0;.exact acR
 .rw[if_neg e,decide_eq_false e,<-ie]):P:=h
def acU(h:P:=by unfold cE;exact acA):P:=h
def acT(h:P:=by refine⟨_,rfl,?_,k2,t2⟩;exact acU):P:=h
def acx(h:P:=by rintro e w' ⟨rfl,k2,t2⟩;exact acT):P:=h
def acy(h:P:=by rintro e w' ⟨rfl,k2,t2⟩;exact⟨_,rfl,kD x i hl ha,k2,t2⟩):P:=h
def acS(h:P:=by rwa [show getS x.U (i:Int)=sv x.U i by unfold getS;rw[if_pos ⟨by omega,by omega⟩,Int.toNat_natCast];rfl]at k):P:=h
def acz(h:P:=by
 have hl:i<x.U.length:=by rw[h.lU];exact hi
 exact acS):P:=h
def acB(h:P:=by clear h h0;exact aau):P:=h
def acM(h:P:=by exact⟨rfl,(Below.refl _ _).alloc (Nat.le_refl _) _⟩):P:=h
def acL(h:P:=by go_ret;exact acM):P:=h
def acK(h:P:=by go_wp2;exact acL):P:=h
def acQ(h:P:=by go_enter func43,ntmps43;exact acK):P:=h
def acP(h:P:=by clear e;exact acQ):P:=h
def acC(h:P:=by rw[e];exact acP):P:=h
def acD(h:P:=by rename_i e;subst e;split;rw[hg];rename_i q;exact absurd (by simpa[LkM.view]using hin) q):P:=h
def acE(h:P:=by exact⟨.none 5 i _ 0 (.inr rfl),λ_=>rfl⟩):P:=h
def acF(h:P:=by rw[e,ba,if_neg (λq=>hne q.1.symm)]):P:=h
def acG(h:P:=by
 rcases h with h|⟨p,h1,h2,h3⟩
 .exact .inl h
 .exact .inr ⟨p,h1,λ_=>by omega,λq=>absurd h3 q⟩):P:=h
def acO(h:P:=by
 split;.rename_i e;exact .inr ⟨_,rfl,rfl,e.2⟩
 .rename_i e;exact .inl ⟨rfl,λq=>e ⟨hl,q⟩⟩):P:=h
def acH(h:P:=by rw[kO hl,Int.toNat_natCast];exact acO):P:=h
def acI(h:P:=by refine .inr ⟨_,by show((eI m _ _ _ _).S).set i _=_;rw[w],by simp⟩):P:=h
def acN(h:P:=by
 cases r;.exact⟨_,rfl,by simp,rfl⟩
 .exact⟨_,rfl,by simp,rfl⟩):P:=h
def acJ(h:P:=by rw[if_pos h];exact acN):P:=h
def aiT(q:Q)(h:Kq Q->P:=by
 intro q_
 have H1:=qh (And.intro (H0.o.1.below HG.o b1.o) (And.intro (H0.o.2.1.below b1.o ahF) (H0.o.2.2.trans (aa.of_below b1.o))))
 have b2:=(Below.refl w1.heap.size w1).alloc (Nat.le_refl _) (cells #[J 0,J i,.bool rd,J 0] 55)
 have H2:=qh (And.intro (H1.o.1.below HG.o b2) (And.intro (H1.o.2.1.alloc (cells #[J 0,J i,.bool rd,J 0] 55)) (And.intro (Blk.new w1 55 #[J 0,J i,.bool rd,J 0]) (H1.o.2.2.alloc (cells #[J 0,J i,.bool rd,J 0] 55)))))
 have c2:=HL.o _ _ H2.o.1
 clear b2
 revert H1 H2 c2
 exact q_.o):P:=h (qh q)
def aiU(q:Q)(h:Kq Q->P:=by
 intro q_
 have z0:=H3.o.2.1.free 0
 have z1:=H3.o.2.1.free 1
 have z2:=H3.o.2.1.free 2
 have z3:=H3.o.2.1.free 3
 have y0:=H3.o.2.1.cell 0
 have y1:=H3.o.2.1.cell 1
 have y2:=H3.o.2.1.cell 2
 have y3:=H3.o.2.1.cell 3
 revert z0 z1 z2 z3 y0 y1 y2 y3
 exact q_.o):P:=h (qh q)
def aiV(q:Q)(h:Kq Q->P:=by
 intro q_
 have hi:i<x.n:=by have:=(List.getElem?_eq_some_iff.1 hp).1;rw[h.n]at this;exact this
 revert hi
 exact q_.o):P:=h (qh q)
def aiW(q:Q)(h:Kq Q->P:=by
 intro q_
 have HI:=qh h.ix
 have HN:=h.bd
 have e0:=h.cs
 have Nb:(0<=x/\x<=c.n)/\(0<=m/\m<=c.n):=⟨h.ix.1,h.ix.2.1⟩
 have x1:IntKind.i64.wrap ((c.F:Int)+1)=(c.F:Int)+1:=IntWalk.i64_in _ ahE
 revert HI HN e0 Nb x1
 exact q_.o):P:=h (qh q)
def aiX(q:Q)(h:Kq Q->P:=by
 intro q_
 have hn:=h.fx.n32
 have c8:=CoN.spots h
 have t2:¬(i:Int)<0:=by omega
 have Ko:=h.lk.lt
 have Jx:=h.sp.lt
 have KT:=qh (oz h i hi hy O)
 have Kv:=qh (λw1 (b1:Below w.heap.size w w1)=>CoN.mk' h b1 y v)
 revert hn c8 t2 Ko Jx KT Kv
 exact q_.o):P:=h (qh q)
def aiY(q:Q)(h:Kq Q->P:=by
 intro q_
 have J0:(w.alloc (cells #[J 0,J 0,bool false,J 0] 55)).heap.size=w.heap.size+1:=by simp
 have b0:=(Below.refl w.heap.size w).alloc (Nat.le_refl _) (cells #[J 0,J 0,bool false,J 0] 55)
 have h0:=h.below G b0
 have HS:=qh (ru G h0 i hi)
 have Mp:=Blk.new w 55 #[J 0,J 0,bool false,J 0]
 have H0:=qh (And.intro h0 (And.intro Mp (aa.of_below (S:=M.fp X.b) b0)))
 have HL:=qh (λW (s:M.σ) (k:WoIs X W s)=>show Z W X.wb 2 ↑X.lb from k.wd.cell 2)
 revert J0 b0 h0 HS Mp H0 HL
 exact q_.o):P:=h (qh q)
def aiZ(q:Q)(h:Kq Q->P:=by
 intro q_
 refine Op KT.o λw1 b1=>?_
 have N1:=qh (Kv.o w1 b1.o)
 have JY:=b1.o.size
 have e0:=ST (N1.o.is.sp.cell HP.o 0 _ rfl)
 have k0:=N1.o.n0
 have k6:=CoN.glo N1.o.is
 revert w1 b1 N1 JY e0 k0 k6
 exact q_.o):P:=h (qh q)
def ai0(q:Q)(h:Kq Q->P:=by
 intro q_
 have H1:=qh (And.intro (H0.o.1.below HG.o b1.o) (And.intro (H0.o.2.1.below b1.o ahF) (H0.o.2.2.trans (aa.of_below b1.o))))
 have c2:=HL.o _ _ H1.o.1
 have c3:=M1.o _ _ H1.o.1
 revert H1 c2 c3
 exact q_.o):P:=h (qh q)
def ai1(q:Q)(h:Kq Q->P:=by
 intro q_
 have a0:=ST (h.sp.cell hp 0 _ rfl)
 have a1:=h.sp.cell hp 1 _ rfl
 have a2:=h.sp.cell hp 2 _ rfl
 have a3:=h.sp.cell hp 3 _ rfl
 revert a0 a1 a2 a3
 exact q_.o):P:=h (qh q)
def ai2(q:Q)(h:Kq Q->P:=by
 intro q_
 refine Op (HA.o _ H1.o.1) λw3 k3=>?_
 have H3:=qh (And.intro (H1.o.1.act k3.o.2 k3.o.1) (And.intro (k3.o.2.blk H1.o.2.1 (λm=>by have:=KQ.o _ m;have:=HM.o;omega)) (H1.o.2.2.trans k3.o.2)))
 revert w3 k3 H3
 exact q_.o):P:=h (qh q)
def ai3(q:Q)(h:Kq Q->P:=by
 intro q_
 refine Op (L6.o _ H2.o.1) λw3 k3=>?_
 have Kp:=k3.o.2.size
 have H3:=qh (And.intro (H2.o.1.act k3.o.2 k3.o.1) (And.intro (k3.o.2.blk H2.o.2.1 (λm=>by have:=KQ.o _ m;have:=HM.o;omega)) (And.intro (k3.o.2.blk H2.o.2.2.1 (λm=>by have:=KQ.o _ m;have:=HM.o;omega)) (H2.o.2.2.2.trans k3.o.2))))
 revert w3 k3 Kp H3
 exact q_.o):P:=h (qh q)
def ai4(q:Q)(h:Kq Q->P:=by
 intro q_
 have fA:ldW (addA x.st.s (gaA (c.node i)) 1).W (nuFl N)=ldW x.st.s.W (nuFl N):=by rw[lA.1,if_neg (by have:=(eO hn).2;omega)]
 have fW:ldW (addA x.st.s (gaW (c.node i)) 1).W (nuFl N)=ldW x.st.s.W (nuFl N):=by rw[lW.1,if_neg (by have:=(bD hn).2;omega)]
 have HA:∀a,a<N->ldW x.st.s.W (gaW a)<=ldW (addA x.st.s (gaA (c.node i)) 1).W (gaW a):=λa _=>by rw[lA.1,if_neg (by unfold gaA gaW;omega)];exact Int.le_refl _
 revert fA fW HA
 exact q_.o):P:=h (qh q)
def ai5(q:Q)(h:Kq Q->P:=by
 intro q_
 have HP:=qh hp
 have HL:=qh (show i<h.S.length by rw[k.sl];exact hin)
 have K1:=qh (k.below ((Below.refl _ w).drew))
 revert HP HL K1
 exact q_.o):P:=h (qh q)
def ai6(q:Q)(h:Kq Q->P:=by
 intro q_
 have HP:=qh hp
 have HL:=qh (show i<S.length by rw[h.n];exact hin)
 have K1:=qh (h.below ((Below.refl _ w).drew))
 revert HP HL K1
 exact q_.o):P:=h (qh q)
def ai7(q:Q)(h:Kq Q->P:=by
 intro q_
 have HO:=qh hr
 have HC:Kq (∀W s (S':List Sp) (c:Int),KIs W a g 2 x s S'->S'[i]? =some (⟨c,u,b,z⟩:Sp)->Z W x.l 1 ↑a/\Z W x.l 2 (J x.t)/\Z W x.q (i*4+1) (J u)):=qh (λW s S' c k hp=>⟨k.ti.1,k.ti.2,k.sp.cell hp 1 _ rfl⟩)
 revert HO HC
 exact q_.o):P:=h (qh q)
def ai8(q:Q)(h:Kq Q->P:=by
 intro q_
 have b1:=(Below.refl w.heap.size w).alloc (Nat.le_refl _) (cells #[J 0,J 0,J 0,J 0] 113)
 revert b1
 exact q_.o):P:=h (qh q)
def ai9(q:Q)(h:Kq Q->P:=by
 intro q_
 have k3:Blk w0 (w.heap.size+2) 129 #[J 0,bool false]:=by rw[C'];exact Blk.new' _ _ _ ahF
 have HE:=qh (And.intro I k3)
 have Kh:=qh C'
 have c0:=k1.cell 0
 have c1:=k1.cell 1
 have d0:=k2.cell 0
 have d2:=k2.cell 2
 revert k3 HE Kh c0 c1 d0 d2
 exact q_.o):P:=h (qh q)
def aja(q:Q)(h:Kq Q->P:=by
 intro q_
 refine tk 0 ?_
 refine tk 1 ?_
 refine tk 2 ?_
 refine tk 3 ?_
 refine tk 4 ?_
 refine tk 5 ?_
 refine tk 6 ?_
 refine tk 7 ?_
 refine tk 8 ?_
 exact q_.o):P:=h (qh q)
def ajb(q:Q)(h:Kq Q->P:=by
 intro q_
 refine Op HS.o λw1 b1=>?_
 have K1:=qh (H.o.below b1.o)
 have T1:=qh (aa.of_below (S:=SmS a g X) b1.o)
 revert w1 b1 K1 T1
 exact q_.o):P:=h (qh q)
def ajc(q:Q)(h:Kq Q->P:=by
 intro q_
 have JV:((w.alloc (cells #[vP,vT] 24)).alloc (cells #[J gl,J lo,J pa,J bud] 36)).heap.size=w.heap.size+2:=by simp
 have B0:=qh (((Below.refl w.heap.size w).alloc (Nat.le_refl _) (cells #[vP,vT] 24)).alloc ahF (cells #[J gl,J lo,J pa,J bud] 36))
 have Ls:=Blk.new (w.alloc (cells #[vP,vT] 24)) 36 #[J gl,J lo,J pa,J bud]
 revert JV B0 Ls
 exact q_.o):P:=h (qh q)
def ajd(q:Q)(h:Kq Q->P:=by
 intro q_
 have hn:=k.bn.bd.2
 have e0:=ST (k.sp.cell hp 0 _ rfl)
 obtain⟨Jt,JY⟩:=k.bb
 have x5:IntKind.i64.wrap (bud+1)=bud+1:=IntWalk.i64_in _ ahE
 have x6:¬(bud+1)=0:=by omega
 have HN:=qh (show 1<=c.b.n by omega)
 obtain⟨ar',hv⟩:=LE (af h.ar (1+2*((i:Int)+1)))
 obtain⟨v,O⟩:=LE (ldW h.ar.W (1+2*((i:Int)+1)))
 revert hn e0 Jt JY x5 x6 HN ar' hv v O
 exact q_.o):P:=h (qh q)
def aje(q:Q)(h:Kq Q->P:=by
 intro q_
 have H3:=qh (And.intro k3.o.1 (And.intro (k3.o.2.blk hB.2.2.1 (λm=>by have:=KQ.o _ m;have:=HM.o;omega)) (hB.2.2.2.trans k3.o.2)))
 revert H3
 exact q_.o):P:=h (qh q)
def ajf(q:Q)(h:Kq Q->P:=by
 intro q_
 have HO:=qh hr
 have HF:=qh (λW (k:MaT w W c bud h)=>iT k.is ((i:Int)+1) ahE)
 have HC:=qh (λW (h:Mal) (u:Int) (k:MaT w W c bud h) (hp:h.S[i]? =some (⟨12,u,b,z⟩:Sp))=>show W.cell? c.l=some ↑c.b.a from k.is.ca)
 have HP:=qh hp
 have K1:=qh (MaT.new k).drew
 revert HO HF HC HP K1
 exact q_.o):P:=h (qh q)
def ajg(q:Q)(h:Kq Q->P:=by
 intro q_
 have HF:∀v a,a<N->ldW x.st.s.W (gaW a)<=ldW (ae x.st.s (nuFl N) v).W (gaW a):=λv a ha=>by rw[(lF v).1,if_neg ahM];exact Int.le_refl _
 have SF:∀v q,q<nuFl N->ldW (ae x.st.s (nuFl N) v).W q=ldW x.st.s.W q:=λv q hq=>by rw[(lF v).1,if_neg ahE]
 have mS:=h.m.step y hB ahE ahE hi
 have lS:=h.m.stepLow y hB ahE ahE hi
 have Js:∀q,q<=nuFl N->ldW (aj c x.st i).s.W q=ldW x.st.s.W q:=λq hq=>lS q aiF
 have tS:∀j,j≠i->sv (aj c x.st i).T j=sv x.st.T j:=λj hj=>nH h.m.v hi hj
 have aS:=lQ h.m.v hi
 revert HF SF mS lS Js tS aS
 exact q_.o):P:=h (qh q)
def ajh(q:Q)(h:Kq Q->P:=by
 intro q_
 have wA:IntKind.i64.wrap (ldW x.st.s.W (gaA (c.node i))+1)=ldW x.st.s.W (gaA (c.node i))+1:=IntWalk.i64_in _ ahE
 have wW:IntKind.i64.wrap (ldW x.st.s.W (gaW (c.node i))+1)=ldW x.st.s.W (gaW (c.node i))+1:=IntWalk.i64_in _ ahE
 revert wA wW
 exact q_.o):P:=h (qh q)
def aji(q:Q)(h:Kq Q->P:=by
 intro q_
 have J5:=bi (aQ hc).1
 have KD:(ac P).length<=32:=by have:=a7 P P.length;show(ay P P.length).length<=_;omega
 have k0:aa [b] w2 (dp b 2 w2):=((aa.refl [b] w2).drew.setCell (.inl ahF) _).setCell (.inl ahF) _
 have k1:=h.bel.trans k0
 have V:∀r∈([aq vL (ac P),aq vM (aH P T T.length),aq vN (ao P T T.length),aq vS (aZ T T.length),eZ (us.map (·.v)) vU]++us),(dp b 2 w2).ownsRow w1.heap.size r.e 1 r.v r.n r.xs:=λr V=>(h.rows.turn k0).own r V
 revert J5 KD k0 k1 V
 exact q_.o):P:=h (qh q)
def ajj(q:Q)(h:Kq Q->P:=by
 intro q_
 have k2:Blk w0 (W.heap.size+1) 38 #[J k,J gl,J lo,J pa,J bu]:=by rw[C'];exact Blk.new' _ _ _ ahF
 revert k2
 exact q_.o):P:=h (qh q)
def ajk(q:Q)(h:Kq Q->P:=by
 intro q_
 have Jt:=((Below.refl W.heap.size W).alloc (Nat.le_refl _) (cells #[vP,.slice AT T.length cT] 24)).alloc ahF (cells #[J k,J gl,J lo,J pa,J bu] 38)
 obtain⟨w0,C'⟩:=LE ((W.alloc (cells #[vP,.slice AT T.length cT] 24)).alloc (cells #[J k,J gl,J lo,J pa,J bu] 38))
 revert Jt w0 C'
 exact q_.o):P:=h (qh q)
def ajl(q:Q)(h:Kq Q->P:=by
 intro q_
 have HC:=qh (λW s b (k:BnT w W c s b) (e:b=⟨7,x,m,g⟩)=>show W.cell? c.k=some ↑c.a/\Z W c.k 1 (J c.F)/\W.cell? ⟨c.k,5,none⟩=some (J m)from by subst e;exact⟨k.is.ca,⟨k.is.cF,k.is.cm⟩⟩)
 have HO:=qh (λW (k:BnT w W c s ⟨7,x,m,g⟩)=>am k.is.ar (c.F) m Y)
 have HF:=qh (λW (k:BnT w W c s ⟨7,x,m,g⟩)=>jD k.is x ahE)
 have K1:=qh (BnT.new h).drew
 revert HC HO HF K1
 exact q_.o):P:=h (qh q)
def ajm(q:Q)(h:Kq Q->P:=by
 intro q_
 have Ln:∀z,bK c n L (B+2) (o+1) (onA x.st (addA x.st.s z 1)):=λz=>h.on ahE (h.bd.w.add1 ahE ahE z) (kY _ _ _)
 have NY:∀z,bK c n L (B+2) (o+1) (onA x.st (af x.st.s z)):=λz=>h.on ahE ((h.bd.w.mono ahE).load _) (gi _ _)
 have JA:∀z v,0<=v/\v<=1->bK c n L (B+2) (o+1) (onA x.st (ae x.st.s z v)):=λz v O=>h.on ahE ((h.bd.w.mono ahE).store z v ahE) (iR _ _ _)
 revert Ln NY JA
 exact q_.o):P:=h (qh q)
def ajn(q:Q)(h:Kq Q->P:=by
 intro q_
 have Jt:=((Below.refl W.heap.size W).alloc (Nat.le_refl _) (cells #[vP,vT] 24)).alloc ahF (cells #[J k,J gl,J lo,J pa,J bu] 38)
 obtain⟨w0,C'⟩:=LE ((W.alloc (cells #[vP,vT] 24)).alloc (cells #[J k,J gl,J lo,J pa,J bu] 38))
 revert Jt w0 C'
 exact q_.o):P:=h (qh q)
def ajo(q:Q)(h:Kq Q->P:=by
 intro q_
 have I:Below w.heap.size w w0:=by rw[C'];exact(((Below.refl w.heap.size w).alloc (Nat.le_refl _) _).alloc ahF _).alloc ahJ _
 revert I
 exact q_.o):P:=h (qh q)
def ajp(q:Q)(h:Kq Q->P:=by
 intro q_
 have Ll:=qh (λW (k:KBx w W a g x s S w.heap.size)=>bE .clh k.ki i hi)
 have N0:=qh (KBx.new h)
 have HP:=qh hp
 revert Ll N0 HP
 exact q_.o):P:=h (qh q)
def ajq(q:Q)(h:Kq Q->P:=by
 intro q_
 have HC:=qh (λW s x (k:BnT w W c s ⟨5,x,m,g⟩)=>show W.cell? c.k=some ↑c.a/\W.cell? ⟨c.k,1,none⟩=some (J c.F)from by exact⟨k.is.ca,k.is.cF⟩)
 have HO:=qh (λW (k:BnT w W c s ⟨5,x,m,g⟩)=>aD k.is.ar (c.F) Y)
 have HF:=qh (λW (k:BnT w W c s ⟨5,x,m,g⟩)=>jD k.is x ahE)
 have K1:=qh (BnT.new h).drew
 obtain⟨v,O⟩:=LE (ldW s.W (c.F))
 revert HC HO HF K1 v O
 exact q_.o):P:=h (qh q)
def ajr(q:Q)(h:Kq Q->P:=by
 intro q_
 have I:=h.below ((Below.refl _ _).alloc (Nat.le_refl _) (cells #[J 0,J 0,J 0,J 0] 113))
 have H:=qh I
 have Ju:=h.lk.lt
 have Jx:=h.sp.lt
 have Jy:=h.lU
 revert I H Ju Jx Jy
 exact q_.o):P:=h (qh q)
def ajs(q:Q)(h:Kq Q->P:=by
 intro q_
 have k0:aa [b] w (w.setCell ⟨b,3,none⟩ (.int .i32 1)):=aa.setCell (aa.refl [b] w) (.inl ahF) _
 have M5:=hP.turns k0 (λg hg hm=>by simp at hm;exact nP g hg hm)
 have LA:=hT.turns k0 (λg hg hm=>by simp at hm;exact nT g hg hm)
 have hf:=sr (w.setCell ⟨b,3,none⟩ (.int .i32 1)) b AP AT cP cT P T hc (hB.set_ 3 (.int .i32 1)) M5 LA nP nT
 revert k0 M5 LA hf
 exact q_.o):P:=h (qh q)
def ajt(q:Q)(h:Kq Q->P:=by
 intro q_
 have Kf:aa [] w1 w2:=aa.of_below ((Below.refl w1.heap.size w1).grown hg (Nat.le_refl _) (λj hj=>by cases hj))
 have H2:=qh Kf
 revert Kf H2
 exact q_.o):P:=h (qh q)
def aju(q:Q)(h:Kq Q->P:=by
 intro q_
 have e1:=K2.o.c.2.1
 have e6:=K2.o.c.2.2.2.2.2.2.1
 have e3:=K2.o.c.2.2.2.1
 have z1:=K2.o.dr.free 1
 have K3:=qh (K2.o.set (i:=1) (u:= J nI) (d':=⟨at_+1,lim,once,busy,false,Od,UF⟩) (by rw[HE.o.1];rfl))
 have K4:=qh (K3.o.below (Below.refl _ _).drew)
 have T4:=qh (show aa [a,g,dd] w ((w3.setCell ⟨dd,1,none⟩ (J nI)).drew)from(T2.o.trans i4).drew)
 revert e1 e6 e3 z1 K3 K4 T4
 exact q_.o):P:=h (qh q)
def ajv(q:Q)(h:Kq Q->P:=by
 intro q_
 have a0:=ST (N0.o.ki.sp.cell HP.o 0 _ rfl)
 have b0:=N0.o.bk.cell 0
 have N1:=qh N0.o.drew
 revert a0 b0 N1
 exact q_.o):P:=h (qh q)
def ajw(q:Q)(h:Kq Q->P:=by
 intro q_
 have t2:¬(n:Int)<0:=by omega
 have t3:¬((T.n:Nat):Int)<=(n:Int):=by omega
 revert t2 t3
 exact q_.o):P:=h (qh q)
def ajx(q:Q)(h:Kq Q->P:=by
 intro q_
 have HZ:=qh h0
 have HA:=qh ha
 have HO:=qh hr
 have HF:=qh (λW (k:MaT w W c bud h)=>iT k.is (a) ahE)
 have HC:=qh (λW (h:Mal) (k:MaT w W c bud h) (hp:h.S[i]? =some (⟨21,a,b,z⟩:Sp))=>show W.cell? c.l=some ↑c.b.a/\W.cell? ⟨c.q,i*4+1,none⟩=some (J a)from⟨k.is.ca,(k.is.sp.cell hp 1 _ rfl)⟩)
 have HP:=qh hp
 have K1:=qh (MaT.new k).drew
 revert HZ HA HO HF HC HP K1
 exact q_.o):P:=h (qh q)
def ajy(q:Q)(h:Kq Q->P:=by
 intro q_
 have H:=qh h
 have t2:¬(n:Int)<0:=by omega
 have LU:=h.nT.2.2.1
 obtain⟨x',mT⟩:=LE (cD c (ac P).length ⟨st,d,U⟩ n)
 rw[<-mT]
 unfold cD at mT
 obtain⟨p,i'⟩:=LE (sv U n)
 simp only at mT
 revert H t2 LU x' p i' mT
 exact q_.o):P:=h (qh q)
def ajz(q:Q)(h:Kq Q->P:=by
 intro q_
 refine Op HS.o λw1 b1=>?_
 have Sw:=qh (K0.o.below b1.o)
 have K1:=qh (K0.o.below b1.o.drew)
 have T0:=qh (aa.of_below (S:=[a,g,x.q]) b1.o.drew)
 have Sz:=qh (aa.of_below (S:=[a,g,x.q]) b1.o)
 revert w1 b1 Sw K1 T0 Sz
 exact q_.o):P:=h (qh q)
def ajA(q:Q)(h:Kq Q->P:=by
 intro q_
 rw[<-HP.o]
 unfold aF
 have H1:=qh (And.intro (H.o.below b1) b1)
 revert H1
 exact q_.o):P:=h (qh q)
def ajB(q:Q)(h:Kq Q->P:=by
 intro q_
 have KL:=h.blk.lt
 have KZ:=h.wds.lt
 obtain⟨LA,Lr⟩:1<=T.length/\T.length<=32:=⟨J5.2.2.1,J5.2.2.2⟩
 revert KL KZ LA Lr
 exact q_.o):P:=h (qh q)
def ajC(q:Q)(h:Kq Q->P:=by
 intro q_
 have H4:=qh (And.intro h4.o.1 (And.intro (K3.o.2.1.trans h4.o.2) (h4.o.1.sn.trans H.o.sn.symm)))
 have c0:=(h4.o.1.sc (gC (show n<_ by rw[h4.o.1.sn];exact hn))).1
 revert H4 c0
 exact q_.o):P:=h (qh q)
def ajD(q:Q)(h:Kq Q->P:=by
 intro q_
 obtain⟨_,hn⟩:=k.n32
 have e0:=ST (k.sp.cell hp 0 _ rfl)
 revert hn e0
 exact q_.o):P:=h (qh q)
def ajE(q:Q)(h:Kq Q->P:=by
 intro q_
 have HC:=qh (λW st (k y v) (N:CoN B w W a g x c P T st k y v)=>And.intro (CoN.ar N.is) N.n1)
 have HP:=qh JT
 revert HC HP
 exact q_.o):P:=h (qh q)
def ajF(q:Q)(h:Kq Q->P:=by
 intro q_
 refine Op (HF.o _ N1.o.is) λw2 k2=>?_
 have N2:=qh (N1.o.to k2.o.1 k2.o.2)
 have e2:=ST (N2.o.is.sp.cell HP.o 0 _ rfl)
 revert w2 k2 N2 e2
 exact q_.o):P:=h (qh q)
def ajG(q:Q)(h:Kq Q->P:=by
 intro q_
 have lN:∀x,1<=x->ldW ar.W (2*x)=rN ar.W x:=λx hx=>by unfold rN;rw[if_pos hx]
 have lS:∀x,1<=x->ldW ar.W (2*x+1)=rS ar.W x:=λx hx=>by unfold rS;rw[if_pos hx]
 have LD:cG ar 1 (numT i)=decide (ldW ar.W 1=numT i):=by unfold cG;rw[aR.2 (by rw[k.wln];omega)];rfl
 have inj:=λj k=>@iW j k
 revert lN lS LD inj
 exact q_.o):P:=h (qh q)
def ajH(q:Q)(h:Kq Q->P:=by
 intro q_
 have HM:=qh (uH hc i true (decide_eq_true ⟨by omega,by omega⟩))
 have HS:=qh (H w (Below.refl _ _))
 revert HM HS
 exact q_.o):P:=h (qh q)
def ajI(q:Q)(h:Kq Q->P:=by
 intro q_
 have e1:ai x.st.s x.d=(af x.st.s (gaW x.d.at_),{x.d with o:=ldW x.st.s.W (gaW x.d.at_),second:=true},false):=by unfold ai;rw[if_pos q1,if_neg MV]
 have e2:(ai x.st.s x.d).2=({x.d with o:=ldW x.st.s.W (gaW x.d.at_),second:=true},false):=by rw[e1]
 rw[e2]
 revert e1 e2
 exact q_.o):P:=h (qh q)
def ajJ(q:Q)(h:Kq Q->P:=by
 intro q_
 obtain⟨m,hm⟩:=LE (cX c st i p)
 have HM:=qh hm
 have e1:aj c st i=iF st i m:=by unfold aj;rw[<-hp,if_neg ahE,hm]
 rw[e1]
 have e2:sv (iF st i m).T i=m.2.2.2:=by show sv (st.T.set i m.2.2.2) i=_;rw[ba,if_pos ⟨rfl,J4⟩]
 rw[e2,<-hp]
 have q1:¬p.pc=0:=by omega
 have q2:¬p.pc=10:=by omega
 revert m hm HM e1 e2 q1 q2
 exact q_.o):P:=h (qh q)
def ajK(q:Q)(h:Kq Q->P:=by
 intro q_
 have HP:=qh hp
 have K0:=qh h
 have K1:=qh (h.below ((Below.refl _ w).drew))
 revert HP K0 K1
 exact q_.o):P:=h (qh q)
def ajL(q:Q)(h:Kq Q->P:=by
 intro q_
 have hz:=xb hs (ac P).length
 have NP:WdB 1100 (smA s (ac P).length):=hz.1.mono ahE
 have mP:=ox (kg:=kg) (kl:=kl) (par:=par) (bud:=bud) hc NP
 revert hz NP mP
 exact q_.o):P:=h (qh q)
def ajM(q:Q)(h:Kq Q->P:=by
 intro q_
 have HM:=qh (kX h aid)
 have c1:Z w x.p 1 (ifV k x.l):=h.p.cell 1
 have H:=qh h
 revert HM c1 H
 exact q_.o):P:=h (qh q)
def ajN(q:Q)(h:Kq Q->P:=by
 intro q_
 refine RdL.of_own (enc:=λv=>[v]) (sz:=1) (λ_=>rfl) rfl (by rw[List.length_map,h.len];omega) (e:=22) (base:=w1.heap.size) ?_
 have e:(us.map (·.v)).flatMap (fun(v:Value)=>[v])=us.map (·.v):=by simp
 rw[e]
 revert e
 exact q_.o):P:=h (qh q)
def ajO(q:Q)(h:Kq Q->P:=by
 intro q_
 have HC:=qh (λW st (k:aC B W a g x c P T st)=>CoN.spots k)
 have HT:=qh hT
 have H:=qh h
 have HX:Kq (xY c st i p=⟨s1,G1,L1,st.T.set i {r with pc:=p.pc}⟩):=qh (by unfold xY;rw[<-hm];rfl)
 have HR:Kq ((cX c st i p).2.2.2.pc=r.pc):=qh (by rw[<-hm])
 revert HC HT H HX HR
 exact q_.o):P:=h (qh q)
def ajP(q:Q)(h:Kq Q->P:=by
 intro q_
 have HN:=qh (gX ((w.alloc (cells #[vP,vT] 24)).alloc (cells #[J gl,J lo,J pa,J bud] 36)) vP vT P T ((hP.alloc _).alloc _) ((hT.alloc _).alloc _) hc)
 have JX:=qh hc
 revert HN JX
 exact q_.o):P:=h (qh q)
def ajQ(q:Q)(h:Kq Q->P:=by
 intro q_
 have t1:¬(n:Int)<1:=by omega
 have t2:¬32<(n:Int):=by omega
 have HR:=qh (And.intro V h.room)
 have HG:=qh (And.intro h.blk.lt h.wds.lt)
 revert t1 t2 HR HG
 exact q_.o):P:=h (qh q)
def ajR(q:Q)(h:Kq Q->P:=by
 intro q_
 have e0:=ST (K3.o.sp.cell HP.o 0 _ rfl)
 have z0:=K3.o.sp.free (n*4)
 have d6:=K3.o.cs.2.2.2.2.2.2
 revert e0 z0 d6
 exact q_.o):P:=h (qh q)
def ajS(q:Q)(h:Kq Q->P:=by
 intro q_
 have z0:=H5.o.2.1.free 0
 have z1:=H5.o.2.1.free 1
 have z2:=H5.o.2.1.free 2
 have z3:=H5.o.2.1.free 3
 have y0:=H5.o.2.1.cell 0
 have y1:=H5.o.2.1.cell 1
 have y2:=H5.o.2.1.cell 2
 have y3:=H5.o.2.1.cell 3
 have x0:=H5.o.2.2.1.cell 0
 have x1:=H5.o.2.2.1.cell 1
 have x2:=H5.o.2.2.1.cell 2
 have x3:=H5.o.2.2.1.cell 3
 revert z0 z1 z2 z3 y0 y1 y2 y3 x0 x1 x2 x3
 exact q_.o):P:=h (qh q)
def ajT(q:Q)(h:Kq Q->P:=by
 intro q_
 refine Op HS.o λw1 b1=>?_
 have K1:=qh (H.o.below b1.o.drew)
 have T1:=qh (aa.of_below (S:=SmS a g X) b1.o.drew)
 have K0:=qh (H.o.below b1.o)
 revert w1 b1 K1 T1 K0
 exact q_.o):P:=h (qh q)
def ajU(q:Q)(h:Kq Q->P:=by
 intro q_
 have u0:(pc==0)=false:=by simpa using hc.1
 have u1:(pc==10)=false:=by simpa using hc.2
 have HX:=qh mT
 have HS:=qh F'
 have HP:=qh hp
 have HD:=qh hD
 revert u0 u1 HX HS HP HD
 exact q_.o):P:=h (qh q)
def ajV(q:Q)(h:Kq Q->P:=by
 intro q_
 obtain⟨i0,hi,JF,JH,hz2⟩:=info_parts Tryz.infoIn
 have HI:=qh (And.intro hi (And.intro JF (And.intro JH hz2)))
 revert i0 hi JF JH hz2 HI
 exact q_.o):P:=h (qh q)
def ajW(q:Q)(h:Kq Q->P:=by
 intro q_
 have x1:IntKind.i64.wrap (3*x)=3*x:=IntWalk.i64_in _ ahE
 have x2:IntKind.i64.wrap (1+3*x)=1+3*x:=IntWalk.i64_in _ ahE
 revert x1 x2
 exact q_.o):P:=h (qh q)
def ajX(q:Q)(h:Kq Q->P:=by
 intro q_
 have HF:=qh (λW (k:an W c cap bud nd h)=>wI k b (by exact I))
 have HO:=λW (k:an W c cap bud nd h)=>aD k.ar (cL b) Y
 revert HF HO
 exact q_.o):P:=h (qh q)
def ajY(q:Q)(h:Kq Q->P:=by
 intro q_
 have hn:=h.n32
 have e0:=ST (h.sp.cell hp 0 _ rfl)
 revert hn e0
 exact q_.o):P:=h (qh q)
def ajZ(q:Q)(h:Kq Q->P:=by
 intro q_
 have H:=qh k
 have HN:=k.fx.n32
 have P6:=k.fx.d5
 have Jy:=k.sn
 obtain⟨p,i'⟩:=LE (sv m.S n)
 have hp:m.S[n]? =some p:=by rw[i'];exact gC ahE
 revert H HN P6 Jy p i' hp
 exact q_.o):P:=h (qh q)
def aj0(q:Q)(h:Kq Q->P:=by
 intro q_
 have t2:¬(n:Int)<0:=by omega
 have LU:=h.nT.2.2.1
 revert t2 LU
 exact q_.o):P:=h (qh q)
def aj1(q:Q)(h:Kq Q->P:=by
 intro q_
 have Kl:(sv x.st.T i).pc=10->∀j,j<n->j≠i->(sv x.U j).a=0->(sv x.U j).pc=9->False:=λht j hj e h0 h9=>oth ht j hj e ⟨h0,.inl h9⟩
 have bA:=hB.w.ld ahE (gaA (c.node i))
 have bW:=hB.w.ld ahE (gaW (c.node i))
 revert Kl bA bW
 exact q_.o):P:=h (qh q)
def aj2(q:Q)(h:Kq Q->P:=by
 intro q_
 refine Op HS.o λw1 b1=>?_
 have Ju:=b1.o.size
 revert w1 b1 Ju
 exact q_.o):P:=h (qh q)
def aj3(q:Q)(h:Kq Q->P:=by
 intro q_
 have hm:=(lF 0).2.leave y hi
 have hs:=fF (onA x.st (ae x.st.s (nuFl N) 0)) i
 have PX:(sv (az (onA x.st (ae x.st.s (nuFl N) 0)) i).T i).pc=11:=(eT (st:=onA x.st (ae x.st.s (nuFl N) 0)) (j:=i) (lF 0).2.v hi).2 ht
 revert hm hs PX
 exact q_.o):P:=h (qh q)
def aj4(q:Q)(h:Kq Q->P:=by
 intro q_
 have JU:∀j,(σ' j).a=(σ j).a:=λj=>by rw[hs];split;(rename_i e;rw[e,ha]);rfl
 revert JU
 exact q_.o):P:=h (qh q)
def aj5(q:Q)(h:Kq Q->P:=by
 intro q_
 have a0:=ST (k.sp.cell hp 0 _ rfl)
 have a1:=k.sp.cell hp 1 _ rfl
 have a2:=k.sp.cell hp 2 _ rfl
 have a3:=k.sp.cell hp 3 _ rfl
 revert a0 a1 a2 a3
 exact q_.o):P:=h (qh q)
def aj6(q:Q)(h:Kq Q->P:=by
 intro q_
 have H:=qh h
 obtain⟨x',mT⟩:=LE (aE ⟨st,d,U⟩ n)
 rw[<-mT]
 unfold aE at mT
 obtain⟨p,i'⟩:=LE (sv U n)
 simp only at mT
 revert H x' p i' mT
 exact q_.o):P:=h (qh q)
def aj7(q:Q)(h:Kq Q->P:=by
 intro q_
 have HF:=qh (λW (k:MaT w W c bud h)=>iT k.is ((i:Int)+1) ahE)
 have HJ:=qh (λW ar' (k:MaT w W c bud {h with ar:=ar'})=>k.sput (p':=(⟨17,v,b,z⟩:Sp)) hp (j:=1) (v:= J v) ahG rfl)
 revert HF HJ
 exact q_.o):P:=h (qh q)
def aj8(q:Q)(h:Kq Q->P:=by
 intro q_
 have HF:=qh (λW (k:MaT w W c bud h)=>iT k.is ((i:Int)+1) ahE)
 have HJ:=qh (λW ar' (k:MaT w W c bud {h with ar:=ar'})=>k.sput (p':=(⟨20,v,b,z⟩:Sp)) hp (j:=1) (v:= J v) ahG rfl)
 revert HF HJ
 exact q_.o):P:=h (qh q)
def aj9(q:Q)(h:Kq Q->P:=by
 intro q_
 refine tk 10 ?_
 refine tk 11 ?_
 refine tk 12 ?_
 refine tk 13 ?_
 exact q_.o):P:=h (qh q)
def aka(q:Q)(h:Kq Q->P:=by
 intro q_
 have e:r=true:=by rw[V];exact decide_eq_true (show 0<=i/\i<U.length from⟨h0,by rw[Jy];exact h1⟩)
 revert e
 exact q_.o):P:=h (qh q)
def akb(q:Q)(h:Kq Q->P:=by
 intro q_
 have c2:Z w l 2 (slice (some ⟨q,0,none⟩) r.S.length r.S.length):=h.lk.cell 2
 revert c2
 exact q_.o):P:=h (qh q)
def akc(q:Q)(h:Kq Q->P:=by
 intro q_
 have K1:=qh (And.intro (t1.q JX.o) (And.intro (B0.o.trans (b1.mono ahE)) (And.intro (aa.blk (S:=[]) ⟨b1.os,b1.tape,b1.output,b1.size,λi hi _=>b1.block i ahE⟩ BX.o ahF) I)))
 revert K1
 exact q_.o):P:=h (qh q)
def akd(q:Q)(h:Kq Q->P:=by
 intro q_
 have HC:=qh (λW s b (k:BnT w W c s b) (e:b=⟨3,x,m,g⟩)=>show W.cell? c.k=some ↑c.a/\W.cell? ⟨c.k,4,none⟩=some (J x)from by subst e;exact⟨k.is.ca,k.is.cx⟩)
 revert HC
 exact q_.o):P:=h (qh q)
def ake(q:Q)(h:Kq Q->P:=by
 intro q_
 have JV:(w.alloc (cells #[vP,vT] 24)).heap.size=w.heap.size+1:=by simp
 have B0:=qh ((Below.refl w.heap.size w).alloc (Nat.le_refl _) (cells #[vP,vT] 24))
 revert JV B0
 exact q_.o):P:=h (qh q)
def akf(q:Q)(h:Kq Q->P:=by
 intro q_
 have a0:=ST (h.sp.cell hp 0 _ rfl)
 revert a0
 exact q_.o):P:=h (qh q)
def akg(q:Q)(h:Kq Q->P:=by
 intro q_
 have Pt:(ce !=0)=true:=by simpa using JK
 have MF:=qh (show ce=0->False from JK)
 revert Pt MF
 exact q_.o):P:=h (qh q)
def akh(q:Q)(h:Kq Q->P:=by
 intro q_
 have hl:i<x.U.length:=by rw[h.lU];exact hi
 revert hl
 exact q_.o):P:=h (qh q)
def aki(q:Q)(h:Kq Q->P:=by
 intro q_
 have M1:=qh (λW (s:M.σ) (k:WoIs X W s)=>show W.cell? ⟨X.wb,3,none⟩=some (.bool M.rd)from k.wd.cell 3)
 have HM:=qh (show X.hi<=w.heap.size from h.hw.2.2)
 have KQ:=qh (h.lo G)
 have HG:=qh G
 revert M1 HM KQ HG
 exact q_.o):P:=h (qh q)
def akj(q:Q)(h:Kq Q->P:=by
 intro q_
 simp only[List.take_succ_cons,List.take_zero,List.drop_succ_cons,List.drop_zero]
 exact q_.o):P:=h (qh q)
def akk(q:Q)(h:Kq Q->P:=by
 intro q_
 have x1:IntKind.i64.wrap (2*x)=2*x:=IntWalk.i64_in _ ahE
 have x2:IntKind.i64.wrap (1+2*x)=1+2*x:=IntWalk.i64_in _ ahE
 have x3:IntKind.i64.wrap (1+2*x+1)=1+2*x+1:=IntWalk.i64_in _ ahE
 revert x1 x2 x3
 exact q_.o):P:=h (qh q)
end Go.Proofs.YtglokdbiggbkjaaGreat
