/- Joined texts: what stands in several places. -/
import Derived.Test.YtglokdbiggbkjaaGreatRows
import Derived.WalkKit
import Derived.ProofKit
import Derived.ChangeOld
import Derived.WalkSpells
import Derived.WalkLawsBesides
import Derived.Below
import Derived.Outline
import Derived.Lib.Hide
import Derived.Deep.QuietTactic
import Derived.BigQuiet
import Derived.Deep.Draws
import Derived.Maps.OwnSet
import Derived.Maps.OwnOps
import Derived.OpenShut
import Derived.Deep.Slices
import Derived.Deep.Fields
import Derived.ChangeSame
import Derived.Carry
import GoSem.Core.View
import Derived.RegionCalls
import Derived.StillTailTactics
import Derived.Laws.LoneSync
import Derived.Laws.OwnMore
import Derived.OwnWalk
import Derived.Maps.AppendAt
import Derived.Deep.RegionHeld3
import Derived.Deep.DeepCutAuto
import Derived.Laws.Externs
import Derived.Tactics
import Derived.Tactics2
import Derived.Defers
import Derived.Laws.Pointers
import Derived.RegionTactic
import Derived.ChangeAlike
import Derived.Deep.RegionLaw
import Derived.Deep.AppendLies
import Derived.Handy
import Derived.IntWalk
import Derived.Laws.BitsAllLaws
import Derived.Laws.EntriesVeiled
import Derived.BigRegion
import Derived.Laws.MakeOwn
import Derived.ScopeJumps
import Derived.WalkMore
import Derived.Laws.CopyOwn
import Derived.RowKit
import Derived.Laws.Strings
import Derived.WideShapes
set_option linter.unusedVariables false
namespace Go.Proofs.YtglokdbiggbkjaaGreat
structure Kq(Q:Prop):Prop where
 o:Q
theorem qh{Q:Prop}(h:Q):Kq Q:=⟨h⟩
instance:Coe Nat Go.Addr:=⟨λa=>⟨a,0,none⟩⟩
instance:Coe Nat Go.Value:=⟨λa=>.pointer (some ⟨a,0,none⟩)⟩
theorem QX{P:Prop}(h:P:=by omega):P:=h
theorem QY{P:Prop}(h:P:=by simp):P:=h
theorem QZ{P:Prop}(h:P:=by decide):P:=h
theorem Q1{P:Prop}(h:P:=by simp;omega):P:=h
theorem Q0{P:Prop}(h:P:=by kernel_rfl):P:=h
theorem Rv{P:Prop}(h:P:=by simp[Value.oneCell']):P:=h
theorem RG{P:Prop}(h:P:=by simp[List.mem_of_getElem? hu]):P:=h
theorem Q5{P:Prop}(h:P:=by rfl):P:=h
theorem Sc{P:Prop}(h:P:=by exact((((H2.o.2.set_ 0 _).set_ 1 _).set_ 2 _).set_ 3 _)):P:=h
theorem Rk{P:Prop}(h:P:=by assumption):P:=h
theorem Sd{P:Prop}(h:P:=by have:=HI.o;have:=HS.o;unfold BnB at *;simp only;omega):P:=h
theorem RA{P:Prop}(h:P:=by have:=HI.o;unfold BnB at *;simp only at *;omega):P:=h
theorem Rp{P:Prop}(h:P:=by have:=HI.o;have:=HV.o;unfold BnB at *;simp only at *;omega):P:=h
theorem Rq{P:Prop}(h:P:=by simp[maP,fh,dw]):P:=h
theorem Se{P:Prop}(h:P:=by rw[hv];simp[maP,fh,dw,(by simpa using h0:¬ldW h.ar.W (1+2*((i:Int)+1))=0)]):P:=h
theorem Sf{P:Prop}(h:P:=by rw[hv];simp[maP,fh,dw,(by simpa using h0:ldW h.ar.W (1+2*((i:Int)+1))=0)]):P:=h
theorem RH{P:Prop}(h:P:=by simp[maP,dw,<-HF.o,<-HR.o]):P:=h
theorem Rf{P:Prop}(h:P:=by simpa using e):P:=h
theorem RI{P:Prop}(h:P:=by simp at z0 z1;simp[z0,z1]):P:=h
theorem RJ{P:Prop}(h:P:=by simp at z1;simp[z1]):P:=h
theorem RK{P:Prop}(h:P:=by simp at z0;simp[z0]):P:=h
theorem RB{P:Prop}(h:P:=by rw[h.sl];exact hi):P:=h
theorem RM{P:Prop}(h:P:=by simp[K4.o.sl,hin]):P:=h
theorem Rc{P:Prop}(h:P:=by rw[har,hv];rfl):P:=h
theorem Q8{P:Prop}(h:P:=by simpa using hc):P:=h
theorem Rl{P:Prop}(h:P:=by rw[har];rfl):P:=h
theorem Rh{P:Prop}(h:P:=by simpa using hd):P:=h
theorem RD{P:Prop}(h:P:=by have:=hk.le;omega):P:=h
theorem RN{P:Prop}(h:P:=by first|exact λk _=>rfl|exact λk hk=>ef _ hk):P:=h
theorem RR{P:Prop}(h:P:=by first|exact .inl rfl|(right;omega)):P:=h
theorem Re{P:Prop}(h:P:=by dsimp only;omega):P:=h
theorem RS{P:Prop}(h:P:=by first|exact .inl (λ_=>rfl)|exact .inr ⟨⟨_,λk hk=>ef _ hk⟩,rfl⟩):P:=h
theorem Sg{P:Prop}(h:P:=by first|exact .inl (by dsimp only;omega)|exact .inr (.inl ⟨by dsimp only;omega,by rw[gC];simp⟩)|exact .inr (.inr ⟨by omega,by dsimp only;omega,rfl⟩)):P:=h
theorem Rm{P:Prop}(h:P:=by rw[hz];omega):P:=h
theorem Rw{P:Prop}(h:P:=by unfold cG;simp):P:=h
theorem RU{P:Prop}(h:P:=by show(ae _ _).W.length=_;rw[aM]):P:=h
theorem RV{P:Prop}(h:P:=by show(ac _ _ _).W.length=_;rw[aw,bE]):P:=h
theorem RW{P:Prop}(h:P:=by intro e;rw[<-e]at hn;simp at hn):P:=h
theorem Sh{P:Prop}(h:P:=by intro i hi;simp at hi;rcases hi with rfl|rfl|rfl<;>first|(rw[h.fx.oa];omega)|(rw[h.fx.og];omega)|(rw[hq];omega)):P:=h
theorem RE{P:Prop}(h:P:=by unfold CoS;simp):P:=h
theorem Ra{P:Prop}(h:P:=by have:=HO.o;simp;omega):P:=h
theorem Si{P:Prop}(h:P:=by have:=HO.o;have:=H7.o.2.1;have:=T6.o.size;simp;omega):P:=h
theorem Rr{P:Prop}(h:P:=by simpa using hi):P:=h
theorem Rn{P:Prop}(h:P:=by unfold bdF;omega):P:=h
theorem Rx{P:Prop}(h:P:=by simp[HL.o]):P:=h
theorem RF{P:Prop}(h:P:=by simpa using hm):P:=h
theorem Sj{P:Prop}(h:P:=by first|exact λk _=>rfl|exact λk hk=>ef _ (by rw[hx];exact hk)):P:=h
theorem Ro{P:Prop}(h:P:=by push_cast;omega):P:=h
theorem RX{P:Prop}(h:P:=by rw[hb l (by omega)];decide):P:=h
theorem Sk{P:Prop}(h:P:=by show ¬((11:Int)=10\/(11:Int)=15\/(11:Int)=16);decide):P:=h
theorem Sl{P:Prop}(h:P:=by have:=(List.getElem?_eq_some_iff.1 HP.o).1;simp[this]):P:=h
theorem Rt{P:Prop}(h:P:=by simpa using hz):P:=h
theorem RY{P:Prop}(h:P:=by rw[hv];first|rfl|(unfold eu;simp)):P:=h
theorem RO{P:Prop}(h:P:=by show((gh m _ _ _ _).S.set n _)[n]? =_;rw[re];exact H.o.gt hn _):P:=h
theorem RZ{P:Prop}(h:P:=by rw[HG.o.1,HG.o.2 _ H4.o.2.2,<-HZ.o];exact tK _ f1 f2):P:=h
theorem R2{P:Prop}(h:P:=by rw[HE.o,if_neg ne,if_pos e1]):P:=h
theorem R3{P:Prop}(h:P:=by rw[HG.o.1,HG.o.2 _ H4.o.2.2,<-HZ.o];exact tJ h0 f2):P:=h
theorem R4{P:Prop}(h:P:=by rw[HG.o.1,HG.o.2 _ H4.o.2.2,<-HZ.o];exact tI h0 f1):P:=h
theorem R7{P:Prop}(h:P:=by rw[HE.o,if_neg ne,if_neg e1,if_pos e2]):P:=h
theorem R8{P:Prop}(h:P:=by rw[HE.o,if_neg ne,if_neg e1,if_neg e2]):P:=h
theorem Ru{P:Prop}(h:P:=by have:=HO.o;omega):P:=h
theorem R9{P:Prop}(h:P:=by have:=k.2;rw[hsl]at this;exact this):P:=h
theorem Rb{P:Prop}(h:P:=by first|exact bK u0 u1 v1|exact bM u0 u1 v2|exact bN u0 u1 v1 v2|(rw[HP0.o];rfl)|rfl|(rw[HP0.o];decide)|decide|exact bJ HV.o):P:=h
theorem Ry{P:Prop}(h:P:=by rw[hb];rfl):P:=h
theorem Q7{P:Prop}(h:P:=by rw[<-hp];rfl):P:=h
theorem Q9{P:Prop}(h:P:=by have:=(bB ha).2;omega):P:=h
theorem Sa{P:Prop}(h:P:=by have:=l.tg;unfold nuFl at hq;omega):P:=h
theorem Rd{P:Prop}(h:P:=by rw[<-hp]):P:=h
theorem Rz{P:Prop}(h:P:=by rw[hl];omega):P:=h
theorem RQ{P:Prop}(h:P:=by show ldW (ae _ _).W _=_;rw[eL]):P:=h
theorem Sb{P:Prop}(h:P:=by rw[h.nT.1,h.nT.2.1];exact hk.w):P:=h
theorem Rj{P:Prop}(h:P:=by have:=h.bu;omega):P:=h
theorem JX{P:Prop}(h:P:=by exact⟨rfl,rfl⟩):P:=h
theorem QW{P:Prop}(h:P:=by go_ret;exact JX):P:=h
theorem gs{P:Prop}(h:P:=by go_wp2;exact QW):P:=h
theorem hV{P:Prop}(h:P:=by rintro en w1 ⟨rfl,rfl⟩;exact gs):P:=h
theorem iZ{P:Prop}(h:P:=by
 cases hn:P.length with
 |zero=>rfl
 |succ n=>unfold upF;rw[if_neg QX]):P:=h
theorem QV{P:Prop}(h:P:=by exact⟨h.ok,AP,cP,AT,cT,vU,vN,vS,vM,us,h1,h2.1,h3.1,h4.1,h5.1,h6.1,h7.1,h8,λi x v a c=>(h9 i x v a c).1⟩):P:=h
theorem mP{P:Prop}(h:P:=by obtain⟨AP,cP,AT,cT,vU,vN,vS,vM,us,h1,h2,h3,h4,h5,h6,h7,h8,h9⟩:=h.ex;exact QV):P:=h
theorem mT{P:Prop}(h:P:=by rintro en w1 ⟨rfl,rfl⟩;go_wp2;go_ret;rw[HX.o];exact⟨⟨_,rfl⟩,H0.o⟩):P:=h
theorem QU{P:Prop}(h:P:=by rintro en w1 ⟨⟨v,rfl⟩,k1⟩;have K:=qh k1;clear k1;go_wp2;go_ret;exact⟨⟨_,rfl⟩,K.o⟩):P:=h
theorem QT{P:Prop}(h:P:=by refine H.o.mono ?_;exact QU):P:=h
theorem Eq{P:Prop}(h:P:=by go_wp2_with fail;exact QT):P:=h
theorem QS{P:Prop}(h:P:=by exact⟨rfl,K2.o.put (b':=⟨4,x,m,g⟩) 3 rfl RA⟩):P:=h
theorem QR{P:Prop}(h:P:=by rw[HX.o];exact QS):P:=h
theorem QQ{P:Prop}(h:P:=by go_ret;exact QR):P:=h
theorem QP{P:Prop}(h:P:=by go_wp2;exact QQ):P:=h
theorem QO{P:Prop}(h:P:=by have z3:=K2.o.is.blk.free 3;exact QP):P:=h
theorem QN{P:Prop}(h:P:=by have e3:=K2.o.is.cs;exact QO):P:=h
theorem QM{P:Prop}(h:P:=by
 go_region_held3 (λW=>W.cell? c.k=some ↑c.a/\W.cell? ⟨c.k,4,none⟩=some (.int .i64 x))
  (first|with_reducible exact HC.o _ _ _ K1.o rfl|with_reducible exact HC.o _ _ _ K2.o rfl)
  (first
   |(go_at_call 177;go_loud (refine(HO.o _ K1.o).mono ?_);rintro en w3 ⟨rfl,a3,t3⟩;have K2:=qh (K1.o.op t3 a3);skip;clear a3 t3))
 exact QN):P:=h
theorem It{P:Prop}(h:P:=by go_wp2_with fail;exact QM):P:=h
theorem Iu{P:Prop}(h:P:=by rintro en w4 ⟨rfl,k4⟩;have K4:=qh k4;clear k4;go_wp2;go_ret;exact⟨rfl,K4.o.is,K4.o.tn⟩):P:=h
theorem QL{P:Prop}(h:P:=by exact⟨aT QX,rfl⟩):P:=h
theorem QK{P:Prop}(h:P:=by go_ret;exact QL):P:=h
theorem Iv{P:Prop}(h:P:=by go_wp2;exact QK):P:=h
theorem QJ{P:Prop}(h:P:=by rintro en w1 ⟨rfl,h1⟩;have H1:=qh h1;clear h1;go_wp2;go_ret;exact⟨rfl,H1.o⟩):P:=h
theorem QI{P:Prop}(h:P:=by refine H.o.mono ?_;exact QJ):P:=h
theorem Iw{P:Prop}(h:P:=by go_wp2_with fail;exact QI):P:=h
theorem QH{P:Prop}(h:P:=by have:=(List.getElem?_eq_some_iff.1 hp).1;rw[if_pos rfl,if_pos this,hp]):P:=h
theorem QG{P:Prop}(h:P:=by subst e;exact QH):P:=h
theorem QF{P:Prop}(h:P:=by
 by_cases e:i=j;·exact QG
 ·rw[if_neg e]):P:=h
theorem QE{P:Prop}(h:P:=by rw[List.getElem?_set];exact QF):P:=h
theorem QD{P:Prop}(h:P:=by intro j;exact QE):P:=h
theorem Ix{P:Prop}(h:P:=by apply List.ext_getElem?;exact QD):P:=h
theorem QC{P:Prop}(h:P:=by exact⟨rfl,(HK.o.1.below B1.o).below ((Below.refl _ _).alloc (Nat.le_refl _) _)⟩):P:=h
theorem QB{P:Prop}(h:P:=by rw[HX.o];exact QC):P:=h
theorem QA{P:Prop}(h:P:=by go_ret;exact QB):P:=h
theorem Qz{P:Prop}(h:P:=by go_wp2;exact QA):P:=h
theorem Qy{P:Prop}(h:P:=by clear b1;exact Qz):P:=h
theorem Qx{P:Prop}(h:P:=by have B1:=qh b1;exact Qy):P:=h
theorem Qw{P:Prop}(h:P:=by rintro en w1 ⟨rfl,b1⟩;exact Qx):P:=h
theorem Qv{P:Prop}(h:P:=by refine HSP.o.mono ?_;exact Qw):P:=h
theorem Qu{P:Prop}(h:P:=by go_wp2_with fail;exact Qv):P:=h
theorem Qs{P:Prop}(h:P:=by go_enter Tryz.func333,Tryz.ntmps333;exact Qu):P:=h
theorem Iy{P:Prop}(h:P:=by clear h0 e0;exact Qs):P:=h
theorem Qr{P:Prop}(h:P:=by go_ret;rw[HX.o];exact⟨az HD.o.symm,H2.o⟩):P:=h
theorem Iz{P:Prop}(h:P:=by go_wp2;exact Qr):P:=h
theorem IA{P:Prop}(h:P:=by go_enter Tryz.func304,Tryz.ntmps304;go_wp2;go_ret2;exact JX):P:=h
theorem Qq{P:Prop}(h:P:=by go_quiet (fail);go_wp2;go_ret;exact⟨by rw[HV.o];rfl,Qt.below ⟨_,rfl⟩ _⟩):P:=h
theorem IB{P:Prop}(h:P:=by go_wp2;exact Qq):P:=h
theorem IF{P:Prop}(h:P:=by go_wp2;go_ret;exact⟨rfl,B1.o⟩):P:=h
theorem Qp{P:Prop}(h:P:=by clear b1;exact IF):P:=h
theorem Qo{P:Prop}(h:P:=by have B1:=qh b1;exact Qp):P:=h
theorem IC{P:Prop}(h:P:=by rintro en w1 ⟨rfl,b1⟩;exact Qo):P:=h
theorem ID{P:Prop}(h:P:=by rw[if_pos (decide_eq_true QX),show((k:Int)+1).toNat-1=k by omega]):P:=h
theorem Qn{P:Prop}(h:P:=by exact⟨az (by rw[<-HB.o];symm;exact decide_eq_false QX),rfl⟩):P:=h
theorem Qm{P:Prop}(h:P:=by go_ret;exact Qn):P:=h
theorem IE{P:Prop}(h:P:=by go_wp2;exact Qm):P:=h
theorem Ql{P:Prop}(h:P:=by rw[List.getD_eq_getElem?_getD,List.getElem?_eq_getElem this];rfl):P:=h
theorem IG{P:Prop}(h:P:=by unfold sv;exact Ql):P:=h
theorem IH{P:Prop}(h:P:=by have:b≠i:=λe=>hk k (e ▸ List.mem_of_mem_tail hb);unfold HLk;rw[bS this];exact hab):P:=h
theorem Qk{P:Prop}(h:P:=by rcases this with e|e|e|e<;>simp[e]):P:=h
theorem Qj{P:Prop}(h:P:=by
 have:i%4=0\/i%4=1\/i%4=2\/i%4=3:=by omega
 exact Qk):P:=h
theorem Qi{P:Prop}(h:P:=by rw[List.getElem?_range h,if_pos h];exact Qj):P:=h
theorem Qh{P:Prop}(h:P:=by
 by_cases h:i<n;·exact Qi
 ·rw[if_neg h];simp;omega):P:=h
theorem Qg{P:Prop}(h:P:=by rw[List.getElem?_map,List.getElem?_replicate];exact Qh):P:=h
theorem Qf{P:Prop}(h:P:=by refine List.ext_getElem? λi=>?_;exact Qg):P:=h
theorem Qe{P:Prop}(h:P:=by rw[Array.toList_map,Array.toList_range];exact Qf):P:=h
theorem II{P:Prop}(h:P:=by unfold madeCells;exact Qe):P:=h
theorem IJ{P:Prop}(h:P:=by
 induction n with
 |zero=>rfl
 |succ n ih=>rw[List.replicate_succ,List.flatMap_cons,ih,show(n+1)*4=4+n*4 by omega,<-List.replicate_append_replicate];rfl):P:=h
theorem Qd{P:Prop}(h:P:=by show(ai P P.length).length<=32;omega):P:=h
theorem IK{P:Prop}(h:P:=by have:=aZ P P.length;exact Qd):P:=h
theorem Ji{P:Prop}(h:P:=by rw[e]at this;exact this):P:=h
theorem Qc{P:Prop}(h:P:=by have e:(madeCells #[Value.int .i64 0,.int .i64 0,.int .i64 0,.int .i64 0] (T.length*4)).toList=List.replicate (T.length*4) (.int .i64 0):=jt _ _;exact Ji):P:=h
theorem Qb{P:Prop}(h:P:=by have:=gu hown;exact Qc):P:=h
theorem Qa{P:Prop}(h:P:=by rw[lC];exact Qb):P:=h
theorem IL{P:Prop}(h:P:=by unfold dq;exact Qa):P:=h
theorem IM{P:Prop}(h:P:=by rw[decide_eq_true c];symm;exact decide_eq_true QX):P:=h
theorem IN{P:Prop}(h:P:=by rw[decide_eq_false c];symm;exact decide_eq_false QX):P:=h
theorem IO{P:Prop}(h:P:=by show(sv st.S i).pc=10↔0<(if (sv st.S i).pc=10 then(1:Int)else 0);split<;>simp[*]):P:=h
theorem P9{P:Prop}(h:P:=by obtain⟨he,h1,h2⟩:=hR.to (λr w' q=>⟨q.1,q.2⟩);exact⟨he,⟨h1,hc,hd.own h2⟩,h2⟩):P:=h
theorem IP{P:Prop}(h:P:=by intro e w' hR;exact P9):P:=h
theorem P8{P:Prop}(h:P:=by exact⟨by simp,k.below bw,aa.of_below bw⟩):P:=h
theorem IQ{P:Prop}(h:P:=by subst hr;exact P8):P:=h
theorem P7{P:Prop}(h:P:=by go_wp2_with (go_at_call 421;refine HT.o.mono ?_;rintro e w' ⟨rfl,k1,t1⟩;have HK:=qh (And.intro k1 t1);clear k1 t1);go_ret;exact mM):P:=h
theorem IR{P:Prop}(h:P:=by go_wp2_with (go_at_call 419;refine(ed _ _).mono ?_;rintro e w' ⟨rfl,rfl⟩);exact P7):P:=h
theorem IS{P:Prop}(h:P:=by rw[decide_eq_false h,decide_eq_false (λk=>by rcases k.1 with k|k<;>contradiction)]):P:=h
theorem P6{P:Prop}(h:P:=by have H2:=qh (And.intro k2 t2);clear k2 t2;go_wp2;go_ret;exact⟨rfl,H2.o⟩):P:=h
theorem P5{P:Prop}(h:P:=by rintro en w2 ⟨rfl,k2,t2⟩;exact P6):P:=h
theorem P4{P:Prop}(h:P:=by refine HL.o.mono ?_;exact P5):P:=h
theorem P3{P:Prop}(h:P:=by go_wp2_with fail;exact P4):P:=h
theorem P2{P:Prop}(h:P:=by go_wp2_with (go_at_call 434;refine(bC .parted K0.o i hi).mono ?_;rintro e w' ⟨rfl,rfl⟩);exact P3):P:=h
theorem P1{P:Prop}(h:P:=by go_enter Tryz.func431,Tryz.ntmps431;exact P2):P:=h
theorem P0{P:Prop}(h:P:=by clear h hp;exact P1):P:=h
theorem IT{P:Prop}(h:P:=by have K0:=qh h;exact P0):P:=h
theorem IU{P:Prop}(h:P:=by
 split;·omega
 split<;>omega):P:=h
theorem IV{P:Prop}(h:P:=by rw[List.getD_eq_getElem?_getD,List.getElem?_eq_getElem h1];exact List.getElem_mem h1):P:=h
theorem IW{P:Prop}(h:P:=by exact h.upd0 hI hi _ h.g rfl (lk _ QY _ (hL10 QZ QZ QZ))):P:=h
theorem IX{P:Prop}(h:P:=by refine h.upd0 hI hi _ h.g rfl (lk _ ?_ _ (hL10 QZ QZ QZ));simp only;split<;>simp):P:=h
theorem PZ{P:Prop}(h:P:=by exact absurd (by rw[e1,e2]) (h.ne i j hi hj e (.inr (.inl h1)) (.inr (.inl h2)))):P:=h
theorem PY{P:Prop}(h:P:=by
 by_cases e:i=j;·exact e
 ·exact PZ):P:=h
theorem PX{P:Prop}(h:P:=by have e2:=(h.hd j hj (.inl h2)).1;exact PY):P:=h
theorem IY{P:Prop}(h:P:=by have e1:=(h.hd i hi (.inl h1)).1;exact PX):P:=h
theorem PV{P:Prop}(h:P:=by
 rcases h1 with h1|h1
 ·exact .inl ((kc j).1 h1)
 ·exact .inr ((kc j).2 h1)):P:=h
theorem PW{P:Prop}(h:P:=by
 rcases h2 with h2|h2
 ·exact .inl ((kc k).1 h2)
 ·exact .inr ((kc k).2 h2)):P:=h
theorem PU{P:Prop}(h:P:=by
 refine h.ne j k hj hk hn ?_ ?_;·exact PV
 ·exact PW):P:=h
theorem IZ{P:Prop}(h:P:=by rw[key,key];exact PU):P:=h
theorem PT{P:Prop}(h:P:=by
 split;·rw[ha];omega
 ·rename_i e;rw[if_neg e]at hc;have:=h.w j hj hc;omega):P:=h
theorem I0{P:Prop}(h:P:=by rw[hs]at hc ⊢;exact PT):P:=h
theorem PC{P:Prop}(h:P:=by rename_i e;rw[if_pos e]at hc;omega):P:=h
theorem PS{P:Prop}(h:P:=by
 split;·exact PC
 ·rename_i e;rw[if_neg e]at hc;have:=h.hd j hj hc;omega):P:=h
theorem I7{P:Prop}(h:P:=by rw[hs]at hc ⊢;exact PS):P:=h
theorem PL{P:Prop}(h:P:=by
 rcases hc with hc|hc
 ·exact(h.w j hj hc).2
 ·exact(h.hd j hj hc).2):P:=h
theorem PR{P:Prop}(h:P:=by rw[if_neg e2]at h2;rw[if_neg e1,if_neg e2];exact h.ne j k hj hk hn h1 h2):P:=h
theorem PQ{P:Prop}(h:P:=by rw[if_neg e1]at h1;exact PR):P:=h
theorem PP{P:Prop}(h:P:=by
 by_cases e1:j=i<;>by_cases e2:k=i;·omega
 ·rw[if_neg e2]at h2;rw[if_pos e1,if_neg e2,ha];have:=lt k hk h2;omega
 ·rw[if_neg e1]at h1;rw[if_neg e1,if_pos e2,ha];have:=lt j hj h1;omega
 ·exact PQ):P:=h
theorem PO{P:Prop}(h:P:=by rw[hs,hs];exact PP):P:=h
theorem PN{P:Prop}(h:P:=by rw[hs]at h2;exact PO):P:=h
theorem PM{P:Prop}(h:P:=by rw[hs]at h1;exact PN):P:=h
theorem I8{P:Prop}(h:P:=by
 have lt:∀j,j<n->((σ j).pc=2\/(σ j).pc=10\/(σ j).pc=11)->(σ j).a<f t:=λj hj hc=>by exact PL
 exact PM):P:=h
theorem PK{P:Prop}(h:P:=by
 rw[hs]at hc;split at hc;·rename_i e;subst e;omega
 ·exact h.hd j hj hc):P:=h
theorem I9{P:Prop}(h:P:=by rw[key];exact PK):P:=h
theorem PJ{P:Prop}(h:P:=by rename_i e;subst e;exact .inl h2):P:=h
theorem PH{P:Prop}(h:P:=by
 rw[hs]at h1;split at h1;·exact PJ
 ·exact h1):P:=h
theorem PI{P:Prop}(h:P:=by
 rw[hs]at h3;split at h3;·exact PJ
 ·exact h3):P:=h
theorem PG{P:Prop}(h:P:=by
 refine h.ne j k hj hk hn ?_ ?_;·exact PH
 ·exact PI):P:=h
theorem Ja{P:Prop}(h:P:=by rw[key,key];exact PG):P:=h
theorem PF{P:Prop}(h:P:=by have a1:=h.w j hj hc;have a2:=h.ne j i hj hi e (.inl hc) (.inr (.inr h1));omega):P:=h
theorem PE{P:Prop}(h:P:=by rw[if_neg e]at hc;exact PF):P:=h
theorem PD{P:Prop}(h:P:=by rename_i e;exact PE):P:=h
theorem PB{P:Prop}(h:P:=by
 split;·exact PC
 ·exact PD):P:=h
theorem Jb{P:Prop}(h:P:=by rw[hs]at hc ⊢;exact PB):P:=h
theorem PA{P:Prop}(h:P:=by have a1:=h.hd j hj hc;have a2:=h.ne j i hj hi e (.inr hc) (.inr (.inr h1));omega):P:=h
theorem Pz{P:Prop}(h:P:=by rename_i e;exact PA):P:=h
theorem Py{P:Prop}(h:P:=by
 split at hc;·omega
 ·exact Pz):P:=h
theorem Jc{P:Prop}(h:P:=by rw[hs]at hc;exact Py):P:=h
theorem Px{P:Prop}(h:P:=by
 split at h3;·omega
 rename_i e1 e2;rw[if_neg e1,if_neg e2];exact h.ne j k hj hk hn h2 h3):P:=h
theorem Pw{P:Prop}(h:P:=by
 split at h2;·omega
 exact Px):P:=h
theorem Pv{P:Prop}(h:P:=by rw[hs,hs];exact Pw):P:=h
theorem Pu{P:Prop}(h:P:=by rw[hs]at h3;exact Pv):P:=h
theorem Jd{P:Prop}(h:P:=by rw[hs]at h2;exact Pu):P:=h
theorem Jf{P:Prop}(h:P:=by refine⟨?_,λy=>?_,λy=>?_⟩<;>grind):P:=h
theorem Je{P:Prop}(h:P:=by simp only[funext_iff,updF,fN,fW,hf,mNx,mWt];exact Jf):P:=h
theorem Jg{P:Prop}(h:P:=by
 rcases hp with⟨h1,h2⟩|⟨h1,h2⟩
 ·exact tk.own hi he QX (λ_ _=>rfl) (.inl rfl)
 ·exact tk.low hi he (.inl QX) QZ (λ_ _=>rfl)):P:=h
theorem Jh{P:Prop}(h:P:=by exact⟨jI hl h.i,λ_ _=>rfl⟩):P:=h
theorem Jj{P:Prop}(h:P:=by rw[World.cell?_of_block (w:=w) (w':=w') (a:=p) (k.block p.block (aQ h) hS)];exact h):P:=h
theorem Pt{P:Prop}(h:P:=by refine HT.o.mono ?_;exact hV):P:=h
theorem Jk{P:Prop}(h:P:=by go_wp2_with fail;exact Pt):P:=h
theorem Jl{P:Prop}(h:P:=by
 unfold szK;split;·omega
 split;·omega
 exact IU):P:=h
theorem Jm{P:Prop}(h:P:=by obtain⟨x,hx⟩:=aj (show 0<T.length by omega);exact List.length_pos_of_mem (jc (aR hc).2.2.2 hx)):P:=h
theorem Jp{P:Prop}(h:P:=by rw[List.getD_eq_getElem?_getD,List.getElem?_replicate];split<;>rfl):P:=h
theorem Jn{P:Prop}(h:P:=by unfold sv;exact Jp):P:=h
theorem Ps{P:Prop}(h:P:=by exact⟨he,⟨h1,⟨rfl,rfl,hc⟩,hd.own h2,hp,hl⟩,h2⟩):P:=h
theorem Pr{P:Prop}(h:P:=by obtain⟨he,h1,h2⟩:=hR.to (λr w' q=>⟨q.1,q.2⟩);exact Ps):P:=h
theorem Jo{P:Prop}(h:P:=by intro e w' hR;exact Pr):P:=h
theorem Pp{P:Prop}(h:P:=by rw[if_pos ⟨this,e⟩,if_pos e];exact⟨rfl,(decide_eq_true e).symm⟩):P:=h
theorem Pq{P:Prop}(h:P:=by rw[if_neg (λq=>e q.2),if_neg e];exact⟨rfl,(decide_eq_false e).symm⟩):P:=h
theorem Po{P:Prop}(h:P:=by
 by_cases e:(sv st.S i).pc=u;·exact Pp
 ·exact Pq):P:=h
theorem Jq{P:Prop}(h:P:=by have:okI st.S i:=⟨by omega,by omega⟩;exact Po):P:=h
theorem Jr{P:Prop}(h:P:=by show false=decide (((sv st.S i).pc=10\/(sv st.S i).pc=0)/\(sv st.S i).pc≠0/\(sv st.S i).pc≠10);exact(decide_eq_false QX).symm):P:=h
theorem Pn{P:Prop}(h:P:=by
 show kG (sv (st.S.set i _) j);rw[fR hl];split;·unfold kG;simp
 ·exact hp j):P:=h
theorem Js{P:Prop}(h:P:=by
 split;·exact Pn
 ·exact hp j):P:=h
theorem Pm{P:Prop}(h:P:=by exact⟨he,⟨h1,⟨rfl,rfl⟩,hd'.own h2,hl,hh⟩,h2⟩):P:=h
theorem Pk{P:Prop}(h:P:=by obtain⟨he,h1,h2⟩:=hR.to (λr w' q=>⟨q.1,q.2⟩);exact Pm):P:=h
theorem Jt{P:Prop}(h:P:=by intro e w' hR;exact Pk):P:=h
theorem Ju{P:Prop}(h:P:=by have:=wv (h.1.below bw) (i:Int);rwa [eX (by rw[h.1.sl];exact hi)]at this):P:=h
theorem Pj{P:Prop}(h:P:=by exact⟨rfl,(hd.o _).put rfl,(aa.of_qt ⟨_,rfl⟩).trans (fg _ _ _)⟩):P:=h
theorem Pi{P:Prop}(h:P:=by rw[HT.o];exact Pj):P:=h
theorem Ph{P:Prop}(h:P:=by go_ret;exact Pi):P:=h
theorem Pg{P:Prop}(h:P:=by go_wp2;exact Ph):P:=h
theorem Pf{P:Prop}(h:P:=by go_quiet ((go_at_call 329;exact dS (HI.o _ (hd.o _))));exact Pg):P:=h
theorem Pe{P:Prop}(h:P:=by go_wp2_with fail;exact Pf):P:=h
theorem Jv{P:Prop}(h:P:=by go_enter Tryz.func327,Tryz.ntmps327;exact Pe):P:=h
theorem OM{P:Prop}(h:P:=by exact⟨rfl,H1.o.1,H1.o.2⟩):P:=h
theorem Pd{P:Prop}(h:P:=by go_ret;exact OM):P:=h
theorem Jw{P:Prop}(h:P:=by go_wp2;exact Pd):P:=h
theorem Jx{P:Prop}(h:P:=by
 by_cases c:k<m/\k≠u/\3<pcs k/\pcs k<10;·rw[if_pos c,if_pos ⟨by omega,c.2⟩]
 ·rw[if_neg c,if_neg (λh=>c ⟨by omega,h.2⟩)]):P:=h
theorem Pc{P:Prop}(h:P:=by go_enter Tryz.func320,Tryz.ntmps320;go_wp2;go_ret;exact⟨aT HV.o.symm,rfl⟩):P:=h
theorem Pb{P:Prop}(h:P:=by clear hv;exact Pc):P:=h
theorem Jy{P:Prop}(h:P:=by have HV:=qh hv;exact Pb):P:=h
theorem O9{P:Prop}(h:P:=by
 refine Code.wp_mono ?_ h;intro e a' w' hq;cases e with
 |goto l'=>exact hq.elim
 |_=>exact hq):P:=h
theorem Jz{P:Prop}(h:P:=by
 refine wp_scope_jumps l (λa' w'=>rest.wp P (Exit.noGoto Q) a' w') (λ_ _=>0) hf first λa w h=>?_
 exact O9):P:=h
theorem JA{P:Prop}(h:P:=by
 by_cases ha:1<=a/\a<=m;·rw[gf (aO.2 QX)];simp[ha]
 ·unfold stW;rw[iD.2 QX];simp[ha]):P:=h
theorem O8{P:Prop}(h:P:=by exact⟨he,⟨h1,hc,hd.own h2,hl⟩,h2⟩):P:=h
theorem O7{P:Prop}(h:P:=by obtain⟨he,h1,h2⟩:=hR.to (λr w' q=>⟨q.1,q.2⟩);exact O8):P:=h
theorem JB{P:Prop}(h:P:=by intro e w' hR;exact O7):P:=h
theorem JC{P:Prop}(h:P:=by have:=sQ (h.1.below bw) (i:Int);rwa [gz (by rw[h.1.sl];exact hi)]at this):P:=h
theorem JD{P:Prop}(h:P:=by
 split;·exact Ed st i _ j (h3 j) (λe=>by simp only at e;omega)
 ·exact h3 j):P:=h
theorem O6{P:Prop}(h:P:=by exact⟨_,rfl,rfl,k2,(aa.of_below bw).trans t2⟩):P:=h
theorem JE{P:Prop}(h:P:=by rintro e w' ⟨rfl,k2,t2⟩;exact O6):P:=h
theorem O5{P:Prop}(h:P:=by exact⟨he,⟨h1,⟨rfl,rfl⟩,hd.own h2,hl⟩,h2⟩):P:=h
theorem O4{P:Prop}(h:P:=by obtain⟨he,h1,h2⟩:=hR.to (λr w' q=>⟨q.1,q.2⟩);exact O5):P:=h
theorem JF{P:Prop}(h:P:=by intro e w' hR;exact O4):P:=h
theorem JG{P:Prop}(h:P:=by rintro e w' ⟨rfl,k2,t2⟩;exact⟨_,rfl,by simp,k2,(aa.of_below bw).trans t2⟩):P:=h
theorem JH{P:Prop}(h:P:=by simp only[funext_iff,updF,rN,rS,qv wl];exact Jf):P:=h
theorem JI{P:Prop}(h:P:=by first|grind [updF]|(intros;grind [updF])):P:=h
theorem JJ{P:Prop}(h:P:=by clear tk pcs z n2 tl l u4 nx u s14 s16 he;grind):P:=h
theorem JK{P:Prop}(h:P:=by rw[e1,e2];exact⟨λv=>qV v QX QX,qw QX QX⟩):P:=h
theorem JL{P:Prop}(h:P:=by rw[hsp,if_pos ⟨rfl,rfl⟩];exact⟨by show(11:Int)<=11;decide,by show(11:Int)<=14;decide⟩):P:=h
theorem JM{P:Prop}(h:P:=by rw[hsame k QX QX];exact hb k hk):P:=h
theorem JN{P:Prop}(h:P:=by
 by_cases e:k=c;·subst e;rw[<-hvd,<-hjd,hs1];exact e2
 ·rw[hsame k hk e];exact hb k hk e):P:=h
theorem JO{P:Prop}(h:P:=by
 cases hO:O v s with
 |none=>have:=hx.fr v s hv hsn hO;have e5':(m.sp v s).pc=5:=e5;omega
 |some u=>exact⟨u,rfl⟩):P:=h
theorem JP{P:Prop}(h:P:=by have l1:=hT.lv u k hun hk;have l2:=hT.lv i c hi hcD;rw[<-h1]at l1;rw[<-hvd]at l2;omega):P:=h
theorem O0{P:Prop}(h:P:=by exact⟨λh=>(by cases h),λh=>by omega⟩):P:=h
theorem OZ{P:Prop}(h:P:=by rw[<-hvd,<-hjd,fO];exact O0):P:=h
theorem JQ{P:Prop}(h:P:=by subst e;exact OZ):P:=h
theorem OY{P:Prop}(h:P:=by
 by_cases e:k=c;·exact JQ
 ·rw[fb (λe'=>hlev k hk e e'.1),o k hk];omega):P:=h
theorem JR{P:Prop}(h:P:=by
 refine⟨_,nE hrel hT hi hcD (λk hk=>?_) λk hk=>?_⟩;·exact OY
 ·exact JM):P:=h
theorem OW{P:Prop}(h:P:=by rw[HR.o,HA.o];exact⟨rfl,H.o,aa.refl _ _⟩):P:=h
theorem OV{P:Prop}(h:P:=by unfold yH;exact OW):P:=h
theorem JT{P:Prop}(h:P:=by go_ret;exact OV):P:=h
theorem OX{P:Prop}(h:P:=by go_wp2_with (go_at_call 255;refine(iV H.o).mono ?_;rintro e w' ⟨rfl,rfl⟩);exact JT):P:=h
theorem JS{P:Prop}(h:P:=by go_enter Tryz.func250,Tryz.ntmps250;exact OX):P:=h
theorem OU{P:Prop}(h:P:=by exact⟨rfl,H3.o.1.put1c HPP.o.1 (j:=0) QZ rfl,cK H3.o.2 (q_mv x T) _ _⟩):P:=h
theorem OT{P:Prop}(h:P:=by rw[HE.o];exact OU):P:=h
theorem OS{P:Prop}(h:P:=by unfold VD;exact OT):P:=h
theorem OR{P:Prop}(h:P:=by go_end0;exact OS):P:=h
theorem JU{P:Prop}(h:P:=by go_wp2;exact OR):P:=h
theorem JV{P:Prop}(h:P:=by apply Classical.byContradiction;intro hn;rw[du hn]at hpp;rw[hpp]at h10;exact absurd h10 QZ):P:=h
theorem OQ{P:Prop}(h:P:=by rw[<-HP.o];unfold aE;have HB:=qh b1;clear b1;go_wp2;go_ret;exact HF.o _ HB.o):P:=h
theorem OP{P:Prop}(h:P:=by rintro en w1 ⟨rfl,b1⟩;exact OQ):P:=h
theorem OO{P:Prop}(h:P:=by refine(jC H.o i).mono ?_;exact OP):P:=h
theorem ON{P:Prop}(h:P:=by go_wp2_with fail;exact OO):P:=h
theorem JW{P:Prop}(h:P:=by go_enter Tryz.func254,Tryz.ntmps254;exact ON):P:=h
theorem OL{P:Prop}(h:P:=by have H1:=qh (And.intro k1 t1');clear k1 t1' HA;go_wp2;go_end0;exact OM):P:=h
theorem OK{P:Prop}(h:P:=by rintro en w1 ⟨rfl,k1,t1'⟩;exact OL):P:=h
theorem OJ{P:Prop}(h:P:=by refine HA.o.mono ?_;exact OK):P:=h
theorem JY{P:Prop}(h:P:=by go_wp2_with fail;exact OJ):P:=h
theorem OI{P:Prop}(h:P:=by clear k1 t1' HA;exact Jw):P:=h
theorem OH{P:Prop}(h:P:=by have H1:=qh (And.intro k1 t1');exact OI):P:=h
theorem OG{P:Prop}(h:P:=by rintro en w1 ⟨rfl,k1,t1'⟩;exact OH):P:=h
theorem OF{P:Prop}(h:P:=by refine HA.o.mono ?_;exact OG):P:=h
theorem JZ{P:Prop}(h:P:=by go_wp2_with fail;exact OF):P:=h
theorem J0{P:Prop}(h:P:=by exact⟨rfl,K2.o,T2.o⟩):P:=h
theorem OE{P:Prop}(h:P:=by have H2:=qh (And.intro k2 t2);clear k2 t2;go_wp2;go_ret;rw[HX.o];exact⟨rfl,H2.o⟩):P:=h
theorem OD{P:Prop}(h:P:=by rintro en w2 ⟨rfl,k2,t2⟩;exact OE):P:=h
theorem OC{P:Prop}(h:P:=by refine HF.o.mono ?_;exact OD):P:=h
theorem OB{P:Prop}(h:P:=by go_wp2_with fail;exact OC):P:=h
theorem OA{P:Prop}(h:P:=by rintro en w1 ⟨rfl,rfl⟩;exact OB):P:=h
theorem Oz{P:Prop}(h:P:=by refine HB.o.mono ?_;exact OA):P:=h
theorem Oy{P:Prop}(h:P:=by go_wp2_with fail;exact Oz):P:=h
theorem Ox{P:Prop}(h:P:=by go_enter Tryz.func374,Tryz.ntmps374;exact Oy):P:=h
theorem Ow{P:Prop}(h:P:=by clear h hb hs2;exact Ox):P:=h
theorem J1{P:Prop}(h:P:=by rw[hs2]at c5;exact Ow):P:=h
theorem Ov{P:Prop}(h:P:=by exact⟨congrArg (λb=>Ending.returned (Value.bool b)) (decide_eq_false QX),rfl⟩):P:=h
theorem Ou{P:Prop}(h:P:=by go_ret;exact Ov):P:=h
theorem Ot{P:Prop}(h:P:=by go_wp2;exact Ou):P:=h
theorem Os{P:Prop}(h:P:=by rintro en w1 ⟨rfl,rfl⟩;exact Ot):P:=h
theorem Oq{P:Prop}(h:P:=by refine HT.o.mono ?_;exact Os):P:=h
theorem J2{P:Prop}(h:P:=by go_wp2_with fail;exact Oq):P:=h
theorem J3{P:Prop}(h:P:=by
 intro hj;split;·show sv (st.T.set i _) j=_;rw[svS hl,if_neg hj]
 ·rfl):P:=h
theorem J4{P:Prop}(h:P:=by exact⟨h.m.one y hj hi QX QX,t2.2⟩):P:=h
theorem Op{P:Prop}(h:P:=by rw[h1,if_neg (by have:=l.tg;unfold nuFl at hz;omega)]):P:=h
theorem Oo{P:Prop}(h:P:=by refine⟨h1,h.m.low y (by rw[e,bE]) (λq hq=>?_) (h.m.v.ars s')⟩;exact Op):P:=h
theorem Om{P:Prop}(h:P:=by
 have h1:∀q,ldW s'.W q=if q=z then v else ldW x.st.s.W q:=λq=>by rw[e,hw]
 exact Oo):P:=h
theorem J5{P:Prop}(h:P:=by have hw:=gf (W:=x.st.s.W) (x:=z) (aO.2 ⟨hz.1,by have:=l.len;unfold nuFl at hz;omega⟩) v;exact Om):P:=h
theorem Of{P:Prop}(h:P:=by simp[e]at h2;omega):P:=h
theorem Od{P:Prop}(h:P:=by rw[if_pos (by rw[e]),e];exact Of):P:=h
theorem Ol{P:Prop}(h:P:=by rw[if_neg (by unfold gaA;omega)];exact Of):P:=h
theorem Oj{P:Prop}(h:P:=by
 by_cases e:c.node i=a;·exact Od
 ·exact Ol):P:=h
theorem Oi{P:Prop}(h:P:=by rw[hw,hw,if_neg (show ¬gaW a=gaA (c.node i)by unfold gaA gaW;omega)];exact Oj):P:=h
theorem Oh{P:Prop}(h:P:=by have:=hn i hi;exact Oi):P:=h
theorem Og{P:Prop}(h:P:=by have hg:=h.g a ha;exact Oh):P:=h
theorem J6{P:Prop}(h:P:=by rw[h0,h1]at h2;exact Og):P:=h
theorem Oe{P:Prop}(h:P:=by rw[if_neg (by unfold gaW;omega)];exact Of):P:=h
theorem Oc{P:Prop}(h:P:=by
 by_cases e:c.node i=a;·exact Od
 ·exact Oe):P:=h
theorem Ob{P:Prop}(h:P:=by rw[hw,hw,if_neg (show ¬gaA a=gaW (c.node i)by unfold gaA gaW;omega)];exact Oc):P:=h
theorem Oa{P:Prop}(h:P:=by have:=hn i hi;exact Ob):P:=h
theorem N9{P:Prop}(h:P:=by have hg:=h.g a ha;exact Oa):P:=h
theorem J7{P:Prop}(h:P:=by rw[h0,h1]at h2;exact N9):P:=h
theorem N8{P:Prop}(h:P:=by first|exact Iq.stay (H2.o.put4 hn ⟨7,0,0,0⟩) (T2.o.trans (fe _ _ _ _ _ _)) rfl|exact Iq.put HP.o (H2.o.put4 hn ⟨7,0,0,0⟩) (T2.o.trans (fe _ _ _ _ _ _)) rfl Rb):P:=h
theorem N7{P:Prop}(h:P:=by rw[HX.o,if_pos HP0.o,if_neg QZ];exact N8):P:=h
theorem N6{P:Prop}(h:P:=by go_ret;exact N7):P:=h
theorem N5{P:Prop}(h:P:=by go_wp2;exact N6):P:=h
theorem NZ{P:Prop}(h:P:=by clear k2 t2';exact N5):P:=h
theorem NY{P:Prop}(h:P:=by simp only[Nat.add_zero]at b0;exact NZ):P:=h
theorem NX{P:Prop}(h:P:=by have f2:∀j,w2.frozen? ⟨X.q,j,none⟩=false:=λj=>H2.o.sp.free j;exact NY):P:=h
theorem NV{P:Prop}(h:P:=by have b3:=H2.o.sp.cell HP.o 3 _ rfl;exact NX):P:=h
theorem NU{P:Prop}(h:P:=by have b2:=H2.o.sp.cell HP.o 2 _ rfl;exact NV):P:=h
theorem NT{P:Prop}(h:P:=by have b1:=H2.o.sp.cell HP.o 1 _ rfl;exact NU):P:=h
theorem NS{P:Prop}(h:P:=by have b0:=H2.o.sp.cell HP.o 0 _ rfl;exact NT):P:=h
theorem NR{P:Prop}(h:P:=by have d6:=H2.o.cs.2.2.2.2.2.2;exact NS):P:=h
theorem NQ{P:Prop}(h:P:=by have T2:=qh (gQ t2');exact NR):P:=h
theorem NP{P:Prop}(h:P:=by have H2:=qh (H.o.coT t2' k2);exact NQ):P:=h
theorem NO{P:Prop}(h:P:=by rintro en w2 ⟨rfl,k2,t2'⟩;exact NP):P:=h
theorem NN{P:Prop}(h:P:=by refine HA.o.mono ?_;exact NO):P:=h
theorem NM{P:Prop}(h:P:=by go_wp2_with fail;exact NN):P:=h
theorem NL{P:Prop}(h:P:=by rintro en w1 ⟨rfl,rfl⟩;exact NM):P:=h
theorem NK{P:Prop}(h:P:=by refine HH.o.mono ?_;exact NL):P:=h
theorem J8{P:Prop}(h:P:=by go_wp2_with fail;exact NK):P:=h
theorem NJ{P:Prop}(h:P:=by first|exact Iq.stay (H.o.put4 hn ⟨1,1,0,0⟩) (fe _ _ _ _ _ _) rfl|exact Iq.put HP.o (H.o.put4 hn ⟨1,1,0,0⟩) (fe _ _ _ _ _ _) rfl Rb):P:=h
theorem NI{P:Prop}(h:P:=by rw[HX.o,if_pos HP0.o];exact NJ):P:=h
theorem NH{P:Prop}(h:P:=by go_ret;exact NI):P:=h
theorem NG{P:Prop}(h:P:=by go_wp2;exact NH):P:=h
theorem NF{P:Prop}(h:P:=by rintro en w1 ⟨rfl,rfl⟩;exact NG):P:=h
theorem NE{P:Prop}(h:P:=by refine HH.o.mono ?_;exact NF):P:=h
theorem J9{P:Prop}(h:P:=by go_wp2_with fail;exact NE):P:=h
theorem ND{P:Prop}(h:P:=by first|exact Iq.stay (H.o) (aa.refl _ _) rfl|exact Iq.put HP.o (H.o) (aa.refl _ _) rfl Rb):P:=h
theorem NC{P:Prop}(h:P:=by rw[HX.o,if_neg HP0.o];exact ND):P:=h
theorem NB{P:Prop}(h:P:=by go_ret;exact NC):P:=h
theorem NA{P:Prop}(h:P:=by go_wp2;exact NB):P:=h
theorem Nz{P:Prop}(h:P:=by rintro en w1 ⟨rfl,rfl⟩;exact NA):P:=h
theorem Ny{P:Prop}(h:P:=by refine HH.o.mono ?_;exact Nz):P:=h
theorem Kc{P:Prop}(h:P:=by go_wp2_with fail;exact Ny):P:=h
theorem Nx{P:Prop}(h:P:=by rw[if_pos ⟨by omega,by rw[h.lU];omega⟩,Int.toNat_natCast]):P:=h
theorem Kd{P:Prop}(h:P:=by unfold getS sv;exact Nx):P:=h
theorem Nw{P:Prop}(h:P:=by first|exact Iq.stay (K3.o) (T3.o) rfl|exact Iq.put HP.o (K3.o) (T3.o) rfl Rb):P:=h
theorem Nv{P:Prop}(h:P:=by rw[HX.o];exact Nw):P:=h
theorem Nt{P:Prop}(h:P:=by go_ret;exact Nv):P:=h
theorem Ke{P:Prop}(h:P:=by go_wp2;exact Nt):P:=h
theorem Ns{P:Prop}(h:P:=by
 split;· rename_i e;rw[e];omega
 · exact Int.le_refl _):P:=h
theorem Kf{P:Prop}(h:P:=by rw[lW.1];exact Ns):P:=h
theorem Kg{P:Prop}(h:P:=by exact⟨⟨rfl,rfl,hN,rfl⟩,λe=>by simp[dM]at e,λj hj _=>Nat.zero_le _⟩):P:=h
theorem Nr{P:Prop}(h:P:=by exact⟨r.bd.mono QX,r.v,r.len,by rw[gq];exact q.ops⟩):P:=h
theorem Kh{P:Prop}(h:P:=by have r:=q.ask k QX hi;exact Nr):P:=h
theorem Nq{P:Prop}(h:P:=by exact⟨r.bd.mono QX,r.v,r.len,by rw[fu];exact q.ops⟩):P:=h
theorem Ki{P:Prop}(h:P:=by have r:=q.leave k QX hi;exact Nq):P:=h
theorem Kj{P:Prop}(h:P:=by exact(hadd _).mono QX):P:=h
theorem Kk{P:Prop}(h:P:=by exact(hst _ _ QX).mono QX):P:=h
theorem Kl{P:Prop}(h:P:=by exact(h.step k hB QX hi).mono QX):P:=h
theorem Km{P:Prop}(h:P:=by obtain⟨h0,h1⟩:=hok;have:=h.i.lU;omega):P:=h
theorem Np{P:Prop}(h:P:=by rw[e1];show ldW (aD _ _ _ _).W y=0;rw[e2];omega):P:=h
theorem No{P:Prop}(h:P:=by show ldW (aH _ _ _ _ _).W y=0;exact Np):P:=h
theorem Nm{P:Prop}(h:P:=by have e3:=hz.1.ld QX y;exact No):P:=h
theorem Nl{P:Prop}(h:P:=by have e2:ldW (aD kg (smA s (ab P).length) (ab P).length par).W y=_:=jY _ _ _ _ hy;exact Nm):P:=h
theorem Kn{P:Prop}(h:P:=by
 have e1:ldW (aH kl par (mtQ P T) (aD kg (smA s (ab P).length) (ab P).length par) (ab P).length).W y=_:=fw (Nat.zero_le _) (by
   show y<=((aD kg (smA s (ab P).length) (ab P).length par).W.length:Int)
   rw[a6];omega)
 exact Nl):P:=h
theorem Nk{P:Prop}(h:P:=by exact⟨he,⟨h1,⟨rfl,rfl⟩,hd.own h2,⟨h2.blk hq.1 hq.2.2,hq.2⟩,hl⟩,h2⟩):P:=h
theorem Nj{P:Prop}(h:P:=by obtain⟨he,h1,h2⟩:=hR.to (λr w' q=>⟨q.1,q.2⟩);exact Nk):P:=h
theorem Ko{P:Prop}(h:P:=by intro e w' hR;exact Nj):P:=h
theorem Ni{P:Prop}(h:P:=by go_enter Tryz.func357,Tryz.ntmps357;exact gs):P:=h
theorem Kp{P:Prop}(h:P:=by clear hb;exact Ni):P:=h
theorem Nh{P:Prop}(h:P:=by exact bodyPost_ret (results_cell_row Q5 _ _ w.heap.size 113 _ (0,0) _ Q5 Sc Tryz.underlying113 rfl Q0) rfl ⟨rfl,((((HB.o.trans (H2.o.1.mono QY)).setCell (Nat.le_refl _) _).setCell (Nat.le_refl _) _).setCell (Nat.le_refl _) _).setCell (Nat.le_refl _) _⟩):P:=h
theorem Ng{P:Prop}(h:P:=by go_wp2;exact Nh):P:=h
theorem Nf{P:Prop}(h:P:=by unfold aE;exact Ng):P:=h
theorem Nd{P:Prop}(h:P:=by obtain⟨pc,u,b,z⟩:=p;exact Nf):P:=h
theorem Nc{P:Prop}(h:P:=by clear b2 hb;exact Nd):P:=h
theorem Nb{P:Prop}(h:P:=by have H2:=qh (And.intro b2 hb);exact Nc):P:=h
theorem Na{P:Prop}(h:P:=by have f3:=hb.free 3;exact Nb):P:=h
theorem M9{P:Prop}(h:P:=by have f2:=hb.free 2;exact Na):P:=h
theorem M8{P:Prop}(h:P:=by have f1:=hb.free 1;exact M9):P:=h
theorem M7{P:Prop}(h:P:=by have f0:=hb.free 0;exact M8):P:=h
theorem M6{P:Prop}(h:P:=by have z3:=hb.cell 3;exact M7):P:=h
theorem M5{P:Prop}(h:P:=by have z2:=hb.cell 2;exact M6):P:=h
theorem M4{P:Prop}(h:P:=by have z1:=hb.cell 1;exact M5):P:=h
theorem M2{P:Prop}(h:P:=by have z0:=hb.cell 0;exact M4):P:=h
theorem M1{P:Prop}(h:P:=by have hb:Blk w2 w.heap.size 113 #[.int .i64 0,.int .i64 0,.int .i64 0,.int .i64 0]:=aa.blk (S:=[]) (aa.of_below b2) (Blk.new w 113 #[.int .i64 0,.int .i64 0,.int .i64 0,.int .i64 0]) QY;exact M2):P:=h
theorem M0{P:Prop}(h:P:=by
 have hs:w.heap.size<w2.heap.size:=by have:=b2.size;simp at this;omega
 exact M1):P:=h
theorem MZ{P:Prop}(h:P:=by rintro en w2 ⟨rfl,b2⟩;exact M0):P:=h
theorem MY{P:Prop}(h:P:=by refine HS.o.mono ?_;exact MZ):P:=h
theorem MX{P:Prop}(h:P:=by go_wp2_with fail;exact MY):P:=h
theorem MW{P:Prop}(h:P:=by rintro en w1 ⟨rfl,rfl⟩;exact MX):P:=h
theorem MV{P:Prop}(h:P:=by refine HM.o.mono ?_;exact MW):P:=h
theorem MU{P:Prop}(h:P:=by go_wp2_with fail;exact MV):P:=h
theorem MT{P:Prop}(h:P:=by go_enter Tryz.func355,Tryz.ntmps355;exact MU):P:=h
theorem MR{P:Prop}(h:P:=by clear H h1 hb0 b1;exact MT):P:=h
theorem MQ{P:Prop}(h:P:=by have HB:=qh b1;exact MR):P:=h
theorem Kr{P:Prop}(h:P:=by have HS:=qh (H _ b1);exact MQ):P:=h
theorem ML{P:Prop}(h:P:=by exact⟨b,rfl,H3.o⟩):P:=h
theorem MK{P:Prop}(h:P:=by go_ret;exact ML):P:=h
theorem MJ{P:Prop}(h:P:=by go_wp2;exact MK):P:=h
theorem MI{P:Prop}(h:P:=by clear k2;exact MJ):P:=h
theorem MH{P:Prop}(h:P:=by have H3:=qh k2;exact MI):P:=h
theorem MG{P:Prop}(h:P:=by rintro en w2 ⟨b,rfl,k2⟩;exact MH):P:=h
theorem MF{P:Prop}(h:P:=by refine H2.o.mono ?_;exact MG):P:=h
theorem ME{P:Prop}(h:P:=by go_wp2_with fail;exact MF):P:=h
theorem MD{P:Prop}(h:P:=by rintro en w1 ⟨rfl,rfl⟩;exact ME):P:=h
theorem MC{P:Prop}(h:P:=by refine HM.o.mono ?_;exact MD):P:=h
theorem MB{P:Prop}(h:P:=by go_wp2_with fail;exact MC):P:=h
theorem MP{P:Prop}(h:P:=by go_enter Tryz.func356,Tryz.ntmps356;exact MB):P:=h
theorem MO{P:Prop}(h:P:=by clear hb hD;exact MP):P:=h
theorem Ks{P:Prop}(h:P:=by have H2:=qh hD;exact MO):P:=h
theorem MN{P:Prop}(h:P:=by go_enter Tryz.func353,Tryz.ntmps353;exact MB):P:=h
theorem MM{P:Prop}(h:P:=by clear hb hD;exact MN):P:=h
theorem Kt{P:Prop}(h:P:=by have H2:=qh hD;exact MM):P:=h
theorem MA{P:Prop}(h:P:=by go_enter Tryz.func352,Tryz.ntmps352;exact MB):P:=h
theorem Mz{P:Prop}(h:P:=by clear hb hD;exact MA):P:=h
theorem Ku{P:Prop}(h:P:=by have H2:=qh hD;exact Mz):P:=h
theorem My{P:Prop}(h:P:=by
 rcases hr with rfl|rfl|hr
 ·exact h.sp.lt
 ·exact h.gd.dr.lt
 ·exact h.co.lts r hr):P:=h
theorem Mw{P:Prop}(h:P:=by simp only[List.mem_cons]at hr;exact My):P:=h
theorem Mv{P:Prop}(h:P:=by unfold SmS at hr;exact Mw):P:=h
theorem Kv{P:Prop}(h:P:=by intro r hr;exact Mv):P:=h
theorem Kw{P:Prop}(h:P:=by have:=h.co.fx.node (i:=n) (by rw[h.nT.1];exact hn);rw[h.nT.2.1]at this;exact this):P:=h
theorem Mu{P:Prop}(h:P:=by first|exact Iq.stay ((H.o.below HB.o).below ((Below.refl _ _).alloc (Nat.le_refl _) _)) ((aa.of_below HB.o).alloc _) rfl|exact Iq.put HP.o ((H.o.below HB.o).below ((Below.refl _ _).alloc (Nat.le_refl _) _)) ((aa.of_below HB.o).alloc _) rfl Rb):P:=h
theorem Mt{P:Prop}(h:P:=by rw[HX.o,if_neg HP0.o];exact Mu):P:=h
theorem Ms{P:Prop}(h:P:=by go_ret;exact Mt):P:=h
theorem Mr{P:Prop}(h:P:=by go_wp2;exact Ms):P:=h
theorem Mq{P:Prop}(h:P:=by clear b1;exact Mr):P:=h
theorem Mp{P:Prop}(h:P:=by have HB:=qh b1;exact Mq):P:=h
theorem Mo{P:Prop}(h:P:=by rintro en w1 ⟨rfl,b1⟩;exact Mp):P:=h
theorem Mn{P:Prop}(h:P:=by refine HS.o.mono ?_;exact Mo):P:=h
theorem Kx{P:Prop}(h:P:=by go_wp2_with fail;exact Mn):P:=h
theorem LD{P:Prop}(h:P:=by exact⟨rfl,K1.o,T1.o⟩):P:=h
theorem LC{P:Prop}(h:P:=by go_ret;exact LD):P:=h
theorem KL{P:Prop}(h:P:=by go_wp2;exact LC):P:=h
theorem Mi{P:Prop}(h:P:=by clear a2 t2;exact KL):P:=h
theorem Mh{P:Prop}(h:P:=by have T1:=qh (T0.o.trans (fd t2));exact Mi):P:=h
theorem Mg{P:Prop}(h:P:=by have K1:=qh (K0.o.arT t2 a2);exact Mh):P:=h
theorem Mf{P:Prop}(h:P:=by rintro en w1 ⟨rfl,a2,t2⟩;exact Mg):P:=h
theorem Mm{P:Prop}(h:P:=by refine(qm K0.o.gd.ga K0.o.gd.ar nd hnd.o K0.o.gd.n32 ho).mono ?_;exact Mf):P:=h
theorem Ml{P:Prop}(h:P:=by go_wp2_with fail;exact Mm):P:=h
theorem Mk{P:Prop}(h:P:=by have d2:=K0.o.cs.2.2.1;exact Ml):P:=h
theorem Mj{P:Prop}(h:P:=by have T0:=qh (aa.refl (SmS a g X) w);exact Mk):P:=h
theorem Ky{P:Prop}(h:P:=by have K0:=H;exact Mj):P:=h
theorem Me{P:Prop}(h:P:=by refine(qo K0.o.gd.ga K0.o.gd.ar nd hnd.o K0.o.gd.n32 ho).mono ?_;exact Mf):P:=h
theorem Md{P:Prop}(h:P:=by go_wp2_with fail;exact Me):P:=h
theorem Mc{P:Prop}(h:P:=by have d2:=K0.o.cs.2.2.1;exact Md):P:=h
theorem Mb{P:Prop}(h:P:=by have T0:=qh (aa.refl (SmS a g X) w);exact Mc):P:=h
theorem Kz{P:Prop}(h:P:=by have K0:=H;exact Mb):P:=h
theorem Lp{P:Prop}(h:P:=by go_ret;exact J0):P:=h
theorem Lo{P:Prop}(h:P:=by go_wp2;exact Lp):P:=h
theorem L9{P:Prop}(h:P:=by
 go_region_held3 (λW=>W.cell? ⟨X.l,3,none⟩=some ↑X.dd/\W.cell? ⟨X.l,1,none⟩=some ↑X.b)
  (first|exact⟨K1d.o.cs.2.2.2.1,K1d.o.cs.2.1⟩|exact⟨K2.o.cs.2.2.2.1,K2.o.cs.2.1⟩)
  (first
   |(go_at_call 137;go_loud (refine HN1.o.mono ?_);rintro en wn ⟨rfl,rfl⟩)
   |(go_at_call 373;go_loud (refine HB1.o.mono ?_);rintro en w2 ⟨rfl,k4,t4⟩;have K2:=qh (K1d.o.gdT t4 k4);have T2:=qh (T1.o.drew.trans (ja t4));clear k4 t4))
 exact Lo):P:=h
theorem L8{P:Prop}(h:P:=by go_wp2_with fail;exact L9):P:=h
theorem KC{P:Prop}(h:P:=by have HN1:=qh (kS _ X.b P T (K1d.o).tb.f);exact L8):P:=h
theorem Ma{P:Prop}(h:P:=by have HB1:=qh (mD (K1d.o).gd hN false);exact KC):P:=h
theorem KA{P:Prop}(h:P:=by have K1d:=qh K1.o.drw;exact Ma):P:=h
theorem L7{P:Prop}(h:P:=by clear k4 t4;exact KL):P:=h
theorem L6{P:Prop}(h:P:=by have T1:=qh (ja (X:=X) t4);exact L7):P:=h
theorem L5{P:Prop}(h:P:=by have K1:=qh (H.o.gdT t4 k4);exact L6):P:=h
theorem L4{P:Prop}(h:P:=by rintro en w1 ⟨rfl,k4,t4⟩;exact L5):P:=h
theorem L3{P:Prop}(h:P:=by refine HD.o.mono ?_;exact L4):P:=h
theorem L2{P:Prop}(h:P:=by go_wp2_with fail;exact L3):P:=h
theorem L0{P:Prop}(h:P:=by have d3:=H.o.cs.2.2.2.1;exact L2):P:=h
theorem KD{P:Prop}(h:P:=by go_enter Tryz.func394,Tryz.ntmps394;exact L0):P:=h
theorem LZ{P:Prop}(h:P:=by cases q;all_goals go_enter Tryz.func393,Tryz.ntmps393;go_wp2_with fail;refine HS.o.mono ?_;rintro en w1 ⟨rfl,k3,t3⟩;have K1:=qh (H.o.coT t3 k3);have T1:=qh (gQ (X:=X) t3);clear k3 t3;go_wp2;go_ret;exact⟨rfl,K1.o,T1.o⟩):P:=h
theorem LY{P:Prop}(h:P:=by clear h hq HS0;exact LZ):P:=h
theorem LX{P:Prop}(h:P:=by have H:=qh h;exact LY):P:=h
theorem LW{P:Prop}(h:P:=by have l5:=h.cs.2.2.2.2.2.1;exact LX):P:=h
theorem LV{P:Prop}(h:P:=by have HS:=qh HS0;exact LW):P:=h
theorem LU{P:Prop}(h:P:=by rw[<-hq]at HS0 ⊢;exact LV):P:=h
theorem LT{P:Prop}(h:P:=by obtain⟨q,hq⟩:∃q,q=bf (sv st.T n) (sv (ak c st n).T n):=⟨_,rfl⟩;exact LU):P:=h
theorem LR{P:Prop}(h:P:=by have HS0:=lR h.co C n hnx;exact LT):P:=h
theorem KE{P:Prop}(h:P:=by
 have hnx:n<X.x.n:=by rw[h.nT.1];exact hn
 exact LR):P:=h
theorem Ln{P:Prop}(h:P:=by clear k3 t3 l5;exact Lo):P:=h
theorem Lm{P:Prop}(h:P:=by have T2:=qh (T1.o.trans (gQ t3));exact Ln):P:=h
theorem Ll{P:Prop}(h:P:=by have K2:=qh (K1.o.coT t3 k3);exact Lm):P:=h
theorem KO{P:Prop}(h:P:=by rintro en w2 ⟨rfl,k3,t3⟩;exact Ll):P:=h
theorem LQ{P:Prop}(h:P:=by refine(kJ K1.o.co n hnx).mono ?_;exact KO):P:=h
theorem LP{P:Prop}(h:P:=by go_wp2_with fail;exact LQ):P:=h
theorem KF{P:Prop}(h:P:=by have l5:=K1.o.cs.2.2.2.2.2.1;exact LP):P:=h
theorem LO{P:Prop}(h:P:=by go_ret;exact⟨rfl,HK.o.1,HK.o.2⟩):P:=h
theorem LN{P:Prop}(h:P:=by go_wp2;exact LO):P:=h
theorem LM{P:Prop}(h:P:=by clear k3 t3;exact LN):P:=h
theorem LL{P:Prop}(h:P:=by have HK:=qh (And.intro k3 t3);exact LM):P:=h
theorem LK{P:Prop}(h:P:=by rintro en w1 ⟨rfl,k3,t3⟩;exact LL):P:=h
theorem LJ{P:Prop}(h:P:=by refine HL.o.mono ?_;exact LK):P:=h
theorem LI{P:Prop}(h:P:=by go_wp2_with fail;exact LJ):P:=h
theorem LH{P:Prop}(h:P:=by go_enter Tryz.func393,Tryz.ntmps393;exact LI):P:=h
theorem LG{P:Prop}(h:P:=by clear hr HL0 h;exact LH):P:=h
theorem LE{P:Prop}(h:P:=by have HL:=qh HL0;exact LG):P:=h
theorem KI{P:Prop}(h:P:=by rw[<-hr]at HL0 ⊢;exact LE):P:=h
theorem KJ{P:Prop}(h:P:=by rw[if_neg (by rw[hU];simp only;omega),hr,hU]):P:=h
theorem KK{P:Prop}(h:P:=by have:=m9 (n:=n) (show i<x.U.length by rw[h.lU];exact hi) hi p';rw[h0,h1]at this;simp at this;rw[hv,h.fl];omega):P:=h
theorem LB{P:Prop}(h:P:=by rintro en wn ⟨rfl,rfl⟩;exact Kz):P:=h
theorem LA{P:Prop}(h:P:=by refine HND.o.mono ?_;exact LB):P:=h
theorem Lz{P:Prop}(h:P:=by go_wp2_with fail;exact LA):P:=h
theorem Ly{P:Prop}(h:P:=by go_enter Tryz.func404,Tryz.ntmps404;exact Lz):P:=h
theorem Lx{P:Prop}(h:P:=by clear h hnn;exact Ly):P:=h
theorem Lw{P:Prop}(h:P:=by have H:=qh h;exact Lx):P:=h
theorem Lv{P:Prop}(h:P:=by have hnd:=qh hnd;exact Lw):P:=h
theorem Lu{P:Prop}(h:P:=by have l1:=h.cs.2.1;exact Lv):P:=h
theorem KM{P:Prop}(h:P:=by have HND:=qh (kh w X.b P T n hn h.tb.f _ hnn);exact Lu):P:=h
theorem Lt{P:Prop}(h:P:=by
 cases hz:(q==0)
 all_goals
   rw[hz]at HQ0;have HQ:=qh HQ0;clear HQ0;go_enter Tryz.func404,Tryz.ntmps404;go_wp2_with fail;refine HND.o.mono ?_;rintro en wn ⟨rfl,rfl⟩;go_wp2_with fail;refine HQ.o.mono ?_;rintro en w1 ⟨rfl,k3,t3⟩;have HK:=qh (And.intro k3 t3);clear k3 t3;go_wp2;go_ret;first
   | (rw[HV.o,if_pos Rt]
      exact⟨rfl,HK.o.1,HK.o.2⟩)
   | (rw[HV.o,if_neg Rt]
      exact⟨rfl,HK.o.1,HK.o.2⟩)):P:=h
theorem Ls{P:Prop}(h:P:=by clear h hnn hq hv;exact Lt):P:=h
theorem Lr{P:Prop}(h:P:=by have H:=qh h;exact Ls):P:=h
theorem Lq{P:Prop}(h:P:=by have HV:=qh hv;exact Lr):P:=h
theorem KN{P:Prop}(h:P:=by rw[<-hv];exact Lq):P:=h
theorem Lk{P:Prop}(h:P:=by have h1:=q6 j hj hr';have h2:=hno j hj hr';show x.d.at_+1<=c.node j;omega):P:=h
theorem KP{P:Prop}(h:P:=by have hr':=(nr 9 j hr).2;exact Lk):P:=h
theorem Lj{P:Prop}(h:P:=by cases r;all_goals (have q:=this.1;simp at q;exact q)):P:=h
theorem Li{P:Prop}(h:P:=by rw[if_pos hl,Int.toNat_natCast]at this;exact Lj):P:=h
theorem Lh{P:Prop}(h:P:=by have:=a1 r;exact Li):P:=h
theorem Lg{P:Prop}(h:P:=by refine⟨⟨a0.1,a0.2.1⟩,λr=>?_,by have q:=a2.1;simp at q;exact q⟩;exact Lh):P:=h
theorem KQ{P:Prop}(h:P:=by rw[if_pos hl,Int.toNat_natCast]at a0 a2;exact Lg):P:=h
theorem KR{P:Prop}(h:P:=by
 show(cy c x i r).st.s=x.st.s;unfold cy;split;·cases r<;>simp[bD]<;>split<;>rfl
 ·rfl):P:=h
theorem KT{P:Prop}(h:P:=by unfold dA;rw[<-gX];exact(decide_eq_false QX).symm):P:=h
theorem KU{P:Prop}(h:P:=by rw[decide_eq_true (by exact .inr ⟨e,f.symm⟩)];exact(decide_eq_true ⟨f,λz=>e (.inl z),λz=>e (.inr z)⟩).symm):P:=h
theorem KV{P:Prop}(h:P:=by rw[decide_eq_false (by intro z;rcases z with z|z;exact e z.1;exact f z.2.symm)];exact(decide_eq_false λz=>f z.1).symm):P:=h
theorem Lc{P:Prop}(h:P:=by rw[if_pos e,decide_eq_true e,e];cases r<;>simp[fR hl,kq]):P:=h
theorem KZ{P:Prop}(h:P:=by
 by_cases e:(sv x.U i).pc=0;·exact Lc
 ·rw[if_neg e,decide_eq_false e,<-gX]):P:=h
theorem Lf{P:Prop}(h:P:=by unfold cy;exact KZ):P:=h
theorem Le{P:Prop}(h:P:=by refine⟨_,rfl,?_,k2,t2⟩;exact Lf):P:=h
theorem KW{P:Prop}(h:P:=by rintro e w' ⟨rfl,k2,t2⟩;exact Le):P:=h
theorem KX{P:Prop}(h:P:=by rintro e w' ⟨rfl,k2,t2⟩;exact⟨_,rfl,ky x i hl ha,k2,t2⟩):P:=h
theorem Ld{P:Prop}(h:P:=by rwa [show getS x.U (i:Int)=sv x.U i by unfold getS;rw[if_pos ⟨by omega,by omega⟩,Int.toNat_natCast];rfl]at k):P:=h
theorem KY{P:Prop}(h:P:=by
 have hl:i<x.U.length:=by rw[h.lU];exact hi
 exact Ld):P:=h
theorem Lb{P:Prop}(h:P:=by go_wp2;go_ret;exact⟨rfl,(Below.refl _ _).alloc (Nat.le_refl _) _⟩):P:=h
theorem La{P:Prop}(h:P:=by go_enter Tryz.func43,Tryz.ntmps43;exact Lb):P:=h
theorem K9{P:Prop}(h:P:=by clear e;exact La):P:=h
theorem K7{P:Prop}(h:P:=by rw[e];exact K9):P:=h
end Go.Proofs.YtglokdbiggbkjaaGreat
