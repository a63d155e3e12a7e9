/- Joined texts. -/
import Derived.Deep.QuietTactic
import Derived.BigQuiet
import Derived.Deep.DeepCutAuto
import Derived.Tactics
import Derived.Tactics2
import Derived.Defers
import Derived.Laws.Pointers
import Derived.Laws.LoneSync
import Derived.RegionTactic
import Derived.RegionCalls
import Derived.ChangeAlike
import Derived.Deep.RegionLaw
import Derived.Deep.AppendLies
import Derived.Test.YtglokdbiggbkjaaGreatMgLocksSafe0
import Derived.Test.YtglokdbiggbkjaaGreatMgLocksSafe1
import Derived.Test.YtglokdbiggbkjaaGreatMgLocksSafe2
set_option linter.unusedVariables false
set_option linter.unusedSimpArgs false
set_option maxRecDepth 100000
set_option maxHeartbeats 16000000
namespace Go.Proofs.YtglokdbiggbkjaaGreat
section
open Go.RowKit
theorem Tryz.infoAt:(Tryz.prog.info? 216).map (λi=>(i.zero,i.size,i.bytes))=some (some (.agg #[.int .i64 0]),1,8):=by kernel_rfl
theorem mg (u:Value)(n:Nat):(madeCells #[u] n).toList=List.replicate n u:=by
 unfold madeCells;rw[Array.toList_map,Array.toList_range];refine List.ext_getElem? λi=>?_;rw[List.getElem?_map,List.getElem?_replicate];by_cases h:i<n;·rw[List.getElem?_range h,if_pos h];simp[Nat.mod_one]
 ·rw[if_neg h];simp;omega
theorem gu{w:World}{base:Nat}{e:TypeId}{sz g n:Nat}{xs:List Value}(h:w.ownsRow base e sz (.slice (some ⟨g,0,none⟩) n n) n xs):Blk w g e xs.toArray:=by
 rcases h.2 with⟨h',_⟩|⟨g',cap',cur,h',hb,hg,hnc,hcm,hcs,ht⟩
 ·simp at h'
 ·simp only[Value.slice.injEq,Option.some.injEq,Addr.mk.injEq,and_true,true_and]at h';obtain⟨rfl,rfl⟩:=h';have e1:cur=xs.toArray:=by rw[<-ht];apply Array.ext';rw[List.take_of_length_le (by rw[Array.length_toList,hcs];exact Nat.le_refl _)]
  unfold Blk;rw[hg,e1]
def ln (room:Int):Nat:=if room<0 then 0 else if 4096<room then 4096 else room.toNat
def dB (room:Int):Ar:=⟨[],ln room,0,0,0,false⟩
def Hk (w:World)(room:Int)(e:Ending)(w':World):Prop:=∃a g,e= .returned (.pointer (some ⟨a,0,none⟩))/\aA w' a g (dB room)/\w.heap.size<=a/\w.heap.size<=g/\Below w.heap.size w w'
theorem sE (w:World) (room:Int):Calls Tryz.prog 12 #[.int .i64 room] w (Hk w room):=by
  obtain⟨i0,hi,hz0,hz1,hz2⟩:=info_parts Tryz.infoAt;obtain⟨n,hn⟩:∃n,n=ln room:=⟨_,rfl⟩;have hc:n<=4096:=by rw[hn];unfold ln;split<;>(try split)<;>omega
  have HN:=qh hn
  have key:∀(w1:World),w1.ownsRow w.heap.size 216 1 (.slice (some ⟨w.heap.size,0,none⟩) n n) n (madeCells #[.int .i64 0] n).toList->w.grownBy w1 none->
      aA (w1.alloc (.cells #[.slice (some ⟨w.heap.size,0,none⟩) n n,.int .i64 0,.int .i64 0,.int .i64 0,.int .i64 0,.bool false] 106)) w1.heap.size w.heap.size (dB room)/\w.heap.size<=w1.heap.size/\Below w.heap.size w (w1.alloc (.cells #[.slice (some ⟨w.heap.size,0,none⟩) n n,.int .i64 0,.int .i64 0,.int .i64 0,.int .i64 0,.bool false] 106)):=by
    intro w1 hown hg
    rw[mg]at hown
    have hb:=gu hown
    have hlt:=hb.lt
    refine⟨⟨?_,?_,by omega,by simp[dB],by simp[dB];omega,by simp[dB]⟩,by omega,((Below.refl w.heap.size w).grown hg (Nat.le_refl _) (λj hj=>by cases hj)).alloc QX _⟩
    · have:=Blk.new w1 106 (gn w.heap.size (dB room))
      unfold gn dB at this ⊢
      rw[<-HN.o]at this ⊢
      simpa using this
    · have e:(wdL (dB room)).toArray=(List.replicate n (Value.int .i64 0)).toArray:=by unfold wdL dB;simp[<-HN.o]
      rw[e]
      exact hb.alloc _
  have KEY:=qh key;clear key;rcases(show 4096<room\/(room<=4096/\0<room)\/room<=0 by omega)with h|⟨h,h'⟩|h
  · have E:Kq ((4096:Int)=(n:Int)):=qh (by rw[hn];unfold ln;rw[if_neg QX,if_pos h];rfl);clear hn;go_enter Tryz.func12,Tryz.ntmps12;go_wp2_with (refine wpList_make_full _ rfl (.tmp 5) (.tmp 5) 102 rfl w.heap.size 216 i0 (.agg #[.int .i64 0]) 1 Tryz.underlying102 hi hz0 hz1 .i64 .i64 4096 4096 n rfl rfl E.o E.o ?b2 ?b3 (Nat.le_refl _) ?_);case b2=>rw[hz2];omega
    case b3=>unfold maxLen;omega
    intro w1 hown hg;obtain⟨k1,k2,k3⟩:=KEY.o w1 hown hg;clear hown hg;go_wp2;go_ret;exact⟨_,_,rfl,k1,k2,Nat.le_refl _,k3⟩
  · have E:Kq (room=(n:Int)):=qh (by rw[hn];unfold ln;rw[if_neg QX,if_neg QX];omega);clear hn;go_enter Tryz.func12,Tryz.ntmps12;go_wp2_with (refine wpList_make_full _ rfl (.tmp 5) (.tmp 5) 102 rfl w.heap.size 216 i0 (.agg #[.int .i64 0]) 1 Tryz.underlying102 hi hz0 hz1 .i64 .i64 room room n rfl rfl E.o E.o ?b2 ?b3 (Nat.le_refl _) ?_);case b2=>rw[hz2];omega
    case b3=>unfold maxLen;omega
    intro w1 hown hg;obtain⟨k1,k2,k3⟩:=KEY.o w1 hown hg;clear hown hg;go_wp2;go_ret;exact⟨_,_,rfl,k1,k2,Nat.le_refl _,k3⟩
  · have E:Kq ((0:Int)=(n:Int)):=qh (by rw[hn];unfold ln;split<;>(try split)<;>omega);have h4:room<=4096:=(by omega);clear hn;go_enter Tryz.func12,Tryz.ntmps12;go_wp2_with (refine wpList_make_full _ rfl (.tmp 5) (.tmp 5) 102 rfl w.heap.size 216 i0 (.agg #[.int .i64 0]) 1 Tryz.underlying102 hi hz0 hz1 .i64 .i64 0 0 n rfl rfl E.o E.o ?b2 ?b3 (Nat.le_refl _) ?_);case b2=>rw[hz2];omega
    case b3=>unfold maxLen;omega
    intro w1 hown hg;obtain⟨k1,k2,k3⟩:=KEY.o w1 hown hg;clear hown hg;go_wp2;go_ret;exact⟨_,_,rfl,k1,k2,Nat.le_refl _,k3⟩
def dV (s:Ar)(n:Int):Ar×Int×Int:=
 if n<0 then(s,(0:Int),(1:Int))else if (s.room:Int)-s.W.length<n then(s,(0:Int),(3:Int))else({s with W:=s.W++List.replicate n.toNat 0},(s.W.length:Int)+1,(0:Int))
def D2 (w:World)(a g:Nat)(x:Ar×Int×Int)(e:Ending)(w':World):Prop:=e= .returned (.tuple #[.int .i64 x.2.1,.int .i64 x.2.2])/\aA w' a g x.1/\aa [a] w w'
theorem gb {w:World} {a g:Nat} {s:Ar} (h:aA w a g s) (n:Int):
    Calls Tryz.prog 139 #[↑a,.int .i64 n] w (D2 w a g (dV s n)):=by
  have H:=qh h;have c0:=h.c0;have c1:=h.c1;have f1:=h.blk.free 1;have hle:=h.le;have hro:=h.room;have hlt:=h.blk.lt;clear h;by_cases h0:n<0;· have e:dV s n=(s,(0:Int),(1:Int)):=(by unfold dV;rw[if_pos h0]);have HE:=qh e;clear e;go_enter Tryz.func139,Tryz.ntmps139;go_wp2;go_ret2;rw[HE.o];exact⟨rfl,H.o,aa.refl _ _⟩
  · by_cases h1:(s.room:Int)-s.W.length<n;· have e:dV s n=(s,(0:Int),(3:Int)):=(by unfold dV;rw[if_neg h0,if_pos h1]);have HE:=qh e;have x1:IntKind.i64.wrap ((s.room:Int)-s.W.length)=(s.room:Int)-s.W.length:=IntWalk.i64_in _ QX;clear e;go_enter Tryz.func139,Tryz.ntmps139;go_wp2;go_quiet (fail);go_wp2;go_ret2;rw[HE.o];exact⟨rfl,H.o.turns (S:=[]) ((aa.refl _ _).drewN _) QY QY,(aa.refl _ _).drewN _⟩
    · have e:dV s n=({s with W:=s.W++List.replicate n.toNat 0},(s.W.length:Int)+1,(0:Int)):=(by unfold dV;rw[if_neg h0,if_neg h1]);have HE:=qh e;have x1:IntKind.i64.wrap ((s.room:Int)-s.W.length)=(s.room:Int)-s.W.length:=IntWalk.i64_in _ QX;have h2:n<=4096:=(by omega);clear e;go_enter Tryz.func139,Tryz.ntmps139;go_wp2;go_quiet (fail);clear x1;go_wp2;go_ret2;rw[HE.o];obtain⟨m,rfl⟩:=Int.eq_ofNat_of_zero_le (show 0<=n by omega);have hb:=(H.o.blk.drewN nq).set_ 1 (.int .i64 (s.W.length+m));have hw:=(H.o.wds.drewN nq).far (p:=⟨a,1,none⟩) H.o.ne.symm (.int .i64 (s.W.length+m));refine⟨rfl,⟨?_,?_,H.o.ne,by simp;omega,hro,H.o.ops⟩,((aa.refl _ _).drewN _).setCell (.inl QY) _⟩;· have e:gn g ({s with W:=s.W++List.replicate ((m:Int).toNat) 0})=(gn g s).setIfInBounds 1 (.int .i64 (s.W.length+m)):=(by unfold gn;simp);rw[e];exact hb
      · have e:wdL {s with W:=s.W++List.replicate ((m:Int).toNat) 0}=wdL s:=(by unfold wdL;congr 1;rw[List.append_assoc,List.append_cancel_left_eq,List.replicate_append_replicate];congr 1;simp;omega);rw[e];exact hw
end
section
open Go Go.RowKit
def Fs (w:World)(a g n:Nat)(e:Ending)(w':World):Prop:=
 ∃(M:LkM n) (b:M.β) (st:M.σ) (lb:Nat),e= .returned (.tuple #[lkP lb,.int .i64 0])/\M.Good/\M.ok st 0/\M.is b w' a g lb st/\(∀x∈M.fp b,w.heap.size<=x\/x=a\/x=g)/\aa [a,g] w w'
def tp (w:World)(a g n:Nat)(ms:MS n)(e:Ending)(w':World):Prop:=
 ∃(b:ms.1.β) (lb:Nat),e= .returned (.tuple #[lkP lb,.int .i64 0])/\ms.1.Good/\ms.1.ok ms.2 0/\ms.1.is b w' a g lb ms.2/\(∀x∈ms.1.fp b,w.heap.size<=x\/x=a\/x=g)/\aa [a,g] w w'
def Awk (f:FuncId):Prop:=∀W,Calls Tryz.prog f #[] W λe w'=>e= .returned (.bool true)/\Below W.heap.size W w'
def DO (k gl lo pa bu:Int):Value:= .agg #[.int .i64 k,.int .i64 gl,.int .i64 lo,.int .i64 pa,.int .i64 bu]
def yN:Prop:=∀(w:World) (a g:Nat) (vP vT:Value) (P T:List Int) (k gl lo pa bu:Nat),aA w a g (dB 4096)->RdL w vP 1 encI P->RdL w vT 1 encI T->(∀i,vP.ownBlock=some i->i≠a/\i<w.heap.size)->(∀i,vT.ownBlock=some i->i≠a/\i<w.heap.size)->a5 P T=0->1<=k/\k<=13->1<=gl/\gl<=5->1<=lo/\lo<=5->1<=pa/\pa<=4->bu<=3->
 Calls Tryz.prog 13 #[↑a,.agg #[vP,vT],DO k gl lo pa bu] w (Fs w a g T.length)
theorem EK (AW:Awk 11) (w:World) (vP vT:Value) (a0 a1 a2 a3:Int) (A:Option Addr) (m c:Nat) (h1:150<m) (h2:m<=9223372036854775807):
    Calls Tryz.prog 3 #[.agg #[vP,vT],.agg #[.int .u8 a0,.int .u8 a1,.int .u8 a2,.int .u8 a3],.slice A m c] w λe w'=>e= .returned (.bool true)/\Below w.heap.size w w':=by have HB:=qh (((Below.refl w.heap.size w).alloc (Nat.le_refl _) (.cells #[vP,vT] 24)).alloc QY (.cells #[.int .u8 a0,.int .u8 a1,.int .u8 a2,.int .u8 a3] 25));have HA:=qh AW;clear AW;go_enter Tryz.func3,Tryz.ntmps3;go_wp2_with fail;refine(HA.o _).mono ?_;rintro en w1 ⟨rfl,hb⟩;have H1:=qh (HB.o.trans (hb.mono HB.o.size));clear hb;go_wp2;go_ret;exact⟨rfl,H1.o⟩
theorem Ga (AW:Awk 11) (w:World) (vP vT:Value) (a0 a1 a2 a3:Int) (hs:ri w vP vT 8) (A:Option Addr) (m c:Nat) (hm:m<=150):
    Calls Tryz.prog 3 #[.agg #[vP,vT],.agg #[.int .u8 a0,.int .u8 a1,.int .u8 a2,.int .u8 a3],.slice A m c] w λe w'=>e= .returned (.bool true)/\Below w.heap.size w w':=by obtain⟨w0,hw0⟩:∃W,W=(w.alloc (.cells #[vP,vT] 24)).alloc (.cells #[.int .u8 a0,.int .u8 a1,.int .u8 a2,.int .u8 a3] 25):=⟨_,rfl⟩;have HB0:=qh (show Below w.heap.size w w0 from by rw[hw0];exact((Below.refl w.heap.size w).alloc (Nat.le_refl _) _).alloc QY _);have HX:=qh (show Blk w0 w.heap.size 24 #[vP,vT]from by rw[hw0];exact(Blk.new w 24 #[vP,vT]).alloc _);have HS:=qh hs;have HA:=qh AW;clear hs AW;go_enter Tryz.func3,Tryz.ntmps3;go_upto_region 1 with fail;rw[<-hw0];clear hw0;have f0:w0.cell? w.heap.size=some vP:=HX.o.cell 0;have f1:w0.cell? ⟨w.heap.size,1,none⟩=some vT:=HX.o.cell 1;go_wp2_with fail;refine(HS.o _ HB0.o).mono ?_;rintro en w2 ⟨rfl,b2⟩;have HB2:=qh (HB0.o.trans (b2.mono HB0.o.size));clear b2;go_wp2_with fail;refine(HA.o _).mono ?_;rintro en w3 ⟨rfl,b3⟩;have HB3:=qh (HB2.o.trans (b3.mono HB2.o.size));clear b3;go_wp2;go_ret;exact⟨rfl,HB3.o⟩
structure fT{n:Nat}(M:LkM n)(b:M.β)(w0 w:World)(a g lb:Nat)(st:M.σ)(N:Nat):Prop where
 is:M.is b w a g lb st
 ok:M.ok st N
 bel:Below w0.heap.size w0 w
theorem fT.below{n:Nat}{M:LkM n}{b:M.β}{w0 w w':World}{a g lb:Nat}{st:M.σ}{N:Nat}(h:fT M b w0 w a g lb st N)(G:M.Good)(t:Below w.heap.size w w'):fT M b w0 w' a g lb st N:=
 ⟨G.far _ _ _ _ _ _ _ [] h.is (aa.of_below t) QY,h.ok,h.bel.trans (t.mono h.bel.size)⟩
theorem GM (pc:Int):(j5 pc==2)=decide (pc=10):=by
 unfold j5;by_cases h0:pc=0;·subst h0;rfl
 ·by_cases h1:pc<10;·rw[if_neg h0,if_pos h1,decide_eq_false QX];rfl
  ·by_cases h2:pc=10;·subst h2;rfl
   ·rw[if_neg h0,if_neg h1,if_neg h2,decide_eq_false h2];rfl
end
section
open Go.RowKit
theorem sM (w:World):(callFunc 202 #[]).run Tryz.prog w= .ok (.value (.tuple #[])) w:=run_call_mark0 Tryz.func202 Q0 Q0 Q0 .disable Q0 w
theorem wh (w:World):(callFunc 204 #[]).run Tryz.prog w= .ok (.value (.tuple #[])) w:=run_call_mark0 Tryz.func204 Q0 Q0 Q0 .enable Q0 w
theorem qQ (a:Addr)(w:World):(callFunc 205 #[.pointer (some a)]).run Tryz.prog w= .ok (.value (.tuple #[])) w:=run_call_marked Tryz.func205 Q0 Q0 Q0 .acquire Q0 a w
theorem qR (a:Addr)(w:World):(callFunc 207 #[.pointer (some a)]).run Tryz.prog w= .ok (.value (.tuple #[])) w:=run_call_marked Tryz.func207 Q0 Q0 Q0 .releaseMerge Q0 a w
theorem uc (a:Addr) (w:World) (hc:w.cell? a=some (.int .i32 0)) (hz:w.frozen? a=false):
    Calls Tryz.prog 198 #[.pointer (some a)] w λe w'=>e= .returned (.tuple #[])/\w'=w.setCell a (.int .i32 1):=by have hd:=sM;have he:=wh;have ha:=qQ;have hcas:=run_call_cas_hit (P:=Tryz.prog) Tryz.func203 Q0 Q0 Q0 .i32 Q0 (y:=1) hc hz;have hc':(w.setCell a (.int .i32 1)).cell? a=some (.int .i32 1):=World.cell?_setCell_same w a _ hc;have hcv:=run_convert_to_unsafe (P:=Tryz.prog) (src:=381) (dst:=375) Tryz.underlying381 Tryz.underlying375 Q0 hc';go_enter Tryz.func198,Tryz.ntmps198;go_wp2;first|(go_end0;exact⟨rfl,rfl⟩)|exact bodyPost_ret (results_none rfl _ _ _) rfl ⟨rfl,rfl⟩|((simp only[Exit.inBlock,Exit.then]);exact bodyPost_ret (results_none rfl _ _ _) rfl ⟨rfl,rfl⟩)
theorem xP (a:Addr) (w:World) (hc:w.cell? a=some (.int .i32 0)) (hz:w.frozen? a=false):
    Calls Tryz.prog 192 #[.pointer (some a)] w λe w'=>e= .returned (.tuple #[])/\w'=w.setCell a (.int .i32 1):=by have HL:=qh (uc a w hc hz);go_enter Tryz.func192,Tryz.ntmps192;go_wp2_with fail;refine HL.o.mono ?_;rintro e w' ⟨rfl,rfl⟩;go_wp2;first|(go_end0;exact⟨rfl,rfl⟩)|exact bodyPost_ret (results_none rfl _ _ _) rfl ⟨rfl,rfl⟩|((simp only[Exit.inBlock,Exit.then]);exact bodyPost_ret (results_none rfl _ _ _) rfl ⟨rfl,rfl⟩)
theorem qr (a:Addr) (w:World) (hc:w.cell? a=some (.int .i32 1)) (hz:w.frozen? a=false):
    Calls Tryz.prog 199 #[.pointer (some a)] w λe w'=>e= .returned (.tuple #[])/\w'=w.setCell a (.int .i32 0):=by have hd:=sM;have he:=wh;have hr:=qR;have hadd:=run_call_add (P:=Tryz.prog) Tryz.func208 Q0 Q0 Q0 .i32 Q0 (y:= -1) (s:=0) hc hz (by simp[go_sem];rfl);have hcv:=run_convert_to_unsafe (P:=Tryz.prog) (src:=381) (dst:=375) Tryz.underlying381 Tryz.underlying375 Q0 hc;go_enter Tryz.func199,Tryz.ntmps199;go_wp2;first|(go_end0;exact⟨rfl,rfl⟩)|exact bodyPost_ret (results_none rfl _ _ _) rfl ⟨rfl,rfl⟩|((simp only[Exit.inBlock,Exit.then]);exact bodyPost_ret (results_none rfl _ _ _) rfl ⟨rfl,rfl⟩)
theorem my (a:Addr) (u:FrameMode) (w:World) (hc:w.cell? a=some (.int .i32 1)) (hz:w.frozen? a=false):
    CallsD Tryz.prog 193 #[.pointer (some a)] u w λe u' w'=>u'=u/\(e= .returned (.tuple #[])/\w'=w.setCell a (.int .i32 0)):=by have HL:=qh (qr a w hc hz);go_enter_d Tryz.func193,Tryz.ntmps193;go_wp2_with fail;refine HL.o.mono ?_;rintro e w' ⟨rfl,rfl⟩;go_wp2;first|(go_end0;exact⟨rfl,rfl⟩)|exact bodyPost_ret (results_none rfl _ _ _) rfl ⟨rfl,rfl⟩|((simp only[Exit.inBlock,Exit.then]);exact bodyPost_ret (results_none rfl _ _ _) rfl ⟨rfl,rfl⟩)
theorem oI (a:Addr) (x:Value) (u:FrameMode) (w:World) (hc:w.cell? a=some x) (hz:w.frozen? a=false):
    CallsD Tryz.prog 194 #[.pointer (some a),.bool true] u w λe u' w'=>u'=u/\(e= .returned (.tuple #[])/\w'=w.drew.setCell a (.int .u32 1)):=by
  have hc':w.drew.cell? a=some x:=by go_simp
  have hz':w.drew.frozen? a=false:=by go_simp
  have hst:=run_call_store (P:=Tryz.prog) Tryz.func200 Q0 Q0 Q0 Q0 (k:= .u32) (y:=1) hc' hz';go_enter_d Tryz.func194,Tryz.ntmps194;go_wp2;go_region_calls;all_goals (go_end0;exact⟨rfl,rfl⟩)
theorem li (a:Addr)(n:Int)(w:World)(hc:w.cell? a=some (.int .u32 n)):Calls Tryz.prog 183 #[.pointer (some a)] w λe w'=>e= .returned (.bool (n !=0))/\w=w':=by have hl:=run_call_load (P:=Tryz.prog) Tryz.func191 Q0 Q0 Q0 .u32 Q0 hc;go_enter Tryz.func183,Tryz.ntmps183;exact gs
end
section
open Go.RowKit
def df (b off:Nat)(w2:World):World:=(w2.drew.setCell ⟨b,off,none⟩ (.int .u32 1)).setCell ⟨b,off+1,none⟩ (.int .i32 0)
structure rh (b off:Nat)(w:World):Prop where
 c0:w.cell? ⟨b,off,none⟩=some (.int .u32 0)
 c1:w.cell? ⟨b,off+1,none⟩=some (.int .i32 1)
 f0:w.frozen? ⟨b,off,none⟩=false
 f1:w.frozen? ⟨b,off+1,none⟩=false
theorem Bp (b off fn:Nat) (x:Value) (w:World) (R:World->Prop) (h0:w.cell? ⟨b,off,none⟩=some (.int .u32 0)) (h1:w.cell? ⟨b,off+1,none⟩=some (.int .i32 0))
    (f0:w.frozen? ⟨b,off,none⟩=false) (f1:w.frozen? ⟨b,off+1,none⟩=false) (hfn:fn=170)
    (hc:Calls Tryz.prog 170 #[x] (w.setCell ⟨b,off+1,none⟩ (.int .i32 1)) λe w2=>e= .returned (.tuple #[])/\rh b off w2/\R w2):
    Calls Tryz.prog 184 #[.pointer (some ⟨b,off,none⟩),.func (.func fn) #[x] #[]] w λe w'=>e= .returned (.tuple #[])/\∃w2,R w2/\w'=df b off w2:=by
  subst hfn;have HC:=qh hc;have HL:=qh (li ⟨b,off,none⟩ 0 (w.setCell ⟨b,off+1,none⟩ (.int .i32 1)) ((World.cell?_setCell_other _ ⟨b,off+1,none⟩ ⟨b,off,none⟩ _ QY).trans h0));clear hc;go_enter_defers Tryz.func184,Tryz.ntmps184;go_wp2_with fail;refine(xP ⟨b,off+1,none⟩ _ h1 f1).mono ?_;rintro e w' ⟨rfl,rfl⟩;go_wp2_with fail;refine HL.o.mono ?_;rintro e w' ⟨rfl,rfl⟩;go_wp2_with fail;refine HC.o.mono ?_;rintro e w2 ⟨rfl,hO,hR⟩;have HO:=qh (And.intro hO hR);clear hO hR;go_wp2;refine leaves_cons (f:=194) (args:=#[.pointer (some ⟨b,off,none⟩),.bool true]) QY (by simp[go_sem]) ?_;refine(oI ⟨b,off,none⟩ (.int .u32 0) .returning _ HO.o.1.c0 HO.o.1.f0).mono ?_;rintro e u' w'' ⟨rfl,rfl,rfl⟩;refine leaves_cons (f:=193) (args:=#[.pointer (some ⟨b,off+1,none⟩)]) (by simp[settle]) (by simp[go_sem]) ?_;refine(my ⟨b,off+1,none⟩ _ _ ?_ ?_).mono ?_;· exact(World.cell?_setCell_other _ ⟨b,off,none⟩ ⟨b,off+1,none⟩ _ QY).trans HO.o.1.c1
  · have:=HO.o.1.f1;simp[this]
  rintro e u' w'' ⟨rfl,rfl,rfl⟩;have HE:∃w3,R w3/\(w2.drew.setCell ⟨b,off,none⟩ (.int .u32 1)).setCell ⟨b,off+1,none⟩ (.int .i32 0)=df b off w3:=⟨w2,HO.o.2,rfl⟩;simp[Leaves,settle,results,Tryz.results184];exact HE
theorem rM (b off:Nat) (x:Value) (w:World) (R:World->Prop) (h0:w.cell? ⟨b,off,none⟩=some (.int .u32 0)) (h1:w.cell? ⟨b,off+1,none⟩=some (.int .i32 0))
    (f0:w.frozen? ⟨b,off,none⟩=false) (f1:w.frozen? ⟨b,off+1,none⟩=false)
    (hc:Calls Tryz.prog 170 #[x] (w.setCell ⟨b,off+1,none⟩ (.int .i32 1)) λe w2=>e= .returned (.tuple #[])/\rh b off w2/\R w2):
    Calls Tryz.prog 169 #[.pointer (some ⟨b,off,none⟩),.func (.func 170) #[x] #[]] w λe w'=>e= .returned (.tuple #[])/\∃w2,R w2/\w'=df b off w2:=by have HS:=qh (Bp b off _ x w R h0 h1 f0 f1 rfl hc);have HL:=qh (li ⟨b,off,none⟩ 0 w h0);clear hc;go_enter Tryz.func169,Tryz.ntmps169;go_wp2_with fail;refine HL.o.mono ?_;rintro e w' ⟨rfl,rfl⟩;go_wp2_with fail;refine HS.o.mono ?_;rintro e w' ⟨rfl,hR⟩;have HR:=qh hR;clear hR;go_wp2;first|(go_end0;exact⟨rfl,HR.o⟩)|exact bodyPost_ret (results_none rfl _ _ _) rfl ⟨rfl,HR.o⟩
theorem Cp (b off:Nat) (fv:Value) (w:World) (h0:w.cell? ⟨b,off,none⟩=some (.int .u32 1)):
    Calls Tryz.prog 169 #[.pointer (some ⟨b,off,none⟩),fv] w λe w'=>e= .returned (.tuple #[])/\w=w':=by have HL:=qh (li ⟨b,off,none⟩ 1 w h0);go_enter Tryz.func169,Tryz.ntmps169;go_wp2_with fail;refine HL.o.mono ?_;rintro e w' ⟨rfl,rfl⟩;go_wp2;first|(go_end0;exact⟨rfl,rfl⟩)|exact bodyPost_ret (results_none rfl _ _ _) rfl ⟨rfl,rfl⟩
end
section
open Go.RowKit
theorem xB (l:List Int):∀u∈l.flatMap encI,u.oneCell'=true:=by intro u hu;rw[iy]at hu;obtain⟨x,_,rfl⟩:=List.mem_map.1 hu;rfl
theorem At (w:World):(w.alloc (.cells #[] 3)).ownsRow w.heap.size 3 1 (.slice (some ⟨w.heap.size,0,none⟩) 0 0) 0 []:=by exact⟨rfl,.inr ⟨w.heap.size,0,#[],rfl,Nat.le_refl _,heap_alloc_new w _,Nat.le_refl _,by simp[maxLen],rfl,rfl⟩⟩
theorem lp (w:World) (v:Value) (l:List Int) (h:RdL w v 1 encI l) (h1000:l.length<=1000):
    Calls Tryz.prog 78 #[v] w λe w'=>∃v',e= .returned v'/\w'.ownsRow w.heap.size 3 1 v' l.length (l.flatMap encI)/\Below w.heap.size w w':=by
  obtain⟨i0,hi,hz0,hz1,hz2⟩:=info_parts Tryz.infoIn;have HI:=qh (And.intro hi (And.intro hz0 (And.intro hz1 hz2)));clear hi hz0 hz1 hz2;have HR:=qh h;obtain⟨A,cap,rfl,l1,l2,hr⟩:=h;cases A with
  | none=>
    have hl:l=[]:=by
      rcases Nat.eq_zero_or_pos l.length with h0|h0
      · exact List.eq_nil_of_length_eq_zero h0
      · obtain⟨b,off,e,_⟩:=hr h0;cases e
    subst hl;clear hr HR;simp only[List.length_nil];have hn:=Lib.run_eql_slice_nil w 22 3 none 0 cap 0 0 Tryz.underlying22;simp only[Option.isNone]at hn;go_enter Tryz.func78,Tryz.ntmps78;go_wp2;go_ret;exact⟨_,rfl,World.ownsRow_nil _ _ _ _,Below.refl _ _⟩
  | some ad=>
    have HN:=qh (show ∀(j:Nat) (u:Value),(l.flatMap encI)[j]? =some u->w.cell? (ad.add j)=some u from by
      intro j u hu;have hj:j<l.length:=(by have:=(List.getElem?_eq_some_iff.1 hu).1;rw[iy]at this;simpa using this);obtain⟨b,off,e,_,hc⟩:=hr QX;injection e with e;subst e;obtain⟨x,hx⟩:=aj hj;have h1:=hc j x hx 0 _ rfl;rw[iy]at hu;simp[hx]at hu;subst hu;have e2:(⟨b,off,none⟩:Addr).add j=⟨b,off+j,none⟩:=(by unfold Addr.add;by_cases hj0:j=0<;>simp[hj0]);rw[e2]
      simpa using h1)
    have hll:(l.flatMap encI).length=l.length*1:=(by rw[iy];simp);have hn:=Lib.run_eql_slice_nil w 22 3 (some ad) l.length cap 0 0 Tryz.underlying22;simp only[Option.isNone]at hn;clear hr;go_enter Tryz.func78,Tryz.ntmps78;go_wp2_with (at_builtin;go_loud (refine wpList_append_own _ rfl _ _ 22 rfl w.heap.size 3 i0 (.int .i64 0) 1 8 Tryz.underlying22 HI.o.1 HI.o.2.1 HI.o.2.2.1 HI.o.2.2.2 rfl QZ _ 0 [] rfl (At w) ad l.length cap (l.flatMap encI) rfl hll ?c1 (xB l) ?c3 ?c4 ?c5 ?_));case c1=>exact λj u hu=>(World.cell?_alloc_lt _ _ _ (by have:=aQ (HN.o j u hu);exact this)).trans (HN.o j u hu)
    case c3=>unfold maxLen;omega
    case c4=>omega
    case c5=>simp
    intro v' w' hown' hgrow hnil;have HO:=qh (And.intro hown' hgrow);clear hown' hgrow hnil;go_wp2;go_ret;exact⟨_,rfl,by have:=HO.o.1;simpa using this,(((Below.refl _ _).alloc (Nat.le_refl _) _).grown HO.o.2 QY (λj hj=>by simp[Value.ownBlock]at hj;omega))⟩
end
section
open Go.RowKit
theorem RdL.turns{α:Type}{w w':World}{v:Value}{sz:Nat}{enc:α->List Value}{l:List α}{S:List Nat}(h:RdL w v sz enc l)(k:aa S w w')(hn:∀g,v.ownBlock=some g->g∉S):RdL w' v sz enc l:=by obtain⟨A,cap,rfl,h2,h3,h4⟩:=h;refine⟨A,cap,rfl,h2,h3,λhl=>?_⟩;obtain⟨b,off,rfl,hb,hc⟩:=h4 hl;have hS:b∉S:=hn b rfl;refine⟨b,off,rfl,Nat.lt_of_lt_of_le hb k.size,λi x hx j u hu=>?_⟩;rw[World.cell?_of_block (w:=w) (w':=w') (a:=⟨b,off+i*sz+j,none⟩) (k.block b hb hS)];exact hc i x hx j u hu
def qN:Value:= .slice none 0 0
structure Hl (w:World)(b:Nat)(P T:List Int):Prop where
 ex:∃AP cP AT cT,Blk w b 213 #[.slice AP P.length cP,.slice AT T.length cT,.int .u32 0,.int .i32 0,.int .u32 0,.slice none 0 0,.slice none 0 0,.slice none 0 0,.slice none 0 0]/\RdL w (.slice AP P.length cP) 1 encI P/\RdL w (.slice AT T.length cT) 1 encI T/\(∀g,(Value.slice AP P.length cP).ownBlock=some g->g≠b)/\(∀g,(Value.slice AT T.length cT).ownBlock=some g->g≠b)
end
section
open Go.RowKit
structure eF where
 e:TypeId
 v:Value
 n:Nat
 xs:List Value
structure eT (w:World)(B b:Nat)(l:List eF):Prop where
 own:∀r∈l,w.ownsRow B r.e 1 r.v r.n r.xs
 ne:∀(i j:Nat) (r s:eF),l[i]? =some r->l[j]? =some s->i≠j->∀g,r.v.ownBlock=some g->s.v.ownBlock≠some g
 nb:∀r∈l,r.v.ownBlock≠some b
section
variable{w w':World}{B b:Nat}{l:List eF}
theorem eT.below (h:eT w B b l)(k:Below w.heap.size w w'):eT w' B b l:=⟨λr hr=>iP (h.own r hr) k,h.ne,h.nb⟩
theorem eT.turn (h:eT w B b l)(k:aa [b] w w'):eT w' B b l:=
 ⟨λr hr=>aa.own (h.own r hr) k (λg hg hm=>h.nb r hr (by simp at hm;rw[<-hm];exact hg)),h.ne,h.nb⟩
theorem eT.app (h:eT w B b l) {i:Nat} {r:eF} (hi:l[i]? =some r) (hb:b<w.heap.size) (hg:w.grownBy w' r.v.ownBlock) {v':Value} {n':Nat} {xs':List Value} (ho:w'.ownsRow B r.e 1 v' n' xs')
    (hat:v'.ownBlock=r.v.ownBlock\/∃g,w.heap.size<=g/\v'.ownBlock=some g):eT w' B b (l.set i ⟨r.e,v',n',xs'⟩):=by
  have hil:i<l.length:=(List.getElem?_eq_some_iff.1 hi).1;have hlt:∀s∈l,∀g,s.v.ownBlock=some g->g<w.heap.size:=λs hs g hg=>((h.own s hs).lt g hg).2
  have hset:∀(j:Nat) (s:eF),(l.set i ⟨r.e,v',n',xs'⟩)[j]? =some s->(j=i/\s=⟨r.e,v',n',xs'⟩)\/(j≠i/\l[j]? =some s):=λj s hj=>by
    rw[List.getElem?_set]at hj;by_cases e:i=j;· subst e;rw[if_pos rfl,if_pos hil]at hj;injection hj with hj;exact .inl ⟨rfl,hj.symm⟩
    · rw[if_neg e]at hj;exact .inr ⟨λh=>e h.symm,hj⟩
  have hother:∀(j:Nat) (s:eF),l[j]? =some s->j≠i->w'.ownsRow B s.e 1 s.v s.n s.xs:=λj s hj hne=>by
    cases hv:r.v.ownBlock with
    | none=>rw[hv]at hg;exact aa.own (S:=[]) (h.own s (List.mem_of_getElem? hj)) ⟨hg.os,hg.tape,hg.output,hg.size,λi hi _=>hg.block i hi QY⟩ (λ_ _=>by simp)
    | some g=>
      rw[hv]at hg
      exact aa.own (h.own s (List.mem_of_getElem? hj)) (aa.grown hg) (λg' hg' hm=>by
        simp at hm;subst hm
        exact h.ne i j r s hi hj (λe=>hne e.symm) g' hv hg')
  have hnew:∀g,v'.ownBlock=some g->r.v.ownBlock=some g\/w.heap.size<=g:=λg hg'=>by
    rcases hat with e|⟨c,hc,e⟩
    · exact .inl (by rw[<-e];exact hg')
    · rw[e]at hg';injection hg' with hg';exact .inr QX
  refine⟨λs hs=>?_,λj k s t hj hk hne g hg1 hg2=>?_,λs hs hsb=>?_⟩
  · obtain⟨j,hj⟩:=List.getElem?_of_mem hs;rcases hset j s hj with⟨rfl,rfl⟩|⟨e,hj'⟩
    · exact ho
    · exact hother j s hj' e
  · rcases hset j s hj with⟨rfl,rfl⟩|⟨e1,hj'⟩
    · rcases hset k t hk with⟨rfl,rfl⟩|⟨e2,hk'⟩
      · exact hne rfl
      · rcases hnew g hg1 with hx|hx
        · exact h.ne j k r t hi hk' hne g hx hg2
        · have:=hlt t (List.mem_of_getElem? hk') g hg2;omega
    · rcases hset k t hk with⟨rfl,rfl⟩|⟨e2,hk'⟩
      · rcases hnew g hg2 with hx|hx
        · exact h.ne j k s r hj' hi hne g hg1 hx
        · have:=hlt s (List.mem_of_getElem? hj') g hg1;omega
      · exact h.ne j k s t hj' hk' hne g hg1 hg2
  · obtain⟨j,hj⟩:=List.getElem?_of_mem hs;rcases hset j s hj with⟨rfl,rfl⟩|⟨e,hj'⟩
    · rcases hnew b hsb with hx|hx
      · exact h.nb r (List.mem_of_getElem? hi) hx
      · omega
    · exact h.nb s (List.mem_of_getElem? hj') hsb
theorem eT.nil (w:World)(B b:Nat):eT w B b []:=⟨by simp,by simp,by simp⟩
theorem eT.push (h:eT w B b l)(e:TypeId):eT w B b (l++[⟨e,.slice none 0 0,0,[]⟩]):=by
 have hget:∀(j:Nat) (s:eF),(l++[⟨e,.slice none 0 0,0,[]⟩])[j]? =some s->l[j]? =some s\/s=⟨e,.slice none 0 0,0,[]⟩:=λj s hj=>by
  rw[List.getElem?_append]at hj;split at hj;·exact .inl hj
  ·rw[List.getElem?_singleton]at hj;split at hj;·injection hj with hj;exact .inr hj.symm
   ·cases hj
 refine⟨λr hr=>?_,λi j r s hi hj hne g h1 h2=>?_,λr hr=>?_⟩
 ·rcases List.mem_append.1 hr with hr|hr
  ·exact h.own r hr
  ·simp at hr;subst hr;exact World.ownsRow_nil _ _ _ _
 ·rcases hget i r hi with a|a
  ·rcases hget j s hj with c|c
   ·exact h.ne i j r s a c hne g h1 h2
   ·subst c;cases h2
  ·subst a;cases h1
 ·rcases List.mem_append.1 hr with hr|hr
  ·exact h.nb r hr
  ·simp at hr;subst hr;simp[Value.ownBlock]
end
def upF (P:List Int):Nat->Int->List Int
 |0,_=>[]
 |f+1,v=>if 0<=v/\v<P.length then v :: upF P f (P.getD v.toNat 0)else[]
def upL (P:List Int)(v:Int):List Int:=upF P P.length v
def ao (P T:List Int)(k:Nat):List Int:=(T.take k).map (fy (ab P))
def cr (T:List Int)(i:Nat):Int:=(((T.take i).count (T.getD i 0):Nat):Int)
def aY (T:List Int)(k:Nat):List Int:=(List.range k).map (cr T)
def aF (P T:List Int)(k:Nat):List Int:=(ab P).map λleaf=>(((T.take k).count leaf:Nat):Int)
theorem oQ{P:List Int}(h:dN P=true):∀(f:Nat) (v:Int),v<f->∀g:Nat,v<g->upF P f v=upF P g v
 |0,v,hv,g,hg=>by
  cases g with
  |zero=>rfl
  |succ g=>unfold upF;rw[if_neg QX]
 |f+1,v,hv,g,hg=>by
  cases g with
  |zero=>unfold upF;rw[if_neg QX]
  |succ g=>
   unfold upF;split;·rename_i hb;obtain⟨p,hp⟩:=aj (show v.toNat<P.length by omega);have:=gx h hp;rw[ba hp,oQ h f p QX g QX]
   ·rfl
theorem gc{P:List Int}(h:dN P=true){v:Nat}{p:Int}(hp:P[v]? =some p):upL P v=(v:Int) :: upL P p:=by
 have hlt:=(List.getElem?_eq_some_iff.1 hp).1;have hpl:=gx h hp;unfold upL;rw[oQ h P.length v QX (v+1) QX];show(if 0<=(v:Int)/\(v:Int)<P.length then(v:Int) :: upF P v (P.getD (v:Int).toNat 0)else[])=_;rw[if_pos QX,Int.toNat_natCast,ba hp];by_cases h0:0<=p;·rw[oQ h v p QX P.length QX]
 ·cases v with
  |zero=>show _ :: []=_ :: upF P P.length p;exact iZ
  |succ v=>
   cases hn:P.length with
   |zero=>omega
   |succ n=>unfold upF;rw[if_neg QX,if_neg QX]
theorem wF{P:List Int}{p:Int}(h:p<0):upL P p=[]:=by unfold upL;exact iZ
end
section
open Go.RowKit
def eR (vP vT:Value)(d m:Int)(vU vN vS vM:Value):Array Value:=#[vP,vT,.int .u32 d,.int .i32 m,.int .u32 0,vU,vN,vS,vM]
def aq (v:Value)(l:List Int):eF:=⟨3,v,l.length,l.flatMap encI⟩
def eQ (us:List Value)(v:Value):eF:=⟨22,v,us.length,us⟩
structure jj (w0 w:World)(b:Nat)(vP vT:Value)(P T:List Int)(vL vU vN vS vM:Value)(us:List eF)(k:Nat):Prop where
 blk:Blk w b 213 (eR vP vT 0 1 vU vN vS vM)
 rows:eT w w0.heap.size b ([aq vL (ab P),aq vM (aF P T k),aq vN (ao P T k),aq vS (aY T k),eQ (us.map (·.v)) vU]++us)
 len:us.length=k
 up:∀(i:Nat) (x:Int) (r:eF),T[i]? =some x->us[i]? =some r->r=aq r.v (upL P x)
 bel:aa [b] w0 w
theorem um (P T:List Int):(aF P T 0).flatMap encI=(List.range (ab P).length).map λ_=>Value.int .i64 0:=by
 rw[iy];unfold aF;rw[List.map_map];refine List.ext_getElem? λi=>?_;simp only[List.getElem?_map,Function.comp_def];by_cases h:i<(ab P).length;·simp[h]
 ·simp[h]
theorem eT.single (w:World)(B b:Nat)(r:eF)(h:w.ownsRow B r.e 1 r.v r.n r.xs)(hb:r.v.ownBlock≠some b):eT w B b [r]:=by
 refine⟨by simpa using h,λi j x y hi hj hne=>?_,by simpa using hb⟩;have e1:i=0:=by have:=(List.getElem?_eq_some_iff.1 hi).1;simpa using this
 have e2:j=0:=by have:=(List.getElem?_eq_some_iff.1 hj).1;simpa using this
 omega
structure ew (w0 w:World)(b:Nat)(cs:Array Value)(l:List eF):Prop where
 blk:Blk w b 213 cs
 rows:eT w w0.heap.size b l
 bel:aa [b] w0 w
section
variable{w0 w w':World}{b:Nat}{cs:Array Value}{l:List eF}
theorem ew.below (h:ew w0 w b cs l)(k:Below w.heap.size w w'):ew w0 w' b cs l:=⟨h.blk.below k h.blk.lt,h.rows.below k,h.bel.trans (aa.of_below k)⟩
theorem mc{row:Option Nat}(h:aa [b] w0 w)(k:w.grownBy w' row)(hr:∀g,row=some g->w0.heap.size<=g):aa [b] w0 w':=by
 cases row with
 |none=>exact h.trans ⟨k.os,k.tape,k.output,k.size,λi hi _=>k.block i hi QY⟩
 |some g=>
  have h1:aa [b,g] w0 w':=(h.mono QY).trans ((aa.grown k).mono QY)
  exact h1.fresh (by
   intro i hi;simp only[List.mem_cons,List.not_mem_nil,or_false]at hi;rcases hi with rfl|rfl
   ·exact .inl QY
   ·exact .inr (hr _ rfl))
theorem ew.app (h:ew w0 w b cs l) {i:Nat} {r:eF} (hi:l[i]? =some r) (o:Obj) (hg:(w.alloc o).grownBy w' r.v.ownBlock) {v':Value} {n':Nat} {xs':List Value} (ho:w'.ownsRow w0.heap.size r.e 1 v' n' xs')
    (hat:v'.ownBlock=r.v.ownBlock\/v'.ownBlock=some (w.heap.size+1)) (c:Nat):
    ew w0 (w'.setCell ⟨b,c,none⟩ v') b (cs.setIfInBounds c v') (l.set i ⟨r.e,v',n',xs'⟩):=by
  have hb1:Below w.heap.size w (w.alloc o):=(Below.refl _ _).alloc (Nat.le_refl _) o;have h1:=h.below hb1;have hsz:(w.alloc o).heap.size=w.heap.size+1:=by simp
  have hT:aa [b] w' (w'.setCell ⟨b,c,none⟩ v'):=aa.setCell (aa.refl [b] w') (.inl QY) _;have hrm:=List.mem_of_getElem? hi;refine⟨?_,(h1.rows.app hi h1.blk.lt hg ho (hat.imp id λe=>⟨_,Nat.le_of_eq hsz,e⟩)).turn hT,(mc h1.bel hg (λg e=>((h1.rows.own r hrm).lt g e).1)).trans hT⟩;exact(h1.blk.grown hg (λe=>h.rows.nb r hrm e.symm)).set_ c v'
theorem ew.put (h:ew w0 w b cs l) {i:Nat} {r:eF} (hi:l[i]? =some r) {g j:Nat} (hg:r.v.ownBlock=some g) (u:Value) {xs':List Value} (ho:(w.setCell ⟨g,j,none⟩ u).ownsRow w0.heap.size r.e 1 r.v r.n xs'):
    ew w0 (w.setCell ⟨g,j,none⟩ u) b cs (l.set i ⟨r.e,r.v,r.n,xs'⟩):=by
  have hgr:w.grownBy (w.setCell ⟨g,j,none⟩ u) r.v.ownBlock:=by rw[hg];exact xz (tY _ _) j u
  have hrm:=List.mem_of_getElem? hi;refine⟨h.blk.grown hgr (λe=>h.rows.nb r hrm e.symm),h.rows.app hi h.blk.lt hgr ho (.inl rfl),mc h.bel hgr (λg e=>((h.rows.own r hrm).lt g e).1)⟩
theorem ew.grow (h:ew w0 w b cs l) {i:Nat} {r:eF} (hi:l[i]? =some r) (o:Obj) (hg:(w.alloc o).grownBy w' r.v.ownBlock) {v':Value} {n':Nat} {xs':List Value} (ho:w'.ownsRow w0.heap.size r.e 1 v' n' xs')
    (hat:v'.ownBlock=r.v.ownBlock\/v'.ownBlock=some (w.heap.size+1)):ew w0 w' b cs (l.set i ⟨r.e,v',n',xs'⟩):=by
  have hb1:Below w.heap.size w (w.alloc o):=(Below.refl _ _).alloc (Nat.le_refl _) o;have h1:=h.below hb1;have hsz:(w.alloc o).heap.size=w.heap.size+1:=by simp
  have hrm:=List.mem_of_getElem? hi;exact⟨h1.blk.grown hg (λe=>h.rows.nb r hrm e.symm),h1.rows.app hi h1.blk.lt hg ho (hat.imp id λe=>⟨_,Nat.le_of_eq hsz,e⟩),mc h1.bel hg (λg e=>((h1.rows.own r hrm).lt g e).1)⟩
theorem ew.push (h:ew w0 w b cs l)(e:TypeId):ew w0 w b cs (l++[⟨e,.slice none 0 0,0,[]⟩]):=⟨h.blk,h.rows.push e,h.bel⟩
end
theorem jj.g {w0 w:World} {b:Nat} {vP vT:Value} {P T:List Int} {vL vU vN vS vM:Value} {us:List eF} {k:Nat} (h:jj w0 w b vP vT P T vL vU vN vS vM us k):
    ew w0 w b (eR vP vT 0 1 vU vN vS vM) ([aq vL (ab P),aq vM (aF P T k),aq vN (ao P T k),aq vS (aY T k),eQ (us.map (·.v)) vU]++us):=⟨h.blk,h.rows,h.bel⟩
theorem de{P T:List Int}{k:Nat}(h:k<=T.length):(ao P T k).length=k:=by unfold ao;simp;omega
theorem fZ (T:List Int)(k:Nat):(aY T k).length=k:=by simp[aY]
theorem cH (P T:List Int)(k:Nat):(aF P T k).length=(ab P).length:=by simp[aF]
theorem uw{P T:List Int}{k:Nat}{x:Int}(h:T[k]? =some x):ao P T (k+1)=ao P T k++[fy (ab P) x]:=by unfold ao;rw[dg h,List.map_append];rfl
theorem mI{l:List Int}{x:Int}{nd:Nat}(hm:x∈l)(h:fy l x=nd):l[nd]? =some x:=by
 unfold fy at h;rw[if_pos hm]at h;have e:l.idxOf x=nd:=by omega
 have hlt:=List.idxOf_lt_length_of_mem hm;rw[<-e,List.getElem?_eq_getElem hlt,List.getElem_idxOf hlt]
theorem pI{P T:List Int}{k nd:Nat}{x:Int}(h:(ab P)[nd]? =some x):((aF P T k).flatMap encI)[nd]? =some (.int .i64 (((T.take k).count x:Nat):Int)):=by rw[iy];unfold aF;simp[h]
theorem Tryz.infoSl:(Tryz.prog.info? 22).map (λi=>(i.zero,i.size,i.bytes))=some (some (.slice none 0 0),1,24):=by kernel_rfl
theorem r9{α:Type}(l:List α)(a:α)(i:Nat)(h:i=l.length):(l++[a])[i]? =some a:=by subst h;simp
theorem Am{α:Type}(l:List α)(a c:α)(i:Nat)(h:i=l.length):(l++[a]).set i c=l++[c]:=by subst h;simp
theorem BF (P:List Int):∀(f:Nat) (v:Int),(upF P f v).length<=f
 |0,_=>Nat.le_refl _
 |f+1,v=>by
  unfold upF;split;·have:=BF P f (P.getD v.toNat 0);rw[List.length_cons];omega
  ·simp
theorem rb (P:List Int)(v:Int):(upL P v).length<=P.length:=BF P _ _
theorem qy (P:List Int):(ab P).Nodup:=by unfold ab ai;exact List.Pairwise.filter _ (List.Pairwise.map Int.ofNat (λa b h e=>h (Int.ofNat.inj e)) List.nodup_range)
theorem ul {P T:List Int} {k nd:Nat} {x:Int} (h:T[k]? =some x) (hn:(ab P)[nd]? =some x):
    ((aF P T k).flatMap encI).set nd (.int .i64 ((((T.take k).count x:Nat):Int)+1))=(aF P T (k+1)).flatMap encI:=by
  rw[iy,iy];unfold aF;rw[List.map_map,List.map_map];refine List.ext_getElem? λj=>?_;rw[List.getElem?_set];have hnl:=(List.getElem?_eq_some_iff.1 hn).1;by_cases e:nd=j;· subst e;rw[if_pos rfl,List.length_map,if_pos hnl,List.getElem?_map,hn,dg h];simp
  · rw[if_neg e,List.getElem?_map,List.getElem?_map,dg h];cases hj:(ab P)[j]? with
    | none=>rfl
    | some y=>have hne:y≠x:=(by rintro rfl;obtain⟨a1,a2⟩:=List.getElem?_eq_some_iff.1 hn;obtain⟨b1,b2⟩:=List.getElem?_eq_some_iff.1 hj;exact e ((List.getElem_inj (qy P)).1 (a2.trans b2.symm)));simp[List.count_append,List.count_singleton,Ne.symm hne]
theorem uJ{T:List Int}{k:Nat}{x:Int}(h:T[k]? =some x):aY T (k+1)=aY T k++[(((T.take k).count x:Nat):Int)]:=by unfold aY;rw[List.range_succ,List.map_append];show _++[cr T k]=_;unfold cr;rw[ba h]
theorem rW (w:World) (b:Nat) (AP AT:Option Addr) (cP cT:Nat) (P T:List Int) (hc:a5 P T=0)
    (hB:Blk w b 213 (eR (.slice AP P.length cP) (.slice AT T.length cT) 0 1 qN qN qN qN))
    (hP:RdL w (.slice AP P.length cP) 1 encI P) (hT:RdL w (.slice AT T.length cT) 1 encI T)
    (nP:∀g,(Value.slice AP P.length cP).ownBlock=some g->g≠b) (nT:∀g,(Value.slice AT T.length cT).ownBlock=some g->g≠b):
    Calls Tryz.prog 170 #[↑b] w λe w'=>e= .returned (.tuple #[])/\∃vL vU vN vS vM us,jj w w' b (.slice AP P.length cP) (.slice AT T.length cT) P T vL vU vN vS vM us T.length:=by
  obtain⟨i0,hi,hz0,hz1,hz2⟩:=info_parts Tryz.infoIn;have HI:=qh (And.intro hi (And.intro hz0 (And.intro hz1 hz2)));clear hi hz0 hz1 hz2;obtain⟨j0,hi,hz0,hz1,hz2⟩:=info_parts Tryz.infoSl;have HJ:=qh (And.intro hi (And.intro hz0 (And.intro hz1 hz2)));clear hi hz0 hz1 hz2;obtain⟨hm,htr,hev,hthr⟩:=aR hc;have hml:=bh hm;have hll:=aZ P P.length;have hl5:(ab P).length<=32:=by show(ai P P.length).length<=_;omega
  have hlv:si P T=ab P:=by unfold si;rw[if_pos hc]
  have HBl:=qh hB;have HPT:=qh (And.intro hP hT);have HNB:=qh (And.intro nP nT);have HCK:=qh (And.intro htr hthr);have hbl:=hB.lt;have f0:=hB.cell 0;have f1:=hB.cell 1;have HTL:=qh (sX w _ _ P T hP hT);rw[hlv]at HTL;simp only[eR]at f0 f1;clear hc hB hP hT nP nT hm htr hev hthr hll hlv;go_enter Tryz.func170,Tryz.ntmps170;go_wp2_with fail;refine HTL.o.mono ?_;rintro en w1 ⟨v2,rfl,o2,b2⟩;obtain⟨A2,c2,rfl⟩:=bO o2;have B2:=qh (HBl.o.below b2 hbl);have hs2:=b2.size;have c8:=B2.o.cell 8;have z8:=B2.o.free 8;simp only[eR,qN]at c8;have A0:=qh (eT.single w1 w.heap.size b (aq (.slice A2 (ab P).length c2) (ab P)) o2 (λe=>by have:=(o2.lt _ e).1;omega));have K2:=qh b2;clear o2 b2 f0 f1;go_wp2_with (refine wpList_make_full _ rfl (.tmp 15) (.tmp 15) 22 rfl w1.heap.size 3 i0 (.int .i64 0) 1 Tryz.underlying22 HI.o.1 HI.o.2.1 HI.o.2.2.1 .i64 .i64 (ab P).length (ab P).length (ab P).length rfl rfl rfl rfl ?b2 ?b3 (Nat.le_refl _) ?_);case b2=>rw[HI.o.2.2.2];omega
  case b3=>unfold maxLen;omega
  intro w3 hown hg;have hown1:w3.ownsRow w1.heap.size 3 1 (.slice (some ⟨w1.heap.size,0,none⟩) (ab P).length (ab P).length) (ab P).length ((aF P T 0).flatMap encI):=by rw[kw,<-um P T]at hown;exact hown
  have hb3:Below w1.heap.size w1 w3:=(Below.refl w1.heap.size w1).grown hg (Nat.le_refl _) (λj hj=>by cases hj);have B3:=qh (B2.o.below hb3 B2.o.lt);have d8:=B3.o.cell 8;have y8:=B3.o.free 8;have d1:=B3.o.cell 1;simp only[eR,qN]at d8 d1;have HO:=qh (And.intro hown1 (And.intro hg hb3));clear hown hown1 hg hb3 c8 z8
  have HF0:jj w (w3.setCell ⟨b,8,none⟩ (.slice (some ⟨w1.heap.size,0,none⟩) (ab P).length (ab P).length)) b (.slice AP P.length cP) (.slice AT T.length cT) P T (.slice A2 (ab P).length c2) qN qN qN (.slice (some ⟨w1.heap.size,0,none⟩) (ab P).length (ab P).length) [] 0:=by
    have hbw1:b<w1.heap.size:=by omega
    have a1:=(A0.o.push 3).app (i:=1) (w':=w3) (v':= .slice (some ⟨w1.heap.size,0,none⟩) (ab P).length (ab P).length) (n':=(aF P T 0).length) (xs':=(aF P T 0).flatMap encI) rfl hbw1 HO.o.2.1 (by
      have h:=cW HO.o.1 K2.o.size;have e:(aF P T 0).length=(ab P).length:=by simp[aF]
      rw[e];exact h) (.inr ⟨_,Nat.le_refl _,rfl⟩)
    have a2:=a1.turn (w':=w3.setCell ⟨b,8,none⟩ (.slice (some ⟨w1.heap.size,0,none⟩) (ab P).length (ab P).length)) (aa.setCell (aa.refl [b] w3) (.inl QY) _);refine⟨B3.o.set_ 8 _,((a2.push 3).push 3).push 22,rfl,λi x r _ h=>by simp at h,?_⟩;exact((aa.of_below K2.o).trans (aa.of_below HO.o.2.2)).trans (aa.setCell (aa.refl [b] w3) (.inl QY) _)
  have HFI:=qh HF0;clear HF0;go_wp2_with fail;go_loopw [25] (λi wr=>∃(k:Nat) (vU vN vS vM:Value) (us:List eF),i= .int .i64 k/\k<=T.length/\jj w wr b (.slice AP P.length cP) (.slice AT T.length cT) P T (.slice A2 (ab P).length c2) vU vN vS vM us k) (λi _=>T.length-(intOf i).toNat);case atStart=>exact⟨0,_,_,_,_,[],rfl,by omega,HFI.o⟩
  case round=>
    obtain⟨k,vU,vN,vS,vM,us,rfl,hk,hF⟩:=hrel;obtain⟨wo,rfl⟩:∃wo:World,wo=wr:=⟨_,rfl⟩;have HF:=qh hF;clear hF d1 d8;by_cases hlt:k<T.length
    · obtain⟨x,hx⟩:=aj hlt;have hxm:=jc HCK.o.2 hx;have hxl:=gr (P:=P) (k:=P.length) hxm;obtain⟨m,rfl⟩:=Int.eq_ofNat_of_zero_le hxl.2.1;have hmP:m<P.length:=(by have:=hxl.2.2;omega);have RT:=HPT.o.2.turns HF.o.bel (λg hg hm=>by simp at hm;exact HNB.o.2 g hg hm);obtain⟨bT,oT,rfl,hbT,hcT⟩:=fM RT QX;have q0:=hcT k _ hx;have RL:=dH (HF.o.rows.own (aq (.slice A2 (ab P).length c2) (ab P)) QY) QX;have HIX:=qh (lE wo _ (ab P) m RL);obtain⟨nd,hnd⟩:∃nd:Nat,fy (ab P) m=nd:=by have h0:=(eI (ab P) (m:Int)).1.2 hxm;exact⟨(fy (ab P) m).toNat,by omega⟩
      have hndl:nd<(ab P).length:=(by have:=(eI (ab P) (m:Int)).2.1;omega);rw[hnd]at HIX;have HX:=qh (And.intro hx (And.intro hnd (mI hxm hnd)));have hoN:wo.ownsRow w.heap.size 3 1 vN (ao P T k).length ((ao P T k).flatMap encI):=HF.o.rows.own (aq vN (ao P T k)) QY;rw[de hk]at hoN;obtain⟨AN,cN,rfl⟩:=bO hoN;have e6:=HF.o.blk.cell 6;have z6:=HF.o.blk.free 6;simp only[eR]at e6;clear hx hxm hxl RT hcT RL hnd
      go_wp2_with (first
        | (go_at_call 119;refine HIX.o.mono ?_;rintro e w' ⟨rfl,rfl⟩)
        | (at_builtin;go_loud (refine wpList_append_own_at _ rfl _ _ 22 rfl w.heap.size 3 i0 (.int .i64 0) 1 8 Tryz.underlying22 HI.o.1 HI.o.2.1 HI.o.2.2.1 HI.o.2.2.2 rfl QZ _ _ _ rfl (hoN.alloc _) ⟨wo.heap.size,0,none⟩ 1 1 (encI nd) rfl rfl (cell_one_new _ _ _) (jZ _) ?c3 ?c4 ?c5 ?_)))
      case c3=>unfold maxLen;omega
      case c4=>omega
      case c5=>simp;have:=HF.o.bel.size;omega
      intro v' w4 hown' hgrow hnil hat;obtain⟨A',c',rfl⟩:=bO hown';have bl4:=(HF.o.blk.alloc (.cells #[.int .i64 nd] 3)).grown hgrow (λe=>HF.o.rows.nb (aq (.slice AN k cN) (ao P T k)) QY e.symm);have e6':=bl4.cell 6;have z6':=bl4.free 6;simp only[eR]at e6';obtain⟨w5,hw5⟩:∃w5,w5=w4.setCell ⟨b,6,none⟩ (.slice A' (k+1) c'):=⟨_,rfl⟩;have hG1:ew w w5 b (eR (.slice AP P.length cP) (.slice (some ⟨bT,oT,none⟩) T.length cT) 0 1 vU (.slice A' (k+1) c') vS vM) ([aq (.slice A2 (ab P).length c2) (ab P),aq vM (aF P T k),⟨3,.slice A' (k+1) c',k+1,(ao P T k).flatMap encI++encI nd⟩,aq vS (aY T k),eQ (us.map (·.v)) vU]++us):=by rw[hw5];exact HF.o.g.app (i:=2) (r:=aq (.slice AN k cN) (ao P T k)) rfl (.cells #[.int .i64 nd] 3) hgrow hown' hat 6
      rw[show(⟨3,.slice A' (k+1) c',k+1,(ao P T k).flatMap encI++encI nd⟩:eF)=aq (.slice A' (k+1) c') (ao P T (k+1))from by
        unfold aq
        rw[de QX,uw HX.o.1,HX.o.2.1,iz]]at hG1
      have HG1:=qh hG1;clear hown' hgrow hnil hat bl4 hG1 hoN e6 z6 q0;go_upto_region 7 with fail;rw[<-hw5];clear hw5 e6' z6';have hoS:w5.ownsRow w.heap.size 3 1 vS (aY T k).length ((aY T k).flatMap encI):=HG1.o.rows.own (aq vS (aY T k)) QY;rw[fZ]at hoS;obtain⟨AS,cS,rfl⟩:=bO hoS;have hoM:w5.ownsRow w.heap.size 3 1 vM (aF P T k).length ((aF P T k).flatMap encI):=HG1.o.rows.own (aq vM (aF P T k)) QY;rw[cH]at hoM;obtain⟨gM,cM,rfl,hgM0,hgM1⟩:=gA hoM QX;have m0:=hoM.cellAt nd QX;rw[pI HX.o.2.2]at m0;have HMN:=qh (HG1.o.rows.nb (aq (.slice AS k cS) (aY T k)) QY);obtain⟨ct,hct⟩:∃ct:Nat,ct=(T.take k).count (m:Int):=⟨_,rfl⟩;rw[<-hct]at m0;have HCT:=qh hct;have c7:=HG1.o.blk.cell 7;have c8:=HG1.o.blk.cell 8;simp only[eR]at c7 c8;have HSM:=qh (And.intro hoS hoM);have hb5:b<w5.heap.size:=HG1.o.blk.lt;clear hct hoS hoM;go_cut [5] (λs5 wx=>s5= .int .i64 (nd:Nat)/\∃vS',ew w wx b (eR (.slice AP P.length cP) (.slice (some ⟨bT,oT,none⟩) T.length cT) 0 1 vU (.slice A' (k+1) c') vS' (.slice (some ⟨gM,0,none⟩) (ab P).length cM)) ([aq (.slice A2 (ab P).length c2) (ab P),aq (.slice (some ⟨gM,0,none⟩) (ab P).length cM) (aF P T k),aq (.slice A' (k+1) c') (ao P T (k+1)),aq vS' (aY T (k+1)),eQ (us.map (·.v)) vU]++us))
      case first=>
        go_region_law ((go_loud ((refine step_append_lies _ rfl _ _ 22 rfl w.heap.size 3 i0 (.int .i64 0) 1 8 Tryz.underlying22 HI.o.1 HI.o.2.1 HI.o.2.2.1 HI.o.2.2.2 rfl QZ _ _ _ rfl (show World.ownsRow (w5.alloc (.cells #[.int .i64 ct] 3)).drew w.heap.size 3 1 (.slice AS k cS) k ((aY T k).flatMap encI)from HSM.o.1.alloc _) ⟨w5.heap.size,0,none⟩ 1 1 (encI ct) rfl rfl (λj u hj=>cell_one_new w5 (.int .i64 ct) 3 j u hj) (jZ _) QZ (by unfold maxLen;omega) QX (by simp;have:=HG1.o.bel.size;omega) _ rfl ?_));intro g6 cap6 w6 h6 hg6 hl6 hlt6;have bl6:=(HG1.o.blk.alloc (.cells #[.int .i64 ct] 3)).drew.grown hg6 (λe=>HMN.o e.symm);have c7':=bl6.cell 7;have z7':=bl6.free 7;simp only[eR]at c7'))
        all_goals
          have hG2:=(HG1.o.below (w':=w5.drew) (Below.refl _ _).drew).app (i:=3) (r:=aq (.slice AS k cS) (aY T k)) rfl (.cells #[.int .i64 ct] 3) hg6 h6 (hl6.imp (λe=>e.symm) (λe=>by rw[e];simp[Value.ownBlock])) 7;have HG2:=qh hG2;clear hG2 h6 hg6 hl6;go_wp2_with fail;go_meet
          case rel=>
            have h:ew w ((w6.setCell ⟨b,7,none⟩ (.slice (some ⟨g6,0,none⟩) (k+1) cap6))) b (eR (.slice AP P.length cP) (.slice (some ⟨bT,oT,none⟩) T.length cT) 0 1 vU (.slice A' (k+1) c') (.slice (some ⟨g6,0,none⟩) (k+1) cap6) (.slice (some ⟨gM,0,none⟩) (ab P).length cM)) ([aq (.slice A2 (ab P).length c2) (ab P),aq (.slice (some ⟨gM,0,none⟩) (ab P).length cM) (aF P T k),aq (.slice A' (k+1) c') (ao P T (k+1)),⟨3,.slice (some ⟨g6,0,none⟩) (k+1) cap6,k+1,(aY T k).flatMap encI++encI ct⟩,eQ (us.map (·.v)) vU]++us):=HG2.o
            rw[show(⟨3,.slice (some ⟨g6,0,none⟩) (k+1) cap6,k+1,(aY T k).flatMap encI++encI ct⟩:eF)=aq (.slice (some ⟨g6,0,none⟩) (k+1) cap6) (aY T (k+1))from by
              unfold aq
              rw[fZ,uJ HX.o.1,<-HCT.o,iz]]at h
            exact⟨rfl,_,h⟩
      case rest=>
        obtain⟨rfl,vS',hG2⟩:=hcut;have HG2:=qh hG2;clear hG2 c7 c8 m0 HMN hb5;have hoM:wc.ownsRow w.heap.size 3 1 (.slice (some ⟨gM,0,none⟩) (ab P).length cM) (aF P T k).length ((aF P T k).flatMap encI):=HG2.o.rows.own (aq (.slice (some ⟨gM,0,none⟩) (ab P).length cM) (aF P T k)) QY;rw[cH]at hoM;have m0:=hoM.cellAt nd QX;rw[pI HX.o.2.2,<-HCT.o]at m0;have y0:=hoM.frozenAt nd;have hst:=hoM.stored nd (.int .i64 ((ct:Int)+1));have c8:=HG2.o.blk.cell 8;simp only[eR]at c8;have hctb:ct<=32:=(by rw[HCT.o];have h1:=List.count_le_length (l:=T.take k) (a:=(m:Int));have h2:=List.length_take_le k T;omega);have HST:=qh hst;clear hst hoM;go_upto_region 9 with fail
        have hG3:ew w (wc.setCell ⟨gM,nd,none⟩ (.int .i64 ((ct:Int)+1))) b (eR (.slice AP P.length cP) (.slice (some ⟨bT,oT,none⟩) T.length cT) 0 1 vU (.slice A' (k+1) c') vS' (.slice (some ⟨gM,0,none⟩) (ab P).length cM)) ([aq (.slice A2 (ab P).length c2) (ab P),aq (.slice (some ⟨gM,0,none⟩) (ab P).length cM) (aF P T (k+1)),aq (.slice A' (k+1) c') (ao P T (k+1)),aq vS' (aY T (k+1)),eQ (us.map (·.v)) vU]++us):=by
          have h:=HG2.o.put (i:=1) (r:=aq (.slice (some ⟨gM,0,none⟩) (ab P).length cM) (aF P T k)) rfl (g:=gM) (j:=nd) rfl (.int .i64 ((ct:Int)+1)) (xs':=(aF P T (k+1)).flatMap encI) (by
            have h1:=HST.o.1;rw[HCT.o,ul HX.o.1 HX.o.2.2,<-HCT.o]at h1;show World.ownsRow _ _ _ 1 _ (aF P T k).length _;rw[cH]
            exact h1)
          have e:(⟨3,.slice (some ⟨gM,0,none⟩) (ab P).length cM,(aF P T k).length,(aF P T (k+1)).flatMap encI⟩:eF)=aq (.slice (some ⟨gM,0,none⟩) (ab P).length cM) (aF P T (k+1)):=(by unfold aq;rw[cH,cH]);rw[<-e];exact h
        have HG3:=qh (hG3.push 3);clear hG3 m0 y0 c8;obtain⟨w7,hw7⟩:∃w7,w7=wc.setCell ⟨gM,nd,none⟩ (.int .i64 ((ct:Int)+1)):=⟨_,rfl⟩;rw[<-hw7]at HG3 ⊢;clear hw7;go_wp2_with fail;go_loopw [6,7] (λs6 s7 wr=>∃(z:Int) (dn:List Int),s7= .int .i64 z/\z<P.length/\upL P m=dn++upL P z/\(dn.length:Int)+z<=m/\ew w wr b (eR (.slice AP P.length cP) (.slice (some ⟨bT,oT,none⟩) T.length cT) 0 1 vU (.slice A' (k+1) c') vS' (.slice (some ⟨gM,0,none⟩) (ab P).length cM)) (([aq (.slice A2 (ab P).length c2) (ab P),aq (.slice (some ⟨gM,0,none⟩) (ab P).length cM) (aF P T (k+1)),aq (.slice A' (k+1) c') (ao P T (k+1)),aq vS' (aY T (k+1)),eQ (us.map (·.v)) vU]++us)++[aq s6 dn])) (λ_ s7 _=>(intOf s7+1).toNat);case atStart=>exact⟨m,[],rfl,by omega,rfl,by simp,HG3.o⟩
        case round=>
          obtain⟨z,dn,rfl,hz,hup,hdl,hG⟩:=hrel;obtain⟨wi,rfl⟩:∃wi:World,wi=wr:=⟨_,rfl⟩;have HG4:=qh hG;have hdm:dn.length<=P.length:=(by have h1:=congrArg List.length hup;rw[List.length_append]at h1;have h2:(upL P m).length<=P.length:=rb P m;omega);have hoU:wi.ownsRow w.heap.size 3 1 u6 dn.length (dn.flatMap encI):=hG.rows.own (aq u6 dn) QY;have HUP:=qh hup;clear hG hup;by_cases h0:0<=z
          · obtain⟨n,rfl⟩:=Int.eq_ofNat_of_zero_le h0;have hn:n<P.length:=(by omega);obtain⟨q,hq⟩:=aj hn;have hql:=gx HCK.o.1 hq;have HQ:=qh (gc HCK.o.1 hq);have HQG:=qh hq;obtain⟨A6,c6,rfl⟩:=bO hoU;clear hq;go_wp2_with (at_builtin;go_loud (refine wpList_append_own_at _ rfl _ _ 22 rfl w.heap.size 3 i0 (.int .i64 0) 1 8 Tryz.underlying22 HI.o.1 HI.o.2.1 HI.o.2.2.1 HI.o.2.2.2 rfl QZ _ _ _ rfl (hoU.alloc _) ⟨wi.heap.size,0,none⟩ 1 1 (encI n) rfl rfl (cell_one_new _ _ _) (jZ _) ?d3 ?d4 ?d5 ?_));case d3=>unfold maxLen;omega
            case d4=>omega
            case d5=>simp;have:=HG4.o.bel.size;omega
            intro v8 w8 hown8 hgrow8 hnil8 hat8;have hG8:=HG4.o.grow (i:=5+us.length) (r:=aq (.slice A6 dn.length c6) dn) (r9 _ _ _ Q1) (.cells #[.int .i64 n] 3) hgrow8 hown8 hat8;rw[Am _ _ _ _ Q1]at hG8;have HG8:=qh hG8;have RP:=HPT.o.1.turns hG8.bel (λg hg hm=>by simp at hm;exact HNB.o.1 g hg hm);have x0:=hG8.blk.cell 0;simp only[eR]at x0;obtain⟨bP,oP,hAP,_,hcP⟩:=fM RP QX;have x1:=hcP n q HQG.o;rw[show(⟨(aq (.slice A6 dn.length c6) dn).e,v8,dn.length+1,dn.flatMap encI++encI n⟩:eF)=aq v8 (dn++[(n:Int)])from by unfold aq;rw[iz,List.length_append];rfl]at HG8;clear hown8 hgrow8 hnil8 hat8 hG8 RP hcP hoU;subst hAP;go_wp2;go_roundw;case rel=>exact⟨q,dn++[(n:Int)],rfl,by omega,by rw[HUP.o,HQ.o];simp,by simp;omega,HG8.o⟩
            case measure=>simp[intOf];omega
          · have HDN:=qh (show dn=upL P m from by have h:=HUP.o;rw[wF (P:=P) (p:=z) QX,List.append_nil]at h;exact h.symm);obtain⟨A6,c6,rfl⟩:=bO hoU;have hul:us.length=k:=HF.o.len;have hoV:wi.ownsRow w.heap.size 22 1 vU (us.map (·.v)).length (us.map (·.v)):=(by have h:=HG4.o.rows.own (eQ (us.map fun(r:eF)=>r.v) vU) QY;exact h);rw[List.length_map,hul]at hoV;obtain⟨AV,cV,rfl⟩:=bO hoV;have x5:=HG4.o.blk.cell 5;simp only[eR]at x5;have HUL:=qh hul;clear hoU hul;go_wp2_with (at_builtin;go_loud (refine wpList_append_own_at _ rfl _ _ 211 rfl w.heap.size 22 j0 (.slice none 0 0) 1 24 Tryz.underlying211 HJ.o.1 HJ.o.2.1 HJ.o.2.2.1 HJ.o.2.2.2 rfl QZ _ _ _ rfl (hoV.alloc _) ⟨wi.heap.size,0,none⟩ 1 1 [.slice A6 dn.length c6] rfl rfl (cell_one_new _ _ _) Rv ?e3 ?e4 ?e5 ?_));case e3=>unfold maxLen;omega
            case e4=>omega
            case e5=>have h9:=HG4.o.bel.size;first|omega|(simp;omega)|exact Nat.le_trans h9 QY
            intro v9 w9 hown9 hgrow9 hnil9 hat9;obtain⟨A9,c9,rfl⟩:=bO hown9;have bl9:=(HG4.o.blk.alloc (.cells #[.slice A6 dn.length c6] 22)).grown hgrow9 (λe=>HG4.o.rows.nb (eQ (us.map fun(r:eF)=>r.v) (.slice AV k cV)) QY e.symm);have e9:=bl9.cell 5;have z9:=bl9.free 5;simp only[eR]at e9;have hG9:=HG4.o.app (i:=4) (r:=eQ (us.map fun(r:eF)=>r.v) (.slice AV k cV)) rfl (.cells #[.slice A6 dn.length c6] 22) hgrow9 hown9 hat9 5;have HG9:=qh hG9;clear hown9 hgrow9 hnil9 hat9 bl9 hG9 hoV;go_wp2
            have HFI2:=qh (show jj w (w9.setCell ⟨b,5,none⟩ (.slice A9 (k+1) c9)) b (.slice AP P.length cP) (.slice (some ⟨bT,oT,none⟩) T.length cT) P T (.slice A2 (ab P).length c2) (.slice A9 (k+1) c9) (.slice A' (k+1) c') vS' (.slice (some ⟨gM,0,none⟩) (ab P).length cM) (us++[aq (.slice A6 dn.length c6) dn]) (k+1)from by
              have e:(⟨22,.slice A9 (k+1) c9,k+1,(us.map fun(r:eF)=>r.v)++[.slice A6 dn.length c6]⟩:eF)=eQ ((us++[aq (.slice A6 dn.length c6) dn]).map fun(r:eF)=>r.v) (.slice A9 (k+1) c9):=(by unfold eQ;simp[HUL.o,aq]);refine⟨HG9.o.blk,?_,by simp[HUL.o],λi x r hT hU=>?_,HG9.o.bel⟩;· rw[<-e];exact HG9.o.rows
              · by_cases hik:i<k;· rw[List.getElem?_append_left (by rw[HUL.o];exact hik)]at hU;exact HF.o.up i x r hT hU
                · have hik2:i=k:=(by have h1:=(List.getElem?_eq_some_iff.1 hU).1;rw[List.length_append,List.length_singleton,HUL.o]at h1;omega);subst hik2;rw[r9 _ _ _ HUL.o.symm]at hU;injection hU with hU;rw[HX.o.1]at hT;injection hT with hT
                  rw[<-hU,<-hT,<-HDN.o];rfl)
            go_roundw;case rel=>exact⟨k+1,_,_,_,_,_,by go_num,by omega,HFI2.o⟩
            case measure=>simp[intOf];omega
    · obtain rfl:k=T.length:=by omega
      go_wp2;go_end0;exact⟨rfl,_,_,_,_,_,_,HF.o⟩
end
section
open Go.RowKit
structure iq (w:World)(b:Nat)(P T:List Int):Prop where
 ok:a5 P T=0
 ex:∃AP cP AT cT vU vN vS vM us,Blk w b 213 (eR (.slice AP P.length cP) (.slice AT T.length cT) 1 0 vU vN vS vM)/\RdL w (.slice AP P.length cP) 1 encI P/\RdL w (.slice AT T.length cT) 1 encI T/\
  RdL w vN 1 encI (ao P T T.length)/\RdL w vS 1 encI (aY T T.length)/\RdL w vM 1 encI (aF P T T.length)/\
  RdL w vU 1 (λv=>[v]) us/\us.length=T.length/\∀(i:Nat) (x:Int) (v:Value),T[i]? =some x->us[i]? =some v->RdL w v 1 encI (upL P x)
theorem iq.below{w w':World}{b:Nat}{P T:List Int}(h:iq w b P T)(k:Below w.heap.size w w'):iq w' b P T:=by obtain⟨AP,cP,AT,cT,vU,vN,vS,vM,us,h1,h2,h3,h4,h5,h6,h7,h8,h9⟩:=h.ex;exact⟨h.ok,AP,cP,AT,cT,vU,vN,vS,vM,us,h1.below k h1.lt,h2.below k (Nat.le_refl _),h3.below k (Nat.le_refl _),h4.below k (Nat.le_refl _),h5.below k (Nat.le_refl _),h6.below k (Nat.le_refl _),h7.below k (Nat.le_refl _),h8,λi x v a c=>(h9 i x v a c).below k (Nat.le_refl _)⟩
theorem eO (w:World) (b:Nat) (P T:List Int) (h:iq w b P T):
    Calls Tryz.prog 133 #[↑b] w λe w'=>e= .returned ↑b/\w=w':=by obtain⟨AP,cP,AT,cT,vU,vN,vS,vM,us,hB,_⟩:=h.ex;have c2:=hB.cell 2;simp only[eR]at c2;have HD:=qh (λfv=>Cp b 2 fv w c2);clear h hB c2;go_enter Tryz.func133,Tryz.ntmps133;go_wp2_with fail;refine(HD.o _).mono ?_;rintro en w' ⟨rfl,rfl⟩;go_wp2;go_ret;exact⟨rfl,rfl⟩
end
section
open Go.RowKit
def Tab (w:World)(b:Nat)(P T:List Int):Prop:=a5 P T=0/\(Hl w b P T\/iq w b P T)
theorem iq.tab{w:World}{b:Nat}{P T:List Int}(h:iq w b P T):Tab w b P T:=⟨h.ok,.inr h⟩
theorem Tab.lt{w:World}{b:Nat}{P T:List Int}(h:Tab w b P T):b<w.heap.size:=by rcases h.2 with⟨_,_,_,_,h1,_⟩|⟨_,_,_,_,_,_,_,_,_,_,h1,_⟩<;>exact h1.lt
theorem Tab.below{w w':World}{b:Nat}{P T:List Int}(h:Tab w b P T)(k:Below w.heap.size w w'):Tab w' b P T:=by
 refine⟨h.1,?_⟩;rcases h.2 with h0|h0
 ·obtain⟨AP,cP,AT,cT,h1,h2,h3,h4,h5⟩:=h0.ex;exact .inl ⟨AP,cP,AT,cT,h1.below k h1.lt,h2.below k (Nat.le_refl _),h3.below k (Nat.le_refl _),h4,h5⟩
 ·exact .inr (h0.below k)
theorem Tab.thr{w:World}{b:Nat}{P T:List Int}(h:Tab w b P T):∃AT cT,w.cell? ⟨b,1,none⟩=some (.slice AT T.length cT):=by
 rcases h.2 with h0|h0
 ·obtain⟨AP,cP,AT,cT,h1,_⟩:=h0.ex;exact⟨AT,cT,h1.cell 1⟩
 ·obtain⟨AP,cP,AT,cT,vU,vN,vS,vM,us,h1,_⟩:=h0.ex;exact⟨AT,cT,h1.cell 1⟩
theorem dW (w:World) (b:Nat) (P T:List Int) (h:Tab w b P T):
    Calls Tryz.prog 136 #[↑b] w λe w'=>e= .returned (.int .i64 (T.length:Nat))/\w=w':=by obtain⟨AT,cT,c1⟩:=h.thr;clear h;go_enter Tryz.func136,Tryz.ntmps136;go_wp2;go_ret;exact⟨rfl,rfl⟩
def EA (T:List Int)(i:Int):Bool:=decide (0<=i/\i<T.length)
theorem vE (w:World) (b:Nat) (P T:List Int) (i:Int) (r:Bool) (hr:EA T i=r) (h:Tab w b P T):
    Calls Tryz.prog 132 #[↑b,.int .i64 i] w λe w'=>e= .returned (.bool r)/\w=w':=by
  have HT:=qh (dW w b P T h);have HR:=qh hr;clear h hr;go_enter Tryz.func132,Tryz.ntmps132;by_cases h0:0<=i;· go_wp2_with fail;refine HT.o.mono ?_;rintro en w' ⟨rfl,rfl⟩;go_wp2;go_ret;exact⟨az (by rw[<-HR.o];simp[EA,h0]),rfl⟩
  · go_wp2;go_ret;exact⟨az (by rw[<-HR.o];unfold EA;symm;exact decide_eq_false QX),rfl⟩
end
end Go.Proofs.YtglokdbiggbkjaaGreat
