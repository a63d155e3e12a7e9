/- Joined. -/
import Derived.Test.YtglokdbiggbkjaaGreatRows
import Derived.WalkKit
import Derived.ProofKit
import Derived.OpenShut
import Derived.Below
import Derived.ChangeOld
import Derived.Test.YtglokdbiggbkjaaGreatMgWholeRefuses1
import Derived.Test.YtglokdbiggbkjaaGreatMgWholeRefuses27
set_option maxRecDepth 100000
set_option maxHeartbeats 16000000
namespace Go.Proofs.YtglokdbiggbkjaaGreat.wholeRefuses
open Go.ChangeShapes Go.WideShapes Go.ChangeAt Go.RowKit
theorem own:ownKnob Tryz.prog.godebug=none:=by kernel_rfl
theorem laidOut:laidOutB Tryz.prog=true:=sB
theorem lifted (os:Os) (started:os.Started) (H:Type) (enc:TypeId×Value->H):
    ReturnsInHanded {} Tryz.checked os 7 .any (Rows.wholeRefusesSpec.pre6 enc Tryz.prog Tryz.f7 Rows.wholeRefusesRow.domain false) (Rows.wholeRefusesSpec.post enc Tryz.prog Tryz.f7 false true false false):=by
  refine returnsInHanded_of_change (C:=Tryz.checked) own started (by kernel_rfl) Tryz.func7
    (ChangeSpec.witness6 (enc:=enc) (C:=Tryz.checked) false ⟨#[],#[.agg #[.slice none 0 0,.slice none 0 0],.agg #[.int .i64 0,.int .i64 0,.int .i64 0,.int .i64 0,.int .i64 0],.slice none 0 0],[]⟩ 8 (by kernel_rfl) (by kernel_rfl) (by kernel_rfl) (by kernel_rfl)) ?_
  intro W base args ds gs before hval0 hW hcnd _
  have hval:∀(j:Nat) t v,Tryz.f7.params[j]? =some t->args[j]? =some v->Value.okWide Tryz.prog W .any base t v:=hval0
  have hW':=hW
  obtain⟨p,q,hA0,hV,rfl,hfz,hnd⟩:=hW
  have hA:DataW.TrodAll enc Tryz.prog W 0 (λ_=>true) true Tryz.f7.params.toList args.toList ds p:=hA0
  rw[Tryz.params7]at hA hval
  obtain⟨v0,vs0,d0,ds0,p0,q0,hargs,rfl,rfl,h0,r0⟩:=trodAll_cons hA
  obtain⟨v1,vs1,d1,ds1,p1,q1,rfl,rfl,rfl,h1,r1⟩:=trodAll_cons r0
  obtain⟨v2,vs2,d2,ds2,p2,q2,rfl,rfl,rfl,h2,r2⟩:=trodAll_cons r1
  obtain⟨rfl,rfl,rfl⟩:=trodAll_nil r2
  obtain rfl:args=#[v0,v1,v2]:=by cases args;simp_all
  obtain⟨rfl,rfl⟩:=trodVars_none hV
  have k0:=h0
  have lt0:∀x∈p0,x.block<W.heap.size:=by obtain⟨m,hm⟩:=k0;exact DataW.trod_lt m _ _ _ hm
  have k1:=h1
  have lt1:∀x∈p1,x.block<W.heap.size:=by obtain⟨m,hm⟩:=k1;exact DataW.trod_lt m _ _ _ hm
  have k2:=h2
  have lt2:∀x∈p2,x.block<W.heap.size:=by obtain⟨m,hm⟩:=k2;exact DataW.trod_lt m _ _ _ hm
  have hcall:Calls Tryz.prog 7 #[v0,v1,v2] W λe w'=>e= .returned (.bool true)/\Below W.heap.size W w':=by
    obtain⟨f0,hf0⟩:=h0
    obtain⟨AP,cP,P,AT,cT,T,rfl,mP,mT,RP,RT⟩:=yD (hval 0 24 v0 rfl rfl) hf0
    obtain⟨f1,hf1⟩:=h1
    obtain⟨kd,sg,sl,sp,sb,rfl⟩:=yC (hval 1 38 v1 rfl rfl) hf1
    obtain⟨a2,len2,c2,rfl⟩:=okWide_slice Tryz.underlying46 (hval 2 46 v2 rfl rfl)
    obtain⟨f2,hf2⟩:=h2
    obtain⟨A2,cap2,z2,hz2,hm2,R2⟩:=BK Tryz.underlying46 Tryz.underlying58 (by kernel_rfl) (by kernel_rfl) rfl rfl Tryz.underlying3 hf2
    rw[hz2]
    by_cases c120:z2.length<=120
    · by_cases hbig:P.length<=140737488355328/\T.length<=140737488355328
      · cases hs:uA P T
        · exact IR vV W _ _ kd sg sl sp sb (.of (RP hbig.1) (RT hbig.2) hs) _ _ _ c120
        · exact IS vV W _ _ _ P T (RP hbig.1) (RT hbig.2) kd sg sl sp sb hs _ z2 (by rw[<-hz2];exact R2 (by omega)) c120
      · exact IR vV W _ _ kd sg sl sp sb (.raw _ _ _ _ _ _ _ (by omega) (by simpa[maxLen]using mP) (by simpa[maxLen]using mT)) _ _ _ c120
    · exact F6 vV W _ _ kd sg sl sp sb _ _ _ (by omega) (by simpa[maxLen]using hm2)
  refine hcall.mono λe W' ⟨he,bel⟩=>?_
  subst he
  exact⟨_,rfl,_,_,_,[],_,[],hW',trodAll_mk1 (shut_bool Tryz.underlying4 _),(trodAll_cons_mk (Below.trod laidOut (by kernel_rfl) (of_decide_eq_true (by kernel_rfl)) k0 bel lt0) (trodAll_cons_mk (Below.trod laidOut (by kernel_rfl) (of_decide_eq_true (by kernel_rfl)) k1 bel lt1) (trodAll_cons_mk (Below.trod laidOut (by kernel_rfl) (of_decide_eq_true (by kernel_rfl)) k2 bel lt2) trodAll_mk0))),rfl,bel.frame _,λh=>by cases h⟩
theorem joined:joinedFacts Tryz.pinned.checked.prog 7 Tryz.f7 Rows.wholeRefusesSpec Rows.wholeRefusesRow=true:=by
 unfold joinedFacts
 simp only[Bool.and_eq_true]
 refine⟨⟨⟨⟨⟨⟨⟨⟨⟨⟨⟨⟨⟨⟨⟨⟨⟨⟨⟨⟨⟨⟨⟨⟨⟨⟨⟨⟨⟨⟨⟨?_,sB⟩,uQ⟩,?_⟩,?_⟩,?_⟩,?_⟩,?_⟩,?_⟩,?_⟩,?_⟩,?_⟩,?_⟩,?_⟩,?_⟩,?_⟩,?_⟩,?_⟩,?_⟩,?_⟩,?_⟩,?_⟩,?_⟩,?_⟩,tO⟩,yt⟩,?_⟩,?_⟩,?_⟩,?_⟩,?_⟩,?_⟩
 all_goals (as_aux_lemma=>kernel_rfl)
theorem over:Rows.wholeRefusesRow.holds Tryz.pinned (OpenSpec.ofChange Rows.wholeRefusesSpec):=
 OpenClaim.holds_of_wide 7 Tryz.f7 rfl rfl rfl rfl rfl rfl rfl ⟨rfl,rfl,rfl,rfl,rfl⟩ rfl rfl rfl rfl rfl (by kernel_rfl) Tryz.func7 joined
  (of_decide_eq_true (by kernel_rfl)) (by unfold Func.isWrapper;first|(rw[if_pos (by decide+kernel)];kernel_rfl)|(rw[if_neg (by decide+kernel)];exact⟨rfl,rfl⟩))
  (λos started H enc _=>lifted os started H enc)
theorem proved:Rows.WholeRefusesSaid:=over
#print axioms proved
end Go.Proofs.YtglokdbiggbkjaaGreat.wholeRefuses
