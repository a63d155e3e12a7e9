/- Joined texts. -/
import Derived.Laws.CopyOwn
import Derived.Laws.EntriesVeiled
import Derived.Deep.RegionLaw
import Derived.Deep.AppendLies
import Derived.Test.YtglokdbiggbkjaaGreatMgLocksSafe0
import Derived.Test.YtglokdbiggbkjaaGreatMgLocksSafe4
import Derived.Test.YtglokdbiggbkjaaGreatMgLocksSafe8
import Derived.Test.YtglokdbiggbkjaaGreatMgLocksSafe11
import Derived.Test.YtglokdbiggbkjaaGreatMgLocksSafe12
import Derived.Test.YtglokdbiggbkjaaGreatMgLocksSafe15
import Derived.Test.YtglokdbiggbkjaaGreatMgLocksSafe16
set_option linter.unusedVariables false
set_option linter.unusedSimpArgs false
set_option maxRecDepth 100000
set_option maxHeartbeats 16000000
namespace Go.Proofs.YtglokdbiggbkjaaGreat
section
open Go.RowKit
section
variable{w w':World}{c:Cx}{cap:Nat}{bud:Int}{nd:List Int}{h:Cn}
theorem tH (k:an w c cap bud nd h) (i:Nat) (hin:i<nd.length) (a b z:Int) (hp:h.S[i]? =some (⟨19,a,b,z⟩:Sp)) (ho:h.ar.ops+1<=1000000000000) (hl:-5<=h.wk.last/\h.wk.last<=100000) (hb0:decide (0<b)=true):
    Calls Tryz.prog 318 #[↑c.l,.pointer (some ⟨c.q,i*4,none⟩)] w (eE w c cap bud nd h i (⟨19,a,b,z⟩:Sp) (af nd.length (ndf nd) bud h i (⟨19,a,b,z⟩:Sp))):=by
  obtain⟨_,hn⟩:=k.n32;have e0:=k.sp.cell hp 0 _ rfl;simp only[Nat.add_zero]at e0;obtain⟨ar',har⟩:∃s,s=ac h.ar (cN h.wk.last) 0:=⟨_,rfl⟩;have HX:Kq (af nd.length (ndf nd) bud h i (⟨19,a,b,z⟩:Sp)=(ar',h.wk,(⟨20,a,b,z⟩:Sp))):=qh (by rw[DQ rfl,har];simp at hb0;simp[hb0]);have HF:=qh (λW (k:an W c cap bud nd h)=>mj k h.wk.last (by exact hl));have HO0:=(λW (k:an W c cap bud nd h)=>am k.ar (cN h.wk.last) 0 ho);rw[<-har]at HO0;have HO:=qh HO0;have HC:=qh (λW (h:Cn) (k:an W c cap bud nd h) (hp:h.S[i]? =some (⟨19,a,b,z⟩:Sp))=>And.intro k.l0 k.l4);have HP:=qh hp;have HL:=qh (show i<h.S.length by rw[k.sl];exact hin);have K1:=qh (k.below ((Below.refl _ w).drew));have HW:=qh (λW (k:an W c cap bud nd h)=>ud k.wk);clear HO0 k hp har;go_enter Tryz.func318,Tryz.ntmps318;go_wp2_with fail
  go_region_held3 (λW=>W.cell? c.l=some ↑c.a/\W.cell? ⟨c.l,4,none⟩=some ↑c.k)
    (first|with_reducible exact HC.o _ _ K1.o HP.o|with_reducible exact HC.o _ _ K2.o HP.o)
    (first
      | (go_at_call 146;go_loud (refine(HF.o _ K1.o).mono ?_);rintro en w2 ⟨rfl,rfl⟩)
      | (go_at_call 326;go_loud (refine(HW.o _ K1.o).mono ?_);rintro en w2 ⟨rfl,rfl⟩)
      | (go_at_call 177;go_loud (refine(HO.o _ K1.o).mono ?_);rintro en w3 ⟨rfl,a3,t3⟩;have K2:=qh (K1.o.op t3 a3);have T2:=qh (((aa.refl [c.a,c.g,c.q,c.k] w).drew).trans (t3.mono (T:=[c.a,c.g,c.q,c.k]) QY));clear a3 t3))
  all_goals have e3:=K2.o.sp.cell HP.o 2 _ rfl;have e4:=K2.o.sp.cell HP.o 1 _ rfl;have z3:=K2.o.sp.free (i*4+2);go_wp2;go_ret;rw[HX.o];exact⟨rfl,K2.o.samS HP.o,T2.o⟩
theorem tG (k:an w c cap bud nd h) (i:Nat) (hin:i<nd.length) (a b z:Int) (hp:h.S[i]? =some (⟨19,a,b,z⟩:Sp)) (ho:h.ar.ops+1<=1000000000000) (hl:-5<=h.wk.last/\h.wk.last<=100000) (hb0:decide (0<b)=false):
    Calls Tryz.prog 318 #[↑c.l,.pointer (some ⟨c.q,i*4,none⟩)] w (eE w c cap bud nd h i (⟨19,a,b,z⟩:Sp) (af nd.length (ndf nd) bud h i (⟨19,a,b,z⟩:Sp))):=by
  obtain⟨_,hn⟩:=k.n32;have e0:=k.sp.cell hp 0 _ rfl;simp only[Nat.add_zero]at e0;obtain⟨ar',har⟩:∃s,s=ac h.ar (cN h.wk.last) 0:=⟨_,rfl⟩;have HX:Kq (af nd.length (ndf nd) bud h i (⟨19,a,b,z⟩:Sp)=(ar',h.wk,(⟨22,a,a,z⟩:Sp))):=qh (by rw[DQ rfl,har];simp at hb0;simp[hb0]);have HF:=qh (λW (k:an W c cap bud nd h)=>mj k h.wk.last (by exact hl));have HO0:=(λW (k:an W c cap bud nd h)=>am k.ar (cN h.wk.last) 0 ho);rw[<-har]at HO0;have HO:=qh HO0;have HC:=qh (λW (h:Cn) (k:an W c cap bud nd h) (hp:h.S[i]? =some (⟨19,a,b,z⟩:Sp))=>And.intro k.l0 k.l4);have HP:=qh hp;have HL:=qh (show i<h.S.length by rw[k.sl];exact hin);have K1:=qh (k.below ((Below.refl _ w).drew));have HW:=qh (λW (k:an W c cap bud nd h)=>ud k.wk);clear HO0 k hp har;go_enter Tryz.func318,Tryz.ntmps318;go_wp2_with fail
  go_region_held3 (λW=>W.cell? c.l=some ↑c.a/\W.cell? ⟨c.l,4,none⟩=some ↑c.k)
    (first|with_reducible exact HC.o _ _ K1.o HP.o|with_reducible exact HC.o _ _ K2.o HP.o)
    (first
      | (go_at_call 146;go_loud (refine(HF.o _ K1.o).mono ?_);rintro en w2 ⟨rfl,rfl⟩)
      | (go_at_call 326;go_loud (refine(HW.o _ K1.o).mono ?_);rintro en w2 ⟨rfl,rfl⟩)
      | (go_at_call 177;go_loud (refine(HO.o _ K1.o).mono ?_);rintro en w3 ⟨rfl,a3,t3⟩;have K2:=qh (K1.o.op t3 a3);have T2:=qh (((aa.refl [c.a,c.g,c.q,c.k] w).drew).trans (t3.mono (T:=[c.a,c.g,c.q,c.k]) QY));clear a3 t3))
  all_goals have e3:=K2.o.sp.cell HP.o 2 _ rfl;have e4:=K2.o.sp.cell HP.o 1 _ rfl;have z3:=K2.o.sp.free (i*4+2);go_wp2;go_ret;rw[HX.o];exact⟨rfl,K2.o.putS (p':=(⟨19,a,a,z⟩:Sp)) HP.o (j:=2) (v:= .int .i64 a) QZ rfl,T2.o.trans (dh ⟨c.q,i*4+2,none⟩ _ rfl)⟩
theorem wY (k:an w c cap bud nd h) (i:Nat) (hin:i<nd.length) (a b z:Int) (hp:h.S[i]? =some (⟨20,a,b,z⟩:Sp)) (ho:h.ar.ops+1<=1000000000000) (hb:-5<=b/\b<=100000):
    Calls Tryz.prog 318 #[↑c.l,.pointer (some ⟨c.q,i*4,none⟩)] w (eE w c cap bud nd h i (⟨20,a,b,z⟩:Sp) (af nd.length (ndf nd) bud h i (⟨20,a,b,z⟩:Sp))):=by
  obtain⟨v,hv⟩:∃v,v=ldW h.ar.W (cL b):=⟨_,rfl⟩;have HX:Kq (af nd.length (ndf nd) bud h i (⟨20,a,b,z⟩:Sp)=(ae h.ar (cL b),h.wk,(⟨21,a,b,v⟩:Sp))):=qh (by rw[G0 rfl,hv]<;>rfl);have HF:=qh (λW (k:an W c cap bud nd h)=>vG k b (by exact hb));have HO:=λW (k:an W c cap bud nd h)=>aC k.ar (cL b) ho;rw[<-hv]at HO;replace HO:=qh HO;clear hv;have HJ:=qh (λW ar' (k:an W c cap bud nd ⟨ar',h.wk,h.S⟩)=>k.putS (p':=(⟨20,a,b,v⟩:Sp)) hp (j:=3) (v:= .int .i64 v) QZ rfl);have HPN:=fun(q:i<h.S.length)=>show(h.S.set i (⟨20,a,b,v⟩:Sp))[i]? =some (⟨20,a,b,v⟩:Sp)by simp[q]
  exact cwZ
theorem xe (k:an w c cap bud nd h) (i:Nat) (hin:i<nd.length) (a b z:Int) (hp:h.S[i]? =some (⟨25,a,b,z⟩:Sp)) (ho:h.ar.ops+1<=1000000000000) (hb:-5<=b/\b<=100000):
    Calls Tryz.prog 318 #[↑c.l,.pointer (some ⟨c.q,i*4,none⟩)] w (eE w c cap bud nd h i (⟨25,a,b,z⟩:Sp) (af nd.length (ndf nd) bud h i (⟨25,a,b,z⟩:Sp))):=by
  obtain⟨v,hv⟩:∃v,v=ldW h.ar.W (cL b):=⟨_,rfl⟩;have HX:Kq (af nd.length (ndf nd) bud h i (⟨25,a,b,z⟩:Sp)=(ae h.ar (cL b),h.wk,(⟨26,a,b,v⟩:Sp))):=qh (by rw[G6 rfl,hv]<;>rfl);have HF:=qh (λW (k:an W c cap bud nd h)=>vG k b (by exact hb));have HO:=λW (k:an W c cap bud nd h)=>aC k.ar (cL b) ho;rw[<-hv]at HO;replace HO:=qh HO;clear hv;have HJ:=qh (λW ar' (k:an W c cap bud nd ⟨ar',h.wk,h.S⟩)=>k.putS (p':=(⟨25,a,b,v⟩:Sp)) hp (j:=3) (v:= .int .i64 v) QZ rfl);have HPN:=fun(q:i<h.S.length)=>show(h.S.set i (⟨25,a,b,v⟩:Sp))[i]? =some (⟨25,a,b,v⟩:Sp)by simp[q]
  exact cwZ
theorem wZ (k:an w c cap bud nd h) (i:Nat) (hin:i<nd.length) (a b z:Int) (hp:h.S[i]? =some (⟨21,a,b,z⟩:Sp)) (ho:h.ar.ops+1<=1000000000000) (hz:-5<=z/\z<=100000):
    Calls Tryz.prog 318 #[↑c.l,.pointer (some ⟨c.q,i*4,none⟩)] w (eE w c cap bud nd h i (⟨21,a,b,z⟩:Sp) (af nd.length (ndf nd) bud h i (⟨21,a,b,z⟩:Sp))):=by have HX:Kq (af nd.length (ndf nd) bud h i (⟨21,a,b,z⟩:Sp)=(ac h.ar (cN z) a,h.wk,(⟨22,a,b,z⟩:Sp))):=qh (by rw[G2 rfl]<;>rfl);have HF:=qh (λW (k:an W c cap bud nd h)=>mj k z (by exact hz));have HO:=qh (λW (k:an W c cap bud nd h)=>am k.ar (cN z) a ho);exact cyN
theorem xf (k:an w c cap bud nd h) (i:Nat) (hin:i<nd.length) (a b z:Int) (hp:h.S[i]? =some (⟨26,a,b,z⟩:Sp)) (ho:h.ar.ops+1<=1000000000000) (hz:-5<=z/\z<=100000):
    Calls Tryz.prog 318 #[↑c.l,.pointer (some ⟨c.q,i*4,none⟩)] w (eE w c cap bud nd h i (⟨26,a,b,z⟩:Sp) (af nd.length (ndf nd) bud h i (⟨26,a,b,z⟩:Sp))):=by have HX:Kq (af nd.length (ndf nd) bud h i (⟨26,a,b,z⟩:Sp)=(ac h.ar (cN z) a,h.wk,(⟨27,a,b,z⟩:Sp))):=qh (by rw[G7 rfl]<;>rfl);have HF:=qh (λW (k:an W c cap bud nd h)=>mj k z (by exact hz));have HO:=qh (λW (k:an W c cap bud nd h)=>am k.ar (cN z) a ho);exact cyN
theorem xa (k:an w c cap bud nd h) (i:Nat) (hin:i<nd.length) (a b z:Int) (hp:h.S[i]? =some (⟨22,a,b,z⟩:Sp)) (ho:h.ar.ops+1<=1000000000000) (hb:-5<=b/\b<=100000):
    Calls Tryz.prog 318 #[↑c.l,.pointer (some ⟨c.q,i*4,none⟩)] w (eE w c cap bud nd h i (⟨22,a,b,z⟩:Sp) (af nd.length (ndf nd) bud h i (⟨22,a,b,z⟩:Sp))):=by
  obtain⟨_,hn⟩:=k.n32;have e0:=k.sp.cell hp 0 _ rfl;simp only[Nat.add_zero]at e0;obtain⟨ar',har⟩:∃s,s=ac h.ar (cL b) h.wk.last:=⟨_,rfl⟩;have HX:Kq (af nd.length (ndf nd) bud h i (⟨22,a,b,z⟩:Sp)=(ar',h.wk,(⟨23,h.wk.found,b,z⟩:Sp))):=qh (by rw[G3 rfl,har]<;>rfl);have HF:=qh (λW (k:an W c cap bud nd h)=>vG k b (by exact hb));have HO0:=(λW (k:an W c cap bud nd h)=>am k.ar (cL b) h.wk.last ho);rw[<-har]at HO0;have HO:=qh HO0;have HC:=qh (λW (h:Cn) (k:an W c cap bud nd h) (hp:h.S[i]? =some (⟨22,a,b,z⟩:Sp))=>And.intro k.l0 (And.intro k.l4 (k.sp.cell hp 2 _ rfl)));have HP:=qh hp;have HL:=qh (show i<h.S.length by rw[k.sl];exact hin);have K1:=qh (k.below ((Below.refl _ w).drew));have HW:=qh (λW (k:an W c cap bud nd h)=>ud k.wk);clear HO0 k hp har;go_enter Tryz.func318,Tryz.ntmps318;go_wp2_with fail
  go_region_held3 (λW=>W.cell? c.l=some ↑c.a/\W.cell? ⟨c.l,4,none⟩=some ↑c.k/\W.cell? ⟨c.q,i*4+2,none⟩=some (.int .i64 b))
    (first|with_reducible exact HC.o _ _ K1.o HP.o|with_reducible exact HC.o _ _ K2.o HP.o)
    (first
      | (go_at_call 321;go_loud (refine(HF.o _ K1.o).mono ?_);rintro en w2 ⟨rfl,rfl⟩)
      | (go_at_call 326;go_loud (refine(HW.o _ K1.o).mono ?_);rintro en w2 ⟨rfl,rfl⟩)
      | (go_at_call 177;go_loud (refine(HO.o _ K1.o).mono ?_);rintro en w3 ⟨rfl,a3,t3⟩;have K2:=qh (K1.o.op t3 a3);have T2:=qh (((aa.refl [c.a,c.g,c.q,c.k] w).drew).trans (t3.mono (T:=[c.a,c.g,c.q,c.k]) QY));clear a3 t3))
  all_goals have l4:=K2.o.l4;have e4:=K2.o.sp.cell HP.o 1 _ rfl;have z4:=K2.o.sp.free (i*4+1);have e3:w3.cell? ⟨c.q,i*4,none⟩=some (.int .i64 22):=(by simpa using K2.o.sp.cell HP.o 0 _ rfl);go_wp2_with fail;refine(qk K2.o.wk).mono ?_;rintro en w5 ⟨rfl,rfl⟩;go_wp2;go_ret;rw[HX.o];exact⟨rfl,K2.o.putS (p':=(⟨22,h.wk.found,b,z⟩:Sp)) HP.o (j:=1) (v:= .int .i64 h.wk.found) QZ rfl,T2.o.trans (dh ⟨c.q,i*4+1,none⟩ _ rfl)⟩
theorem xb (k:an w c cap bud nd h) (i:Nat) (hin:i<nd.length) (a b z:Int) (hp:h.S[i]? =some (⟨23,a,b,z⟩:Sp)) (ho:h.ar.ops+1<=1000000000000):
    Calls Tryz.prog 318 #[↑c.l,.pointer (some ⟨c.q,i*4,none⟩)] w (eE w c cap bud nd h i (⟨23,a,b,z⟩:Sp) (af nd.length (ndf nd) bud h i (⟨23,a,b,z⟩:Sp))):=by obtain⟨v,hv⟩:∃v,v=(if inR h.ar.W 2 then IntKind.i64.wrap (ldW h.ar.W 2+1)else 0):=⟨_,rfl⟩;have HX:Kq (af nd.length (ndf nd) bud h i (⟨23,a,b,z⟩:Sp)=(addA h.ar 2 1,h.wk,(⟨24,a,b,z⟩:Sp))):=qh (by rw[G4 rfl]<;>rfl);have HF:=qh (λW (k:an W c cap bud nd h)=>qf k);have HO:=λW (k:an W c cap bud nd h)=>gY k.ar 2 1 ho;rw[<-hv]at HO;replace HO:=qh HO;clear hv;exact cyN
theorem xd (k:an w c cap bud nd h) (i:Nat) (hin:i<nd.length) (a b z:Int) (hp:h.S[i]? =some (⟨24,a,b,z⟩:Sp)) (ho:h.ar.ops+1<=1000000000000) (ha:-5<=a/\a<=100000):
    Calls Tryz.prog 318 #[↑c.l,.pointer (some ⟨c.q,i*4,none⟩)] w (eE w c cap bud nd h i (⟨24,a,b,z⟩:Sp) (af nd.length (ndf nd) bud h i (⟨24,a,b,z⟩:Sp))):=by have HX:Kq (af nd.length (ndf nd) bud h i (⟨24,a,b,z⟩:Sp)=(ac h.ar (cS a) b,h.wk,(⟨0,a,b,z⟩:Sp))):=qh (by rw[G5 rfl]<;>rfl);have HF:=qh (λW (k:an W c cap bud nd h)=>oy k a (by exact ha));have HO:=qh (λW (k:an W c cap bud nd h)=>am k.ar (cS a) b ho);exact cyN
theorem xh (k:an w c cap bud nd h) (i:Nat) (hin:i<nd.length) (a b z:Int) (hp:h.S[i]? =some (⟨27,a,b,z⟩:Sp)) (ho:h.ar.ops+1<=1000000000000):
    Calls Tryz.prog 318 #[↑c.l,.pointer (some ⟨c.q,i*4,none⟩)] w (eE w c cap bud nd h i (⟨27,a,b,z⟩:Sp) (af nd.length (ndf nd) bud h i (⟨27,a,b,z⟩:Sp))):=by have HX:Kq (af nd.length (ndf nd) bud h i (⟨27,a,b,z⟩:Sp)=(ac h.ar 2 0,h.wk,(⟨28,a,b,z⟩:Sp))):=qh (by rw[G8 rfl]<;>rfl);have HF:=qh (λW (k:an W c cap bud nd h)=>qf k);have HO:=qh (λW (k:an W c cap bud nd h)=>am k.ar 2 0 ho);exact cyN
theorem xj (k:an w c cap bud nd h) (i:Nat) (hin:i<nd.length) (a b z:Int) (hp:h.S[i]? =some (⟨29,a,b,z⟩:Sp)) (ho:h.ar.ops+1<=1000000000000):
    Calls Tryz.prog 318 #[↑c.l,.pointer (some ⟨c.q,i*4,none⟩)] w (eE w c cap bud nd h i (⟨29,a,b,z⟩:Sp) (af nd.length (ndf nd) bud h i (⟨29,a,b,z⟩:Sp))):=by have HX:Kq (af nd.length (ndf nd) bud h i (⟨29,a,b,z⟩:Sp)=(ac h.ar 2 0,h.wk,(⟨30,a,b,z⟩:Sp))):=qh (by rw[Ha rfl]<;>rfl);have HF:=qh (λW (k:an W c cap bud nd h)=>qf k);have HO:=qh (λW (k:an W c cap bud nd h)=>am k.ar 2 0 ho);exact cyN
theorem xi (k:an w c cap bud nd h) (i:Nat) (hin:i<nd.length) (a b z:Int) (hp:h.S[i]? =some (⟨28,a,b,z⟩:Sp)) (ho:h.ar.ops+1<=1000000000000) (hb:-5<=b/\b<=100000):
    Calls Tryz.prog 318 #[↑c.l,.pointer (some ⟨c.q,i*4,none⟩)] w (eE w c cap bud nd h i (⟨28,a,b,z⟩:Sp) (af nd.length (ndf nd) bud h i (⟨28,a,b,z⟩:Sp))):=by have HX:Kq (af nd.length (ndf nd) bud h i (⟨28,a,b,z⟩:Sp)=(ac h.ar (cS b) (-1),h.wk,(⟨0,a,b,z⟩:Sp))):=qh (by rw[G9 rfl]<;>rfl);have HF:=qh (λW (k:an W c cap bud nd h)=>oy k b (by exact hb));have HO:=qh (λW (k:an W c cap bud nd h)=>am k.ar (cS b) (-1) ho);exact cyN
theorem xk (k:an w c cap bud nd h) (i:Nat) (hin:i<nd.length) (a b z:Int) (hp:h.S[i]? =some (⟨30,a,b,z⟩:Sp)) (ho:h.ar.ops+1<=1000000000000) (ha:-5<=a/\a<=100000):
    Calls Tryz.prog 318 #[↑c.l,.pointer (some ⟨c.q,i*4,none⟩)] w (eE w c cap bud nd h i (⟨30,a,b,z⟩:Sp) (af nd.length (ndf nd) bud h i (⟨30,a,b,z⟩:Sp))):=by have HX:Kq (af nd.length (ndf nd) bud h i (⟨30,a,b,z⟩:Sp)=(ac h.ar (cS a) (-1),h.wk,(⟨0,a,b,z⟩:Sp))):=qh (by rw[Hb rfl]<;>rfl);have HF:=qh (λW (k:an W c cap bud nd h)=>oy k a (by exact ha));have HO:=qh (λW (k:an W c cap bud nd h)=>am k.ar (cS a) (-1) ho);exact cyN
end
end
section
open Go.RowKit
section
variable{w w':World}{c:Cx}{cap:Nat}{bud:Int}{nd:List Int}{h:Cn}
structure pn (n:Nat)(h:Cn):Prop where
 ops:h.ar.ops+1<=1000000000000
 sp:∀(j:Nat) (p:Sp),h.S[j]? =some p->(-1<=p.a/\p.a<=2000)/\(-1<=p.b/\p.b<=2000)/\(p.pc=21\/p.pc=26->-1<=p.c/\p.c<=2000)
 wk:(0<=h.wk.passed/\h.wk.passed<=n)/\(-1<=h.wk.last/\h.wk.last<=2000)
 way:∀(j:Nat) (p:Sp),h.S[j]? =some p->p.pc=18->h.wk.way=true
 pcs:∀(j:Nat) (p:Sp),h.S[j]? =some p->(0<=p.pc/\p.pc<=6)\/(10<=p.pc/\p.pc<=30)
theorem Gj (k:an w c cap bud nd h) (C:pn nd.length h) (i:Nat) (hin:i<nd.length) (p:Sp) (hp:h.S[i]? =some p) (h0:p.pc≠0) (h10:p.pc<10):
    Calls Tryz.prog 315 #[↑c.l,.pointer (some ⟨c.q,i*4,none⟩),.int .i64 ((i:Int)+1)] w (eE w c cap bud nd h i p (af nd.length (ndf nd) bud h i p)):=by
  have hb:=C.sp i p hp;have hpc:=C.pcs i p hp;have ho:=C.ops;obtain⟨pc,a,b,z⟩:=p;simp only at h0 h10 hb hpc;have:pc=1\/pc=2\/pc=3\/pc=4\/pc=5\/pc=6:=by omega
  rcases this with rfl|rfl|rfl|rfl|rfl|rfl
  · exact FF k i hin a b z hp ho
  · exact FG k i hin a b z hp ho
  · exact FH k i hin a b z hp ho
  · exact FI k i hin a b z hp ho QX
  · exact FJ k i hin a b z hp ho
  · exact FK k i hin a b z hp ho
theorem C4 (k:an w c cap bud nd h) (C:pn nd.length h) (i:Nat) (hin:i<nd.length) (p:Sp) (hp:h.S[i]? =some p) (h0:10<p.pc) (h10:p.pc<=16):
    Calls Tryz.prog 316 #[↑c.l,.pointer (some ⟨c.q,i*4,none⟩),.int .i64 ((i:Int)+1)] w (eE w c cap bud nd h i p (af nd.length (ndf nd) bud h i p)):=by
  have hb:=C.sp i p hp;have ho:=C.ops;obtain⟨pc,a,b,z⟩:=p;simp only at h0 h10 hb;have:pc=11\/pc=12\/pc=13\/pc=14\/pc=15\/pc=16:=by omega
  rcases this with rfl|rfl|rfl|rfl|rfl|rfl
  · exact y7 k i hin a b z hp ho
  · exact y9 k i hin a b z hp ho
  · exact za k i hin a b z hp ho
  · exact zb k i hin a b z hp ho QX
  · exact zc k i hin a b z hp ho
  · exact zd k i hin a b z hp ho
theorem AR (k:an w c cap bud nd h) (C:pn nd.length h) (i:Nat) (hin:i<nd.length) (p:Sp) (hp:h.S[i]? =some p) (h0:16<p.pc) (h10:p.pc<=18):
    Calls Tryz.prog 317 #[↑c.l,.pointer (some ⟨c.q,i*4,none⟩),.int .i64 ((i:Int)+1)] w (eE w c cap bud nd h i p (af nd.length (ndf nd) bud h i p)):=by
  have hb:=C.sp i p hp;have hwy:=C.way i p hp;have hwk:=C.wk;have ho:=C.ops;have hn:=k.n32;obtain⟨pc,a,b,z⟩:=p;simp only at h0 h10 hb hwy;have:pc=17\/pc=18:=by omega
  rcases this with rfl|rfl
  · exact xm k i hin a b z hp ho
  · exact xn k i a b z hp ho (hwy rfl) QX QX
theorem AQ (k:an w c cap bud nd h) (C:pn nd.length h) (i:Nat) (hin:i<nd.length) (p:Sp) (hp:h.S[i]? =some p) (h0:18<p.pc):
    Calls Tryz.prog 318 #[↑c.l,.pointer (some ⟨c.q,i*4,none⟩)] w (eE w c cap bud nd h i p (af nd.length (ndf nd) bud h i p)):=by
  have hb:=C.sp i p hp;have hpc:=C.pcs i p hp;have hwk:=C.wk;have ho:=C.ops;obtain⟨pc,a,b,z⟩:=p;simp only at h0 hb hpc;have:pc=19\/pc=20\/pc=21\/pc=22\/pc=23\/pc=24\/pc=25\/pc=26\/pc=27\/pc=28\/pc=29\/pc=30:=by omega
  rcases this with rfl|rfl|rfl|rfl|rfl|rfl|rfl|rfl|rfl|rfl|rfl|rfl
  · by_cases h0:0<b;· exact tH k i hin a b z hp ho QX (decide_eq_true h0)
    · exact tG k i hin a b z hp ho QX (decide_eq_false h0)
  · exact wY k i hin a b z hp ho QX
  · exact wZ k i hin a b z hp ho QX
  · exact xa k i hin a b z hp ho QX
  · exact xb k i hin a b z hp ho
  · exact xd k i hin a b z hp ho QX
  · exact xe k i hin a b z hp ho QX
  · exact xf k i hin a b z hp ho QX
  · exact xh k i hin a b z hp ho
  · exact xi k i hin a b z hp ho QX
  · exact xj k i hin a b z hp ho
  · exact xk k i hin a b z hp ho QX
theorem Fe (k:an w c cap bud nd h) (i:Int) (C:pn nd.length h):
    Calls Tryz.prog 312 #[↑c.l,.int .i64 i] w (COp w c cap bud nd (gR nd.length (ndf nd) bud h i)):=by
  have hfield:=aK;have H:=qh k;obtain⟨_,HN⟩:=k.n32;have hsl:=k.sl;obtain⟨p,hp⟩:∃p,p=getS h.S i:=⟨_,rfl⟩;have HP:=qh hp;by_cases hc:okI h.S i/\p.pc≠0/\p.pc≠10
  · obtain⟨hi9,hc0,hc10⟩:=hc;have hget:=dE hi9;rw[<-hp]at hget;obtain⟨h0,h9⟩:=id hi9;obtain⟨n,rfl⟩:=Int.eq_ofNat_of_zero_le h0;simp only[Int.toNat_natCast]at hget;rw[hsl]at h9;have hn:n<nd.length:=(by omega);have hn2:(n:Int)<nd.length:=(by omega);have hpcs:=C.pcs n p hget;obtain⟨y,hy⟩:∃y,y=af nd.length (ndf nd) bud h n p:=⟨_,rfl⟩
    have HS:Kq (gR nd.length (ndf nd) bud h n=(⟨y.1,y.2.1,h.S.set n y.2.2⟩,decide (y.2.2.pc=0\/y.2.2.pc=10))):=qh (by
      unfold gR;rw[<-HP.o,if_pos ⟨hi9,hc0,hc10⟩];simp only[Int.toNat_natCast]
      rw[hy])
    have x7:IntKind.i64.wrap ((n:Int)+1)=(n:Int)+1:=IntWalk.i64_in _ QX;have u0:(p.pc==0)=false:=(by simpa using hc0);have u10:(p.pc==10)=false:=(by simpa using hc10);have hcase:p.pc<10\/(10<p.pc/\p.pc<=16)\/(16<p.pc/\p.pc<=18)\/18<p.pc:=(by omega);have l5:∀W,an W c cap bud nd h->W.cell? ⟨c.l,5,none⟩=some (.slice (some ⟨c.q,0,none⟩) nd.length nd.length):=λW k=>k.l5;have HL5:=qh l5;clear l5;rcases hcase with e|e|e|e
    all_goals
      first| have HM0:=λW (k:an W c cap bud nd h)=>Gj k C n hn p hget hc0 e| have HM0:=λW (k:an W c cap bud nd h)=>C4 k C n hn p hget e.1 e.2| have HM0:=λW (k:an W c cap bud nd h)=>AR k C n hn p hget e.1 e.2| have HM0:=λW (k:an W c cap bud nd h)=>AQ k C n hn p hget e
      rw[<-hy]at HM0;have HM:=qh HM0;first|(have u1:decide (p.pc<10)=true:=decide_eq_true QX)|(have u1:decide (p.pc<10)=false:=decide_eq_false QX)
      first|(have u2:decide (p.pc<=16)=true:=decide_eq_true QX)|(have u2:decide (p.pc<=16)=false:=decide_eq_false QX)
      first|(have u3:decide (p.pc<=18)=true:=decide_eq_true QX)|(have u3:decide (p.pc<=18)=false:=decide_eq_false QX)
      have HG:=qh hget;clear HM0 k hp C hc0 hc10 hget h0 h9 hi9 hsl e hy hpcs;go_enter Tryz.func312,Tryz.ntmps312;go_wp2_with fail;refine(sQ H.o n).mono ?_;rintro en w1 ⟨rfl,b1⟩;rw[<-HP.o];unfold aE;have H1:=qh (And.intro (H.o.below b1) b1);have c5:=HL5.o _ H1.o.1;clear b1;go_wp2_with fail;refine(HM.o _ H1.o.1).mono ?_;rintro en w2 ⟨rfl,K2,t2⟩;have hg2:(h.S.set n {y.2.2 with pc:=p.pc})[n]? =some {y.2.2 with pc:=p.pc}:=(by have:=(List.getElem?_eq_some_iff.1 HG.o).1;simp[this]);have d0:=K2.sp.cell hg2 0 _ rfl;simp only[Nat.add_zero]at d0;have f0:=K2.sp.free (n*4);have hq:=K2.sp.lt;have K3:=K2.putS hg2 (j:=0) (v:= .int .i64 y.2.2.pc) (p':=y.2.2) QZ rfl;simp only[Nat.add_zero,List.set_set]at K3;have H2:=qh (And.intro K3 (((aa.of_below H1.o.2).trans t2).trans (dh ⟨c.q,n*4,none⟩ (.int .i64 y.2.2.pc) rfl)));clear K2 t2 hg2 K3 c5;cases z0:(y.2.2.pc==0)
      · cases z1:(y.2.2.pc==10);· have HD:Kq (decide (y.2.2.pc=0\/y.2.2.pc=10)=false):=qh RI;go_wp2;go_ret;rw[HS.o];exact⟨az HD.o.symm,H2.o.1,H2.o.2⟩
        · have HD:Kq (decide (y.2.2.pc=0\/y.2.2.pc=10)=true):=qh RJ;go_wp2;go_ret;rw[HS.o];exact⟨az HD.o.symm,H2.o.1,H2.o.2⟩
      · have HD:Kq (decide (y.2.2.pc=0\/y.2.2.pc=10)=true):=qh RK;go_wp2;go_ret;rw[HS.o];exact⟨az HD.o.symm,H2.o.1,H2.o.2⟩
  · have HS:Kq (gR nd.length (ndf nd) bud h i=(h,false)):=qh (by unfold gR;rw[<-hp,if_neg hc])
    have hz:p.pc=0\/p.pc=10:=by
      by_cases hi9:okI h.S i;· apply Classical.byContradiction;intro hn;exact hc ⟨hi9,λe=>hn (.inl e),λe=>hn (.inr e)⟩
      · left;rw[hp,du hi9];rfl
    have HZ:=qh hz;clear k hp hc hsl hz C;by_cases h0:p.pc=0;· have u0:(p.pc==0)=true:=(by simpa using h0);clear h0;go_enter Tryz.func312,Tryz.ntmps312;go_wp2_with fail;refine(sQ H.o i).mono ?_;rintro en w1 ⟨rfl,b1⟩;rw[<-HP.o];unfold aE;have H1:=qh (And.intro (H.o.below b1) b1);clear b1;go_wp2;go_ret;rw[HS.o];exact⟨rfl,H1.o.1,aa.of_below H1.o.2⟩
    · have u0:(p.pc==0)=false:=(by simpa using h0);have u10:(p.pc==10)=true:=(by have:=HZ.o;simp;omega);clear h0;go_enter Tryz.func312,Tryz.ntmps312;go_wp2_with fail;refine(sQ H.o i).mono ?_;rintro en w1 ⟨rfl,b1⟩;rw[<-HP.o];unfold aE;have H1:=qh (And.intro (H.o.below b1) b1);clear b1;go_wp2;go_ret;rw[HS.o];exact⟨rfl,H1.o.1,aa.of_below H1.o.2⟩
end
end
section
open Go.RowKit
theorem Tryz.infoInC:(Tryz.prog.info? 3).map (λi=>(i.zero,i.size,i.bytes))=some (some (.int .i64 0),1,8):=by kernel_rfl
def Fu (w:World)(a:Nat)(nd:List Int)(e:Ending)(w':World):Prop:=
 ∃k n1 b0 b1 b2,e= .returned (.pointer (some ⟨k,0,none⟩))/\cz w' k n1 (.func (.func 172) #[] #[.pointer (some ⟨b0,0,none⟩),.pointer (some ⟨b1,0,none⟩),.pointer (some ⟨b2,0,none⟩)]) nd ⟨0,false,0,0,0⟩/\
  Blk w' b0 29 #[↑a]/\Blk w' b1 3 #[.int .i64 3]/\Blk w' b2 3 #[.int .i64 3]/\(w.heap.size<=b0/\w.heap.size<=b1/\w.heap.size<=b2/\w.heap.size<=n1/\b0<k/\b1<k/\b2<k/\n1<k)/\Below w.heap.size w w'
theorem Gu (w:World) (a nb cap:Nat) (nd:List Int) (h32:1<=nd.length/\nd.length<=32) (hrow:∀m,m<nd.length->w.cell? ⟨nb,m,none⟩=some (.int .i64 (ndf nd m))):
    Calls Tryz.prog 145 #[↑a,.int .i64 3,.int .i64 3,.slice (some ⟨nb,0,none⟩) nd.length cap] w (Fu w a nd):=by
  have hmf:∀(fn:Fn) (first cap:Array Value) (w:World),(Instr.makeFunc fn first cap).run Tryz.prog w= .ok (.func fn first cap) w:=λ_ _ _ _=>rfl;obtain⟨i0,i0a,i0b,i0c,i0d⟩:=info_parts Tryz.infoInC;obtain⟨_,hn⟩:=h32;have HR:=qh hrow;have hnbl:nb<w.heap.size:=aQ (hrow 0 QX);obtain⟨wa,hwa⟩:∃x,x=((w.alloc (.cells #[↑a] 29)).alloc (.cells #[.int .i64 3] 3)).alloc (.cells #[.int .i64 3] 3):=⟨_,rfl⟩;have hsz:wa.heap.size=w.heap.size+3:=by rw[hwa];simp
  have HA:=qh (show Below w.heap.size w wa/\Blk wa w.heap.size 29 #[↑a]/\Blk wa (w.heap.size+1) 3 #[.int .i64 3]/\Blk wa (w.heap.size+1+1) 3 #[.int .i64 3]from by
    rw[hwa]
    refine⟨(((Below.refl _ _).alloc (Nat.le_refl _) _).alloc QY _).alloc Q1 _,((Blk.new _ _ _).alloc _).alloc _,(Blk.new' _ _ _ QY).alloc _,Blk.new' _ _ _ QY⟩)
  have HW:=qh hwa;have HSZ:=qh hsz;clear hsz;clear hrow;go_enter Tryz.func145,Tryz.ntmps145;go_upto_region 1 with fail;rw[<-HW.o];clear hwa;go_wp2_with (refine wpList_make_full _ rfl (.tmp 11) (.tmp 11) 22 rfl wa.heap.size 3 i0 (.int .i64 0) 1 Tryz.underlying22 i0a i0b i0c .i64 .i64 nd.length nd.length nd.length rfl rfl rfl rfl ?b2 ?b3 (Nat.le_refl _) ?_);case b2=>rw[i0d];omega
  case b3=>unfold maxLen;omega
  intro w2 hown hg;have hbk:Blk w2 wa.heap.size 3 (List.replicate nd.length (Value.int .i64 0)).toArray:=by have:=gu hown;have e:(madeCells #[Value.int .i64 0] nd.length).toList=List.replicate nd.length (.int .i64 0):=mg _ _;rw[e]at this;simpa using this
  have t2:aa [] wa w2:=aa.of_below ((Below.refl wa.heap.size wa).grown hg (Nat.le_refl _) (λj hj=>by cases hj));have hs2:=t2.size;have hlt2:=hbk.lt;have H2:=qh (And.intro hbk t2);clear hown hg hbk t2;have cnb:∀m,m<nd.length->∀W,aa [] w2 W->W.cell? ⟨nb,m,none⟩=some (.int .i64 (ndf nd m)):=λm hm W t=>by have T:=((aa.of_below (S:=[]) HA.o.1).trans H2.o.2).trans t;rw[T.cellC hnbl QY];exact HR.o m hm
  have HCN:=qh cnb;have hg3:Kq (∀o:Obj,Blk (w2.alloc o) wa.heap.size 3 (List.replicate nd.length (Value.int .i64 0)).toArray):=qh λo=>H2.o.1.alloc o
  have hcopy:Kq (∀(o:Obj) (j:Nat) (v:Value),(nd.map (Value.int .i64))[j]? =some v->(w2.alloc o).cell? ((⟨nb,0,none⟩:Addr).add j)=some v):=qh λo j v hv=>by
    rw[List.getElem?_map]at hv;cases hx:nd[j]? with
    | none=>rw[hx]at hv;cases hv
    | some y=>rw[hx]at hv;injection hv with hv;have hj:=(List.getElem?_eq_some_iff.1 hx).1;have:=HCN.o j hj (w2.alloc o) ((aa.refl _ _).alloc _);rw[<-hv];have e:ndf nd j=y:=(by unfold ndf;rw[List.getD_eq_getElem?_getD,hx];rfl);rw[e]at this;rw[show(⟨nb,0,none⟩:Addr).add j=⟨nb,j,none⟩by cases j<;>simp[Addr.add]];exact this
  obtain⟨wc,hwc⟩:∃x,x=(w2.alloc (.cells #[.nilFunc,.slice (some ⟨wa.heap.size,0,none⟩) nd.length nd.length,.int .i64 0,.bool false,.int .i64 0,.int .i64 0,.int .i64 0] 324)).setRow wa.heap.size (nd.map (Value.int .i64)).toArray:=⟨_,rfl⟩;have hbk2:Blk wc w2.heap.size 324 #[.nilFunc,.slice (some ⟨wa.heap.size,0,none⟩) nd.length nd.length,.int .i64 0,.bool false,.int .i64 0,.int .i64 0,.int .i64 0]:=by rw[hwc];exact(setRow_other _ _ _ _ QX).trans (Blk.new _ _ _)
  have hbn2:Blk wc wa.heap.size 3 (nd.map (Value.int .i64)).toArray:=by rw[hwc];exact setRow_heap _ _ _ _ _ _ (hg3.o _)
  have k0:wc.cell? w2.heap.size=some .nilFunc:=hbk2.cell 0;have z0:=hbk2.free 0
  have HC2:=qh (show Below wa.heap.size wa wc from by
    rw[hwc]
    exact below_setRow ((H2.o.2.below QY (Nat.le_refl _)).alloc hs2 _) (Nat.le_refl _) _)
  have HB2:=qh (And.intro hbk2 hbn2);clear cnb hnbl hbk2 hbn2 hlt2 hs2;rw[hwc]at k0 z0;have HWC:=qh hwc;clear hwc;go_wp2_with (refine wpList_copy_own rfl (.tmp 18) (.tmp 19) 22 22 rfl 3 Tryz.underlying22 Q0 wa.heap.size 0 nd.length nd.length ⟨nb,0,none⟩ nd.length cap rfl rfl _ 3 (hg3.o _) (nd.map (Value.int .i64)) QY (hcopy.o _) QY Rv ?_);go_wp2;go_ret;rw[<-HWC.o];have e3:=HSZ.o;have e4:=H2.o.1.lt;refine⟨w2.heap.size,wa.heap.size,w.heap.size,w.heap.size+1,w.heap.size+1+1,rfl,⟨?_,?_,?_,hn⟩,?_,?_,?_,?_,?_⟩;· exact HB2.o.1.set_ 0 _
  · exact HB2.o.2.far (by show wa.heap.size≠w2.heap.size;omega) _
  · omega
  · exact(HA.o.2.1.below HC2.o QX).far (by show w.heap.size≠w2.heap.size;omega) _
  · exact(HA.o.2.2.1.below HC2.o QX).far (by show w.heap.size+1≠w2.heap.size;omega) _
  · exact(HA.o.2.2.2.below HC2.o QX).far (by show w.heap.size+1+1≠w2.heap.size;omega) _
  · omega
  · exact(HA.o.1.trans (HC2.o.mono QX)).setCell (by show w.heap.size<=w2.heap.size;omega) _
end
section
open Go.RowKit
def TBn (l:Nat)(B0:Nat->Prop)(w:World)(b:Nat)(P T:List Int)(k:Nat)(vN:Value):Prop:=
 (k=0/\gW B0 w b P T/\(∀i,B0 i->i<l)/\vN.ownBlock=none)\/∃B' m,d7 B' w b P T/\(∀i,B' i->i≠l/\i<m)/\(∀g,vN.ownBlock=some g->m<=g)/\m<=w.heap.size
def TBf (l:Nat)(w:World)(b:Nat)(P T:List Int)(vN:Value):Prop:=∃B' m,d7 B' w b P T/\(∀i,B' i->i≠l/\i<m)/\(∀g,vN.ownBlock=some g->m<=g)/\m<=w.heap.size
theorem E1 {l:Nat} {B0:Nat->Prop} {w:World} {b:Nat} {P T:List Int} {k:Nat} {vN:Value} (hc:a5 P T=0) (hl:l<w.heap.size) (h:TBn l B0 w b P T k vN) (hk:k<T.length) (x:Int) (hx:(ao P T T.length)[k]? =some x):
    Calls Tryz.prog 100 #[↑b,.int .i64 k] w λe w'=>e= .returned (.int .i64 x)/\TBf l w' b P T vN/\aa [b] w w':=by
  rcases h with⟨_,h0,h1,h2⟩|⟨B',m,h0,h1,h2,h3⟩
  · refine(C6 B0 w b P T hc k hk h0 x hx).mono ?_;rintro e w' ⟨he,ht,tn⟩;refine⟨he,⟨_,w'.heap.size,ht.lt,λi hi=>⟨?_,hi.2⟩,λg hg=>?_,Nat.le_refl _⟩,tn⟩
    · rcases hi.1 with h4|h4
      · have:=h1 i h4;omega
      · omega
    · rw[h2]at hg;cases hg
  · refine(kh w b P T k hk h0.f x hx).mono ?_;rintro e w' ⟨he,rfl⟩;exact⟨he,⟨B',m,h0,h1,h2,h3⟩,aa.refl _ _⟩
def lkN (a l q:Nat)(bud:Int)(n:Nat)(vN:Value):Array Value:=#[↑a,.int .i64 1,.int .i64 bud,vN,.pointer none,.slice (some ⟨q,0,none⟩) n n]
structure NwI (w5 wr:World)(l b a q:Nat)(bud:Int)(P T:List Int)(B0:Nat->Prop)(k:Nat)(vN:Value):Prop where
 blk:Blk wr l 263 (lkN a l q bud T.length vN)
 own:wr.ownsRow w5.heap.size 3 1 vN k (((ao P T T.length).take k).flatMap encI)
 tab:TBn l B0 wr b P T k vN
 tn:aa [l,b] w5 wr
 lb:l≠b
theorem TBn.turns0{l:Nat}{B0:Nat->Prop}{w w':World}{b:Nat}{P T:List Int}{k:Nat}{vN:Value}(h:TBn l B0 w b P T k vN)(t:aa [] w w'):TBn l B0 w' b P T k vN:=by
 rcases h with⟨h0,h1,h2,h3⟩|⟨B',m,h0,h1,h2,h3⟩
 ·exact .inl ⟨h0,h1.turns t QY,h2,h3⟩
 ·exact .inr ⟨B',m,h0.turns t QY,h1,h2,Nat.le_trans h3 t.size⟩
theorem aa.grownBy{w w':World}{row:Option Nat}(h:w.grownBy w' row):aa row.toList w w':=
 ⟨h.os,h.tape,h.output,h.size,λi hi hn=>h.block i hi RW⟩
theorem NwI.step {w5 wr w2 w3:World} {l b a q:Nat} {bud:Int} {P T:List Int} {B0:Nat->Prop} {k:Nat} {A:Option Addr} {cap g3 cap3:Nat} {x:Int} {o:Obj} (h:NwI w5 wr l b a q bud P T B0 k (.slice A k cap)) (hx:(ao P T T.length)[k]? =some x)
    (hl5:l<w5.heap.size) (hb5:b<w5.heap.size) (ht:TBf l w2 b P T (.slice A k cap)) (t2:aa [b] wr.drew w2)
    (h3:w3.ownsRow w5.heap.size 3 1 (.slice (some ⟨g3,0,none⟩) (k+1) cap3) (k+1) (((ao P T T.length).take k).flatMap encI++encI x)) (hg:(w2.alloc o).grownBy w3 (Value.slice A k cap).ownBlock) (hg3:(Value.slice A k cap).ownBlock=some g3\/g3=(w2.alloc o).heap.size):
    NwI w5 (w3.setCell ⟨l,3,none⟩ (.slice (some ⟨g3,0,none⟩) (k+1) cap3)) l b a q bud P T B0 (k+1) (.slice (some ⟨g3,0,none⟩) (k+1) cap3):=by
  have hlb:=h.lb;have hown:∀g,(Value.slice A k cap).ownBlock=some g->w5.heap.size<=g:=λg hg=>(h.own.lt g hg).1;have tg:aa (Value.slice A k cap).ownBlock.toList (w2.alloc o) w3:=aa.grownBy hg;have hlo:l∉(Value.slice A k cap).ownBlock.toList:=λhm=>by have:=hown l RF;omega
  have bl2:Blk w2 l 263 _:=t2.blk h.blk.drew (by simpa using hlb);have bl3:Blk w3 l 263 _:=tg.blk (bl2.alloc o) hlo;have h5:w5.heap.size<=wr.heap.size:=h.tn.size;have hs2:wr.heap.size<=w2.heap.size:=t2.size;have hg35:w5.heap.size<=g3:=(h3.lt g3 rfl).1;have ts:aa [l] w3 (w3.setCell ⟨l,3,none⟩ (.slice (some ⟨g3,0,none⟩) (k+1) cap3)):=(aa.refl _ _).setCell (.inl QY) _;refine⟨bl3.set_ 3 _,?_,.inr ?_,?_,hlb⟩
  · have e:((ao P T T.length).take (k+1)).flatMap encI=((ao P T T.length).take k).flatMap encI++encI x:=(by rw[dg hx,List.flatMap_append];simp);rw[e]
    exact aa.own h3 ts (λg hg=>by
      injection hg with hg;subst hg
      simp;omega)
  · obtain⟨B',m,k1,k2,k3,k4⟩:=ht;have hsz:w2.heap.size<=w3.heap.size:=Nat.le_trans QY tg.size;refine⟨B',m,((k1.turns (S:=[]) ((aa.refl _ _).alloc o) QY).turns tg (λi hi hB=>?_)).turns ts (λi hi hB=>?_),k2,λg hg=>?_,?_⟩;· have:=k3 i Rr;have:=(k2 i hB).2;omega
    · exact(k2 i hB).1 Rr
    · injection hg with hg;subst hg;rcases hg3 with e|e
      · exact k3 _ e
      · rw[e];simp only[World.alloc,Array.size_push];omega
    · rw[show(w3.setCell ⟨l,3,none⟩ (.slice (some ⟨g3,0,none⟩) (k+1) cap3)).heap.size=w3.heap.size by simp];omega
  · have c1:aa ([l,b]++(Value.slice A k cap).ownBlock.toList) w5 (w3.setCell ⟨l,3,none⟩ (.slice (some ⟨g3,0,none⟩) (k+1) cap3)):=
      ((((h.tn.mono QY).trans ((aa.refl _ _).drew)).trans (t2.mono QY)).trans (((aa.refl _ _).alloc o).trans (tg.mono λi hi=>List.mem_append_right _ hi))).trans (ts.mono QY)
    refine c1.fresh λi hi=>?_;rcases List.mem_append.1 hi with hi|hi
    · exact .inl hi
    · exact .inr (hown i Rr)
theorem Gv (w:World)(l:Nat)(c1:w.cell? ⟨l,1,none⟩=some (.int .i64 1)):Calls Tryz.prog 146 #[↑l,.int .i64 1] w λe w'=>e= .returned (.int .i64 3)/\w=w':=by go_enter Tryz.func146,Tryz.ntmps146;exact gs
def cn0 (s:Ar)(n:Nat):Cn:=⟨{s with W:=List.replicate (2+3*n) 0},⟨0,false,0,0,0⟩,List.replicate n Sp.zero⟩
def DY (w:World)(a g:Nat)(s:Ar)(bud:Int)(P T:List Int)(e:Ending)(w':World):Prop:=
 ∃(c:Cx) (cap:Nat),c.a=a/\c.g=g/\e= .returned (.tuple #[↑c.l,.int .i64 0])/\an w' c cap bud (ao P T T.length) (cn0 s T.length)/\w.heap.size<=c.l/\w.heap.size<=c.q/\w.heap.size<=c.k/\aa [a] w w'/\∀x∈[c.n1,c.nb,c.b0,c.b1,c.b2],w.heap.size<=x
theorem EV {w:World} {a g:Nat} {s:Ar} (h:aA w a g s) (hs:s.W=[]) (hag:a≠g) (vP vT:Value) (P T:List Int) (hP:RdL w vP 1 encI P) (hT:RdL w vT 1 encI T) (hc:a5 P T=0) (bud:Int) (hd0:0<=bud) (hd1:bud<=1000) (hr:s.room=4096):
    Calls Tryz.prog 106 #[↑a,.agg #[vP,vT],.int .i64 bud] w (DY w a g s bud P T):=by
  obtain⟨i0,hi,hz0,hz1,hz2⟩:=info_parts Tryz.infoSp;obtain⟨j0,hj,hy0,hy1,hy2⟩:=info_parts Tryz.infoInC;have hml:=bh (aR hc).1;have ha0:=h.blk.lt;have hg0:=h.wds.lt;obtain⟨hT1,hT32⟩:1<=T.length/\T.length<=32:=⟨hml.2.2.1,hml.2.2.2⟩;have H:=qh (And.intro h (And.intro ha0 (And.intro hg0 hag)));have HN:=qh (jw (w.alloc (.cells #[vP,vT] 24)) vP vT P T (hP.alloc _) (hT.alloc _) hc);have HS:=qh (And.intro hs hr);have HCK:=qh hc;have HR:=qh (λW=>ot bud W hd0 hd1);have hlo:(w.alloc (.cells #[vP,vT] 24)).heap.size=w.heap.size+1:=by simp
  have B0:=qh ((Below.refl w.heap.size w).alloc (Nat.le_refl _) (.cells #[vP,vT] 24));have x1:IntKind.i64.wrap (3*(T.length:Int))=3*(T.length:Int):=IntWalk.i64_in _ QX;have x2:IntKind.i64.wrap (2+3*(T.length:Int))=2+3*(T.length:Int):=IntWalk.i64_in _ QX;clear h hs hP hT hd0 hd1 hr hml ha0 hg0 hag hc;go_enter Tryz.func106,Tryz.ntmps106;go_wp2_with fail;refine HN.o.mono ?_;rintro en w1 ⟨b,rfl,hb,t1,b1⟩;rw[hlo]at hb t1 b1;have K1:=qh (And.intro (t1.q HCK.o) (B0.o.trans (b1.mono QX)));have HB:=qh hb;clear t1 b1 hb HN;go_wp2_with fail;refine(HR.o _).mono ?_;rintro en w1' ⟨rfl,rfl⟩;go_wp2_with fail;refine(dW _ _ _ _ (K1.o.1.tab HCK.o)).mono ?_;rintro en w1' ⟨rfl,rfl⟩;go_wp2_with fail;have A1:=H.o.1.turns (aa.of_below (S:=[]) K1.o.2) QY QY
  have HT:Kq (dV s (2+3*(T.length:Int))=({s with W:=List.replicate (2+3*T.length) 0},(1:Int),(0:Int))):=qh (by
    unfold dV
    rw[HS.o.1,HS.o.2,if_neg QX,if_neg Q1,show(2+3*(T.length:Int)).toNat=2+3*T.length by omega];rfl)
  refine(gb A1 (2+3*(T.length:Int))).mono ?_;rintro en w3 ⟨rfl,k3,t3⟩;rw[HT.o]at k3 ⊢;have hw1:=K1.o.2.size;have hs3:=t3.size;have hna:∀i∈[a],¬(w.heap.size+1<=i/\i<w1.heap.size):=λi hi=>by have:=H.o.2.1;simp at hi;omega
  have K3:=qh (And.intro (K1.o.1.turns t3 hna) (And.intro ((aa.of_below (S:=[a]) K1.o.2).trans t3) (And.intro k3 (And.intro hw1 hs3))));clear k3 t3 A1 hna hs3 hw1 x1 x2;go_wp2_with (refine wpList_make_full _ rfl (.tmp 43) (.tmp 43) 237 rfl w3.heap.size 113 i0 (.agg #[.int .i64 0,.int .i64 0,.int .i64 0,.int .i64 0]) 4 Tryz.underlying237 hi hz0 hz1 .i64 .i64 T.length T.length T.length rfl rfl rfl rfl ?b2 ?b3 (Nat.le_refl _) ?_);case b2=>rw[hz2];omega
  case b3=>unfold maxLen;omega
  intro w4 hown hg;have hb:dq w4 w3.heap.size (List.replicate T.length Sp.zero):=by exact IL
  have t4:aa [] w3 w4:=aa.of_below ((Below.refl w3.heap.size w3).grown hg (Nat.le_refl _) (λj hj=>by cases hj));have hs4:=hb.lt;have H4:=qh (And.intro hb (And.intro t4 hs4));clear hown hg hb t4 hs4;go_upto_region 11 with fail;obtain⟨q,hq⟩:∃x,x=w3.heap.size:=⟨_,rfl⟩;rw[<-hq]at H4 ⊢;have HQ:=qh hq;clear hq;obtain⟨l,hl⟩:∃x,x=w4.heap.size:=⟨_,rfl⟩;obtain⟨w5,hw5⟩:∃x,x=w4.alloc (.cells (lkN a l q bud T.length (.slice none 0 0)) 263):=⟨_,rfl⟩;have hw5':=hw5;unfold lkN at hw5';rw[<-hw5',<-hl];have t5:aa [] w4 w5:=by rw[hw5];exact(aa.refl _ _).alloc _
  have hs5:w5.heap.size=l+1:=by rw[hw5,hl];simp
  have hb5:Blk w5 l 263 (lkN a l q bud T.length (.slice none 0 0)):=by rw[hw5,hl];exact Blk.new _ _ _
  have HI:=qh (show NwI w5 w5 l b a q bud P T (λi=>w.heap.size+1<=i/\i<w1.heap.size) 0 (.slice none 0 0)from by
    have e1:=K3.o.2.2.2;have e2:=H4.o.2.2;have e3:=H4.o.2.1.size;refine⟨hb5,?_,.inl ⟨rfl,(K3.o.1.turns H4.o.2.1 QY).turns t5 QY,λi hi=>by omega,rfl⟩,aa.refl _ _,?_⟩;· rw[List.take_zero,List.flatMap_nil];exact World.ownsRow_nil _ _ _ _
    · have:b<w1.heap.size:=K1.o.1.low.2
      omega)
  have H5:=qh (And.intro t5 (And.intro hs5 hl));clear hw5 hw5' t5 hs5 hb5 hl;go_wp2;go_loopw [13,48] (λ_ i wr=>∃(k:Nat) (vN:Value),i= .int .i64 k/\k<=T.length/\NwI w5 wr l b a q bud P T (λi=>w.heap.size+1<=i/\i<w1.heap.size) k vN) (λ_ i _=>T.length-(intOf i).toNat);case atStart=>exact⟨0,_,rfl,by omega,HI.o⟩
  case round=>
    clear HI;obtain⟨k,vN,rfl,hk,hW⟩:=hrel;obtain⟨wo,rfl⟩:∃wo:World,wo=wr:=⟨_,rfl⟩;have hl5:l<w5.heap.size:=(by have:=H5.o.2.1;omega);have hb5:b<w5.heap.size:=(by have e0:b<w1.heap.size:=K1.o.1.low.2;have e1:=K3.o.2.2.2.2;have e2:=H4.o.2.1.size;have e3:=H5.o.1.size;omega);by_cases hlt:k<T.length
    · obtain⟨A,cap,rfl⟩:=bO hW.own;obtain⟨x,hx⟩:∃x,(ao P T T.length)[k]? =some x:=aj (by rw[de (Nat.le_refl _)];exact hlt);have c3:wo.cell? ⟨l,3,none⟩=some (.slice A k cap):=hW.blk.cell 3;have hll:l<wo.heap.size:=hW.blk.lt;have h5o:w5.heap.size<=wo.heap.size:=hW.tn.size;have HNd:=qh (E1 HCK.o (w:=wo.drew) hll (hW.tab.turns0 ((aa.refl _ _).drew)) hlt x hx);have HX:=qh hx;have HW:=qh hW;have HLB:=qh hW.lb;clear hW hx;go_wp2_with fail
      go_region_law (first
        | (refine step_append_lies _ rfl _ _ 22 rfl w5.heap.size 3 j0 (.int .i64 0) 1 8 Tryz.underlying22 hj hy0 hy1 hy2 rfl QZ _ _ _ rfl (o2.alloc _) ⟨w2.heap.size,0,none⟩ 1 1 (encI x) rfl rfl (λj u hj=>cell_one_new w2 (.int .i64 x) 3 j u hj) (jZ _) QZ (by unfold maxLen;omega) QX Q1 _ rfl ?_;intro g3 cap3 w7 h3 hg3 hl3 hlt3;have bl3:=(bl2.alloc (.cells #[.int .i64 x] 3)).grown hg3 (λe=>hlown e.symm);have c33:w7.cell? ⟨l,3,none⟩=some (.slice A k cap):=bl3.cell 3;have z33:=bl3.free 3)
        | (go_simp;go_at_call 100;refine HNd.o.mono ?_;rintro en w2 ⟨rfl,ht2,tn2⟩;have bl2:Blk w2 l 263 (lkN a l q bud T.length (.slice A k cap)):=tn2.blk HW.o.blk.drew (by simpa using HLB.o);have o2:w2.ownsRow w5.heap.size 3 1 (.slice A k cap) k (((ao P T T.length).take k).flatMap encI):=aa.own (show wo.drew.ownsRow _ _ _ _ _ _ from HW.o.own) tn2 (λg hg=>by have:=(HW.o.own.lt g hg).1;simp;omega);have hlown:(Value.slice A k cap).ownBlock≠some l:=(λe=>by have:=(HW.o.own.lt l e).1;omega);have c32:w2.cell? ⟨l,3,none⟩=some (.slice A k cap):=bl2.cell 3;have hl2:l<w2.heap.size:=bl2.lt;have hs2:=tn2.size;simp at hs2))
      all_goals
        have HR:=qh (NwI.step HW.o HX.o hl5 hb5 ht2 tn2 h3 hg3 hl3);clear ht2 tn2 h3 hg3 hl3 bl3 bl2 o2;go_wp2;go_roundw;case rel=>exact⟨k+1,_,by go_num,by omega,HR.o⟩
        case measure=>simp[intOf];omega
    · obtain rfl:k=T.length:=by omega
      have hlen:(ao P T T.length).length=T.length:=de (Nat.le_refl _);obtain⟨nb,cap,rfl,hnb0,hnb1⟩:=gA hW.own QX;have hro:=hW.own;rw[show(ao P T T.length).take T.length=ao P T T.length from List.take_of_length_le (by rw[hlen];exact Nat.le_refl _)]at hro;have hrow:∀m,m<(ao P T T.length).length->wo.cell? ⟨nb,m,none⟩=some (.int .i64 (ndf (ao P T T.length) m)):=λm hm=>by obtain⟨x,hx⟩:=aj hm;have e:ndf (ao P T T.length) m=x:=(by unfold ndf;rw[List.getD_eq_getElem?_getD,hx];rfl);rw[e];obtain⟨_,_,h1,_,_,h2⟩:=dH (l:=ao P T T.length) (by rw[hlen];exact hro) QX;obtain⟨b',off,h3,_,h4⟩:=h2 QX;injection h1 with h1;rw[h3]at h1;injection h1 with h1;injection h1 with h5 h6;have:=h4 m x hx 0 _ rfl;rw[<-h5,<-h6]at this;simpa using this
      have c1:wo.cell? ⟨l,1,none⟩=some (.int .i64 1):=hW.blk.cell 1;have c3:wo.cell? ⟨l,3,none⟩=some (.slice (some ⟨nb,0,none⟩) T.length cap):=hW.blk.cell 3;have hll:l<wo.heap.size:=hW.blk.lt;have HNX:=qh (Gv wo.drew l c1);have HNS0:=Gu wo.drew a nb cap (ao P T T.length) (by rw[hlen];omega) hrow;rw[hlen]at HNS0;have HNS:=qh HNS0;have HW:=qh (And.intro hW hrow);clear hW hrow HNS0 hro;go_wp2_with fail
      go_region_held3 (λW=>W.cell? ⟨l,3,none⟩=some (.slice (some ⟨nb,0,none⟩) T.length cap))
        (first|exact c3|exact c38|exact c39)
        (first
          | (go_at_call 146;go_loud (refine HNX.o.mono ?_);rintro en w7 ⟨rfl,rfl⟩)
          | (go_at_call 145;go_loud (refine HNS.o.mono ?_);rintro en w8 ⟨kk,n1,b0,b1,b2,rfl,wk8,p0,p1,p2,hord,b8⟩;have bl8:Blk w8 l 263 (lkN a l q bud T.length (.slice (some ⟨nb,0,none⟩) T.length cap)):=HW.o.1.blk.drew.below b8 hll;have c38:w8.cell? ⟨l,3,none⟩=some (.slice (some ⟨nb,0,none⟩) T.length cap):=bl8.cell 3;have c48:w8.cell? ⟨l,4,none⟩=some (.pointer none):=bl8.cell 4;have z48:=bl8.free 4;have c39:(w8.setCell ⟨l,4,none⟩ ↑kk).cell? ⟨l,3,none⟩=some (.slice (some ⟨nb,0,none⟩) T.length cap):=(bl8.set_ 4 ↑kk).cell 3;have H8:=qh (And.intro wk8 (And.intro p0 (And.intro p1 (And.intro p2 (And.intro hord (And.intro b8 bl8))))));clear wk8 p0 p1 p2 hord b8 bl8))
      all_goals
        go_wp2;go_ret2;have f1:=K1.o.2.size;have f2:=K3.o.2.2.2;have f3:=H4.o.2.2;have f4:=H4.o.2.1.size;have f5:=H5.o.2;have f6:=HQ.o;have f7:b<w1.heap.size:=K1.o.1.low.2;have f8:w.heap.size+1<=b:=K1.o.1.low.1;have f9:=H.o.2;have f10:=H8.o.2.2.2.2.1;have f11:w5.heap.size<=wo.heap.size:=HW.o.1.tn.size;have f12:wo.drew.heap.size=wo.heap.size:=rfl;have f13:nb<wo.heap.size:=aQ (HW.o.2 0 (by rw[hlen];omega));rw[f12]at f10;have t8:aa [] wo w8:=((aa.refl _ _).drew).trans (aa.of_below H8.o.2.2.2.2.2.1);have t9:aa [l] w8 (w8.setCell ⟨l,4,none⟩ ↑kk):=(aa.refl _ _).setCell (.inl QY) _;have t59:aa [l,b] w5 (w8.setCell ⟨l,4,none⟩ ↑kk):=(HW.o.1.tn.trans (t8.mono QY)).trans (t9.mono QY);have t39:aa [l,b] w3 (w8.setCell ⟨l,4,none⟩ ↑kk):=((H4.o.2.1.mono QY).trans (H5.o.1.mono QY)).trans t59;refine⟨⟨l,a,g,q,kk,n1,nb,b0,b1,b2⟩,cap,rfl,rfl,rfl,⟨?_,?_,?_,?_,?_,?_,?_,?_,?_,?_,?_,?_⟩,?_,?_,?_,?_,λx hx=>by simp at hx;omega⟩;· exact K3.o.2.2.1.turns t39 Q1 Q1
        · unfold F8;rw[hlen];exact H8.o.2.2.2.2.2.2.set_ 4 _
        · exact(H4.o.1.turns (T:=[]) H5.o.1 QY).turns t59 (by show q∉[l,b];simp;omega)
        · exact H8.o.1.turns t9 (by show kk∉[l];simp;omega) (by show n1∉[l];simp;omega)
        · intro m hm;have e8:w8.cell? ⟨nb,m,none⟩=wo.cell? ⟨nb,m,none⟩:=t8.cellC f13 QY;have e9:=t9.cellC (p:=⟨nb,m,none⟩) (by have:=t8.size;show nb<w8.heap.size;omega) (by show nb∉[l];simp;omega);exact e9.trans (e8.trans (HW.o.2 m hm))
        · exact t9.blk H8.o.2.1 (by show b0∉[l];simp;omega)
        · exact t9.blk H8.o.2.2.1 (by show b1∉[l];simp;omega)
        · exact t9.blk H8.o.2.2.2.1 (by show b2∉[l];simp;omega)
        · rw[hlen];simp[cn0]
        · rw[hlen];omega
        · show[a,g,q,kk].Nodup;simp;omega
        · show ∀x∈[l,n1,nb,b0,b1,b2],x∉[a,g,q,kk];intro x hx;simp at hx ⊢;omega
        · show w.heap.size<=l;omega
        · show w.heap.size<=q;omega
        · show w.heap.size<=kk;omega
        · have:aa [a,l,b] w (w8.setCell ⟨l,4,none⟩ ↑kk):=(K3.o.2.1.mono QY).trans (t39.mono QY);exact this.fresh λi hi=>by simp at hi ⊢;omega
end
section
open Go
def aN (W:List Int)(x:Int):Int:=if 1<=x then ldW W (cN x)else 0
def aS (W:List Int)(x:Int):Int:=if 1<=x then ldW W (cS x)else 0
def aL (W:List Int)(x:Int):Int:=if 1<=x then ldW W (cL x)else 0
def WkB (n:Nat)(w:Wk):Prop:=(0<=w.last/\w.last<=n)/\(0<=w.found/\w.found<=n)/\0<=w.passed/\w.passed<=n
theorem sV{n:Nat}{node:Nat->Int}{w:Wk}(hw:WkB n w)(x:Int):WkB n (dK n node w x)/\((dK n node w x).way=true->1<=(dK n node w x).last)/\(1<=w.last->1<=(dK n node w x).last):=by
 unfold dK;repeat' split
 all_goals grind [WkB]
abbrev Fk (S:Int->Int)(σ:Nat->Sp):Nat->Prop:=iW 6 (λv=>v≠0) S σ
structure CtI (n:Nat)(t:Int)(N S L:Int->Int)(w:Wk)(σ:Nat->Sp):Prop where
 tk:iY n (Fk S σ) (t=0)
 v1:0<=t/\t<=n
 vN:∀x:Int,1<=x->x<=n->0<=N x/\N x<=n
 vL:∀x:Int,1<=x->x<=n->0<=L x/\L x<=n
 vS:∀x:Int,1<=x->x<=n->-1<=S x/\S x<=n/\(0<S x->1<=L (S x))
 wb:WkB n w
 pcs:∀i,i<n->(0<=(σ i).pc/\(σ i).pc<=6)\/(10<=(σ i).pc/\(σ i).pc<=30)
 sp:∀i,i<n->(-1<=(σ i).a/\(σ i).a<=n)/\(-1<=(σ i).b/\(σ i).b<=n)
 a1:∀i,i<n->(σ i).pc=4\/(17<=(σ i).pc/\(σ i).pc≠28)->1<=(σ i).a
 b1:∀i,i<n->(14<=(σ i).pc/\(σ i).pc<=15)\/(20<=(σ i).pc/\(σ i).pc<=22)\/(25<=(σ i).pc/\(σ i).pc<=28)->1<=(σ i).b
 c1:∀i,i<n->(σ i).pc=15\/(σ i).pc=21\/(σ i).pc=26->1<=(σ i).c/\(σ i).c<=n
 gd:∀i,i<n->12<=(σ i).pc/\(σ i).pc≠22->0<(σ i).b->1<=L (σ i).b
 w1:∀i,i<n->18<=(σ i).pc/\(σ i).pc<=22->1<=w.last
 w3:∀i,i<n->(σ i).pc=18->w.way=true
 w2:∀i,i<n->19<=(σ i).pc/\(σ i).pc<=22->1<=w.found
structure CtS (n:Nat)(h:Cn):Prop where
 i:CtI n (ldW h.ar.W 1) (aN h.ar.W) (aS h.ar.W) (aL h.ar.W) h.wk (sv h.S)
 len:h.S.length=n
 wln:h.ar.W.length=2+3*n
section
variable{n:Nat}{t t':Int}{N N' S S' L L':Int->Int}{w w':Wk}{σ σ':Nat->Sp}
theorem CtI.upd (h:CtI n t N S L w σ) {i:Nat} {p:Sp} (hi:i<n) (hs:∀j,σ' j=if j=i then p else σ j)
    (ht:iY n (Fk S' σ') (t'=0)) (v1:0<=t'/\t'<=n)
    (vN:∀x:Int,1<=x->x<=n->N' x=N x\/(0<=N' x/\N' x<=n))
    (vL:∀x:Int,1<=x->x<=n->L' x=L x\/(1<=L' x/\L' x<=n))
    (vS:∀x:Int,1<=x->x<=n->S' x=S x\/(-1<=S' x/\S' x<=n/\(0<S' x->1<=L (S' x))))
    (hw:WkB n w') (hpc:(0<=p.pc/\p.pc<=6)\/(10<=p.pc/\p.pc<=30)) (hp:(-1<=p.a/\p.a<=n)/\(-1<=p.b/\p.b<=n)) (ha:p.pc=4\/(17<=p.pc/\p.pc≠28)->1<=p.a)
    (hb:(14<=p.pc/\p.pc<=15)\/(20<=p.pc/\p.pc<=22)\/(25<=p.pc/\p.pc<=28)->1<=p.b) (hc:p.pc=15\/p.pc=21\/p.pc=26->1<=p.c/\p.c<=n)
    (hg:12<=p.pc/\p.pc≠22->0<p.b->1<=L' p.b) (hw1:18<=p.pc/\p.pc<=22->1<=w'.last) (hw3:p.pc=18->w'.way=true) (hw2:19<=p.pc/\p.pc<=22->1<=w'.found)
    (hww:w'=w\/10<=(σ i).pc):CtI n t' N' S' L' w' σ':=by
  have hsi:σ' i=p:=by rw[hs,if_pos rfl]
  have hne:∀j,j≠i->σ' j=σ j:=λj e=>by rw[hs,if_neg e]
  refine⟨ht,v1,λx h1 h2=>?_,λx h1 h2=>?_,λx h1 h2=>?_,hw,?_,?_,?_,?_,?_,?_,?_,?_,?_⟩;· grind [h.vN x h1 h2]
  · grind [h.vL x h1 h2]
  · have h3:=h.vS x h1 h2;have h4:=vL (S' x);have h5:=vS x h1 h2;grind
  all_goals
    intro j hj;have h1:=h.sp j hj;have h2:=h.pcs j hj;have h3:=h.a1 j hj;have h4:=h.b1 j hj;have h5:=h.c1 j hj;have h6:=h.gd j hj;have h7:=h.w1 j hj;have h8:=h.w2 j hj;have h11:=h.w3 j hj;have h9:=vL (σ j).b;have h10:=h.tk.one i j hi hj;by_cases e:j=i;· subst e;rw[hsi];grind
    · rw[hne j e];grind [iW]
theorem nM{W:List Int}{m:Nat}(wl:W.length=m)(a v b:Int):ldW (stW W a v) b=if b=a/\1<=a/\a<=m then v else ldW W b:=by exact JA
theorem vm {W:List Int} (wl:W.length=2+3*n) (x v:Int) (h1:1<=x) (h2:x<=n):
    ldW (stW W (cN x) v) 1=ldW W 1/\aN (stW W (cN x) v)=updF (aN W) x v/\aS (stW W (cN x) v)=aS W/\aL (stW W (cN x) v)=aL W:=by simp only[funext_iff,updF,aN,aS,aL,nM wl,cN,cS,cL];refine⟨?_,λy=>?_,λy=>?_,λy=>?_⟩<;>grind
theorem vo {W:List Int} (wl:W.length=2+3*n) (x v:Int) (h1:1<=x) (h2:x<=n):
    ldW (stW W (cS x) v) 1=ldW W 1/\aN (stW W (cS x) v)=aN W/\aS (stW W (cS x) v)=updF (aS W) x v/\aL (stW W (cS x) v)=aL W:=by simp only[funext_iff,updF,aN,aS,aL,nM wl,cN,cS,cL];refine⟨?_,λy=>?_,λy=>?_,λy=>?_⟩<;>grind
theorem vl {W:List Int} (wl:W.length=2+3*n) (x v:Int) (h1:1<=x) (h2:x<=n):
    ldW (stW W (cL x) v) 1=ldW W 1/\aN (stW W (cL x) v)=aN W/\aS (stW W (cL x) v)=aS W/\aL (stW W (cL x) v)=updF (aL W) x v:=by simp only[funext_iff,updF,aN,aS,aL,nM wl,cN,cS,cL];refine⟨?_,λy=>?_,λy=>?_,λy=>?_⟩<;>grind
theorem vj {W:List Int} (wl:W.length=2+3*n) (v:Int):
    ldW (stW W 1 v) 1=v/\aN (stW W 1 v)=aN W/\aS (stW W 1 v)=aS W/\aL (stW W 1 v)=aL W:=by simp only[funext_iff,aN,aS,aL,nM wl,cN,cS,cL];refine⟨?_,λy=>?_,λy=>?_,λy=>?_⟩<;>grind
theorem vk {W:List Int} (wl:W.length=2+3*n) (v:Int):
    ldW (stW W 2 v) 1=ldW W 1/\aN (stW W 2 v)=aN W/\aS (stW W 2 v)=aS W/\aL (stW W 2 v)=aL W:=by simp only[funext_iff,aN,aS,aL,nM wl,cN,cS,cL];refine⟨?_,λy=>?_,λy=>?_,λy=>?_⟩<;>grind
theorem CtS.go{h:Cn}(k:CtS n h)(node:Nat->Int)(bud:Int){i:Nat}(hi:i<n){p:Sp}(hp:p=sv h.S i)(h0:¬(p.pc=0\/p.pc=10)){r:Ar×Wk×Sp}(hr:r=af n node bud h i p):CtS n ⟨r.1,r.2.1,h.S.set i r.2.2⟩:=by
 have I:=k.i;have hs:∀q,sv (h.S.set i q)=λj=>if j=i then q else sv h.S j:=λq=>by funext j;rw[cD];grind [k.len]
 have lN:∀x,1<=x->ldW h.ar.W (cN x)=aN h.ar.W x:=λx hx=>by unfold aN;rw[if_pos hx]
 have lS:∀x,1<=x->ldW h.ar.W (cS x)=aS h.ar.W x:=λx hx=>by unfold aS;rw[if_pos hx]
 have lL:∀x,1<=x->ldW h.ar.W (cL x)=aL h.ar.W x:=λx hx=>by unfold aL;rw[if_pos hx]
 have h1:=I.sp i hi;have h2:=I.pcs i hi;have h3:=I.a1 i hi;have h4:=I.b1 i hi;have h5:=I.c1 i hi;have h6:=I.gd i hi;have h7:=I.w1 i hi;have h8:=I.w2 i hi;have h9:=I.w3 i hi;have v1:=I.v1;have wb:=I.wb;have wb1:=wb.1;have wb2:=wb.2.1;have tk:=sV (node:=node) wb;have bk:∀x v,WkB n (gF n node h.wk x v)/\((gF n node h.wk x v).way=true->1<=(gF n node h.wk x v).last):=λx v=>by have:=sV (n:=n) (node:=node) (w:={h.wk with node:=v,passed:=0,last:=0,found:=0}) (by unfold WkB;simp) x;unfold gF;exact⟨this.1,this.2.1⟩
 have hcas:∀y,cl h.ar 1 y=decide (ldW h.ar.W 1=y):=λy=>by unfold cl;rw[aO.2 (by rw[k.wln];omega)];rfl
 obtain⟨x,hx⟩:∃x,x=numT i:=⟨_,rfl⟩;have hxx:(i:Int)+1=x:=hx.symm;have hx1:1<=x/\x<=n:=by unfold numT at hx;omega
 have fN:=I.vN x hx1.1 hx1.2;have fS:=I.vS x hx1.1 hx1.2;have fL:=I.vL p.b;rw[<-hp]at h1 h2 h3 h4 h5 h6 h7 h8 h9;have hq:(sv h.S i).pc=p.pc:=by rw[hp]
 obtain⟨pc,a,b,z⟩:=p;simp only at h1 h2 h3 h4 h5 h6 h7 h8 h9 h0 fL hq;have hc:pc=1\/pc=2\/pc=3\/pc=4\/pc=5\/pc=6\/pc=11\/pc=12\/pc=13\/pc=14\/pc=15\/pc=16\/pc=17\/pc=18\/pc=19\/pc=20\/pc=21\/pc=22\/pc=23\/pc=24\/pc=25\/pc=26\/pc=27\/pc=28\/pc=29\/pc=30:=by omega
 rcases hc with rfl|rfl|rfl|rfl|rfl|rfl|rfl|rfl|rfl|rfl|rfl|rfl|rfl|rfl|rfl|rfl|rfl|rfl|rfl|rfl|rfl|rfl|rfl|rfl|rfl|rfl
 all_goals simp[af,inC,j9,nR,eg,eG,hxx,hcas,lN x hx1.1,lS x hx1.1]at hr;repeat' split at hr
 all_goals subst hr;refine⟨?_,by simp[k.len],?_⟩
 all_goals try simp only[aw,aM,dI,dR,gG]
 all_goals try first|(simp only[bE,k.wln];done)|(split<;>simp only[bE,k.wln];done)
 all_goals clear hp
 all_goals try simp only[hcas,decide_eq_true_eq]
 all_goals try first|rw[if_pos Rk]|rw[if_neg Rk]
 all_goals try first
  |rw[(vm k.wln _ _ QX QX).1,(vm k.wln _ _ QX QX).2.1,(vm k.wln _ _ QX QX).2.2.1,(vm k.wln _ _ QX QX).2.2.2]
  |rw[(vo k.wln _ _ QX QX).1,(vo k.wln _ _ QX QX).2.1,(vo k.wln _ _ QX QX).2.2.1,(vo k.wln _ _ QX QX).2.2.2]
  |rw[(vl k.wln _ _ QX QX).1,(vl k.wln _ _ QX QX).2.1,(vl k.wln _ _ QX QX).2.2.1,(vl k.wln _ _ QX QX).2.2.2]
  |rw[(vj k.wln _).1,(vj k.wln _).2.1,(vj k.wln _).2.2.1,(vj k.wln _).2.2.2]
  |rw[(vk k.wln _).1,(vk k.wln _).2.1,(vk k.wln _).2.2.1,(vk k.wln _).2.2.2]
 all_goals try rw[lL b QX]
 all_goals refine I.upd hi (λj=>congrFun (hs _) j) ?_ ?_ ?_ ?_ ?_ ?_ ?_ ?_ ?_ ?_ ?_ ?_ ?_ ?_ ?_ ?_
 all_goals try dsimp only
 all_goals try omega
 all_goals try exact λ_ _ _=> .inl rfl
 all_goals try (intro y _ _;simp only[updF];split;(right;omega);exact .inl rfl)
 all_goals try first|exact .inl rfl|(right;omega)
 all_goals try first
  |exact I.tk.own hi (λj=>congrFun (hs _) j) QX Sj RR
  |exact I.tk.o hi (λj=>congrFun (hs _) j) QX QZ Re RS
  |exact I.tk.low hi (λj=>congrFun (hs _) j) (by first|exact .inl Re|exact .inr (.inl ⟨by dsimp only;omega,by rw[<-hx,gC];simp⟩)|exact .inr (.inr ⟨by omega,by dsimp only;omega,rfl⟩)) QZ Sj
  |exact I.tk.door hi (λj=>congrFun (hs _) j) QX Re QX
  |exact I.tk.ent hi (λj=>congrFun (hs _) j) QX (by rw[<-hx];assumption)
 all_goals grind [dK,gF,updF]
theorem gz{S:List Sp}{i:Nat}(h:i<S.length):getS S (i:Int)=sv S i:=by unfold getS sv;rw[if_pos ⟨by omega,by omega⟩,Int.toNat_natCast]
theorem CtS.step{h:Cn}(k:CtS n h)(node:Nat->Int)(bud:Int){i:Nat}(hi:i<n):CtS n (gR n node bud h i).1:=by
 unfold gR;split;·rename_i hc;rw[gz (by rw[k.len];exact hi),Int.toNat_natCast]at *;exact k.go node bud hi rfl QX rfl
 ·exact k
theorem CtS.beg{h:Cn}(k:CtS n h){i:Nat}(hi:i<n){u v:Int}(huv:(u=0/\v=1)\/(u=10/\v=11)):CtS n (bU h i u v).1:=by
 unfold bU;split
 ·rename_i hc;rw[gz (by rw[k.len];exact hi),Int.toNat_natCast]at *;have hs:∀j,sv (h.S.set i {sv h.S i with pc:=v}) j=if j=i then {sv h.S i with pc:=v} else sv h.S j:=λj=>by rw[cD];grind [k.len]
  refine⟨?_,by simp[k.len],k.wln⟩;refine k.i.upd hi hs ?_ k.i.v1 (λ_ _ _=> .inl rfl) (λ_ _ _=> .inl rfl) (λ_ _ _=> .inl rfl) k.i.wb Re (k.i.sp i hi) ?_ ?_ ?_ ?_ ?_ ?_ ?_ (.inl rfl)
  ·rcases huv with⟨rfl,rfl⟩|⟨rfl,rfl⟩
   ·exact k.i.tk.low hi hs (.inl Re) QZ (λ_ _=>rfl)
   ·exact k.i.tk.own hi hs QX (λ_ _=>rfl) (.inl rfl)
  all_goals (dsimp only;intros;omega)
 ·exact k
theorem CtS.one{h:Cn}(k:CtS n h){i j:Nat}(hi:i<n)(hj:j<n)(h1:(sv h.S i).pc=10)(h2:(sv h.S j).pc=10):i=j:=k.i.tk.one i j hi hj (.inl QX) (.inl QX)
end
end
section
open Go Go.RowKit
def cnV (l:Nat):Value:= .iface 181 (.agg #[.iface 182 ↑l])
structure CnB where
 c:Cx
 cap:Nat
 hi:Nat
def cnF (b:CnB):List Nat:=[b.c.a,b.c.g,b.c.q,b.c.k]
def Au (bud:Int)(nd:List Int)(n:Nat):LkM n where
 σ:=Cn
 β:=CnB
 ok:=λst N=>CtS n st/\st.ar.ops<=N
 ar:=λst=>st.ar
 sp:=λst i=>sv st.S i
 cn:=λst i=>if (sv st.S i).pc=10 then 1 else 0
 rd:=false
 step:=λst i=>(gR n (ndf nd) bud st i).1
 ask:=λst i r=>if r then st else(bU st i 0 1).1
 leave:=λst i=>(bU st i 10 11).1
 hi:=λb=>b.hi
 fp:=cnF
 is:=λb w a g lb st=>an w b.c b.cap bud nd st/\(b.c.a=a/\b.c.g=g)/\jk w lb n 9 (cnV b.c.l) (cnF b) b.hi/\∀x∈[b.c.l,b.c.n1,b.c.nb,b.c.b0,b.c.b1,b.c.b2],x<b.hi
theorem an.far{w w':World}{c:Cx}{cap:Nat}{bud:Int}{nd:List Int}{h:Cn}{S:List Nat}(k:an w c cap bud nd h)(t:aa S w w')(h1:∀x∈[c.a,c.g,c.q,c.k],x∉S)(h2:∀x∈[c.l,c.n1,c.nb,c.b0,c.b1,c.b2],x∉S):an w' c cap bud nd h:=by simp only[List.mem_cons,List.not_mem_nil,or_false,forall_eq_or_imp,forall_eq]at h1 h2;obtain⟨x1,x2,x3,x4⟩:=h1;obtain⟨y1,y2,y3,y4,y5,y6⟩:=h2;refine⟨k.ar.turns t x1 x2,t.blk k.lk y1,k.sp.turns t x3,k.wk.turns t x4 y2,λm hm=>?_,t.blk k.p0 y4,t.blk k.p1 y5,t.blk k.p2 y6,k.sl,k.n32,k.nd4,k.st⟩;rw[t.cellC (aQ (k.row m hm)) y3];exact k.row m hm
theorem CtS.ccond{n:Nat}{h:Cn}(k:CtS n h)(hn:n<=32)(ho:h.ar.ops+1<=1000000000000):pn n h:=by
 have hsv:∀(j:Nat) (p:Sp),h.S[j]? =some p->j<n/\sv h.S j=p:=λj p hp=>⟨by rw[<-k.len];exact(List.getElem?_eq_some_iff.1 hp).1,by unfold sv;rw[List.getD_eq_getElem?_getD,hp];rfl⟩;have wb:=k.i.wb;unfold WkB at wb;refine⟨ho,λj p hp=>?_,⟨⟨wb.2.2.1,wb.2.2.2⟩,by omega,by omega⟩,λj p hp e=>?_,λj p hp=>?_⟩;·obtain⟨hj,rfl⟩:=hsv j p hp;have h1:=k.i.sp j hj;have h2:=k.i.c1 j hj;exact⟨by omega,by omega,λe=>by omega⟩
 ·obtain⟨hj,rfl⟩:=hsv j p hp;exact k.i.w3 j hj e
 ·obtain⟨hj,rfl⟩:=hsv j p hp;exact k.i.pcs j hj
theorem yS (st:Cn)(i:Nat)(hi:i<st.S.length)(u v:Int):(bU st i u v).1=(if (sv st.S i).pc=u then⟨st.ar,st.wk,st.S.set i {sv st.S i with pc:=v}⟩else st)/\(bU st i u v).2=decide ((sv st.S i).pc=u):=by unfold bU;rw[gz hi,Int.toNat_natCast];exact Jq
theorem rC{n:Nat}{node:Nat->Int}{bud:Int}(st:Cn)(i:Nat)(hi:i<st.S.length):(gR n node bud st i).2=dA (sv st.S i) (sv (gR n node bud st i).1.S i):=by
 unfold gR;rw[gz hi,Int.toNat_natCast];unfold dA;split
 ·rename_i h;simp only[fR hi,if_true];by_cases c:(af n node bud st i (sv st.S i)).2.2.pc=0\/(af n node bud st i (sv st.S i)).2.2.pc=10;·exact IM
  ·exact IN
 ·exact Jr
theorem m8 (n:Nat)(node:Nat->Int)(bud:Int)(st:Cn)(i:Nat):(gR n node bud st i).1.ar.ops<=st.ar.ops+1:=by
 have h1:=λx v=>gS st.ar x v;have h2:=λx=>iF st.ar x;have h3:=λx o v=>mZ st.ar x o v;have h4:=λx v=>jl st.ar x v;have h5:=λx v=>eP st.ar x v;unfold gR;split
 ·show(af n node bud st (i:Int).toNat (getS st.S i)).1.ops<=_;unfold af;split;·unfold inC;grind (splits:=40)
  ·split;·unfold j9;grind (splits:=40)
   ·split;·unfold nR;grind (splits:=40)
    ·unfold eg;grind (splits:=40)
 ·simp
theorem uf{bud:Int}{nd:List Int}(hn:1<=nd.length/\nd.length<=32):(Au bud nd nd.length).Good where
 n32:=hn
 okS:=fun(st:Cn) N i h hN hi=>⟨h.1.step (ndf nd) bud hi,Nat.le_trans (m8 _ _ _ st i) (by have:=h.2;omega)⟩
 okA:=fun(st:Cn) N i r h hN hi=>by
  cases r
  ·refine⟨h.1.beg hi (.inl ⟨rfl,rfl⟩),?_⟩
   show(bU st i 0 1).1.ar.ops<=_
   have:(bU st i 0 1).1.ar=st.ar:=by unfold bU;split<;>rfl
   rw[this];have:=h.2;omega
  ·exact⟨h.1,by have:=h.2;show st.ar.ops<=_;omega⟩
 okL:=fun(st:Cn) N i h hN hi=>by
  refine⟨h.1.beg hi (.inr ⟨rfl,rfl⟩),?_⟩
  show(bU st i 10 11).1.ar.ops<=_
  have:(bU st i 10 11).1.ar=st.ar:=by unfold bU;split<;>rfl
  rw[this];have:=h.2;omega
 okm:=fun(st:Cn) N h=>⟨h.1,by have:=h.2;omega⟩
 one:=fun(st:Cn) N i j h hi hj h1 h2 _=>h.1.one hi hj h1 h2
 pcs:=fun(st:Cn) N i h hi=>by have:=h.1.i.pcs i hi;show 0<=(sv st.S i).pc;omega
 cnt:=fun(st:Cn) N i h hi=>by
  exact IO
 opsS:=fun(st:Cn) N i _ _ _=>m8 _ _ _ st i
 arA:=fun(st:Cn) i r=>by
  cases r
  ·show(bU st i 0 1).1.ar=st.ar
   unfold bU;split<;>rfl
  ·rfl
 arL:=fun(st:Cn) i=>by
  show(bU st i 10 11).1.ar=st.ar
  unfold bU;split<;>rfl
 ais:=fun(b:CnB) w a g lb (st:Cn) h=>by obtain⟨k,⟨rfl,rfl⟩,_⟩:=h;exact k.ar
 lk:=fun(b:CnB) w a g lb (st:Cn) h=>h.2.2.1.c1
 kd:=fun(b:CnB) w a g lb (st:Cn) h=>⟨9,h.2.2.1.blk.cell 0,rfl⟩
 fpa:=fun(b:CnB) w a g lb (st:Cn) h=>⟨h.2.2.1.fl,h.2.2.1.hw⟩
 far:=fun(b:CnB) w a g lb (st:Cn) w' S h t hS=>by
  obtain⟨k,hc,hd,hl⟩:=h
  have h9:∀x∈S,b.hi<=x:=hS
  exact⟨k.far t (λx hx m=>by have:=hd.fl x hx;have:=h9 x m;omega) (λx hx m=>by have:=hl x hx;have:=h9 x m;omega),hc,hd.far t h9,hl⟩
 cS:=fun(b:CnB) w a g lb (st:Cn) N i h hk hN hi=>by
  obtain⟨k,hc,hd,hl⟩:=h
  refine(nA .cn hd.c1 hd.c2 hi (R:=λr w'=>r=dA (sv st.S i) (sv (gR nd.length (ndf nd) bud st i).1.S i)/\an w' b.c b.cap bud nd (gR nd.length (ndf nd) bud st i).1/\aa (cnF b) w w') λW bw=>?_).mono ?_
  ·refine(Fe (k.below bw) (i:Int) (hk.1.ccond hn.2 (by have:=hk.2;unfold lkB at hN;omega))).mono ?_
   rintro e w' ⟨rfl,k2,t2⟩
   exact⟨_,rfl,rC st i (by rw[k.sl];exact hi),k2,(aa.of_below bw).trans t2⟩
  ·exact JB
 cA:=fun(b:CnB) w a g lb (st:Cn) N i r h hk hN hi=>by
  obtain⟨k,hc,hd,hl⟩:=h
  have hl2:i<st.S.length:=by rw[k.sl];exact hi
  refine(xu .cn hd.c1 hd.c2 hi r (R:=λq w'=>q=decide ((sv st.S i).pc=0/\(r=true->(false:Bool)=true))/\an w' b.c b.cap bud nd (if r then st else(bU st i 0 1).1)/\aa (cnF b) w w') (λhr W bw=>?_) (λhr W bw=>?_)).mono ?_
  ·subst hr
   refine(FB (k.below bw) (i:Int)).mono ?_
   rintro e w' ⟨rfl,k2,t2⟩
   exact⟨_,rfl,by rw[(yS st i hl2 0 1).2];simp,k2,(aa.of_below bw).trans t2⟩
  ·exact IQ
  ·exact JB
 cL:=fun(b:CnB) w a g lb (st:Cn) N i h hk hN hi=>by
  obtain⟨k,hc,hd,hl⟩:=h
  have hl2:i<st.S.length:=by rw[k.sl];exact hi
  refine(kv .cn hd.c1 hd.c2 hi (R:=λq w'=>q=decide ((sv st.S i).pc=10)/\an w' b.c b.cap bud nd (bU st i 10 11).1/\aa (cnF b) w w') λW bw=>?_).mono ?_
  ·refine(CO (k.below bw) (i:Int)).mono ?_
   rintro e w' ⟨rfl,k2,t2⟩
   exact⟨_,rfl,(yS st i hl2 10 11).2,k2,(aa.of_below bw).trans t2⟩
  ·exact JB
 cP:=fun(b:CnB) w a g lb (st:Cn) i h hi=>nz .cn h.2.2.1.c1 h.2.2.1.c2 hi _ λW bw=>by
  exact JC
 cC:=fun(b:CnB) w a g lb (st:Cn) i h hi=>ny .cn h.2.2.1.c1 h.2.2.1.c2 hi _ λW bw=>by
  exact JC
end
end Go.Proofs.YtglokdbiggbkjaaGreat
