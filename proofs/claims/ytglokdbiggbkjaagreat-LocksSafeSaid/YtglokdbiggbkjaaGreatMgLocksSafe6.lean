/- Joined texts. -/
import Derived.Test.YtglokdbiggbkjaaGreatRows
import Derived.Tactics
import Derived.RegionCalls
import Derived.Deep.QuietTactic
import Derived.BigQuiet
import Derived.Laws.BitsAllLaws
import Derived.Test.YtglokdbiggbkjaaGreatMgLocksSafe0
import Derived.Test.YtglokdbiggbkjaaGreatMgLocksSafe1
import Derived.Test.YtglokdbiggbkjaaGreatMgLocksSafe5
set_option linter.unusedVariables false
set_option linter.unusedSimpArgs false
set_option maxRecDepth 100000
set_option maxHeartbeats 16000000
namespace Go.Proofs.YtglokdbiggbkjaaGreat
section
open Go.RowKit
section
variable{w w' w0:World}{c:Mx}{bud:Int}{h:Mal}
def ft (w:World)(c:Mx)(bud:Int)(h:Mal)(i:Nat)(p:Sp)(r:Ar×Bn×Int×Sp)(e:Ending)(w':World):Prop:=
 e= .returned (.int .i64 r.2.2.2.pc)/\MaT w w' c bud ⟨r.1,r.2.1,r.2.2.1,h.S.set i {r.2.2.2 with pc:=p.pc}⟩
theorem MaT.samS{ar':Ar}{b':Bn}{d':Int}{i:Nat}{p:Sp}(k:MaT w0 w c bud ⟨ar',b',d',h.S⟩)(hp:h.S[i]? =some p):MaT w0 w c bud ⟨ar',b',d',h.S.set i p⟩:=by rw[bX hp];exact k
theorem bI.cs (k:bI w c bud h){i:Nat}{p:Sp}(hp:h.S[i]? =some p):w.cell? c.l=some ↑c.b.a/\w.cell? ⟨c.l,1,none⟩=some (.int .i64 1)/\w.cell? ⟨c.l,2,none⟩=some (.int .i64 bud)/\w.cell? ⟨c.l,4,none⟩=some (.int .i64 h.d)/\w.cell? ⟨c.q,i*4+1,none⟩=some (.int .i64 p.a)/\w.cell? ⟨c.q,i*4+2,none⟩=some (.int .i64 p.b)/\w.cell? ⟨c.q,i*4+3,none⟩=some (.int .i64 p.c):=⟨k.ca,k.ct,k.cb,k.cd,k.sp.cell hp 1 _ rfl,k.sp.cell hp 2 _ rfl,k.sp.cell hp 3 _ rfl⟩
theorem maN {Q:Prop} (h_:Q:=by
    have e0:=k.sp.cell hp 0 _ rfl
    simp only[Nat.add_zero]at e0
    have HP:=qh hp
    have K1:=qh (MaT.new k).drew
    clear k hp
    first
      | go_enter Tryz.func336,Tryz.ntmps336
      | go_enter Tryz.func337,Tryz.ntmps337
      | go_enter Tryz.func338,Tryz.ntmps338
    go_wp2_with fail
    go_region_held3 (λW=>W.cell? c.l=some ↑c.b.a/\W.cell? ⟨c.l,1,none⟩=some (.int .i64 1)/\W.cell? ⟨c.l,2,none⟩=some (.int .i64 bud)/\W.cell? ⟨c.l,4,none⟩=some (.int .i64 h.d)/\W.cell? ⟨c.q,i*4+1,none⟩=some (.int .i64 a)/\W.cell? ⟨c.q,i*4+2,none⟩=some (.int .i64 b)/\W.cell? ⟨c.q,i*4+3,none⟩=some (.int .i64 z))
      (first|(have q:=K1.o.is.cs HP.o;exact⟨q.1,q.2.1,q.2.2.1,q.2.2.2.1,q.2.2.2.2.1,q.2.2.2.2.2.1,q.2.2.2.2.2.2⟩)|(have q:=K2.o.is.cs HP.o;exact⟨q.1,q.2.1,q.2.2.1,q.2.2.2.1,q.2.2.2.2.1,q.2.2.2.2.2.1,q.2.2.2.2.2.2⟩))
      (first
        | (go_at_call 339;go_loud (refine(HF.o _ K1.o).mono ?_);rintro en w2 ⟨rfl,rfl⟩)
        | (go_at_call 340;go_loud (refine(HF.o _ K1.o).mono ?_);rintro en w2 ⟨rfl,rfl⟩)
        | (go_at_call 177;go_loud (refine(HO.o _ K1.o).mono ?_);rintro en w3 ⟨rfl,a3,t3⟩;have K2:=qh (K1.o.op t3 a3);clear a3 t3)
        | (go_at_call 173;go_loud (refine(HO.o _ K1.o).mono ?_);rintro en w3 ⟨rfl,a3,t3⟩;have K2:=qh (K1.o.op t3 a3);clear a3 t3)
        | (go_at_call 272;go_loud (refine(HO.o _ K1.o).mono ?_);rintro en w3 ⟨rfl,a3,t3⟩;have K2:=qh (K1.o.op t3 a3);clear a3 t3))
    have e3:=K2.o.is.sp.cell HP.o 0 _ rfl
    simp only[Nat.add_zero]at e3
    go_wp2
    go_ret
    rw[HX.o]
    exact⟨rfl,K2.o.samS HP.o⟩):Q:=h_
theorem maA {Q:Prop} (h_:Q:=by
    have e0:=k.sp.cell hp 0 _ rfl
    simp only[Nat.add_zero]at e0
    have HP:=qh hp
    have K1:=qh (MaT.new k).drew
    clear k hp
    first
      | go_enter Tryz.func336,Tryz.ntmps336
      | go_enter Tryz.func337,Tryz.ntmps337
      | go_enter Tryz.func338,Tryz.ntmps338
    go_wp2_with fail
    go_region_held3 (λW=>W.cell? c.l=some ↑c.b.a/\W.cell? ⟨c.l,1,none⟩=some (.int .i64 1)/\W.cell? ⟨c.l,2,none⟩=some (.int .i64 bud)/\W.cell? ⟨c.l,4,none⟩=some (.int .i64 h.d)/\W.cell? ⟨c.q,i*4+2,none⟩=some (.int .i64 b)/\W.cell? ⟨c.q,i*4+3,none⟩=some (.int .i64 z))
      (first|(have q:=K1.o.is.cs HP.o;exact⟨q.1,q.2.1,q.2.2.1,q.2.2.2.1,q.2.2.2.2.2.1,q.2.2.2.2.2.2⟩)|(have q:=K2.o.is.cs HP.o;exact⟨q.1,q.2.1,q.2.2.1,q.2.2.2.1,q.2.2.2.2.2.1,q.2.2.2.2.2.2⟩)|(have q:=K3.o.is.cs (au HP.o _);exact⟨q.1,q.2.1,q.2.2.1,q.2.2.2.1,q.2.2.2.2.2.1,q.2.2.2.2.2.2⟩))
      (first
        | (go_at_call 339;go_loud (refine(HF.o _ K1.o).mono ?_);rintro en w2 ⟨rfl,rfl⟩)
        | (go_at_call 340;go_loud (refine(HF.o _ K1.o).mono ?_);rintro en w2 ⟨rfl,rfl⟩)
        | (go_at_call 271;go_loud (refine(HO.o _ K1.o).mono ?_);rintro en w3 ⟨rfl,a3,t3⟩;have K2:=qh (K1.o.op t3 a3);have K3:=qh (HJ.o _ _ K2.o);have e1:=K2.o.is.sp.cell HP.o 1 _ rfl;have z1:=K2.o.is.sp.free (i*4+1);clear a3 t3)
        | (go_at_call 173;go_loud (refine(HO.o _ K1.o).mono ?_);rintro en w3 ⟨rfl,a3,t3⟩;have K2:=qh (K1.o.op t3 a3);have K3:=qh (HJ.o _ _ K2.o);have e1:=K2.o.is.sp.cell HP.o 1 _ rfl;have z1:=K2.o.is.sp.free (i*4+1);clear a3 t3)
        | (go_at_call 298;go_loud (refine(HO.o _ K1.o).mono ?_);rintro en w3 ⟨rfl,a3,t3⟩;have K2:=qh (K1.o.op t3 a3);have K3:=qh (HJ.o _ _ K2.o);have e1:=K2.o.is.sp.cell HP.o 1 _ rfl;have z1:=K2.o.is.sp.free (i*4+1);clear a3 t3))
    have e3:=K3.o.is.sp.cell (au HP.o _) 0 _ rfl
    simp only[Nat.add_zero]at e3
    go_wp2
    go_ret
    rw[HX.o]
    exact⟨rfl,K3.o⟩):Q:=h_
theorem maZ {Q:Prop} (h_:Q:=by
    have e0:=k.sp.cell hp 0 _ rfl
    simp only[Nat.add_zero]at e0
    have HP:=qh hp
    have K1:=qh (MaT.new k).drew
    clear k hp
    first
      | go_enter Tryz.func336,Tryz.ntmps336
      | go_enter Tryz.func337,Tryz.ntmps337
      | go_enter Tryz.func338,Tryz.ntmps338
    go_wp2_with fail
    go_region_held3 (λW=>W.cell? c.l=some ↑c.b.a/\W.cell? ⟨c.l,1,none⟩=some (.int .i64 1)/\W.cell? ⟨c.l,2,none⟩=some (.int .i64 bud)/\W.cell? ⟨c.l,4,none⟩=some (.int .i64 h.d)/\W.cell? ⟨c.q,i*4+1,none⟩=some (.int .i64 a)/\W.cell? ⟨c.q,i*4+2,none⟩=some (.int .i64 b))
      (first|(have q:=K1.o.is.cs HP.o;exact⟨q.1,q.2.1,q.2.2.1,q.2.2.2.1,q.2.2.2.2.1,q.2.2.2.2.2.1⟩)|(have q:=K2.o.is.cs HP.o;exact⟨q.1,q.2.1,q.2.2.1,q.2.2.2.1,q.2.2.2.2.1,q.2.2.2.2.2.1⟩)|(have q:=K3.o.is.cs (au HP.o _);exact⟨q.1,q.2.1,q.2.2.1,q.2.2.2.1,q.2.2.2.2.1,q.2.2.2.2.2.1⟩))
      (first
        | (go_at_call 339;go_loud (refine(HF.o _ K1.o).mono ?_);rintro en w2 ⟨rfl,rfl⟩)
        | (go_at_call 340;go_loud (refine(HF.o _ K1.o).mono ?_);rintro en w2 ⟨rfl,rfl⟩)
        | (go_at_call 271;go_loud (refine(HO.o _ K1.o).mono ?_);rintro en w3 ⟨rfl,a3,t3⟩;have K2:=qh (K1.o.op t3 a3);have K3:=qh (HJ.o _ _ K2.o);have e1:=K2.o.is.sp.cell HP.o 3 _ rfl;have z1:=K2.o.is.sp.free (i*4+3);clear a3 t3)
        | (go_at_call 173;go_loud (refine(HO.o _ K1.o).mono ?_);rintro en w3 ⟨rfl,a3,t3⟩;have K2:=qh (K1.o.op t3 a3);have K3:=qh (HJ.o _ _ K2.o);have e1:=K2.o.is.sp.cell HP.o 3 _ rfl;have z1:=K2.o.is.sp.free (i*4+3);clear a3 t3)
        | (go_at_call 298;go_loud (refine(HO.o _ K1.o).mono ?_);rintro en w3 ⟨rfl,a3,t3⟩;have K2:=qh (K1.o.op t3 a3);have K3:=qh (HJ.o _ _ K2.o);have e1:=K2.o.is.sp.cell HP.o 3 _ rfl;have z1:=K2.o.is.sp.free (i*4+3);clear a3 t3))
    have e3:=K3.o.is.sp.cell (au HP.o _) 0 _ rfl
    simp only[Nat.add_zero]at e3
    go_wp2
    go_ret
    rw[HX.o]
    exact⟨rfl,K3.o⟩):Q:=h_
theorem CZ (k:bI w c bud h) (i:Nat) (hi:i<c.b.n) (a b z:Int) (hp:h.S[i]? =some (⟨1,a,b,z⟩:Sp)) (ho:h.ar.ops+1<=1000000000000):
    Calls Tryz.prog 336 #[↑c.l,.pointer (some ⟨c.q,i*4,none⟩),.int .i64 ((i:Int)+1)] w (ft w c bud h i (⟨1,a,b,z⟩:Sp) (maP c.b.n bud h i (⟨1,a,b,z⟩:Sp))):=by have hn:=k.bn.bd.2;have HX:Kq (maP c.b.n bud h i (⟨1,a,b,z⟩:Sp)=(ac h.ar (1+2*((i:Int)+1)) 0,h.bn,h.d,(⟨2,a,b,z⟩:Sp))):=qh Rq;have HO:=λW (k:MaT w W c bud h)=>am k.is.bn.ar (1+2*((i:Int)+1)) 0 ho;replace HO:=qh HO;have HF:=qh (λW (k:MaT w W c bud h)=>iL k.is ((i:Int)+1) QX);exact maN
theorem C0 (k:bI w c bud h) (i:Nat) (hi:i<c.b.n) (a b z:Int) (hp:h.S[i]? =some (⟨2,a,b,z⟩:Sp)) (ho:h.ar.ops+1<=1000000000000):
    Calls Tryz.prog 336 #[↑c.l,.pointer (some ⟨c.q,i*4,none⟩),.int .i64 ((i:Int)+1)] w (ft w c bud h i (⟨2,a,b,z⟩:Sp) (maP c.b.n bud h i (⟨2,a,b,z⟩:Sp))):=by have hn:=k.bn.bd.2;have HX:Kq (maP c.b.n bud h i (⟨2,a,b,z⟩:Sp)=(ac h.ar (2+2*((i:Int)+1)) 1,h.bn,h.d,(⟨3,a,b,z⟩:Sp))):=qh Rq;have HO:=λW (k:MaT w W c bud h)=>am k.is.bn.ar (2+2*((i:Int)+1)) 1 ho;replace HO:=qh HO;have HF:=qh (λW (k:MaT w W c bud h)=>pX k.is ((i:Int)+1) QX);exact maN
theorem AE (k:bI w c bud h) (i:Nat) (hi:i<c.b.n) (a b z:Int) (hp:h.S[i]? =some (⟨3,a,b,z⟩:Sp)) (ho:h.ar.ops+1<=1000000000000) (h0:(ldW h.ar.W 1==0)=true):
    Calls Tryz.prog 336 #[↑c.l,.pointer (some ⟨c.q,i*4,none⟩),.int .i64 ((i:Int)+1)] w (ft w c bud h i (⟨3,a,b,z⟩:Sp) (maP c.b.n bud h i (⟨3,a,b,z⟩:Sp))):=by have hn:=k.bn.bd.2;obtain⟨v,hv⟩:∃v,v=ldW h.ar.W 1:=⟨_,rfl⟩;have HX:Kq (maP c.b.n bud h i (⟨3,a,b,z⟩:Sp)=(bY h.ar (1) ((i:Int)+1),h.bn,h.d,(⟨10,v,b,z⟩:Sp))):=qh (by rw[hv];simp[maP,fh,(by simpa using h0:ldW h.ar.W 1=0)]);have HO:=λW (k:MaT w W c bud h)=>ff k.is.bn.ar (1) ((i:Int)+1) ho;rw[<-hv]at HO h0;replace HO:=qh HO;have HJ:=qh (λW ar' (k:MaT w W c bud {h with ar:=ar'})=>k.sput (p':=(⟨3,v,b,z⟩:Sp)) hp (j:=1) (v:= .int .i64 v) QZ rfl);clear hv;exact maA
theorem AD (k:bI w c bud h) (i:Nat) (hi:i<c.b.n) (a b z:Int) (hp:h.S[i]? =some (⟨3,a,b,z⟩:Sp)) (ho:h.ar.ops+1<=1000000000000) (h0:(ldW h.ar.W 1==0)=false):
    Calls Tryz.prog 336 #[↑c.l,.pointer (some ⟨c.q,i*4,none⟩),.int .i64 ((i:Int)+1)] w (ft w c bud h i (⟨3,a,b,z⟩:Sp) (maP c.b.n bud h i (⟨3,a,b,z⟩:Sp))):=by have hn:=k.bn.bd.2;obtain⟨v,hv⟩:∃v,v=ldW h.ar.W 1:=⟨_,rfl⟩;have HX:Kq (maP c.b.n bud h i (⟨3,a,b,z⟩:Sp)=(bY h.ar (1) ((i:Int)+1),h.bn,h.d,(⟨4,v,b,z⟩:Sp))):=qh (by rw[hv];simp[maP,fh,(by simpa using h0:¬ldW h.ar.W 1=0)]);have HO:=λW (k:MaT w W c bud h)=>ff k.is.bn.ar (1) ((i:Int)+1) ho;rw[<-hv]at HO h0;replace HO:=qh HO;have HJ:=qh (λW ar' (k:MaT w W c bud {h with ar:=ar'})=>k.sput (p':=(⟨3,v,b,z⟩:Sp)) hp (j:=1) (v:= .int .i64 v) QZ rfl);clear hv;exact maA
theorem C1 (k:bI w c bud h) (i:Nat) (hi:i<c.b.n) (a b z:Int) (hp:h.S[i]? =some (⟨4,a,b,z⟩:Sp)) (ho:h.ar.ops+1<=1000000000000) (ha:0<=a/\a<=c.b.n):
    Calls Tryz.prog 336 #[↑c.l,.pointer (some ⟨c.q,i*4,none⟩),.int .i64 ((i:Int)+1)] w (ft w c bud h i (⟨4,a,b,z⟩:Sp) (maP c.b.n bud h i (⟨4,a,b,z⟩:Sp))):=by have hn:=k.bn.bd.2;have HX:Kq (maP c.b.n bud h i (⟨4,a,b,z⟩:Sp)=(ac h.ar (1+2*a) ((i:Int)+1),h.bn,h.d,(⟨5,a,b,z⟩:Sp))):=qh Rq;have HO:=λW (k:MaT w W c bud h)=>am k.is.bn.ar (1+2*a) ((i:Int)+1) ho;replace HO:=qh HO;have HF:=qh (λW (k:MaT w W c bud h)=>iL k.is (a) QX);exact maN
theorem AG (k:bI w c bud h) (i:Nat) (hi:i<c.b.n) (a b z:Int) (hp:h.S[i]? =some (⟨5,a,b,z⟩:Sp)) (ho:h.ar.ops+1<=1000000000000) (h0:(ldW h.ar.W (2+2*((i:Int)+1))==0)=true):
    Calls Tryz.prog 336 #[↑c.l,.pointer (some ⟨c.q,i*4,none⟩),.int .i64 ((i:Int)+1)] w (ft w c bud h i (⟨5,a,b,z⟩:Sp) (maP c.b.n bud h i (⟨5,a,b,z⟩:Sp))):=by have hn:=k.bn.bd.2;obtain⟨v,hv⟩:∃v,v=ldW h.ar.W (2+2*((i:Int)+1)):=⟨_,rfl⟩;have HX:Kq (maP c.b.n bud h i (⟨5,a,b,z⟩:Sp)=(ae h.ar (2+2*((i:Int)+1)),h.bn,h.d,(⟨10,a,b,z⟩:Sp))):=qh (by simp[maP,fh,(by simpa using h0:ldW h.ar.W (2+2*((i:Int)+1))=0)]);have HO:=λW (k:MaT w W c bud h)=>aC k.is.bn.ar (2+2*((i:Int)+1)) ho;rw[<-hv]at HO h0;replace HO:=qh HO;have HF:=qh (λW (k:MaT w W c bud h)=>pX k.is ((i:Int)+1) QX);clear hv;exact maN
theorem AF (k:bI w c bud h) (i:Nat) (hi:i<c.b.n) (a b z:Int) (hp:h.S[i]? =some (⟨5,a,b,z⟩:Sp)) (ho:h.ar.ops+1<=1000000000000) (h0:(ldW h.ar.W (2+2*((i:Int)+1))==0)=false):
    Calls Tryz.prog 336 #[↑c.l,.pointer (some ⟨c.q,i*4,none⟩),.int .i64 ((i:Int)+1)] w (ft w c bud h i (⟨5,a,b,z⟩:Sp) (maP c.b.n bud h i (⟨5,a,b,z⟩:Sp))):=by have hn:=k.bn.bd.2;obtain⟨v,hv⟩:∃v,v=ldW h.ar.W (2+2*((i:Int)+1)):=⟨_,rfl⟩;have HX:Kq (maP c.b.n bud h i (⟨5,a,b,z⟩:Sp)=(ae h.ar (2+2*((i:Int)+1)),h.bn,h.d,(⟨5,a,b,z⟩:Sp))):=qh (by simp[maP,fh,(by simpa using h0:¬ldW h.ar.W (2+2*((i:Int)+1))=0)]);have HO:=λW (k:MaT w W c bud h)=>aC k.is.bn.ar (2+2*((i:Int)+1)) ho;rw[<-hv]at HO h0;replace HO:=qh HO;have HF:=qh (λW (k:MaT w W c bud h)=>pX k.is ((i:Int)+1) QX);clear hv;exact maN
end
end
section
open Go.RowKit
section
variable{w w' w0:World}{c:Mx}{bud:Int}{h:Mal}
theorem sm (k:bI w c bud h) (i:Nat) (hi:i<c.b.n) (a b z:Int) (hp:h.S[i]? =some (⟨11,a,b,z⟩:Sp)) (ho:h.ar.ops+1<=1000000000000):
    Calls Tryz.prog 337 #[↑c.l,.pointer (some ⟨c.q,i*4,none⟩),.int .i64 ((i:Int)+1)] w (ft w c bud h i (⟨11,a,b,z⟩:Sp) (maP c.b.n bud h i (⟨11,a,b,z⟩:Sp))):=by have hn:=k.bn.bd.2;obtain⟨v,hv⟩:∃v,v=(if inR h.ar.W 2 then IntKind.i64.wrap (ldW h.ar.W 2+1)else 0):=⟨_,rfl⟩;have HX:Kq (maP c.b.n bud h i (⟨11,a,b,z⟩:Sp)=(addA h.ar (2) 1,h.bn,h.d,(⟨12,a,b,v⟩:Sp))):=qh (by simp[maP,fh,dw,hv]);have HO:=λW (k:MaT w W c bud h)=>gY k.is.bn.ar (2) 1 ho;rw[<-hv]at HO;replace HO:=qh HO;have HJ:=qh (λW ar' (k:MaT w W c bud {h with ar:=ar'})=>k.sput (p':=(⟨11,a,b,v⟩:Sp)) hp (j:=3) (v:= .int .i64 v) QZ rfl);clear hv;exact maZ
theorem qD (k:bI w c bud h) (i:Nat) (hi:i<c.b.n) (a b z:Int) (hp:h.S[i]? =some (⟨12,a,b,z⟩:Sp)) (ho:h.ar.ops+1<=1000000000000) (h0:(ldW h.ar.W (1+2*((i:Int)+1)) !=0)=true) (h1:(z.tmod (bud+1) !=0)=true):
    Calls Tryz.prog 337 #[↑c.l,.pointer (some ⟨c.q,i*4,none⟩),.int .i64 ((i:Int)+1)] w (ft w c bud h i (⟨12,a,b,z⟩:Sp) (maP c.b.n bud h i (⟨12,a,b,z⟩:Sp))):=by
  have hn:=k.bn.bd.2;have e0:=k.sp.cell hp 0 _ rfl;simp only[Nat.add_zero]at e0;obtain⟨hb0,hb1⟩:=k.bb;have x5:IntKind.i64.wrap (bud+1)=bud+1:=IntWalk.i64_in _ QX;have x6:¬(bud+1)=0:=by omega
  have HN:=qh (show 1<=c.b.n by omega);obtain⟨ar',har⟩:∃s,s=ae h.ar (1+2*((i:Int)+1)):=⟨_,rfl⟩;obtain⟨v,hv⟩:∃v,v=ldW h.ar.W (1+2*((i:Int)+1)):=⟨_,rfl⟩;have HX:Kq (maP c.b.n bud h i (⟨12,a,b,z⟩:Sp)=(ar',h.bn,h.d,(⟨21,v,b,z⟩:Sp))):=qh (by simp[maP,fh,dw,har,hv,(by simpa using h0:¬ldW h.ar.W (1+2*((i:Int)+1))=0),(by simpa using h1:¬z.tmod (bud+1)=0)]);have HO0:=λW (k:MaT w W c bud h)=>aC k.is.bn.ar (1+2*((i:Int)+1)) ho;rw[<-har,<-hv]at HO0;rw[<-hv]at h0;have HO:=qh HO0;have HF:=qh (λW (k:MaT w W c bud h)=>iL k.is ((i:Int)+1) QX);have HC:=qh (λW (h:Mal) (u:Int) (k:MaT w W c bud h) (hp:h.S[i]? =some (⟨12,u,b,z⟩:Sp))=>show W.cell? c.l=some ↑c.b.a from k.is.ca);have HP:=qh hp;have K1:=qh (MaT.new k).drew;clear HO0 k hp har hv;go_enter Tryz.func337,Tryz.ntmps337;go_wp2_with fail
  go_region_held3 (λW=>W.cell? c.l=some ↑c.b.a)
    (first|with_reducible exact HC.o _ _ _ K1.o HP.o|with_reducible exact HC.o _ _ _ K2.o HP.o|with_reducible exact HC3.o)
    (first
      | (go_at_call 339;go_loud (refine(HF.o _ K1.o).mono ?_);rintro en w2 ⟨rfl,rfl⟩)
      | (go_at_call 173;go_loud (refine(HO.o _ K1.o).mono ?_);rintro en w3 ⟨rfl,a3,t3⟩;have K2:=qh (K1.o.op t3 a3);have K3:=qh (K2.o.sput (p':=(⟨12,v,b,z⟩:Sp)) HP.o (j:=1) (v:= .int .i64 v) QZ rfl);have HC3:=qh (HC.o _ _ v K3.o (au HP.o _));have e1:=K2.o.is.sp.cell HP.o 1 _ rfl;have z1:=K2.o.is.sp.free (i*4+1);clear a3 t3))
  have e4:=K3.o.is.sp.cell (au HP.o _) 3 _ rfl;have e5:=K3.o.is.cb;go_wp2;go_quiet (fail);go_wp2;go_ret;rw[HX.o];exact⟨rfl,K3.o.below (Qt.below ⟨_,rfl⟩ _)⟩
theorem qC (k:bI w c bud h) (i:Nat) (hi:i<c.b.n) (a b z:Int) (hp:h.S[i]? =some (⟨12,a,b,z⟩:Sp)) (ho:h.ar.ops+1<=1000000000000) (h0:(ldW h.ar.W (1+2*((i:Int)+1)) !=0)=true) (h1:(z.tmod (bud+1) !=0)=false):
    Calls Tryz.prog 337 #[↑c.l,.pointer (some ⟨c.q,i*4,none⟩),.int .i64 ((i:Int)+1)] w (ft w c bud h i (⟨12,a,b,z⟩:Sp) (maP c.b.n bud h i (⟨12,a,b,z⟩:Sp))):=by
  have hn:=k.bn.bd.2;have e0:=k.sp.cell hp 0 _ rfl;simp only[Nat.add_zero]at e0;obtain⟨hb0,hb1⟩:=k.bb;have x5:IntKind.i64.wrap (bud+1)=bud+1:=IntWalk.i64_in _ QX;have x6:¬(bud+1)=0:=by omega
  have HN:=qh (show 1<=c.b.n by omega);obtain⟨ar',har⟩:∃s,s=ae h.ar (1+2*((i:Int)+1)):=⟨_,rfl⟩;obtain⟨v,hv⟩:∃v,v=ldW h.ar.W (1+2*((i:Int)+1)):=⟨_,rfl⟩;have HX:Kq (maP c.b.n bud h i (⟨12,a,b,z⟩:Sp)=(ar',bnB c.b.n h.bn 5 1,h.d,(⟨13,v,b,z⟩:Sp))):=qh (by simp[maP,fh,dw,har,hv,(by simpa using h1:z.tmod (bud+1)=0)]);have HO0:=λW (k:MaT w W c bud h)=>aC k.is.bn.ar (1+2*((i:Int)+1)) ho;rw[<-har,<-hv]at HO0;rw[<-hv]at h0;have HO:=qh HO0;have HF:=qh (λW (k:MaT w W c bud h)=>iL k.is ((i:Int)+1) QX);have HC:=qh (λW (h:Mal) (u:Int) (k:MaT w W c bud h) (hp:h.S[i]? =some (⟨12,u,b,z⟩:Sp))=>show W.cell? c.l=some ↑c.b.a from k.is.ca);have HP:=qh hp;have K1:=qh (MaT.new k).drew;clear HO0 k hp har hv;go_enter Tryz.func337,Tryz.ntmps337;go_wp2_with fail
  go_region_held3 (λW=>W.cell? c.l=some ↑c.b.a)
    (first|with_reducible exact HC.o _ _ _ K1.o HP.o|with_reducible exact HC.o _ _ _ K2.o HP.o|with_reducible exact HC3.o)
    (first
      | (go_at_call 339;go_loud (refine(HF.o _ K1.o).mono ?_);rintro en w2 ⟨rfl,rfl⟩)
      | (go_at_call 173;go_loud (refine(HO.o _ K1.o).mono ?_);rintro en w3 ⟨rfl,a3,t3⟩;have K2:=qh (K1.o.op t3 a3);have K3:=qh (K2.o.sput (p':=(⟨12,v,b,z⟩:Sp)) HP.o (j:=1) (v:= .int .i64 v) QZ rfl);have HC3:=qh (HC.o _ _ v K3.o (au HP.o _));have e1:=K2.o.is.sp.cell HP.o 1 _ rfl;have z1:=K2.o.is.sp.free (i*4+1);clear a3 t3))
  have e4:=K3.o.is.sp.cell (au HP.o _) 3 _ rfl;have e5:=K3.o.is.cb;go_wp2;go_quiet (fail);have HK4:=qh (λm=>K3.o.below (Qt.below ⟨m,rfl⟩ _));have e6:=K3.o.is.ck;go_wp2_with fail;refine(DT (HK4.o _).is.bn HN.o).mono ?_;rintro en w6 ⟨⟨vb,rfl⟩,k6⟩;have K6:=qh ((HK4.o _).bn k6.tn k6.is);clear k6;go_wp2;go_ret;rw[HX.o];exact⟨rfl,K6.o⟩
theorem qE (k:bI w c bud h) (i:Nat) (hi:i<c.b.n) (a b z:Int) (hp:h.S[i]? =some (⟨12,a,b,z⟩:Sp)) (ho:h.ar.ops+1<=1000000000000) (h0:(ldW h.ar.W (1+2*((i:Int)+1)) !=0)=false):
    Calls Tryz.prog 337 #[↑c.l,.pointer (some ⟨c.q,i*4,none⟩),.int .i64 ((i:Int)+1)] w (ft w c bud h i (⟨12,a,b,z⟩:Sp) (maP c.b.n bud h i (⟨12,a,b,z⟩:Sp))):=by
  have hn:=k.bn.bd.2;have e0:=k.sp.cell hp 0 _ rfl;simp only[Nat.add_zero]at e0;obtain⟨hb0,hb1⟩:=k.bb;have x5:IntKind.i64.wrap (bud+1)=bud+1:=IntWalk.i64_in _ QX;have x6:¬(bud+1)=0:=by omega
  have HN:=qh (show 1<=c.b.n by omega);obtain⟨ar',har⟩:∃s,s=ae h.ar (1+2*((i:Int)+1)):=⟨_,rfl⟩;obtain⟨v,hv⟩:∃v,v=ldW h.ar.W (1+2*((i:Int)+1)):=⟨_,rfl⟩;have HX:Kq (maP c.b.n bud h i (⟨12,a,b,z⟩:Sp)=(ar',bnB c.b.n h.bn 5 1,h.d,(⟨13,v,b,z⟩:Sp))):=qh (by simp[maP,fh,dw,har,hv,(by simpa using h0:ldW h.ar.W (1+2*((i:Int)+1))=0)]);have HO0:=λW (k:MaT w W c bud h)=>aC k.is.bn.ar (1+2*((i:Int)+1)) ho;rw[<-har,<-hv]at HO0;rw[<-hv]at h0;have HO:=qh HO0;have HF:=qh (λW (k:MaT w W c bud h)=>iL k.is ((i:Int)+1) QX);have HC:=qh (λW (h:Mal) (u:Int) (k:MaT w W c bud h) (hp:h.S[i]? =some (⟨12,u,b,z⟩:Sp))=>show W.cell? c.l=some ↑c.b.a from k.is.ca);have HP:=qh hp;have K1:=qh (MaT.new k).drew;clear HO0 k hp har hv;go_enter Tryz.func337,Tryz.ntmps337;go_wp2_with fail
  go_region_held3 (λW=>W.cell? c.l=some ↑c.b.a)
    (first|with_reducible exact HC.o _ _ _ K1.o HP.o|with_reducible exact HC.o _ _ _ K2.o HP.o|with_reducible exact HC3.o)
    (first
      | (go_at_call 339;go_loud (refine(HF.o _ K1.o).mono ?_);rintro en w2 ⟨rfl,rfl⟩)
      | (go_at_call 173;go_loud (refine(HO.o _ K1.o).mono ?_);rintro en w3 ⟨rfl,a3,t3⟩;have K2:=qh (K1.o.op t3 a3);have K3:=qh (K2.o.sput (p':=(⟨12,v,b,z⟩:Sp)) HP.o (j:=1) (v:= .int .i64 v) QZ rfl);have HC3:=qh (HC.o _ _ v K3.o (au HP.o _));have e1:=K2.o.is.sp.cell HP.o 1 _ rfl;have z1:=K2.o.is.sp.free (i*4+1);clear a3 t3))
  have e4:=K3.o.is.sp.cell (au HP.o _) 3 _ rfl;have e5:=K3.o.is.cb;go_wp2;go_quiet (fail);have HK4:=qh (λm=>K3.o.below (Qt.below ⟨m,rfl⟩ _));have e6:=K3.o.is.ck;go_wp2_with fail;refine(DT (HK4.o _).is.bn HN.o).mono ?_;rintro en w6 ⟨⟨vb,rfl⟩,k6⟩;have K6:=qh ((HK4.o _).bn k6.tn k6.is);clear k6;go_wp2;go_ret;rw[HX.o];exact⟨rfl,K6.o⟩
theorem sq (k:bI w c bud h) (i:Nat) (hi:i<c.b.n) (a b z:Int) (hp:h.S[i]? =some (⟨14,a,b,z⟩:Sp)) (ho:h.ar.ops+1<=1000000000000) (hb:0<=b/\b<=c.b.n):
    Calls Tryz.prog 337 #[↑c.l,.pointer (some ⟨c.q,i*4,none⟩),.int .i64 ((i:Int)+1)] w (ft w c bud h i (⟨14,a,b,z⟩:Sp) (maP c.b.n bud h i (⟨14,a,b,z⟩:Sp))):=by have hn:=k.bn.bd.2;have HX:Kq (maP c.b.n bud h i (⟨14,a,b,z⟩:Sp)=(ac h.ar (1+2*b) a,h.bn,h.d,(⟨18,a,b,z⟩:Sp))):=qh Rq;have HO:=λW (k:MaT w W c bud h)=>am k.is.bn.ar (1+2*b) a ho;replace HO:=qh HO;have HF:=qh (λW (k:MaT w W c bud h)=>iL k.is (b) QX);exact maN
theorem sr (k:bI w c bud h) (i:Nat) (hi:i<c.b.n) (a b z:Int) (hp:h.S[i]? =some (⟨15,a,b,z⟩:Sp)) (ho:h.ar.ops+1<=1000000000000) (hb:0<=b/\b<=c.b.n):
    Calls Tryz.prog 337 #[↑c.l,.pointer (some ⟨c.q,i*4,none⟩),.int .i64 ((i:Int)+1)] w (ft w c bud h i (⟨15,a,b,z⟩:Sp) (maP c.b.n bud h i (⟨15,a,b,z⟩:Sp))):=by have hn:=k.bn.bd.2;have HX:Kq (maP c.b.n bud h i (⟨15,a,b,z⟩:Sp)=(ac h.ar (1+2*b) 0,h.bn,h.d,(⟨16,a,b,z⟩:Sp))):=qh Rq;have HO:=λW (k:MaT w W c bud h)=>am k.is.bn.ar (1+2*b) 0 ho;replace HO:=qh HO;have HF:=qh (λW (k:MaT w W c bud h)=>iL k.is (b) QX);exact maN
theorem su (k:bI w c bud h) (i:Nat) (hi:i<c.b.n) (a b z:Int) (hp:h.S[i]? =some (⟨16,a,b,z⟩:Sp)) (ho:h.ar.ops+1<=1000000000000):
    Calls Tryz.prog 337 #[↑c.l,.pointer (some ⟨c.q,i*4,none⟩),.int .i64 ((i:Int)+1)] w (ft w c bud h i (⟨16,a,b,z⟩:Sp) (maP c.b.n bud h i (⟨16,a,b,z⟩:Sp))):=by have hn:=k.bn.bd.2;obtain⟨v,hv⟩:∃v,v=cl h.ar 1 ((i:Int)+1):=⟨_,rfl⟩;have HX:Kq (maP c.b.n bud h i (⟨16,a,b,z⟩:Sp)=(dO h.ar (1) ((i:Int)+1) b,h.bn,h.d,(⟨if v then 18 else 17,a,b,z⟩:Sp))):=qh (by rw[hv];simp[maP,fh,dw]);have HO:=λW (k:MaT w W c bud h)=>i1 k.is.bn.ar (1) ((i:Int)+1) b ho;rw[<-hv]at HO;replace HO:=qh HO;clear hv;cases v<;>exact maN
theorem Ds (k:MaT w0 w c bud h){i:Nat}{a b z:Int}(hp:h.S[i]? =some (⟨13,a,b,z⟩:Sp)):Calls Tryz.prog 343 #[↑c.l,.pointer (some ⟨c.q,i*4,none⟩)] w λe w'=>e= .returned (.int .i64 (mb a h.bn.got))/\MaT w0 w' c bud {h with S:=h.S.set i (⟨13,a,h.bn.got,z⟩:Sp)}:=by
 have c3:=k.is.ck;have e1:=k.is.sp.cell hp 1 _ rfl;have e2:=k.is.sp.cell hp 2 _ rfl;have z2:=k.is.sp.free (i*4+2);have hk:=k.is.sp.lt;obtain⟨g,hg⟩:∃g,g=h.bn.got:=⟨_,rfl⟩;have HG0:=Ht k.is.bn;rw[<-hg]at HG0 ⊢;have HG:=qh HG0;have K:=qh (k.sput (p':=(⟨13,a,g,z⟩:Sp)) hp (j:=2) (v:= .int .i64 g) QZ rfl);clear k hp hg HG0;cases g0:(g==0);all_goals cases a0:(a==0)
 all_goals
  have HT:Kq (mb a g=if g==0 then(if a==0 then 19 else 21)else if a==0 then 15 else 14):=qh (by unfold mb;simp);go_enter Tryz.func343,Tryz.ntmps343;go_wp2_with fail;refine HG.o.mono ?_;rintro en w1 ⟨rfl,rfl⟩;go_wp2;try go_quiet (fail)
  go_wp2;go_ret;first|exact⟨by rw[HT.o];simp[g0,a0],K.o⟩|exact⟨by rw[HT.o];simp[g0,a0],K.o.below (Qt.below ⟨_,rfl⟩ _)⟩
end
end
section
open Go.RowKit
section
variable{w w' w0:World}{c:Mx}{bud:Int}{h:Mal}
theorem qG (k:bI w c bud h) (i:Nat) (hi:i<c.b.n) (a b z:Int) (hp:h.S[i]? =some (⟨17,a,b,z⟩:Sp)) (ho:h.ar.ops+1<=1000000000000) (h0:(ldW h.ar.W (1+2*((i:Int)+1))==0)=false):
    Calls Tryz.prog 338 #[↑c.l,.pointer (some ⟨c.q,i*4,none⟩),.int .i64 ((i:Int)+1)] w (ft w c bud h i (⟨17,a,b,z⟩:Sp) (maP c.b.n bud h i (⟨17,a,b,z⟩:Sp))):=by have hn:=k.bn.bd.2;obtain⟨v,hv⟩:∃v,v=ldW h.ar.W (1+2*((i:Int)+1)):=⟨_,rfl⟩;have HX:Kq (maP c.b.n bud h i (⟨17,a,b,z⟩:Sp)=(ae h.ar (1+2*((i:Int)+1)),h.bn,h.d,(⟨14,v,b,z⟩:Sp))):=qh Se;have HO:=λW (k:MaT w W c bud h)=>aC k.is.bn.ar (1+2*((i:Int)+1)) ho;rw[<-hv]at HO h0;replace HO:=qh HO;have HF:=qh (λW (k:MaT w W c bud h)=>iL k.is ((i:Int)+1) QX);have HJ:=qh (λW ar' (k:MaT w W c bud {h with ar:=ar'})=>k.sput (p':=(⟨17,v,b,z⟩:Sp)) hp (j:=1) (v:= .int .i64 v) QZ rfl);clear hv;exact maA
theorem qF (k:bI w c bud h) (i:Nat) (hi:i<c.b.n) (a b z:Int) (hp:h.S[i]? =some (⟨17,a,b,z⟩:Sp)) (ho:h.ar.ops+1<=1000000000000) (h0:(ldW h.ar.W (1+2*((i:Int)+1))==0)=true):
    Calls Tryz.prog 338 #[↑c.l,.pointer (some ⟨c.q,i*4,none⟩),.int .i64 ((i:Int)+1)] w (ft w c bud h i (⟨17,a,b,z⟩:Sp) (maP c.b.n bud h i (⟨17,a,b,z⟩:Sp))):=by have hn:=k.bn.bd.2;obtain⟨v,hv⟩:∃v,v=ldW h.ar.W (1+2*((i:Int)+1)):=⟨_,rfl⟩;have HX:Kq (maP c.b.n bud h i (⟨17,a,b,z⟩:Sp)=(ae h.ar (1+2*((i:Int)+1)),h.bn,h.d,(⟨17,v,b,z⟩:Sp))):=qh Sf;have HO:=λW (k:MaT w W c bud h)=>aC k.is.bn.ar (1+2*((i:Int)+1)) ho;rw[<-hv]at HO h0;replace HO:=qh HO;have HF:=qh (λW (k:MaT w W c bud h)=>iL k.is ((i:Int)+1) QX);have HJ:=qh (λW ar' (k:MaT w W c bud {h with ar:=ar'})=>k.sput (p':=(⟨17,v,b,z⟩:Sp)) hp (j:=1) (v:= .int .i64 v) QZ rfl);clear hv;exact maA
theorem qI (k:bI w c bud h) (i:Nat) (hi:i<c.b.n) (a b z:Int) (hp:h.S[i]? =some (⟨20,a,b,z⟩:Sp)) (ho:h.ar.ops+1<=1000000000000) (h0:(ldW h.ar.W (1+2*((i:Int)+1))==0)=false):
    Calls Tryz.prog 338 #[↑c.l,.pointer (some ⟨c.q,i*4,none⟩),.int .i64 ((i:Int)+1)] w (ft w c bud h i (⟨20,a,b,z⟩:Sp) (maP c.b.n bud h i (⟨20,a,b,z⟩:Sp))):=by have hn:=k.bn.bd.2;obtain⟨v,hv⟩:∃v,v=ldW h.ar.W (1+2*((i:Int)+1)):=⟨_,rfl⟩;have HX:Kq (maP c.b.n bud h i (⟨20,a,b,z⟩:Sp)=(ae h.ar (1+2*((i:Int)+1)),h.bn,h.d,(⟨21,v,b,z⟩:Sp))):=qh Se;have HO:=λW (k:MaT w W c bud h)=>aC k.is.bn.ar (1+2*((i:Int)+1)) ho;rw[<-hv]at HO h0;replace HO:=qh HO;have HF:=qh (λW (k:MaT w W c bud h)=>iL k.is ((i:Int)+1) QX);have HJ:=qh (λW ar' (k:MaT w W c bud {h with ar:=ar'})=>k.sput (p':=(⟨20,v,b,z⟩:Sp)) hp (j:=1) (v:= .int .i64 v) QZ rfl);clear hv;exact maA
theorem qH (k:bI w c bud h) (i:Nat) (hi:i<c.b.n) (a b z:Int) (hp:h.S[i]? =some (⟨20,a,b,z⟩:Sp)) (ho:h.ar.ops+1<=1000000000000) (h0:(ldW h.ar.W (1+2*((i:Int)+1))==0)=true):
    Calls Tryz.prog 338 #[↑c.l,.pointer (some ⟨c.q,i*4,none⟩),.int .i64 ((i:Int)+1)] w (ft w c bud h i (⟨20,a,b,z⟩:Sp) (maP c.b.n bud h i (⟨20,a,b,z⟩:Sp))):=by have hn:=k.bn.bd.2;obtain⟨v,hv⟩:∃v,v=ldW h.ar.W (1+2*((i:Int)+1)):=⟨_,rfl⟩;have HX:Kq (maP c.b.n bud h i (⟨20,a,b,z⟩:Sp)=(ae h.ar (1+2*((i:Int)+1)),h.bn,h.d,(⟨20,v,b,z⟩:Sp))):=qh Sf;have HO:=λW (k:MaT w W c bud h)=>aC k.is.bn.ar (1+2*((i:Int)+1)) ho;rw[<-hv]at HO h0;replace HO:=qh HO;have HF:=qh (λW (k:MaT w W c bud h)=>iL k.is ((i:Int)+1) QX);have HJ:=qh (λW ar' (k:MaT w W c bud {h with ar:=ar'})=>k.sput (p':=(⟨20,v,b,z⟩:Sp)) hp (j:=1) (v:= .int .i64 v) QZ rfl);clear hv;exact maA
theorem sw (k:bI w c bud h) (i:Nat) (hi:i<c.b.n) (a b z:Int) (hp:h.S[i]? =some (⟨18,a,b,z⟩:Sp)) (ho:h.ar.ops+1<=1000000000000) (hb:0<=b/\b<=c.b.n):
    Calls Tryz.prog 338 #[↑c.l,.pointer (some ⟨c.q,i*4,none⟩),.int .i64 ((i:Int)+1)] w (ft w c bud h i (⟨18,a,b,z⟩:Sp) (maP c.b.n bud h i (⟨18,a,b,z⟩:Sp))):=by have hn:=k.bn.bd.2;have HX:Kq (maP c.b.n bud h i (⟨18,a,b,z⟩:Sp)=(ac h.ar (2+2*b) 0,h.bn,h.d,(⟨0,a,b,z⟩:Sp))):=qh Rq;have HO:=λW (k:MaT w W c bud h)=>am k.is.bn.ar (2+2*b) 0 ho;replace HO:=qh HO;have HF:=qh (λW (k:MaT w W c bud h)=>pX k.is (b) QX);exact maN
theorem sB (k:bI w c bud h) (i:Nat) (hi:i<c.b.n) (a b z:Int) (hp:h.S[i]? =some (⟨24,a,b,z⟩:Sp)) (ho:h.ar.ops+1<=1000000000000) (ha:0<=a/\a<=c.b.n):
    Calls Tryz.prog 338 #[↑c.l,.pointer (some ⟨c.q,i*4,none⟩),.int .i64 ((i:Int)+1)] w (ft w c bud h i (⟨24,a,b,z⟩:Sp) (maP c.b.n bud h i (⟨24,a,b,z⟩:Sp))):=by have hn:=k.bn.bd.2;have HX:Kq (maP c.b.n bud h i (⟨24,a,b,z⟩:Sp)=(ac h.ar (2+2*a) 0,h.bn,h.d,(⟨0,a,b,z⟩:Sp))):=qh Rq;have HO:=λW (k:MaT w W c bud h)=>am k.is.bn.ar (2+2*a) 0 ho;replace HO:=qh HO;have HF:=qh (λW (k:MaT w W c bud h)=>pX k.is (a) QX);exact maN
theorem sA (k:bI w c bud h) (i:Nat) (hi:i<c.b.n) (a b z:Int) (hp:h.S[i]? =some (⟨23,a,b,z⟩:Sp)) (ho:h.ar.ops+1<=1000000000000) (hd0:0<=h.d/\h.d<=c.b.n):
    Calls Tryz.prog 338 #[↑c.l,.pointer (some ⟨c.q,i*4,none⟩),.int .i64 ((i:Int)+1)] w (ft w c bud h i (⟨23,a,b,z⟩:Sp) (maP c.b.n bud h i (⟨23,a,b,z⟩:Sp))):=by have hn:=k.bn.bd.2;have HX:Kq (maP c.b.n bud h i (⟨23,a,b,z⟩:Sp)=(ac h.ar (2+2*h.d) 0,h.bn,h.d,(⟨0,a,b,z⟩:Sp))):=qh Rq;have HO:=λW (k:MaT w W c bud h)=>am k.is.bn.ar (2+2*h.d) 0 ho;replace HO:=qh HO;have HF:=qh (λW (k:MaT w W c bud h)=>pX k.is (h.d) QX);exact maN
theorem sx (k:bI w c bud h) (i:Nat) (hi:i<c.b.n) (a b z:Int) (hp:h.S[i]? =some (⟨19,a,b,z⟩:Sp)) (ho:h.ar.ops+1<=1000000000000):
    Calls Tryz.prog 338 #[↑c.l,.pointer (some ⟨c.q,i*4,none⟩),.int .i64 ((i:Int)+1)] w (ft w c bud h i (⟨19,a,b,z⟩:Sp) (maP c.b.n bud h i (⟨19,a,b,z⟩:Sp))):=by have hn:=k.bn.bd.2;obtain⟨v,hv⟩:∃v,v=cl h.ar 1 ((i:Int)+1):=⟨_,rfl⟩;have HX:Kq (maP c.b.n bud h i (⟨19,a,b,z⟩:Sp)=(dO h.ar (1) ((i:Int)+1) 0,h.bn,h.d,(⟨if v then 0 else 20,a,b,z⟩:Sp))):=qh (by rw[hv];simp[maP,fh,dw]);have HO:=λW (k:MaT w W c bud h)=>i1 k.is.bn.ar (1) ((i:Int)+1) 0 ho;rw[<-hv]at HO;replace HO:=qh HO;clear hv;cases v<;>exact maN
theorem qK (k:bI w c bud h) (i:Nat) (hi:i<c.b.n) (a b z:Int) (hp:h.S[i]? =some (⟨21,a,b,z⟩:Sp)) (ho:h.ar.ops+1<=1000000000000) (ha:0<=a/\a<=c.b.n) (h0:(ldW h.ar.W (1+2*a)==0)=true):
    Calls Tryz.prog 338 #[↑c.l,.pointer (some ⟨c.q,i*4,none⟩),.int .i64 ((i:Int)+1)] w (ft w c bud h i (⟨21,a,b,z⟩:Sp) (maP c.b.n bud h i (⟨21,a,b,z⟩:Sp))):=by
  have hn:=k.bn.bd.2;have e0:=k.sp.cell hp 0 _ rfl;simp only[Nat.add_zero]at e0;obtain⟨ar',har⟩:∃s,s=ae h.ar (1+2*a):=⟨_,rfl⟩;obtain⟨v,hv⟩:∃v,v=ldW h.ar.W (1+2*a):=⟨_,rfl⟩;have HX:Kq (maP c.b.n bud h i (⟨21,a,b,z⟩:Sp)=(ar',h.bn,0,(⟨24,a,b,z⟩:Sp))):=qh (by simp[maP,fh,dw,har,(by simpa using h0:ldW h.ar.W (1+2*a)=0)]);have HO0:=λW (k:MaT w W c bud h)=>aC k.is.bn.ar (1+2*a) ho;rw[<-har,<-hv]at HO0;rw[<-hv]at h0;have HZ:=qh h0;have HA:=qh ha;have HO:=qh HO0;have HF:=qh (λW (k:MaT w W c bud h)=>iL k.is (a) QX);have HC:=qh (λW (h:Mal) (k:MaT w W c bud h) (hp:h.S[i]? =some (⟨21,a,b,z⟩:Sp))=>show W.cell? c.l=some ↑c.b.a/\W.cell? ⟨c.q,i*4+1,none⟩=some (.int .i64 a)from⟨k.is.ca,(k.is.sp.cell hp 1 _ rfl)⟩);have HP:=qh hp;have K1:=qh (MaT.new k).drew;clear HO0 k hp har hv;go_enter Tryz.func338,Tryz.ntmps338;go_wp2_with fail
  go_region_held3 (λW=>W.cell? c.l=some ↑c.b.a/\W.cell? ⟨c.q,i*4+1,none⟩=some (.int .i64 a))
    (first|with_reducible exact HC.o _ _ K1.o HP.o|with_reducible exact HC.o _ _ K2.o HP.o|with_reducible exact HC3.o)
    (first
      | (go_at_call 339;go_loud (refine(HF.o _ K1.o).mono ?_);rintro en w2 ⟨rfl,rfl⟩)
      | (go_at_call 173;go_loud (refine(HO.o _ K1.o).mono ?_);rintro en w3 ⟨rfl,a3,t3⟩;have K2:=qh (K1.o.op t3 a3);have K3:=qh (K2.o.dput v);have HC3:=qh (HC.o _ _ K3.o HP.o);have e1:=K2.o.is.cd;have z1:=K2.o.is.lk.free 4;clear a3 t3))
  go_wp2;go_ret;rw[HX.o];have hz:v=0:=by simpa using HZ.o
  have K4:=K3.o;rw[hz]at K4;exact⟨rfl,hz ▸ K3.o.samS HP.o⟩
theorem qJ (k:bI w c bud h) (i:Nat) (hi:i<c.b.n) (a b z:Int) (hp:h.S[i]? =some (⟨21,a,b,z⟩:Sp)) (ho:h.ar.ops+1<=1000000000000) (ha:0<=a/\a<=c.b.n) (h0:(ldW h.ar.W (1+2*a)==0)=false):
    Calls Tryz.prog 338 #[↑c.l,.pointer (some ⟨c.q,i*4,none⟩),.int .i64 ((i:Int)+1)] w (ft w c bud h i (⟨21,a,b,z⟩:Sp) (maP c.b.n bud h i (⟨21,a,b,z⟩:Sp))):=by
  have hn:=k.bn.bd.2;have e0:=k.sp.cell hp 0 _ rfl;simp only[Nat.add_zero]at e0;obtain⟨ar',har⟩:∃s,s=ae h.ar (1+2*a):=⟨_,rfl⟩;obtain⟨v,hv⟩:∃v,v=ldW h.ar.W (1+2*a):=⟨_,rfl⟩;have HX:Kq (maP c.b.n bud h i (⟨21,a,b,z⟩:Sp)=(ar',bnB c.b.n h.bn 1 a,v,(⟨22,a,b,z⟩:Sp))):=qh (by rw[hv];simp[maP,fh,dw,har,(by simpa using h0:¬ldW h.ar.W (1+2*a)=0)]);have HO0:=λW (k:MaT w W c bud h)=>aC k.is.bn.ar (1+2*a) ho;rw[<-har,<-hv]at HO0;rw[<-hv]at h0;have HZ:=qh h0;have HA:=qh ha;have HO:=qh HO0;have HF:=qh (λW (k:MaT w W c bud h)=>iL k.is (a) QX);have HC:=qh (λW (h:Mal) (k:MaT w W c bud h) (hp:h.S[i]? =some (⟨21,a,b,z⟩:Sp))=>show W.cell? c.l=some ↑c.b.a/\W.cell? ⟨c.q,i*4+1,none⟩=some (.int .i64 a)from⟨k.is.ca,(k.is.sp.cell hp 1 _ rfl)⟩);have HP:=qh hp;have K1:=qh (MaT.new k).drew;clear HO0 k hp har hv;go_enter Tryz.func338,Tryz.ntmps338;go_wp2_with fail
  go_region_held3 (λW=>W.cell? c.l=some ↑c.b.a/\W.cell? ⟨c.q,i*4+1,none⟩=some (.int .i64 a))
    (first|with_reducible exact HC.o _ _ K1.o HP.o|with_reducible exact HC.o _ _ K2.o HP.o|with_reducible exact HC3.o)
    (first
      | (go_at_call 339;go_loud (refine(HF.o _ K1.o).mono ?_);rintro en w2 ⟨rfl,rfl⟩)
      | (go_at_call 173;go_loud (refine(HO.o _ K1.o).mono ?_);rintro en w3 ⟨rfl,a3,t3⟩;have K2:=qh (K1.o.op t3 a3);have K3:=qh (K2.o.dput v);have HC3:=qh (HC.o _ _ K3.o HP.o);have e1:=K2.o.is.cd;have z1:=K2.o.is.lk.free 4;clear a3 t3))
  have e5:=K3.o.is.ck;have e6:=K3.o.is.sp.cell HP.o 1 _ rfl;go_wp2_with fail;have K3d:=qh K3.o.drew;have HPd:=qh (λW (k:MaT w W c bud {h with ar:=ar',d:=v})=>Id k.is.bn a HA.o)
  go_region_held3 (λW=>W.cell? ⟨c.l,3,none⟩=some ↑c.b.k/\W.cell? ⟨c.q,i*4+1,none⟩=some (.int .i64 a))
    (first|with_reducible exact⟨K3d.o.is.ck,K3d.o.is.sp.cell HP.o 1 _ rfl⟩|with_reducible exact⟨K6.o.is.ck,K6.o.is.sp.cell HP.o 1 _ rfl⟩)
    (first
      | (go_at_call 344;go_loud (refine(HPd.o _ K3d.o).mono ?_);rintro en w6 ⟨⟨vb,rfl⟩,k6⟩;have K6:=qh (K3d.o.bn k6.tn k6.is);clear k6))
  go_wp2;go_ret;rw[HX.o];exact⟨rfl,K6.o.samS HP.o⟩
theorem so (k:bI w c bud h) (i:Nat) (hi:i<c.b.n) (a b z:Int) (hp:h.S[i]? =some (⟨13,a,b,z⟩:Sp)) (ho:h.ar.ops+1<=1000000000000) (hw:BS c.b.n c.b.F h.ar.W) (hF:(c.b.F:Int)=maF c.b.n):
    Calls Tryz.prog 337 #[↑c.l,.pointer (some ⟨c.q,i*4,none⟩),.int .i64 ((i:Int)+1)] w (ft w c bud h i (⟨13,a,b,z⟩:Sp) (maP c.b.n bud h i (⟨13,a,b,z⟩:Sp))):=by
  have e0:=k.sp.cell hp 0 _ rfl;have e3:=k.ck;simp only[Nat.add_zero]at e0;have HS0:=DP k.bn hw ho;obtain⟨r,hr⟩:∃r,r=bnS c.b.F h.ar h.bn:=⟨_,rfl⟩;obtain⟨r1,r2,r3⟩:=r;rw[<-hr]at HS0;have HS:=qh HS0;have HR:=qh hr;have HF:=qh hF;have K:=qh (And.intro (MaT.new k) hp);clear k hp hw HS0 hr hF;cases r3;· have HX:Kq (maP c.b.n bud h i (⟨13,a,b,z⟩:Sp)=(r1,r2,h.d,(⟨13,a,b,z⟩:Sp))):=qh RH;go_enter Tryz.func337,Tryz.ntmps337;go_wp2_with fail;refine HS.o.mono ?_;rintro en w1 ⟨rfl,k1⟩;have K1:=qh ((K.o.1.bn k1.tn k1.is).samS K.o.2);clear k1;go_wp2;go_ret;rw[HX.o];exact⟨rfl,K1.o⟩
  · have HX:Kq (maP c.b.n bud h i (⟨13,a,b,z⟩:Sp)=(r1,r2,h.d,⟨mb a r2.got,a,r2.got,z⟩)):=qh RH;go_enter Tryz.func337,Tryz.ntmps337;go_wp2_with fail;refine HS.o.mono ?_;rintro en w1 ⟨rfl,k1⟩;have K1:=qh (K.o.1.bn k1.tn k1.is);clear k1;go_wp2_with fail;refine(Ds K1.o K.o.2).mono ?_;rintro en w2 ⟨rfl,k2⟩;have K2:=qh k2;clear k2;go_wp2;go_ret;rw[HX.o];exact⟨rfl,K2.o⟩
theorem sy (k:bI w c bud h) (i:Nat) (hi:i<c.b.n) (a b z:Int) (hp:h.S[i]? =some (⟨22,a,b,z⟩:Sp)) (ho:h.ar.ops+1<=1000000000000) (hw:BS c.b.n c.b.F h.ar.W) (hF:(c.b.F:Int)=maF c.b.n):
    Calls Tryz.prog 338 #[↑c.l,.pointer (some ⟨c.q,i*4,none⟩),.int .i64 ((i:Int)+1)] w (ft w c bud h i (⟨22,a,b,z⟩:Sp) (maP c.b.n bud h i (⟨22,a,b,z⟩:Sp))):=by
  have e0:=k.sp.cell hp 0 _ rfl;have e3:=k.ck;simp only[Nat.add_zero]at e0;have HS0:=DP k.bn hw ho;obtain⟨r,hr⟩:∃r,r=bnS c.b.F h.ar h.bn:=⟨_,rfl⟩;obtain⟨r1,r2,r3⟩:=r;rw[<-hr]at HS0;have HS:=qh HS0;have HR:=qh hr;have HF:=qh hF;have K:=qh (And.intro (MaT.new k) hp);clear k hp hw HS0 hr hF;cases r3;· have HX:Kq (maP c.b.n bud h i (⟨22,a,b,z⟩:Sp)=(r1,r2,h.d,(⟨22,a,b,z⟩:Sp))):=qh RH;go_enter Tryz.func338,Tryz.ntmps338;go_wp2_with fail;refine HS.o.mono ?_;rintro en w1 ⟨rfl,k1⟩;have K1:=qh ((K.o.1.bn k1.tn k1.is).samS K.o.2);clear k1;go_wp2;go_ret;rw[HX.o];exact⟨rfl,K1.o⟩
  · have HX:Kq (maP c.b.n bud h i (⟨22,a,b,z⟩:Sp)=(r1,r2,h.d,(⟨23,a,b,z⟩:Sp))):=qh RH;go_enter Tryz.func338,Tryz.ntmps338;go_wp2_with fail;refine HS.o.mono ?_;rintro en w1 ⟨rfl,k1⟩;have K1:=qh ((K.o.1.bn k1.tn k1.is).samS K.o.2);clear k1;go_wp2;go_ret;rw[HX.o];exact⟨rfl,K1.o⟩
end
end
section
open Go.RowKit
section
variable{w w' w0:World}{c:Mx}{bud:Int}{h:Mal}
theorem MaS.vals{n:Nat}{h:Mal}(k:MaS n h){i:Nat}(hi:i<n):((0<=(sv h.S i).a/\(sv h.S i).a<=n)/\(0<=(sv h.S i).b/\(sv h.S i).b<=n))/\(0<=h.d/\h.d<=n)/\(∀F:Nat,(F:Int)=maF n->BS n F h.ar.W)/\((0<=(sv h.S i).pc/\(sv h.S i).pc<=5)\/(10<=(sv h.S i).pc/\(sv h.S i).pc<=24)):=
 ⟨k.i.sp i hi,k.i.vd,λF hF y hy=>k.i.vw y (by unfold maF at hF;omega),k.i.pcs i hi⟩
theorem Hu (k:bI w c bud h) (I:MaS c.b.n h) (hF:(c.b.F:Int)=maF c.b.n) (ho:h.ar.ops+1<=1000000000000) {i:Nat} (hi:i<c.b.n) {p:Sp} (hp:h.S[i]? =some p) (h0:¬(p.pc=0\/p.pc=10)):
    Calls Tryz.prog (if p.pc<10 then 336 else if p.pc<17 then 337 else 338) #[↑c.l,.pointer (some ⟨c.q,i*4,none⟩),.int .i64 ((i:Int)+1)] w (ft w c bud h i p (maP c.b.n bud h i p)):=by
  obtain⟨hv,hd,hw,hc⟩:=I.vals hi;have hp':=qX k.sl hi;rw[hp]at hp';injection hp' with hp';rw[<-hp']at hv hc;have hw':=hw _ hF;clear hp' hw I;obtain⟨pc,a,b,z⟩:=p;simp only at hv hc h0 ⊢;have:pc=1\/pc=2\/pc=3\/pc=4\/pc=5\/pc=11\/pc=12\/pc=13\/pc=14\/pc=15\/pc=16\/pc=17\/pc=18\/pc=19\/pc=20\/pc=21\/pc=22\/pc=23\/pc=24:=by omega
  rcases this with rfl|rfl|rfl|rfl|rfl|rfl|rfl|rfl|rfl|rfl|rfl|rfl|rfl|rfl|rfl|rfl|rfl|rfl|rfl
  · exact CZ k i hi a b z hp ho
  · exact C0 k i hi a b z hp ho
  · by_cases e:(ldW h.ar.W 1==0)=true;· exact AE k i hi a b z hp ho e
    · exact AD k i hi a b z hp ho Rf
  · exact C1 k i hi a b z hp ho hv.1
  · by_cases e:(ldW h.ar.W (2+2*((i:Int)+1))==0)=true;· exact AG k i hi a b z hp ho e
    · exact AF k i hi a b z hp ho Rf
  · exact sm k i hi a b z hp ho
  · by_cases e:(ldW h.ar.W (1+2*((i:Int)+1)) !=0)=true
    · by_cases e2:(z.tmod (bud+1) !=0)=true;· exact qD k i hi a b z hp ho e e2
      · exact qC k i hi a b z hp ho e (by simpa using e2)
    · exact qE k i hi a b z hp ho Rf
  · exact so k i hi a b z hp ho hw' hF
  · exact sq k i hi a b z hp ho hv.2
  · exact sr k i hi a b z hp ho hv.2
  · exact su k i hi a b z hp ho
  · by_cases e:(ldW h.ar.W (1+2*((i:Int)+1))==0)=false;· exact qG k i hi a b z hp ho e
    · exact qF k i hi a b z hp ho Rf
  · exact sw k i hi a b z hp ho hv.2
  · exact sx k i hi a b z hp ho
  · by_cases e:(ldW h.ar.W (1+2*((i:Int)+1))==0)=false;· exact qI k i hi a b z hp ho e
    · exact qH k i hi a b z hp ho Rf
  · by_cases e:(ldW h.ar.W (1+2*a)==0)=true;· exact qK k i hi a b z hp ho hv.1 e
    · exact qJ k i hi a b z hp ho hv.1 Rf
  · exact sy k i hi a b z hp ho hw' hF
  · exact sA k i hi a b z hp ho hd
  · exact sB k i hi a b z hp ho hv.1
theorem GP (k:bI w c bud h)(I:MaS c.b.n h)(hF:(c.b.F:Int)=maF c.b.n)(ho:h.ar.ops+1<=1000000000000)(i:Nat)(hi:i<c.b.n):Calls Tryz.prog 333 #[↑c.l,.int .i64 i] w (MOk w c bud (eJ c.b.n bud h i)):=by
 have hfield:=aK;have hn:=k.bn.bd.2;obtain⟨p,hpp⟩:∃p,p=sv h.S i:=⟨_,rfl⟩;have hp:=qX k.sl hi;rw[<-hpp]at hp;have HSP0:=Bs k i hi;rw[<-hpp]at HSP0;unfold aE at HSP0;have HSP:=qh HSP0;have hql:=k.sp.lt;have HK:=qh (And.intro (MaT.new k) hp);by_cases h0:p.pc=0\/p.pc=10
 ·have HX:=qh (show eJ c.b.n bud h i=(h,false)from by unfold eJ;rw[<-hpp,if_pos h0]);clear k I hpp hp HSP0;by_cases e0:p.pc=0;·have u0:(p.pc==0)=true:=(by simpa using e0);exact Iy
  ·have u0:(p.pc==0)=false:=(by simpa using e0);have u10:(p.pc==10)=true:=(by simp;omega);exact Iy
 ·have u0:(p.pc==0)=false:=by simp;omega
  have u10:(p.pc==10)=false:=by simp;omega
  have x7:IntKind.i64.wrap ((i:Int)+1)=(i:Int)+1:=IntWalk.i64_in _ QX;have HM0:=λW (k:bI W c bud h)=>Hu k I hF ho hi hp h0;obtain⟨r,hr⟩:∃r,r=maP c.b.n bud h i p:=⟨_,rfl⟩;have HX:=qh (show eJ c.b.n bud h i=(⟨r.1,r.2.1,r.2.2.1,h.S.set i r.2.2.2⟩,decide (r.2.2.2.pc=0\/r.2.2.2.pc=10))from by unfold eJ;rw[<-hpp,if_neg h0,<-hr]);rw[<-hr]at HM0;have hcase:p.pc<10\/(10<p.pc/\p.pc<17)\/17<=p.pc:=by omega
  clear k I hpp hp HSP0 hr h0;rcases hcase with e|e|e
  all_goals
   first|rw[if_pos e]at HM0|rw[if_neg QX,if_pos e.2]at HM0|rw[if_neg QX,if_neg QX]at HM0
   have HM:=qh HM0;first|(have u1:decide (p.pc<10)=true:=decide_eq_true QX)|(have u1:decide (p.pc<10)=false:=decide_eq_false QX)
   first|(have u2:decide (p.pc<17)=true:=decide_eq_true QX)|(have u2:decide (p.pc<17)=false:=decide_eq_false QX)
   clear HM0 e;go_enter Tryz.func333,Tryz.ntmps333;go_wp2_with fail;refine HSP.o.mono ?_;rintro en w1 ⟨rfl,b1⟩;have K1:=qh ((HK.o.1.below b1).below ((Below.refl _ w1).alloc (Nat.le_refl _) (.cells #[.int .i64 0,.int .i64 0,.int .i64 0,.int .i64 0] 113)));have c5:=(HK.o.1.below b1).is.cq;have hl1:=(HK.o.1.below b1).is.lk.lt;have hq1:=(HK.o.1.below b1).is.sp.lt;clear b1;go_wp2_with fail;refine(HM.o _ K1.o.is).mono ?_;rintro en w2 ⟨rfl,K2⟩;have hg2:(h.S.set i {r.2.2.2 with pc:=p.pc})[i]? =some {r.2.2.2 with pc:=p.pc}:=au HK.o.2 _;have d0:=K2.is.sp.cell hg2 0 _ rfl;simp only[Nat.add_zero]at d0;have f0:=K2.is.sp.free (i*4);have hq:=K2.is.sp.lt;have K3:=K2.sput hg2 (j:=0) (v:= .int .i64 r.2.2.2.pc) (p':=r.2.2.2) QZ rfl;simp only[Nat.add_zero,List.set_set]at K3;have H2:=qh (show MaT w _ c bud _ from⟨K3.is,K1.o.tn.trans K3.tn⟩);clear K2 hg2 K3 c5;cases z0:(r.2.2.2.pc==0)
   ·cases z1:(r.2.2.2.pc==10);·have HD:Kq (decide (r.2.2.2.pc=0\/r.2.2.2.pc=10)=false):=qh RI;exact Iz
    ·have HD:Kq (decide (r.2.2.2.pc=0\/r.2.2.2.pc=10)=true):=qh RJ;exact Iz
   ·have HD:Kq (decide (r.2.2.2.pc=0\/r.2.2.2.pc=10)=true):=qh RK;exact Iz
end
end
section
open Go.RowKit
def lK (p:Int):Int×Int:=if p=0 then(0,16)else if p=1 then(16,47)else(63,1)
theorem kN (w:World)(p:Int):Calls Tryz.prog 304 #[.int .i64 p] w λe w'=>e= .returned (.tuple #[.int .i64 (lK p).1,.int .i64 (lK p).2])/\w=w':=by
 unfold lK;by_cases h0:p=0;·subst h0;exact IA
 ·by_cases h1:p=1;·subst h1;clear h0;exact IA
  ·rw[if_neg h0,if_neg h1];have t0:(p==0)=false:=(by simpa using h0);have t1:(p==1)=false:=(by simpa using h1);clear h0 h1;exact IA
theorem mQ (x:Nat)(k:Nat)(hx:x<18446744073709551616)(hk:k<64):bits .and .u64 (x:Int) ((2 ^ k-1:Nat):Int)=((x%2 ^ k:Nat):Int):=by
 have:2 ^ k-1<18446744073709551616:=by have:2 ^ k<=2 ^ 63:=Nat.pow_le_pow_right QZ QX;omega
 rw[u64_and_nat x (2 ^ k-1) hx this,Nat.and_two_pow_sub_one_eq_mod]
theorem yx (x:Int)(h0:0<=x)(h1:x<9223372036854775808):wrap64 (bits .and .u64 x 65535)=x%65536:=by obtain⟨n,rfl⟩:=Int.eq_ofNat_of_zero_le h0;have:=mQ n 16 QX QZ;rw[show((2 ^ 16-1:Nat):Int)=65535 by decide]at this;rw[this];unfold wrap64;omega
theorem uW (x:Int)(h0:0<=x)(h1:x<9223372036854775808):wrap64 (bits .and .u64 (x/65536) 140737488355327)=x/65536:=by obtain⟨n,rfl⟩:=Int.eq_ofNat_of_zero_le h0;have:=mQ (n/65536) 47 QX QZ;rw[show((2 ^ 47-1:Nat):Int)=140737488355327 by decide]at this;rw[show((n:Int)/65536)=((n/65536:Nat):Int)by omega,this,show(2 ^ 47:Nat)=140737488355328 by decide];unfold wrap64;omega
theorem BH (x:Int)(h0:0<=x)(h1:x<9223372036854775808):wrap64 (bits .and .u64 (x/9223372036854775808) 1)=0:=by rw[show x/9223372036854775808=0 by omega];decide+kernel
theorem BI (v:Int)(h2:0<=v)(h3:v<65536):wrap64 (bits .or .u64 (bits .andNot .u64 0 65535) (bits .and .u64 v 65535))=v:=by obtain⟨n,rfl⟩:=Int.eq_ofNat_of_zero_le h2;have:=mQ n 16 QX QZ;rw[show((2 ^ 16-1:Nat):Int)=65535 by decide,show(2 ^ 16:Nat)=65536 by decide,Nat.mod_eq_of_lt QX]at this;rw[this,show bits .andNot .u64 0 65535=((0:Nat):Int)by decide+kernel,u64_or_nat 0 n QZ QX,Nat.zero_or];unfold wrap64;omega
theorem A7 (x v:Nat)(hx:x<65536):x|||(v*65536)=v*65536+x:=by have:=Nat.two_pow_add_eq_or_of_lt (i:=16) (b:=x) QX v;rw[Nat.or_comm,<-show 2 ^ 16*v=v*65536 by omega];exact this.symm
theorem BJ (x v:Int)(h0:0<=x)(h1:x<65536)(h2:0<=v)(h3:v<140737488355328):wrap64 (bits .or .u64 (bits .andNot .u64 x 9223372036854710272) (bits .and .u64 (v*65536) 9223372036854710272))=v*65536+x:=by
 obtain⟨n,rfl⟩:=Int.eq_ofNat_of_zero_le h0;obtain⟨m,rfl⟩:=Int.eq_ofNat_of_zero_le h2;have hn:n<65536:=by omega
 have hm:m<140737488355328:=by omega
 have e1:bits .andNot .u64 (n:Int) 9223372036854710272=((n:Nat):Int):=by
  have:=u64_andNot_nat n 9223372036854710272 QX QZ;rw[show((9223372036854710272:Nat):Int)=9223372036854710272 by decide]at this;rw[this];congr 1;apply Nat.eq_of_testBit_eq;intro i;rw[Nat.testBit_and];by_cases hi:i<16;·have:(18446744073709551615-9223372036854710272:Nat).testBit i=true:=(by have:∀i,i<16->(18446744073709551615-9223372036854710272:Nat).testBit i=true:=(by decide);exact this i hi);rw[this,Bool.and_true]
  ·rw[Nat.testBit_lt_two_pow (x:=n) (i:=i) (Nat.lt_of_lt_of_le hn (by have:=Nat.pow_le_pow_right (n:=2) QZ (show 16<=i by omega);omega)),Bool.false_and]
 have e2:bits .and .u64 ((m:Int)*65536) 9223372036854710272=((m*65536:Nat):Int):=by
  have:=u64_and_nat (m*65536) 9223372036854710272 QX QZ;rw[show((9223372036854710272:Nat):Int)=9223372036854710272 by decide,show((m*65536:Nat):Int)=(m:Int)*65536 by omega]at this;rw[this];congr 1;have:(9223372036854710272:Nat)=(2 ^ 47-1)*2 ^ 16:=by decide
  rw[this,show m*65536=m*2 ^ 16 by omega,<-Nat.shiftLeft_eq,<-Nat.shiftLeft_eq,<-Nat.shiftLeft_and_distrib,Nat.and_two_pow_sub_one_eq_mod,Nat.mod_eq_of_lt QX]
 rw[e1,e2,u64_or_nat n (m*65536) QX QX,A7 n m hn];unfold wrap64;omega
theorem pD (w:World)(x:Int)(h0:0<=x)(h1:x<9223372036854775808):Calls Tryz.prog 302 #[.int .i64 x,.int .i64 0] w λe w'=>e= .returned (.int .i64 (x%65536))/\Below w.heap.size w w':=by have HV:=qh (yx x h0 h1);go_enter Tryz.func302,Tryz.ntmps302;go_wp2_with fail;refine(kN _ _).mono ?_;rintro en w' ⟨rfl,rfl⟩;rw[show(lK 0).1=0 from rfl,show(lK 0).2=16 from rfl];exact IB
theorem nK (w:World)(x:Int)(h0:0<=x)(h1:x<9223372036854775808):Calls Tryz.prog 302 #[.int .i64 x,.int .i64 1] w λe w'=>e= .returned (.int .i64 (x/65536))/\Below w.heap.size w w':=by have HV:=qh (uW x h0 h1);go_enter Tryz.func302,Tryz.ntmps302;go_wp2_with fail;refine(kN _ _).mono ?_;rintro en w' ⟨rfl,rfl⟩;rw[show(lK 1).1=16 from rfl,show(lK 1).2=47 from rfl];exact IB
theorem C2 (w:World)(x:Int)(h0:0<=x)(h1:x<9223372036854775808):Calls Tryz.prog 302 #[.int .i64 x,.int .i64 2] w λe w'=>e= .returned (.int .i64 (0))/\Qt w w':=by have HV:=qh (BH x h0 h1);go_enter Tryz.func302,Tryz.ntmps302;go_wp2_with fail;refine(kN _ _).mono ?_;rintro en w' ⟨rfl,rfl⟩;rw[show(lK 2).1=63 from rfl,show(lK 2).2=1 from rfl];go_wp2;go_quiet (fail);go_wp2;go_ret;exact⟨by rw[HV.o];rfl,⟨_,rfl⟩⟩
theorem pR (w:World)(x v:Int)(hx:x=0)(h2:0<=v)(h3:v<65536):Calls Tryz.prog 301 #[.int .i64 x,.int .i64 0,.int .i64 v] w λe w'=>e= .returned (.int .i64 (v))/\Below w.heap.size w w':=by subst hx;have HV:=qh (BI v h2 h3);go_enter Tryz.func301,Tryz.ntmps301;go_wp2_with fail;refine(kN _ _).mono ?_;rintro en w' ⟨rfl,rfl⟩;rw[show(lK 0).1=0 from rfl,show(lK 0).2=16 from rfl];go_wp2;go_ret;exact⟨by rw[HV.o];rfl,Below.refl _ _⟩
theorem ov (w:World)(x v:Int)(h0:0<=x)(h1:x<65536)(h2:0<=v)(h3:v<140737488355328):Calls Tryz.prog 301 #[.int .i64 x,.int .i64 1,.int .i64 v] w λe w'=>e= .returned (.int .i64 (v*65536+x))/\Below w.heap.size w w':=by have HV:=qh (BJ x v h0 h1 h2 h3);go_enter Tryz.func301,Tryz.ntmps301;go_wp2_with fail;refine(kN _ _).mono ?_;rintro en w' ⟨rfl,rfl⟩;rw[show(lK 1).1=16 from rfl,show(lK 1).2=47 from rfl];go_wp2;go_ret;exact⟨by rw[HV.o];rfl,Below.refl _ _⟩
end
section
open Go.RowKit
theorem zP (w:World)(x:Int)(h0:0<=x)(h1:x<9223372036854775808):Calls Tryz.prog 295 #[.int .i64 x] w λe w'=>e= .returned (.int .i64 (x%65536))/\Below w.heap.size w w':=by go_enter Tryz.func295,Tryz.ntmps295;go_wp2_with fail;refine(pD w x h0 h1).mono ?_;exact IC
theorem zX (w:World)(x:Int)(h0:0<=x)(h1:x<9223372036854775808):Calls Tryz.prog 297 #[.int .i64 x] w λe w'=>e= .returned (.int .i64 (x/65536))/\Below w.heap.size w w':=by go_enter Tryz.func297,Tryz.ntmps297;go_wp2_with fail;refine(nK w x h0 h1).mono ?_;exact IC
theorem xQ (w:World)(x:Int)(h0:0<=x)(h1:x<9223372036854775808):Calls Tryz.prog 296 #[.int .i64 x] w λe w'=>e= .returned (.bool false)/\Qt w w':=by go_enter Tryz.func296,Tryz.ntmps296;go_wp2_with fail;refine(C2 w x h0 h1).mono ?_;exact IC
theorem tV (w:World)(v:Int)(h2:0<=v)(h3:v<65536):Calls Tryz.prog 300 #[.int .i64 0,.int .i64 v] w λe w'=>e= .returned (.bool true)/\Below w.heap.size w w':=by
 go_enter Tryz.func300,Tryz.ntmps300;go_wp2_with fail;refine(pR w 0 v rfl h2 h3).mono ?_;rintro en w1 ⟨rfl,b1⟩;have B1:=qh b1;clear b1;go_wp2_with fail;refine(pD w1 v h2 QX).mono ?_;rintro en w2 ⟨rfl,b2⟩;have B2:=qh (B1.o.trans (b2.mono B1.o.size));have e:v%65536=v:=by omega
 rw[e];clear b2 e;go_wp2;go_ret;exact⟨az QY,B2.o⟩
theorem rX (w:World)(v:Int)(h2:0<=v)(h3:v<140737488355328):Calls Tryz.prog 300 #[.int .i64 1,.int .i64 v] w λe w'=>e= .returned (.bool true)/\Below w.heap.size w w':=by
 go_enter Tryz.func300,Tryz.ntmps300;go_wp2_with fail;refine(ov w 0 v QX QX h2 h3).mono ?_;rintro en w1 ⟨rfl,b1⟩;have B1:=qh b1;clear b1;obtain⟨x,hx⟩:∃x,x=v*65536+0:=⟨_,rfl⟩;rw[<-hx];have HX:=qh hx;clear hx;go_wp2_with fail;refine(nK w1 x (by have:=HX.o;omega) (by have:=HX.o;omega)).mono ?_;rintro en w2 ⟨rfl,b2⟩;have B2:=qh (B1.o.trans (b2.mono B1.o.size));have e:x/65536=v:=by have:=HX.o;omega
 rw[e];clear b2 e;go_wp2;go_ret;exact⟨az QY,B2.o⟩
theorem A8 (w:World)(i n:Int)(h0:0<=i)(h1:i<65536)(h2:0<=n)(h3:n<140737488355328):Calls Tryz.prog 294 #[.int .i64 i,.int .i64 n] w λe w'=>e= .returned (.tuple #[.int .i64 (n*65536+i),.int .i64 0])/\Below w.heap.size w w':=by go_enter Tryz.func294,Tryz.ntmps294;go_wp2_with fail;refine(tV w i h0 h1).mono ?_;rintro en w1 ⟨rfl,b1⟩;have B1:=qh b1;clear b1;go_wp2_with fail;refine(rX w1 n h2 h3).mono ?_;rintro en w2 ⟨rfl,b2⟩;have B2:=qh (B1.o.trans (b2.mono B1.o.size));clear b2;go_wp2_with fail;refine(pR w2 0 i rfl h0 h1).mono ?_;rintro en w3 ⟨rfl,b3⟩;have B3:=qh (B2.o.trans (b3.mono B2.o.size));clear b3;go_wp2_with fail;refine(ov w3 i n h0 h1 h2 h3).mono ?_;rintro en w4 ⟨rfl,b4⟩;have B4:=qh (B3.o.trans (b4.mono B3.o.size));clear b4;go_wp2;go_ret2;exact⟨rfl,B4.o⟩
end
end Go.Proofs.YtglokdbiggbkjaaGreat
