/- Joined texts. -/
import Derived.Test.YtglokdbiggbkjaaGreatRows
import Derived.StillTailTactics
import Derived.Handy
import Derived.Deep.AppendLies
import Derived.Deep.RegionHeld3
import Derived.Laws.MakeOwn
import Derived.Deep.DeepCutAuto
import Derived.Test.YtglokdbiggbkjaaGreatMgWorldAgain0
import Derived.Test.YtglokdbiggbkjaaGreatMgWorldAgain2
set_option linter.unusedVariables false
set_option linter.unusedSimpArgs false
set_option linter.defProp false
set_option maxRecDepth 100000
set_option maxHeartbeats 16000000
open Go.Proofs.Tryz
namespace Go.Proofs.YtglokdbiggbkjaaGreat
open Go.IntKind(i64)
open Go.Value(int bool slice agg tuple pointer)
open Go.Ending(returned)
open Go.Obj(cells)
variable{v:Int}{n a g i:Nat}{w:World}
section
open Go.RowKit
variable{P:List Int}{f:Nat}
def DY(w:World)(v:Value)(l:List Int)(x:Int)(h:RdL w v 1 encI l):E 134 #[v,J x] w λe w'=>e= returned (bool (decide (x∈l)))/\w=w':=by
  obtain⟨A,cap,rfl,l1,l2,V⟩:=h;have HR:=qh V;clear V;go_enter func134,ntmps134;go_wp2;go_loop [5] (λi=>∃k:Nat,i= J k/\k<=l.length/\x∉l.take k) (λi=>l.length-(intOf i).toNat);case atStart=>exact⟨0,rfl,by omega,by simp⟩
  case round=>
    obtain⟨k,rfl,hk,H⟩:=hrel;by_cases F':k<l.length
    . obtain⟨bl,off,rfl,KP,hc⟩:=HR.o ahp;obtain⟨y,Y⟩:=ai F';have c0:=hc k y Y 0 _ rfl;simp only[Nat.add_zero,Nat.mul_one]at c0;have I:=qh (And.intro Y H);clear hc Y H;cases O:(y==x)
      . have E':Kq (x∉l.take (k+1)):=qh (by
          rw[iR I.o.1];rintro(h|h);. exact I.o.2 h
          . rw[h]at O;simp at O)
        go_wp2;go_round;case rel=>exact⟨k+1,by go_num,by omega,E'.o⟩
        case measure=>simp[intOf];omega
      . have hid:Kq (x∈l):=qh (by rw[<-beq_iff_eq.1 O];exact List.mem_of_getElem? I.o.1);go_wp2;go_ret;exact⟨az (decide_eq_true hid.o).symm,rfl⟩
    . obtain rfl:k=l.length:=by omega
      rw[List.take_length]at H;have hid:Kq (x∉l):=qh H;clear H;go_wp2;go_ret;exact⟨az (decide_eq_false hid.o).symm,rfl⟩
def qm(w:World)(v:Value)(P:List Int)(x:Int)(h:RdL w v 1 encI P):E 101 #[v,J x] w λe w'=>e= returned (bool (dk P x))/\w=w':=by
  have Y:=qh (DY w v P x h);obtain⟨A,cap,rfl,l1,l2,V⟩:=h;clear V
  have H:=qh (show dk P x=(decide (0<=x)&&decide (x<P.length)&&!decide (x∈P))from by
    unfold dk
    by_cases h1:0<=x<;>by_cases I:x<P.length<;>by_cases O:x∈P<;>simp[h1,I,O])
  go_enter func101,ntmps101;cases h1:decide (0<=x);. rw[h1]at H;have VE:¬0<=x:=of_decide_eq_false h1;go_wp2;go_ret;exact⟨az H.o.symm,rfl⟩
  . cases I:decide (x<P.length);. rw[h1,I]at H;have VE:0<=x:=of_decide_eq_true h1;have TE:¬x<P.length:=of_decide_eq_false I;go_wp2;go_ret;exact⟨az H.o.symm,rfl⟩
    . rw[h1,I]at H;have VE:0<=x:=of_decide_eq_true h1;have TE:x<P.length:=of_decide_eq_true I;cases O:decide (x∈P);. rw[O]at H Y;clear O;go_wp2_with (go_at_call 134;refine Y.o.mono ?_;rintro e w' ⟨rfl,rfl⟩);go_ret;exact⟨az H.o.symm,rfl⟩
      . rw[O]at H Y;clear O;go_wp2_with (go_at_call 134;refine Y.o.mono ?_;rintro e w' ⟨rfl,rfl⟩);go_ret;exact⟨az H.o.symm,rfl⟩
def sJ(h:¬(0<=v/\v<P.length)):dep P f v=0:=by
 cases f with
 |zero=>rfl
 |succ f=>unfold dep;rw[if_neg h]
def FB{p:Int}(H:0<=v)(h:P[v.toNat]? =some p):dep P (f+1) v=dep P f p+1:=by have:=(List.getElem?_eq_some_iff.1 h).1;show(if 0<=v/\v<P.length then dep P f (P.getD v.toNat 0)+1 else 0)=_;rw[if_pos ahp,bh h]
def zd(w:World)(v:Value)(P:List Int)(x:Int)(h:RdL w v 1 encI P):E 102 #[v,J x] w λe w'=>e= returned (J ((depL P x:Nat):Int))/\w=w':=by
  obtain⟨A,cap,rfl,l1,l2,V⟩:=h;have HR:=qh V;clear V;go_enter func102,ntmps102;go_wp2;go_loop [1,5,6] (λy m i=>∃(k n:Nat) (z:Int),i= J k/\m= J n/\y= J z/\k<=P.length/\n<=k/\n+dep P (P.length-k) z=depL P x) (λ_ _ i=>P.length-(intOf i).toNat);case atStart=>exact⟨0,0,x,rfl,rfl,rfl,by omega,by omega,by simp[depL]⟩
  case round=>
    obtain⟨k,n,z,rfl,rfl,rfl,hk,hn,hd⟩:=hrel;have I:=qh hd;clear hd;by_cases F':k<P.length
    . by_cases h0:0<=z
      . by_cases h1:z<P.length
        . obtain⟨bl,off,rfl,KP,hc⟩:=HR.o ahp;obtain⟨m,rfl⟩:=Int.eq_ofNat_of_zero_le h0;obtain⟨p,O⟩:=ai (show m<P.length by omega);have c0:=hc m p O 0 _ rfl;simp only[Nat.add_zero,Nat.mul_one]at c0
          have Y:=qh (show n+1+dep P (P.length-(k+1)) p=depL P x from by
            have:=I.o;rw[show P.length-k=P.length-(k+1)+1 by omega,FB ahp (by simpa using O)]at this
            omega)
          clear hc O;go_wp2;go_round;case rel=>exact⟨k+1,n+1,p,by go_num,by go_num,rfl,by omega,by omega,Y.o⟩
          case measure=>simp[intOf];omega
        . have H:=qh (show n=depL P x from by have:=I.o;rw[sJ ahp]at this;omega);go_wp2;go_ret;exact⟨aT (by rw[H.o]),rfl⟩
      . have H:=qh (show n=depL P x from by have:=I.o;rw[sJ ahp]at this;omega);go_wp2;go_ret;exact⟨aT (by rw[H.o]),rfl⟩
    . have H:=qh (show n=depL P x from by have:=I.o;rw[show P.length-k=0 by omega]at this;exact this);go_wp2;go_ret;exact⟨aT (by rw[H.o]),rfl⟩
end
section
open Go.RowKit
def mK(w:World)(v1 v2:Value)(a b:List (Int))(h1:RdL w v1 1 encI a)(h2:RdL w v2 1 encI b):E 27 #[v1,v2] w λe w'=>e= returned (bool (decide (a=b)))/\Qt w w':=by
  obtain⟨A1,c1,rfl,l1,m1,r1⟩:=h1;obtain⟨A2,c2,rfl,l2,m2,r2⟩:=h2;by_cases O:a.length=b.length
  . have E':((a.length:Int)==(b.length:Int))=true:=(by rw[beq_iff_eq];omega);have Ss:((a.length:Int) !=(b.length:Int))=false:=(by rw[bne_eq_false_iff_eq];omega);have H:=qh O;clear O;go_enter func27,ntmps27;go_wp2_with fail;go_loopw [5] (λi w'=>∃k n:Nat,k<=a.length/\i= J k/\w'=w.drewN n/\a.take k=b.take k) (λi _=>a.length-(intOf i).toNat);case atStart=>exact⟨0,0,by omega,rfl,rfl,rfl⟩
    case round=>
      obtain⟨k,n,hk,rfl,rfl,VX⟩:=hrel;have HA:=qh VX;clear VX;by_cases F':k<a.length
      . have Q7:k<b.length:=(by have:=H.o;omega);obtain⟨b1,o1,rfl,Kg,Lh⟩:=r1 ahp;obtain⟨b2,o2,rfl,M6,Lv⟩:=r2 ahp;obtain⟨x0,Y⟩:=ai F';obtain⟨y0,hy⟩:=ai Q7;have p0:=Lh k _ Y 0 _ rfl;have q0:=Lv k _ hy 0 _ rfl;simp only[Nat.add_zero,Nat.mul_one]at p0 q0;have HX:=qh Y;have HY:=qh hy;clear r1 r2 Lh Lv Y hy;by_cases V:x0=y0
        . subst V;go_wp2;go_quiet (fail);go_wp2;go_roundw;case rel=>exact⟨k+1,n+nq,by omega,by go_num,by first|rfl|rw[World.drewN_drewN],by rw[a7 HX.o,a7 HY.o,HA.o]⟩
          case measure=>simp[intOf];omega
        . have I:(x0==y0)=false:=(by simpa using V);have HE:=qh V;go_wp2;go_quiet (fail);go_wp2;go_ret;refine⟨az (Eq.symm (decide_eq_false λe=>HE.o ?_)),n+nq,by first|rfl|rw[World.drewN_drewN]⟩;have h:=HX.o;rw[e,HY.o]at h;exact(Option.some.inj h).symm
      . obtain rfl:k=a.length:=by omega
        go_wp2;go_ret;exact⟨az (Eq.symm (decide_eq_true (uN H.o HA.o))),n,rfl⟩
  . have E':((a.length:Int)==(b.length:Int))=false:=(by rw[beq_eq_false_iff_ne];omega);have Ss:((a.length:Int) !=(b.length:Int))=true:=(by rw[bne_iff_ne];omega);have H:=qh O;clear O r1 r2;go_enter func27,ntmps27;go_wp2;go_ret;exact⟨az (Eq.symm (decide_eq_false λe=>H.o (by rw[e]))),Qt.refl w⟩
end
section
open Go Go.RowKit
def IP{lb:Nat}(hc:Z w lb 1 (J n))(i:Int)(hi:¬(0<=i/\i<n)):E 57 #[lkP lb,J i] w λe w'=>e= returned (aC ⟨0,0,0,0⟩)/\Below w.heap.size w w':=by have I:=aM hc;have b:=(Below.refl w.heap.size w).alloc (Nat.le_refl _) (cells #[J 0,J 0,J 0,J 0] 113);have H:=qh (sV (w:=w.alloc (cells #[J 0,J 0,J 0,J 0] 113)) (n:=n) (by rw[b.cell I];exact hc) i false (decide_eq_false hi));have h:=qh b;clear hc hi b;unfold lkP aC at *;go_enter func57,ntmps57;go_wp2_with fail;refine LT H.o ?_;go_wp2;exact bodyPost_ret (results_cell_row aht _ _ w.heap.size 113 _ (0,0) _ aht (heap_alloc_new w _) Tryz.underlying113 rfl ahs) rfl ⟨rfl,h.o⟩
section
variable{M:LkM n}{X:WoB M}{w':World}{st C':M.σ}
def EE(G:M.Good)(h:bj X w st)(i:Int)(hi:¬(0<=i/\i<n)):E 28 #[lkP X.wb,J i] w λe w'=>e= returned (tuple #[J 0,bool false])/\Below w.heap.size w w':=by
  have I:Kq (∀W,Below w.heap.size w W->Z W X.wb 2 ↑X.lb):=qh λW b=>(h.below G b).wd.cell 2;have c2:=I.o _ (Below.refl _ _);have H:=λW (b:Below w.heap.size w W)=>IP (G.lk _ _ _ _ _ _ (h.below G b).is) i hi;have V:=qh (λW (b:Below w.heap.size w W)=>wj (H W b));have O:=qh (λW (b:Below w.heap.size w W)=>(G.kd _ _ _ _ _ _ (h.below G b).is).elim λk q=>Cz q.1 q.2 (λgs t=>H gs (b.trans (t.mono b.size))));unfold lkP ze kN at *;clear h H;have K:=qh (show Below w.heap.size w w.drew from(Below.refl _ _).drew);go_enter func28,ntmps28;go_wp2_with fail
  go_region_held3 (λW=>Z W X.wb 2 ↑X.lb)
    (first|with_reducible exact I.o _ K.o)
    (first
      | (go_at_call 16;go_loud (refine Pi (V.o _ K.o) λw2 b2=>?_);have K:=qh (K.o.trans (b2.o.mono K.o.size)))
      | (go_at_call 17;go_loud (refine Pi (O.o _ K.o) λw3 b3=>?_);have K:=qh (K.o.trans (b3.o.mono K.o.size))))
  all_goals go_wp2;go_ret2;exact⟨rfl,K.o⟩
end
end
section
open Go Go.RowKit
def rG{P:Prop}(h:P:=by
    have hs:w.heap.size<w2.heap.size:=by have:=b2.size;simp at this;omega
    have I:Blk w2 w.heap.size 113 #[J 0,J 0,J 0,J 0]:=aa.blk (S:=[]) (aa.of_below b2) (Blk.new w 113 #[J 0,J 0,J 0,J 0]) ahq
    have z0:=I.cell 0
    have z1:=I.cell 1
    have z2:=I.cell 2
    have z3:=I.cell 3
    have f0:=I.free 0
    have f1:=I.free 1
    have f2:=I.free 2
    have f3:=I.free 3
    have H2:=qh (And.intro b2 I)
    clear b2 I
    obtain⟨pc,u,b,z⟩:=p
    unfold aC
    go_wp2
    exact bodyPost_ret (results_cell_row aht _ _ w.heap.size 113 _ (0,0) _ aht aiu Tryz.underlying113 rfl ahs) rfl ⟨rfl,((((HB.o.trans (H2.o.1.mono ahq)).setCell (Nat.le_refl _) _).setCell (Nat.le_refl _) _).setCell (Nat.le_refl _) _).setCell (Nat.le_refl _) _⟩):P:=h
end
section
open Go.RowKit
def Fp(w:World)(b o:Nat)(x y:Int)(hc:Z w b o (J x))(h:w.frozen? ⟨b,o,none⟩=false):E 188 #[pointer (some ⟨b,o,none⟩),J y] w λe w'=>e= returned (tuple #[])/\w'=w.setCell ⟨b,o,none⟩ (J y):=by have H:=run_call_store (P:=prog) func195 ahs ahs ahs ahs (k:= .i64) (y:=y) hc h;go_enter func188,ntmps188;go_wp2;go_end0;exact⟨rfl,rfl⟩
def an{s:Ar}(h:aB w a g s)(x v:Int)(Y:s.ops+1<=1000000000000):E 177 #[↑a,J x,J v] w (eY w a g (ae s x v) (tuple #[])):=by
  have H:=qh h;cases I:inR s.W x;. have e:eY w a g (ae s x v) (tuple #[]) (returned (tuple #[])) w:=⟨rfl,by unfold ae;rw[iW s _ _ _ I,rR s _ _ I];exact h,aa.refl _ _⟩;have HX:=qh I;clear h I;go_enter func177,ntmps177;go_wp2_with fail;refine LT (j7 H.o x HX.o) ?_;go_wp2;go_end0;exact e
  . have HX:=qh I;have Pm:=aR.1 I;have Mv:x.toNat-1<s.W.length:=(by omega);clear h I;go_enter func177,ntmps177;go_wp2_with fail;refine LT (ks H.o x HX.o) ?_;go_wp2_with fail;refine Pi (iX H.o 2 x true HX.o Y) λw1 h1=>?_;have hc:=h1.o.1.word (i:=x.toNat-1) (by rw[dL];exact Mv);have V:=h1.o.1.put (x:=x) (by rw[dL];exact HX.o) v;have H1:=qh (And.intro V h1.o.2);have O:=qh hc;clear V hc;go_wp2_with fail;refine LT (Fp _ _ _ _ _ O.o.1 O.o.2) ?_;go_wp2;go_end0;exact⟨rfl,H1.o.1.1,(i9 H1.o.2).trans H1.o.1.2⟩
end
section
open Go
structure ja(n:Nat)(T:Nat->Prop)(t0:Prop):Prop where
 one:∀i j,i<n->j<n->T i->T j->i=j
 tl:t0->∀i,i<n->¬T i
def numT(t:Nat):Int:=(t:Int)+1
def i8(lo:Int)(G:Int->Prop)(S:Int->Int)(σ:Nat->Sp)(i:Nat):Prop:=lo<=(σ i).pc\/(3<=(σ i).pc/\G (S (numT i)))
def updF(f:Int->Int)(x v y:Int):Int:=if y=x then v else f y
section
variable{lo t t':Int}{G:Int->Prop}{S S':Int->Int}{σ σ':Nat->Sp}{p:Sp}
def iY{i j:Nat}(h:numT i=numT j):i=j:=by unfold numT at h;omega
def ja.own(h:ja n (i8 lo G S σ) (t=0))(hi:i<n)(hs:∀j,σ' j=if j=i then p else σ j)(h1:lo<=(σ i).pc)(V:∀k,k≠numT i->S' k=S k)(Y:t'=t\/t'≠0):ja n (i8 lo G S' σ') (t'=0):=by have H:=h.one;have I:=h.tl;have O:=λj=>@iY j i;refine⟨?_,?_⟩<;>grind [i8]
def ja.o(h:ja n (i8 lo G S σ) (t=0))(hi:i<n)(hs:∀j,σ' j=if j=i then p else σ j)(h1:lo<=(σ i).pc)(H:3<=lo)(hp:p.pc<3)(Y:(∀k,S' k=S k)\/((∃y,∀k,k≠y->S' k=S k)/\t'=t)):ja n (i8 lo G S' σ') (t'=0):=by have I:=h.one;have O:=h.tl;have V:=λj k=>@iY j k;refine⟨?_,?_⟩<;>grind [i8]
def ja.low(h:ja n (i8 lo G S σ) (t=0))(hi:i<n)(hs:∀j,σ' j=if j=i then p else σ j)(h1:p.pc<3\/(p.pc<lo/\¬G (S' (numT i)))\/(3<=(σ i).pc/\p.pc<lo/\S' (numT i)=S (numT i)))(H:3<=lo)(Y:∀k,k≠numT i->S' k=S k):ja n (i8 lo G S' σ') (t=0):=by have I:=h.one;have O:=h.tl;have V:=λj=>@iY j i;refine⟨?_,?_⟩<;>grind [i8]
def ja.door(h:ja n (i8 lo G S σ) (t=0))(hi:i<n)(hs:∀j,σ' j=if j=i then p else σ j)(h1:3<=(σ i).pc)(O:t≠0->p.pc<lo)(V:t'≠0):ja n (i8 lo G S σ') (t'=0):=by have H:=h.one;have I:=h.tl;refine⟨?_,?_⟩<;>grind [i8]
def ja.ent(h:ja n (i8 lo G S σ) (t=0))(hi:i<n)(hs:∀j,σ' j=if j=i then p else σ j)(h1:3<=(σ i).pc)(hg:G (S (numT i))):ja n (i8 lo G S σ') (t=0):=by have H:=h.one;have I:=h.tl;refine⟨?_,?_⟩<;>grind [i8]
def gI(f:Int->Int)(x v:Int):updF f x v x=v:=if_pos rfl
def eu(f:Int->Int){x y:Int}(h:y≠x):updF f x v y=f y:=if_neg h
end
end
section
open Go.RowKit
def bp(s:Ar)(n:Nat):Ar:={s with W:=s.W++List.replicate n 0}
def mN{s:Ar}(h:aB w a g s)(n:Nat)(O:s.W.length+n<=s.room):E 139 #[↑a,J n] w λe w'=>e= returned (tuple #[J ((s.W.length:Int)+1),J 0])/\aB w' a g (bp s n)/\aa [a] w w':=by
  refine(gh h n).mono ?_;have e:d7 s n=(bp s n,(s.W.length:Int)+1,(0:Int)):=by unfold d7;rw[if_neg ahp,if_neg ahp,Int.toNat_natCast];rfl
  rw[e];rintro en w' ⟨h1,H,I⟩;exact⟨h1,H,I⟩
def nQ(w:World)(xs:List Value)(t:TypeId):∀j u,xs[j]? =some u->(w.alloc (.cells xs.toArray t)).cell? ((⟨w.heap.size,0,none⟩:Addr).add j)=some u:=by
 intro j u H;have k:=Blk.new w t xs.toArray;have c:=k.cell j;have e:(⟨w.heap.size,0,none⟩:Addr).add j=⟨w.heap.size,j,none⟩:=by simp[Addr.add];exact λh=>h.symm
 rw[e,c];simpa using H
theorem Tryz.infoSpF:(prog.info? 113).map (λi=>(i.zero,i.size,i.bytes))=some (some (agg #[J 0,J 0,J 0,J 0]),4,32):=by kernel_rfl
def Gm{l:Nat}{va H:Value}(nx:Nat)(m:Nat)(hm:1<=m)(I:nx<=100000)(h:Blk w l 345 #[va,J nx,J m,H]):E 178 #[↑l,J 0] w λe w'=>e= returned (J ((nx:Int)+1))/\Below w.heap.size w w':=by
  have c1:Z w l 1 (J nx):=h.cell 1;have c2:Z w l 2 (J m):=h.cell 2;have t1:¬(m:Int)=0:=by omega
  have t2:((m:Int)==0)=false:=by simpa using t1
  have O:IntKind.i64.wrap ((nx:Int)+1)=(nx:Int)+1:=IntWalk.i64_in _ ahp;clear h;go_enter func178,ntmps178;go_wp2_with fail;go_quiet (fail);go_wp2;go_ret;exact⟨rfl,cK (Below.refl _ _) _⟩
def Il(w:World)(n:Nat)(h1:1<=n)(h:n<=32):E 176 #[J n] w λe w'=>e= returned (bool true)/\w=w':=by
 have t1:(1:Int)<=n:=by omega
 have t2:(n:Int)<=32:=by omega
 go_enter func176,ntmps176;exact aab
end
end Go.Proofs.YtglokdbiggbkjaaGreat
