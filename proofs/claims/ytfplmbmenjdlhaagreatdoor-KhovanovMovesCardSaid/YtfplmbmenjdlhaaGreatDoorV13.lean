/- Walks: the cube opened (open). -/
import Derived.Test.YtfplmbmenjdlhaaGreatDoorV5
import Derived.Test.YtfplmbmenjdlhaaGreatDoorJ7
set_option maxRecDepth 100000
set_option maxHeartbeats 16000000
namespace Go.Proofs.YtfplmbmenjdlhaaGreatDoor
open Go.RowKit
open Act (put)
open AllReadyH (cons nil)
open Fr (refl)
open Kn (Cr gY ag)
variable {f:Int×Int->Option Value} {ks:List (Int×Int)} {ls:List (Nat×Nat)} {X:List Cr} {fl:List Value} {B N gm k:Nat} {S:Nat->Bool} {v va vb:Value} {w w7 wr:World}
def StO(B:Nat)(w:World)(X:List Cr)(S:Nat->Bool)(va vb:Value):Prop:=
 ∃rB gs gl gc,va=.slice (some ⟨rB,0,none⟩) (ag X+1) (ag X+1)/\vb=.slice gs gl gc/\w.rowIs rB 3 (ag X+1) (bS (Kn.fB X S))/\w.ownsRow B 3 1 vb gl (j7 (Kn.aw X S))/\gl=(Kn.aw X S).length
theorem StO.st(h:StO B w X S va vb):Rv w X S va vb:=by
 obtain⟨rB,gs,gl,gc,h1,rfl,h3,h4,h5⟩:=h;rw[A3]at h4;obtain⟨a,c,e1,e2,h6⟩:=pF h4
 obtain⟨rfl,rfl⟩:gs=a/\gc=c:=by injection e1 with e1 e3 e4;exact⟨e1,e4⟩
 exact⟨rB,gs,gl,gc,h1,rfl,h3,h6,h5⟩
theorem ur.sto{w':World}{e:Ending}(h:ur X S (ag X+1) w e w')(hB:B<=w.heap.size):∃va vb,e=.returned (.agg #[va,vb])/\New w w'/\StO B w' X S va vb:=by
 obtain⟨rB,gs,gl,gc,rfl,h1,h2,h3,h4,h5⟩:=h;exact⟨_,_,rfl,h1,rB,gs,gl,gc,rfl,rfl,h3,qD h4 hB,h5.out⟩
theorem StO.fr{P:Nat->Prop}{w':World}{T:Nat->Bool}(h:StO B w X T va vb)(hF:Fr P w w')(hS:∀k,P k->∃cs t,w.heap[k]?=some (.cells cs t (0,0))/\t≠3):StO B w' X T va vb:=by
 obtain⟨rB,gs,gl,gc,h1,h2,h3,h4,h5⟩:=h;refine⟨rB,gs,gl,gc,h1,h2,hF.row h3 λk=>?_,hF.owns h4 λk hk q=>?_,h5⟩
 · obtain⟨cs,t,hb,ht⟩:=hS _ k
   exact dF hb h3 ht rfl
 obtain⟨cs,t,hb,ht⟩:=hS _ q;exact aU hb h4 (λe=>ht e.symm) hk
structure KI(w wr:World)(bc b:Nat)(X:List Cr)(k:Nat)(v:Value)(fl:List Value):Prop where
 new:New w wr
 box:wr.heap[bc]?=some (.cells #[.pointer (some ⟨b,0,none⟩),v] 73 (0,0))
 own:wr.ownsRow w.heap.size 76 2 v k fl
 lb:w.heap.size<=bc
 sts:∀st,st<k->∃va vb,fl[st*2]?=some va/\fl[st*2+1]?=some vb/\StO w.heap.size wr X st.testBit va vb
theorem KI.nw{wr':World}{bc b:Nat}(h:KI w wr bc b X k v fl)(hN:New wr wr'):KI w wr' bc b X k v fl:=
 ⟨h.new.trans hN,hN.blk h.box λx=>x,hN.owns h.own λ_ _ x=>x,h.lb,λst hs=>by
  obtain⟨va,vb,h1,h2,h3⟩:=h.sts st hs
  exact⟨va,vb,h1,h2,h3.fr hN λ_ x=>x.elim⟩⟩
theorem fG{B e z n:Nat}{xs:List Value}(h:w.ownsRow B e z v n xs):∀k,v.ownBlock=some k->∃cs,w.heap[k]?=some (.cells cs e (0,0)):=λk hk=>by
 rcases h.2 with⟨rfl,_⟩|⟨g,cap,cur,rfl,_,hg,_⟩
 · cases hk
 cases hk;exact⟨cur,hg⟩
theorem KI.app{bc b:Nat}{o:Obj}{g c:Nat}(h:KI w wr bc b X k v fl)(hs:StO w.heap.size wr X k.testBit va vb)
 (hown:w7.ownsRow w.heap.size 76 2 (.slice (some ⟨g,0,none⟩) (k+1) c) (k+1) (fl++[va,vb])) (hg:(wr.alloc o).grownBy w7 v.ownBlock):
 w7.heap[bc]?=some (.cells #[.pointer (some ⟨b,0,none⟩),v] 73 (0,0))/\KI w (w7.setCell ⟨bc,1,none⟩ (.slice (some ⟨g,0,none⟩) (k+1) c)) bc b X (k+1) (.slice (some ⟨g,0,none⟩) (k+1) c) (fl++[va,vb]):=by
 have hF:Fr (λj=>v.ownBlock=some j) wr w7:=((refl _ wr).alloc o).grown hg λk e=>.inl e
 have hT:∀j,v.ownBlock=some j->∃cs t,wr.heap[j]?=some (.cells cs t (0,0))/\t≠3:=λj hj=>by
  obtain⟨cs,hc⟩:=fG h.own j hj;exact⟨cs,76,hc,by decide⟩
 have h1:New w w7:=h.new.next hF λi hi=>.inr (dR h.own i hi)
 have h2:=hF.blk h.box (aU h.box h.own (by decide));have hS:Fr (λj=>j=bc) w7 (w7.setCell ⟨bc,1,none⟩ (.slice (some ⟨g,0,none⟩) (k+1) c)):=(refl (λj=>j=bc) w7).setCell (.inl rfl) _
 have hT2:∀j,j=bc->∃cs t,w7.heap[j]?=some (.cells cs t (0,0))/\t≠3:=λj hj=>by subst hj;exact⟨_,73,h2,by decide⟩
 have hl:fl.length=k*2:=h.own.1;refine⟨h2,h1.next hS λi hi=>.inr (by rw[hi];exact h.lb),(bD h2 _).2,hS.owns hown (λj hj e=>aU h2 hown (by decide) (e ▸ hj)),h.lb,λst hst=>?_⟩;by_cases e:st=k
 · subst e
   refine⟨va,vb,?_,?_,(hs.fr hF hT).fr hS hT2⟩
   · rw[List.getElem?_append_right (by omega),hl];simp
   rw[List.getElem?_append_right (by omega),hl,show st*2+1-st*2=1 by omega];rfl
 obtain⟨ua,ub,g1,g2,g3⟩:=h.sts st (by omega);refine⟨ua,ub,?_,?_,(g3.fr hF hT).fr hS hT2⟩
 · rw[List.getElem?_append_left (by omega)];exact g1
 rw[List.getElem?_append_left (by omega)];exact g2
theorem KI.sh{bc b:Nat}{L:Int}{o:Obj}(h:KI w wr bc b X k v fl)(hs:fS wr b X L)(hg:(wr.alloc o).grownBy w7 v.ownBlock)(hb:w7.heap[bc]?=some (.cells #[.pointer (some ⟨b,0,none⟩),v] 73 (0,0)))(u:Value):fS (w7.setCell ⟨bc,1,none⟩ u) b X L:=by
 obtain⟨v',bi,bo,base,s⟩:=hs
 have hF:Fr (λj=>v.ownBlock=some j) wr w7:=((refl _ wr).alloc o).grown hg λk e=>.inl e
 have s1:=s.kept hF (aU s.blk h.own (by decide)) (λe=>eE h.own s.ri (by decide) _ e rfl) (λe=>eE h.own s.ro (by decide) _ e rfl) λj e1 e2=>by
  obtain⟨cs,c1⟩:=fG s.own j e1;obtain⟨cs',c2⟩:=fG h.own j e2;rw[c1]at c2;have:=Option.some.inj c2
  injection this with _ h2
  exact absurd h2 (by decide)
 have hS:Fr (λj=>j=bc) w7 (w7.setCell ⟨bc,1,none⟩ u):=(refl (λj=>j=bc) w7).setCell (.inl rfl) _;exact⟨v',bi,bo,base,s1.kept hS (λe=>by have:=s1.blk;rw[e,hb]at this;cases this) (λe=>dF hb s1.ri (by decide) e.symm) (λe=>dF hb s1.ro (by decide) e.symm) λj e1 e2=>aU hb s1.own (by decide) (e2 ▸ e1)⟩
theorem KI.aoB{bc b:Nat}{L:Nat}(h:KI w wr bc b X (2 ^ X.length) v fl)(hs:fS wr b X (L:Int)):∃sB,qg wr bc b sB X L:=by
 obtain⟨p1,p2,_,_⟩:=ay h.box
 rcases h.own.2 with⟨_,h0⟩|⟨g,cap,cur,rfl,_,hg,h1,h2,h3,h4⟩
 · have:0<2 ^ X.length:=Nat.pow_pos (by omega)
   omega
 refine⟨g,p1,hs,⟨cap,p2⟩,λst hst=>?_⟩;obtain⟨va,vb,q1,q2,q3⟩:=h.sts st hst;have e1:=World.ownsRow.cells h.own (g:=g) rfl (st*2) va q1;have e2:=World.ownsRow.cells h.own (g:=g) rfl (st*2+1) vb q2;rw[dN,Nat.zero_add]at e1 e2;exact⟨va,vb,e1,e2,q3.st⟩
def mZ(X:List Cr)(L:Int):Nat:=if Jg X L≠0 then Jg X L else if 6<X.length\/2<L then 2 else 0
def aeY(X:List Cr)(L:Int)(w:World)(e:Ending)(w':World):Prop:=
 New w w'/\((mZ X L=0/\∃(bc b sB:Nat) (LN:Nat),L=(LN:Int)/\e=.returned (.tuple #[.pointer (some ⟨bc,0,none⟩),.int .i64 0])/\qg w' bc b sB X LN)\/(mZ X L≠0/\e=.returned (.tuple #[.pointer none,.int .i64 (mZ X L:Nat)])))
theorem Qr(a:Option Addr)(n c:Nat)(X:List Cr)(L:Int)(w:World)(hx:bV w a X)(hn:n=X.length)(lx:n<=9223372036854775807)(l1:-9223372036854775808<=L)(l2:L<=9223372036854775807):
 Calls Tryz.prog 12 #[.agg #[.slice a n c,.int .i64 L]] w (aeY X L w):=by
 have HN:=jd hn;have HX:=jd hx;clear hx hn
 go_enter Tryz.func12,Tryz.ntmps12
 go_wp2_with fail;refine(EN a n c X L _ (New.uh ((refl _ _).alloc _) HX.o) HN.o lx l1 l2).mono ?_;rintro e w4 ⟨hF,h5⟩
 rcases h5 with⟨ho,b,rfl,hs⟩|⟨ho,rfl⟩
 rotate_left
 · have HF:Hd (New w w4):=jd (((refl _ _).alloc _).trans hF)
   have HO:=jd ho;obtain⟨q,HQ⟩:=jb (Jg X L);rw[<-HQ.o]at ho ⊢
   have hb:((q:Int) != 0)=true:=by
    have:¬(q:Int)=0:=by omega
    simpa using this
   have hb2:¬(q:Int)=0:=by omega
   clear hF;go_wp2;go_ret2;refine⟨HF.o,.inr ?_⟩
   have e:mZ X L=q:=by unfold mZ;rw[if_pos HO.o,HQ.o]
   rw[e];exact⟨ho,rfl⟩
 have HF:Hd (New w w4):=jd (((refl _ _).alloc _).trans hF);have HS:=jd hs;have HO:=jd ho;obtain⟨a1,c1,h0,h1,iw⟩:=hs.uh;rw[<-HN.o]at h0;clear hF hs ho iw;by_cases h6:6<n
 · have h6':(6:Int)<(n:Int):=by omega
   go_wp2;go_ret2;refine⟨HF.o,.inr ?_⟩
   have e:mZ X L=2:=by unfold mZ;rw[if_neg (by rw[HO.o];simp),if_pos (.inl (by have:=HN.o;omega))]
   rw[e];exact⟨by omega,rfl⟩
 have h6':¬(6:Int)<(n:Int):=by omega
 by_cases hL:2<L
 · go_wp2
   go_ret2;refine⟨HF.o,.inr ?_⟩
   have e:mZ X L=2:=by unfold mZ;rw[if_neg (by rw[HO.o];simp),if_pos (.inr hL)]
   rw[e];exact⟨by omega,rfl⟩
 have anh:∃i0:TypeInfo,Tryz.prog.info? 76=some i0/\i0.zero=some (.agg #[.slice none 0 0,.slice none 0 0])/\i0.size=2/\i0.bytes=48:=info_parts (by kernel_rfl)
 have K0:decide ((6:Int)<(n:Int))=false:=jm h6';have Sb:decide ((2:Int)<L)=false:=jm hL;have p0:=aY h0 (.cells #[.pointer (some ⟨b,0,none⟩),.slice none 0 0] 73);have hs1:=FY n (by omega);obtain⟨i0,hi,hz0,hz1,hz2⟩:=anh
 have wA:gY X L=true:=by
  have h:=HO.o;unfold Jg at h
  cases e:gY X L with
  |true=>rfl
  |false=>rw[e]at h;simp at h
 have AO:=jd (gX wA)
 have hL0:0<=L:=by
  unfold gY at wA;simp only[jp,jh]at wA;exact wA.1.1.1.2
 clear wA
 obtain⟨LN,rfl⟩:∃LN:Nat,L=(LN:Int):=⟨L.toNat,by omega⟩
 go_wp2_with fail;clear p0 h0 h1 K0 Sb hs1;obtain⟨N,Sg⟩:=jb (2 ^ n)
 have aia:N<=64:=by rw[Sg.o];exact(jI (by omega) (by omega):2 ^ n<=2 ^ 6)
 have e64:wrap64 (2 ^ n)=(N:Int):=by rw[Sg.o];exact wT (by omega)
 try rw[e64]
 clear e64;have Po:Hd (KI w (w4.alloc (.cells #[.pointer (some ⟨b,0,none⟩),.slice none 0 0] 73)) w4.heap.size b X 0 (.slice none 0 0) []):=jd ⟨HF.o.alloc _,heap_alloc_new _ _,World.ownsRow_nil _ _ _ _,HF.o.size,λst h=>by omega⟩;have j9:Hd (fS (w4.alloc (.cells #[.pointer (some ⟨b,0,none⟩),.slice none 0 0] 73)) b X (LN:Int)):=jd (New.kM ((refl _ _).alloc _) HS.o);obtain⟨bc,HBC⟩:=jb w4.heap.size;obtain⟨w5,Rz⟩:=jb (w4.alloc (.cells #[.pointer (some ⟨b,0,none⟩),.slice none 0 0] 73));rw[<-Rz.o,<-HBC.o]at Po;rw[<-Rz.o]at j9
 rw[<-Rz.o,<-HBC.o]
 go_loopw [43] (λi wr=>∃(k:Nat) (v:Value) (fl:List Value),k<=N/\i=.int .i64 k/\Hd (KI w wr bc b X k v fl)/\Hd (fS wr b X (LN:Int))) (λi _=>N-(intOf i).toNat)
 case atStart=>exact⟨0,_,_,by omega,rfl,Po,j9⟩
 case round=>
 obtain⟨k,v,fl,hk,rfl,HI,HSh⟩:=hrel;by_cases hlt:k<N;rotate_left
 · obtain rfl:N=k:=by omega
   go_wp2;go_ret2;have hI:=HI.o;rw[Sg.o,HN.o]at hI;obtain⟨sB,hc⟩:=hI.aoB HSh.o;refine⟨HI.o.new,.inl ⟨?_,bc,b,sB,LN,rfl,rfl,hc⟩⟩;unfold mZ;rw[if_neg (by rw[HO.o];simp),if_neg (by have:=HN.o;omega)]
 have hk4:k<4096:=by omega
 have i1:(0:Int)<=(k:Int):=by omega
 go_upto_region 10 with fail;obtain⟨r0,sY⟩:=jb wr.drew;have HI1:Hd (KI w r0 bc b X k v fl):=jd (by rw[sY.o];exact HI.o.nw (refl _ _).drew);have KA:Hd (fS r0 b X (LN:Int)):=jd (by rw[sY.o];exact New.kM (refl _ _).drew HSh.o);obtain⟨y1,y2,_,_⟩:=ay HI1.o.box
 refine wp_region_held_drew (S:=λ_=>True) (by kernel_rfl) trivial (λhHeld=>?_)
 rw[<-sY.o]
 refine' sq 0 (h:=sq 1 (h:=sq 2 (h:=sq 3 (h:=sq 5 (h:=sq 6 (h:=?_))))))
 refine wpAnyH_ready (rs:=[4,7]) (by kernel_rfl) (by simp) ?_
 refine cons rfl (λK hK=>?_) (cons rfl (λK hK=>?_) nil)
 focus
  (try simp only[aR,aP,aO]);go_simp;refine hK.out _ _ trivial (λhHeld=>?_);clear hK K;(try simp only[put,aR,aP,aO,bQ,bP,bO]);refine dQ (i:=7) (λK hK=>?_);(try simp only[aR,aP,aO]);go_simp;refine(H8 bc b k X (LN:Int) r0 y1 KA.o AO.o.1 (by have:=HN.o;omega) hk4).mono ?_;intro e r1 hgu;obtain⟨va,vb,rfl,Bf,hst⟩:=hgu.sto (B:=w.heap.size) HI1.o.new.size;have RN:=jd (HI1.o.nw Bf);have Hr:=jd (New.kM Bf KA.o);have HST:=jd hst;clear hgu Bf hst;go_wp2_with fail;refine hK.out _ _ trivial (λhHeld=>?_)
  clear hK K;(try simp only[put,aR,aP,aO,bQ,bP,bO]);refine dQ (i:=8) (λK hK=>?_);(try simp only[aR,aP,aO]);go_simp;refine hK.out _ _ trivial (λhHeld=>?_);clear hK K;(try simp only[put,aR,aP,aO,bQ,bP,bO])
 rotate_left
 focus
  skip;(try simp only[aR,aP,aO]);go_simp;refine(H8 bc b k X (LN:Int) r0 y1 KA.o AO.o.1 (by have:=HN.o;omega) hk4).mono ?_;intro e r1 hgu;obtain⟨va,vb,rfl,Bf,hst⟩:=hgu.sto (B:=w.heap.size) HI1.o.new.size;have RN:=jd (HI1.o.nw Bf);have Hr:=jd (New.kM Bf KA.o);have HST:=jd hst;clear hgu Bf hst;go_wp2_with fail;refine hK.out _ _ trivial (λhHeld=>?_);clear hK K;(try simp only[put,aR,aP,aO,bQ,bP,bO]);obtain⟨z1,z2,_,_⟩:=ay RN.o.box
  refine wpAnyH_ready (rs:=[4,8]) (by kernel_rfl) (by simp) ?_
  refine cons rfl (λK hK=>?_) (cons rfl (λK hK=>?_) nil)
  focus
   skip;(try simp only[aR,aP,aO]);go_simp;refine hK.out _ _ trivial (λhHeld=>?_);clear hK K;(try simp only[put,aR,aP,aO,bQ,bP,bO]);refine dQ (i:=8) (λK hK=>?_);(try simp only[aR,aP,aO]);go_simp;refine hK.out _ _ trivial (λhHeld=>?_);clear hK K;(try simp only[put,aR,aP,aO,bQ,bP,bO]);clear z1 z2
  rotate_left
  focus
   skip;(try simp only[aR,aP,aO]);go_simp;refine hK.out _ _ trivial (λhHeld=>?_);clear hK K;(try simp only[put,aR,aP,aO,bQ,bP,bO]);refine dQ (i:=4) (λK hK=>?_)
   have z3:=((refl (λ_=>False) r1).alloc (.cells #[va,vb] 76)).cell z2 λx=>x
   (try simp only[aR,aP,aO]);go_simp;refine hK.out _ _ trivial (λhHeld=>?_);clear hK K;(try simp only[put,aR,aP,aO,bQ,bP,bO]);clear z1 z2 z3
 all_goals
  refine dQ (i:=9) (λK hK=>?_);(try simp only[aR,aP,aO]);rw[if_pos (by rfl)];have KF:=jd RN.o.own;have hsz:=RN.o.new.size
  have ahx:∀u∈[va,vb],u.oneCell'=true:=by
   obtain⟨q1,q2,q3,q4,e1,e2,_⟩:=HST.o;intro u hu;simp only[jy,jz,or_false]at hu
   rcases hu with rfl|rfl
   · rw[e1];rfl
   rw[e2];rfl
  refine wp_append_lies _ _ _ 71 rfl w.heap.size 76 i0 (.agg #[.slice none 0 0,.slice none 0 0]) 2 48 (by kernel_rfl) hi hz0 hz1 hz2 rfl (by decide) _ k fl rfl (World.ownsRow.alloc KF.o _) ⟨r1.heap.size,0,none⟩ 1 1 [va,vb] rfl rfl (cell_two_new _ _ _ _) ahx (by omega) (by unfold maxLen;omega) (by omega) (by simp only[World.size_alloc];omega) _ rfl ?_
  intro g cap w9 hown cN _ _;obtain⟨hb9,hk9⟩:=RN.o.app HST.o hown cN;have HK9:=jd hk9;have HS9:=jd (RN.o.sh Hr.o cN hb9 (.slice (some ⟨g,0,none⟩) (k+1) cap));obtain⟨z1,z2,z3,z4⟩:=ay hb9;clear hown cN hk9 hsz ahx;refine hK.out _ _ trivial (λhHeld=>?_);clear hK K;(try simp only[put,bQ,bP,bO])
  refine' sq 10 (h:=sq 11 (h:=?_))
  refine dQ (i:=12) (λK hK=>?_);(try simp only[aR,aP,aO]);go_simp;refine hK.out _ _ trivial (λhHeld=>?_);clear hK K;(try simp only[put,aR,aP,aO,bQ,bP,bO]);refine wpAnyH_done (by kernel_rfl) ?_ _;go_wp2_with fail;go_roundw
  case rel=>exact⟨k+1,_,_,by omega,by go_num,HK9,HS9⟩
  case measure=>simp[intOf];omega
open Go.RowKit Go.Shelf
def aat(p:Nat×Nat):List Value:=[.int .i64 (p.1:Nat),.int .i64 (p.2:Nat)]
abbrev lz(l:List (Nat×Nat)):List Value:=l.flatMap aat
theorem Js(l:List (Nat×Nat))(p:Nat×Nat):lz (l++[p])=lz l++[.int .i64 (p.1:Nat),.int .i64 (p.2:Nat)]:=by
 unfold lz;rw[List.flatMap_append];simp[aat]
def sO(dg:Nat×Nat->Int×Int)(ls:List (Nat×Nat))(d:Int×Int):List (Nat×Nat):=ls.filter λp=>decide (dg p=d)
theorem CZ(dg:Nat×Nat->Int×Int)(ls:List (Nat×Nat))(p:Nat×Nat)(d:Int×Int):sO dg (ls++[p]) d=if dg p=d then sO dg ls d++[p]else sO dg ls d:=by
 unfold sO;rw[List.filter_append];by_cases c:dg p=d
 · rw[if_pos c];simp[c]
 rw[if_neg c];simp[c]
structure FF(B:Nat)(wr:World)(gm N:Nat)(dg:Nat×Nat->Int×Int)(ls:List (Nat×Nat))(f:Int×Int->Option Value)(ks:List (Int×Int)):Prop where
 map:dx 50 yI vZ wr gm N f ks
 has:∀d v,f d=some v->wr.ownsRow B 82 2 v (sO dg ls d).length (lz (sO dg ls d))
 no:∀d,f d=none->sO dg ls d=[]
 ne:∀d v,f d=some v->sO dg ls d≠[]
 apart:∀d d' v v' k,f d=some v->f d'=some v'->v.ownBlock=some k->v'.ownBlock=some k->d=d'
theorem FF.nw{wr':World}{dg:Nat×Nat->Int×Int}(h:FF B wr gm N dg ls f ks)(hN:New wr wr'):FF B wr' gm N dg ls f ks:=
 ⟨h.map.fr hN λx=>x,λd v e=>hN.owns (h.has d v e) λ_ _ x=>x,h.no,h.ne,h.apart⟩
theorem FF.start(B:Nat)(w:World)(dg:Nat×Nat->Int×Int):FF B (w.alloc (.map #[] 0)) w.heap.size 0 dg [] (λ_=>none) []:=
 ⟨dx.made w,λ_ _ h=>(by cases h),λ_ _=>rfl,λ_ _ h=>(by cases h),λ_ _ _ _ _ h=>(by cases h)⟩
theorem FF.app{dg:Nat×Nat->Int×Int}(h:FF B wr gm N dg ls f ks)(p:Nat×Nat){g c:Nat}
 (hown:w7.ownsRow B 82 2 (.slice (some ⟨g,0,none⟩) ((sO dg ls (dg p)).length+1) c) ((sO dg ls (dg p)).length+1) (lz (sO dg ls (dg p))++[.int .i64 (p.1:Nat),.int .i64 (p.2:Nat)])) (hF:Fr (λj=>((f (dg p)).getD (.slice none 0 0)).ownBlock=some j) wr w7)
 (hloc:((f (dg p)).getD (.slice none 0 0)).ownBlock=some g\/wr.heap.size<=g) (hN:N<maxLen) (wO:vZ (dg p)):
 ∃w8,(Instr.mapUpdate 78 (.map (some gm)) (yI (dg p)) (.slice (some ⟨g,0,none⟩) ((sO dg ls (dg p)).length+1) c)).run Tryz.prog w7=.ok () w8/\FF B w8 gm (N+1) dg (ls++[p]) (gD f (dg p) (some (.slice (some ⟨g,0,none⟩) ((sO dg ls (dg p)).length+1) c))) (Eh ks (dg p))/\Fr (λj=>j=gm) w7 w8:=by
 obtain⟨d,hd⟩:∃d,d=dg p:=⟨_,rfl⟩
 rw[<-hd]at hown hF hloc wO ⊢
 obtain⟨v0,hv0⟩:∃v,v=(f d).getD (.slice none 0 0):=⟨_,rfl⟩
 rw[<-hv0]at hF hloc
 have P5:∀j,v0.ownBlock=some j->B<=j/\∃cs,wr.heap[j]?=some (.cells cs 82 (0,0)):=λj hj=>by
  cases e:f d with
  |none=>rw[e]at hv0;subst hv0;cases hj
  |some v=>
   rw[e]at hv0;have hv0:v0=v:=hv0;subst hv0;exact⟨dR (h.has d v0 e) j hj,fG (h.has d v0 e) j hj⟩
 obtain⟨es,ck,yJ⟩:=h.map.blk
 have hgm:¬v0.ownBlock=some gm:=λe=>by
  obtain⟨_,cs,hc⟩:=P5 gm e
  rw[yJ]at hc;cases hc
 obtain⟨w8,hrun,hput,DU⟩:=(h.map.fr hF hgm).put AF hN Tryz.Ub (p:=d) wO (.slice (some ⟨g,0,none⟩) ((sO dg ls d).length+1) c);obtain⟨es7,ck7,anB⟩:=(h.map.fr hF hgm).blk
 have ES:∀{v:Value} {n:Nat} {xs:List Value},w7.ownsRow B 82 2 v n xs->∀j,v.ownBlock=some j->¬j=gm:=λho j hj e=>by
  obtain⟨cs,hc⟩:=fG ho j hj
  rw[e,anB]at hc;cases hc
 refine⟨w8,hrun,⟨hput,λd' v e=>?_,λd' e=>?_,λd' v e=>?_,λd1 d2 v1 v2 k e1 e2 b1 b2=>?_⟩,?_⟩
 · rw[CZ,<-hd]
   unfold gD at e;by_cases q:d'=d
   · subst q
     rw[if_pos rfl]at e ⊢;cases e;rw[Js,ju,List.length_singleton];exact DU.owns hown (ES hown)
   rw[if_neg q]at e;rw[if_neg (λx=>q x.symm)]
   have ho:=hF.owns (h.has d' v e) λj b1 b2=>by
    cases e0:f d with
    |none=>rw[e0]at hv0;subst hv0;cases b2
    |some v2=>
     rw[e0]at hv0;have hv0:v0=v2:=hv0;subst hv0;exact q (h.apart d' d v v0 j e e0 b1 b2)
   exact DU.owns ho (ES ho)
 · rw[CZ,<-hd]
   unfold gD at e;by_cases q:d'=d
   · rw[if_pos q]at e;cases e
   rw[if_neg q]at e
   rw[if_neg (λx=>q x.symm)];exact h.no d' e
 · rw[CZ,<-hd]
   unfold gD at e;by_cases q:d'=d
   · rw[if_pos q.symm];simp
   rw[if_neg q]at e
   rw[if_neg (λx=>q x.symm)];exact h.ne d' v e
 · unfold gD at e1 e2
   have key:∀d' v,d'≠d->f d'=some v->v.ownBlock=some k->k=g->False:=λd' v q e b ek=>by
    subst ek
    rcases hloc with hl|hl
    · cases e0:f d with
      |none=>rw[e0]at hv0;subst hv0;cases hl
      |some v2=>
       rw[e0]at hv0;have hv0:v0=v2:=hv0;subst hv0;exact q (h.apart d' d v v0 k e e0 b hl)
    obtain⟨cs,hc⟩:=fG (h.has d' v e) k b;have:=(jf.1 hc).1;omega
   by_cases q1:d1=d
   · by_cases q2:d2=d
     · rw[q1,q2]
     rw[if_pos q1]at e1;rw[if_neg q2]at e2
     cases e1;cases b1;exact(key d2 v2 q2 e2 b2 rfl).elim
   rw[if_neg q1]at e1;by_cases q2:d2=d
   · rw[if_pos q2]at e2
     cases e2;cases b2;exact(key d1 v1 q1 e1 b1 rfl).elim
   rw[if_neg q2]at e2;exact h.apart d1 d2 v1 v2 k e1 e2 b1 b2
 exact DU
theorem FF.fr{S:Nat->Prop}{B:Nat}{wr wr':World}{gm N:Nat}{dg:Nat×Nat->Int×Int}{ls:List (Nat×Nat)}{f:Int×Int->Option Value}{ks:List (Int×Int)}(h:FF B wr gm N dg ls f ks)(hF:Fr S wr wr')(hS:∀k,S k->k≠gm/\k<B):FF B wr' gm N dg ls f ks:=
 ⟨h.map.fr hF λx=>(hS _ x).1 rfl,λd v e=>hF.owns (h.has d v e) λj b hj=>by have:=(hS j hj).2;have:=dR (h.has d v e) j b;omega,h.no,h.ne,h.apart⟩
theorem FF.row{dg:Nat×Nat->Int×Int}(h:FF B wr gm N dg ls f ks)(d:Int×Int):wr.ownsRow B 82 2 ((f d).getD (.slice none 0 0)) (sO dg ls d).length (lz (sO dg ls d)):=by
 cases e:f d with
 |none=>rw[h.no d e];exact World.ownsRow_nil _ _ _ _
 |some v=>exact h.has d v e
theorem FF.len{dg:Nat×Nat->Int×Int}(_:FF B wr gm N dg ls f ks)(d:Int×Int):(sO dg ls d).length<=ls.length:=List.length_filter_le _ _
end Go.Proofs.YtfplmbmenjdlhaaGreatDoor
