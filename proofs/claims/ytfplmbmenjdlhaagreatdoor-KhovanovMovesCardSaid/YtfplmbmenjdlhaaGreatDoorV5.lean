/- Walks: the marked states that come of a marked state (turn). -/
import Derived.Test.YtfplmbmenjdlhaaGreatDoorV4
set_option maxRecDepth 100000
set_option maxHeartbeats 16000000
namespace Go.Proofs.YtfplmbmenjdlhaaGreatDoor
open Go.RowKit
open And (intro)
open Fr (refl)
open IntKind (i64)
open Kn (Cr mU M4 AA ag aw fB eY oZ bC ig)
open Value (int)
variable {w w5:World}
def ad4(w:World)(a:Option Addr)(l:List (Nat×Nat)):Prop:=
 l=[]\/∃b o,a=some ⟨b,o,none⟩/\∀i,i<l.length->w.cell? ⟨b,o+i*2,none⟩=some (.int .i64 ((l.getD i (0,0)).1:Nat))/\w.cell? ⟨b,o+i*2+1,none⟩=some (.int .i64 ((l.getD i (0,0)).2:Nat))
def yD(l:List (Nat×Nat))(w:World)(e:Ending)(w':World):Prop:=
 ∃a n c,e=.returned (.slice a n c)/\New w w'/\Hd (n=l.length)/\ad4 w' a l
theorem QZ(hN:New w w5):yD [] w (.returned (.slice none 0 0)) w5:=⟨none,0,0,rfl,hN,jd rfl,.inl rfl⟩
theorem xZ(hN:New w w5)(x y:Nat):yD [(x,y)] w (.returned (.slice (some ⟨w5.heap.size,0,none⟩) 1 1)) (w5.alloc (.cells #[.int .i64 (x:Nat),.int .i64 (y:Nat)] 82)):=by
 refine⟨_,1,1,rfl,hN.alloc _,jd rfl,.inr ⟨_,0,rfl,λi hi=>?_⟩⟩
 obtain rfl:i=0:=by simp at hi;omega
 obtain⟨h1,h2,_,_⟩:=ay (heap_alloc_new w5 (.cells #[.int .i64 (x:Nat),.int .i64 (y:Nat)] 82));exact⟨h1,h2⟩
theorem Vg(hN:New w w5)(x y u v:Nat):yD [(x,y),(u,v)] w (.returned (.slice (some ⟨w5.heap.size,0,none⟩) 2 2)) (w5.alloc (.cells #[.int .i64 (x:Nat),.int .i64 (y:Nat),.int .i64 (u:Nat),.int .i64 (v:Nat)] 82)):=by
 refine⟨_,2,2,rfl,hN.alloc _,jd rfl,.inr ⟨_,0,rfl,λi hi=>?_⟩⟩;have hz:=heap_alloc_new w5 (.cells #[.int .i64 (x:Nat),.int .i64 (y:Nat),.int .i64 (u:Nat),.int .i64 (v:Nat)] 82)
 have h:∀(j:Nat) (z:Value),(#[int .i64 (x:Nat),.int .i64 (y:Nat),.int .i64 (u:Nat),.int .i64 (v:Nat)]:Array Value)[j]?=some z->(w5.alloc (.cells #[.int .i64 (x:Nat),.int .i64 (y:Nat),.int .i64 (u:Nat),.int .i64 (v:Nat)] 82)).cell? ⟨w5.heap.size,j,none⟩=some z:=λj z hj=>by
  exact(cell_of_row _ _ j _ 82 (0,0) hz).trans hj
 rcases (show i=0\/i=1 by simp at hi;omega)with rfl|rfl
 · exact⟨h 0 _ rfl,h 1 _ rfl⟩
 exact⟨h 2 _ rfl,h 3 _ rfl⟩
theorem CL(w:World)(x:Nat):mN (w.alloc (.cells #[.int .i64 (x:Nat)] 3)) (some ⟨w.heap.size,0,none⟩) (ints [x]):=by
 refine .inr ⟨_,0,rfl,λi hi=>?_⟩
 obtain rfl:i=0:=by simp[ints]at hi;omega
 exact cell_of_row _ _ 0 _ 3 (0,0) (heap_alloc_new w _)
theorem abQ(st k:Nat):(st ||| 2 ^ k).testBit=bC st.testBit k:=funext λj=>by
 unfold bC;rw[Nat.testBit_or,Nat.testBit_two_pow];by_cases e:j=k
 · subst e;simp
 rw[if_neg e,jm (λq=>e q.symm),Bool.or_false]
theorem uC{X:List Cr}{S:Nat->Bool}{rB a:Nat}(h:w.rowIs rB 3 (ag X+1) (bS (fB X S)))(ha:a<=ag X):w.cell? ⟨rB,a,none⟩=some (.int .i64 (fB X S a:Nat)):=by
 have:=h.cell (i:=a) (by omega);simpa[bS]using this
theorem SC(bc b sB st mk k:Nat)(X:List Cr)(L:Nat)(w:World)(h:qg w bc b sB X L)(hX:Kn.Ok X)(hp:Kn.aJ X=true)(hst:st<2 ^ X.length)(h6:X.length<=6)(hL:L<=2)(OH:mk<2 ^ eY X L st.testBit)(hk:k<X.length)(h0:st.testBit k=false):
 Calls Tryz.prog 29 #[.pointer (some ⟨bc,0,none⟩),mV st mk,.int .i64 (k:Nat)] w (yD ((oZ X L st.testBit k mk).map λm=>(st ||| 2 ^ k,m)) w):=by
 obtain⟨TL,RA⟩:=jb ((oZ X L st.testBit k mk).map λm=>(st ||| 2 ^ k,m));rw[<-RA.o]
 obtain⟨tt,htt⟩:∃tt,tt=st ||| 2 ^ k:=⟨_,rfl⟩
 have htl:tt<2 ^ X.length:=by rw[htt];exact Nat.or_lt_two_pow hst (Nat.pow_lt_pow_right (by omega) hk)
 have hT:tt.testBit=bC st.testBit k:=by rw[htt];exact abQ st k
 have ad:=(hX.eF hp L).Fw st.testBit k hk h0
 have hmk4:mk<16384:=jT OH (by
  have:eY X L st.testBit<=14:=by unfold eY;have:=iE X st.testBit;omega
  exact jI (by omega) this)
 obtain⟨a1,c1,hs0,_,iw⟩:=h.sh.uh;obtain⟨bx,ox,rfl,hx⟩:=iw.at hk;obtain⟨cS,hrow⟩:=h.row;obtain⟨va,vb,g1,g2,rA,gA,lA,cA,rfl,rfl,rwA,iA,eA⟩:=h.sts st hst;obtain⟨va,vb,g3,g4,rB,gB,lB,cB,rfl,rfl,rwB,iB,eB⟩:=h.sts tt htl;have Mp:=h.ptr;obtain⟨xa,xb,xc,xd,xp,qV⟩:=Kn.qP X k;obtain⟨f1,f2,f3,f4,f5⟩:=G5 hX hk;obtain⟨ua,Pf⟩:=jb (Kn.aa X (k,0));obtain⟨uc,HUC⟩:=jb (Kn.aa X (k,2))
 have hua:ua<=ag X:=by rw[Pf.o];have:=f5 0 (by omega);unfold ag;omega
 have huc:uc<=ag X:=by rw[HUC.o];have:=f5 2 (by omega);unfold ag;omega
 rw[qV.o]at f1 f3 hx;rw[<-Pf.o]at f1;rw[<-HUC.o]at f3;have f1:xa=(ua:Int):=f1;have f3:xc=(uc:Int):=f3;subst f1 f3;clear f2 f4 f5;have r1:=uC rwA hua;have r2:=uC rwA huc;have r3:=uC rwB hua;have r4:=uC rwB huc;obtain⟨fs,HFS⟩:=jb (fB X st.testBit ua);obtain⟨sn,ZD⟩:=jb (fB X st.testBit uc);obtain⟨on,HON⟩:=jb (fB X tt.testBit ua);obtain⟨tw,Xi⟩:=jb (fB X tt.testBit uc);rw[<-HFS.o]at r1;rw[<-ZD.o]at r2;rw[<-HON.o]at r3;rw[<-Xi.o]at r4;have hlA:=iE X st.testBit
 have hlB:=iE X tt.testBit;rw[<-eA]at hlA;rw[<-eB]at hlB
 obtain⟨n,hn⟩:∃n,n=X.length:=⟨_,rfl⟩
 obtain⟨m,hm⟩:∃m,m=ag X:=⟨_,rfl⟩
 obtain⟨N,hN⟩:∃N,N=2 ^ X.length:=⟨_,rfl⟩
 have hm12:m<=12:=by rw[hm];unfold ag;omega
 have HAD:=jd ad;have HH:=jd h;have HX:=jd hX;have HST:=jd hst;have HTL:=jd htl;have HTT:=jd htt;have HBT:=jd hT;have HMK:=jd OH;have HIA:=jd iA;have HIB:=jd iB;have WD:=jd eA;have RP:=jd eB;have HN:=jd hn;have HM:=jd hm;have Sg:=jd hN;have k9:=jd (intro r1 (intro r2 (intro r3 r4)));have sf:=jd (intro g1 (intro g2 (intro g3 (intro g4 hrow))));have qY:=jd (intro Mp (intro hs0 hx));rw[<-hm]at hua huc sf;rw[<-hN]at hst htl sf;rw[<-hn]at hk h6 hlA hlB qY
 have aia:N<=64:=by rw[hN,<-hn];exact(jI (by omega) h6:2 ^ n<=2 ^ 6)
 clear ad h hX OH iA iB eA eB r1 r2 r3 r4 g1 g2 g3 g4 hrow Mp hs0 hx hn hm hN rwA rwB iw h0 hT htt hp;obtain⟨mB,uq⟩:=jb w.heap.size;obtain⟨w1,cU⟩:=jb (w.alloc (.cells #[.int .i64 (st:Nat),.int .i64 (mk:Nat)] 82));have gQ:Hd (New w w1):=jd (by rw[cU.o];exact(refl _ _).alloc _);have eU:Hd (w1.heap[mB]?=some (.cells #[.int .i64 (st:Nat),.int .i64 (mk:Nat)] 82 (0,0))):=jd (by rw[cU.o,uq.o];exact heap_alloc_new _ _)
 go_enter Tryz.func29,Tryz.ntmps29
 go_upto_region 1 with fail;rw[<-cU.o,<-uq.o];have hND:New w w1.drew:=gQ.o.trans (refl _ _).drew;obtain⟨p1,p2,p3⟩:=qY.o
 have p1:=hND.cell p1 λx=>x
 have p2:=hND.cell p2 λx=>x
 obtain⟨x1,x2,x3,x4,x5⟩:=hND.Kd p3 λx=>x
 obtain⟨y1,y2,_,_⟩:=ay ((refl (λ_=>False) w1).drew.blk eU.o λx=>x)
 have i1:(0:Int)<=(k:Int):=by omega
 have i2:(k:Int)<(n:Int):=by omega
 clear p3
 refine wp_region_held_drew (S:=λwz=>wz.cell? ⟨bc,0,none⟩=some (.pointer (some ⟨b,0,none⟩))/\wz.cell? ⟨b,0,none⟩=some (.slice (some ⟨bx,ox,none⟩) n c1)/\wz.cell? ⟨bx,ox+k*5,none⟩=some (.int .i64 (ua:Nat))/\wz.cell? ⟨bx,ox+k*5+1,none⟩=some (.int .i64 xb)/\wz.cell? ⟨bx,ox+k*5+2,none⟩=some (.int .i64 (uc:Nat))/\wz.cell? ⟨bx,ox+k*5+3,none⟩=some (.int .i64 xd)/\wz.cell? ⟨bx,ox+k*5+4,none⟩=some (.bool xp)/\wz.cell? ⟨mB,0,none⟩=some (.int .i64 (st:Nat))) (by kernel_rfl) ⟨p1,p2,x1,x2,x3,x4,x5,y1⟩ (λhHeld=>?_)
 refine' sq 0 (h:=sq 1 (h:=sq 2 (h:=sq 3 (h:=sq 4 (h:=sq 5 (h:=sq 6 (h:=sq 7 (h:=sq 8 (h:=sq 9 (h:=sq 10 (h:=sq 11 (h:=sq 12 (h:=sq 13 (h:=sq 14 (h:=sq 15 (h:=?_))))))))))))))))
 refine dQ (i:=16) (λK hK=>?_);(try simp only[aR,aP,aO]);go_simp
 have hbw:bits BinOp.or i64 (st:Nat) (i64.wrap (2 ^ k))=((tt:Nat):Int):=by
  rw[HTT.o,<-pK st (2 ^ k) (by omega) (jT (Nat.pow_lt_pow_right (by omega) (show k<12 by omega):2 ^ k<2 ^ 12) (by omega))]
  congr 1
  have:=jl (List.all_eq_true.1 NL k (jw.2 (by omega)))
  rw[show min k 64=k by omega]at this;exact this
 rw[hbw];clear hbw;have K5:New w1.drew (w1.alloc (.cells #[.int .i64 0,.int .i64 0,.int .i64 0,.int .i64 0,.bool false] 109)).drew:=(refl (λ_=>False) w1.drew).alloc _;refine hK.out _ _ ⟨K5.cell p1 λx=>x,K5.cell p2 λx=>x,K5.cell x1 λx=>x,K5.cell x2 λx=>x,K5.cell x3 λx=>x,K5.cell x4 λx=>x,K5.cell x5 λx=>x,K5.cell y1 λx=>x⟩ (λhHeld=>?_);clear hK K;(try simp only[Act.put,aR,aP,aO,bQ,bP,bO]);refine dQ (i:=17) (λK hK=>?_);(try simp only[aR,aP,aO]);go_simp
 obtain⟨xB,HXB⟩:=jb w1.heap.size;obtain⟨w2,AM⟩:=jb ((w1.alloc (.cells #[.int .i64 (ua:Nat),.int .i64 xb,.int .i64 (uc:Nat),.int .i64 xd,.bool xp] 109)).drew);have KM:Hd (New w1 w2):=jd (by rw[AM.o];exact((refl _ _).alloc _).drew)
 have Bz:Hd (w2.heap[xB]?=some (.cells #[.int .i64 (ua:Nat),.int .i64 xb,.int .i64 (uc:Nat),.int .i64 xd,.bool xp] 109 (0,0))):=jd (by
  rw[AM.o,HXB.o];exact(refl (λ_=>False) _).drew.blk (heap_alloc_new w1 _) λx=>x)
 rw[<-AM.o,<-HXB.o];have hN3:New w w2:=gQ.o.trans KM.o;obtain⟨q1,q2,q3⟩:=qY.o
 obtain⟨q3,q4,q5,q6,q7⟩:=hN3.Kd q3 λx=>x
 obtain⟨q8,_,_,_⟩:=ay (KM.o.blk eU.o λx=>x);refine hK.out _ _ ⟨hN3.cell q1 λx=>x,hN3.cell q2 λx=>x,q3,q4,q5,q6,q7,q8⟩ (λhHeld=>?_);clear hK K K5 p1 p2 x1 x2 x3 x4 x5 y1 y2 q1 q2 q3 q4 q5 q6 q7 q8;(try simp only[Act.put,aR,aP,aO,bQ,bP,bO])
 refine' sq 18 (h:=?_)
 refine wpAnyH_done (by kernel_rfl) ?_ _;go_upto_region 2 with fail;have QW:New w w2.drew:=hN3.trans (refl _ _).drew;obtain⟨p1,p2,p3,p4,p5⟩:=sf.o
 have p1:=QW.cell p1 λx=>x
 have p2:=QW.cell p2 λx=>x
 have p3:=QW.cell p3 λx=>x
 have p4:=QW.cell p4 λx=>x
 have p5:=QW.cell p5 λx=>x
 obtain⟨y1,y2,_,_⟩:=ay ((KM.o.trans (refl (λ_=>False) w2).drew).blk eU.o λx=>x)
 have j1:(0:Int)<=(st:Int):=by omega
 have j2:(st:Int)<(N:Int):=by omega
 have j3:(0:Int)<=(tt:Int):=by omega
 have j4:(tt:Int)<(N:Int):=by omega
 have FC:Hd (∀wz,New w2.drew wz->wz.cell? ⟨bc,1,none⟩=some (.slice (some ⟨sB,0,none⟩) N cS)/\wz.cell? ⟨sB,st*2,none⟩=some (.slice (some ⟨rA,0,none⟩) (m+1) (m+1))/\wz.cell? ⟨sB,st*2+1,none⟩=some (.slice gA lA cA)/\wz.cell? ⟨sB,tt*2,none⟩=some (.slice (some ⟨rB,0,none⟩) (m+1) (m+1))/\wz.cell? ⟨sB,tt*2+1,none⟩=some (.slice gB lB cB)/\wz.cell? ⟨mB,0,none⟩=some (.int .i64 (st:Nat))):=jd λwz hz=>⟨hz.cell p5 λx=>x,hz.cell p1 λx=>x,hz.cell p2 λx=>x,hz.cell p3 λx=>x,hz.cell p4 λx=>x,hz.cell y1 λx=>x⟩
 go_cut [9,10] (λs9 s10 wx=>∃sC tC:Nat,s9=.pointer (some ⟨sC,0,none⟩)/\s10=.pointer (some ⟨tC,0,none⟩)/\Hd (New w2 wx/\wx.heap[sC]?=some (.cells #[.slice (some ⟨rA,0,none⟩) (m+1) (m+1),.slice gA lA cA] 76 (0,0))/\wx.heap[tC]?=some (.cells #[.slice (some ⟨rB,0,none⟩) (m+1) (m+1),.slice gB lB cB] 76 (0,0))))
 case first=>
  go_region_held3 (λwz=>wz.cell? ⟨bc,1,none⟩=some (.slice (some ⟨sB,0,none⟩) N cS)/\wz.cell? ⟨sB,st*2,none⟩=some (.slice (some ⟨rA,0,none⟩) (m+1) (m+1))/\wz.cell? ⟨sB,st*2+1,none⟩=some (.slice gA lA cA)/\wz.cell? ⟨sB,tt*2,none⟩=some (.slice (some ⟨rB,0,none⟩) (m+1) (m+1))/\wz.cell? ⟨sB,tt*2+1,none⟩=some (.slice gB lB cB)/\wz.cell? ⟨mB,0,none⟩=some (.int .i64 (st:Nat)))
   (first|assumption|exact FC.o _ (refl _ _)|exact FC.o _ ((refl _ _).alloc _)|exact FC.o _ (((refl _ _).alloc _).alloc _)|exact FC.o _ (((((refl _ _).alloc _).alloc _).setCell (.inr (jH _)) _).setCell (.inr (jH _)) _)|exact FC.o _ (((((refl _ _).alloc _).alloc _).setCell (.inr (Nat.le_succ _)) _).setCell (.inr (Nat.le_succ _)) _))
   (first|fail)
  · go_wp2_with fail
    go_meet;have hz:=heap_alloc_new (w2.alloc (.cells #[.slice (some ⟨rA,0,none⟩) (m+1) (m+1),.slice gA lA cA] 76)) (.cells #[.slice (some ⟨rB,0,none⟩) (m+1) (m+1),.slice gB lB cB] 76);rw[World.size_alloc]at hz;exact⟨_,_,rfl,rfl,jd ⟨((((refl _ w2).alloc _).alloc _).drew),(refl (λ_=>False) _).drew.blk ((Below.heap_alloc _ _ _ (by simp)).trans (heap_alloc_new _ _)) (λx=>x),(refl (λ_=>False) _).drew.blk hz λx=>x⟩⟩
  go_wp2_with fail;go_meet;have hz:=heap_alloc_new (w2.alloc (.cells #[.slice (some ⟨rB,0,none⟩) (m+1) (m+1),.slice gB lB cB] 76)) (.cells #[.slice (some ⟨rA,0,none⟩) (m+1) (m+1),.slice gA lA cA] 76);rw[World.size_alloc]at hz;exact⟨_,_,rfl,rfl,jd ⟨((((refl _ w2).alloc _).alloc _).drew),(refl (λ_=>False) _).drew.blk hz (λx=>x),(refl (λ_=>False) _).drew.blk ((Below.heap_alloc _ _ _ (by simp)).trans (heap_alloc_new _ _)) λx=>x⟩⟩
 case rest=>
 obtain⟨sC,tC,rfl,rfl,Nd⟩:=hcut
 obtain⟨w3,rfl⟩:∃w3,w3=wc:=⟨_,rfl⟩
 clear p1 p2 p3 p4 p5 y1 y2 QW FC hN3 hND;have pO:Hd (New w w3):=jd ((gQ.o.trans KM.o).trans Nd.o.1);have aiV:=jd (Nd.o.1.blk Bz.o λx=>x);have ZS:=jd ((KM.o.trans Nd.o.1).blk eU.o λx=>x)
 obtain⟨mm,Ai⟩:∃mm,mm=m+1:=⟨_,rfl⟩
 have HKC:Hd (∀wz,New w3 wz->(wz.cell? ⟨xB,0,none⟩=some (.int .i64 (ua:Nat))/\wz.cell? ⟨xB,2,none⟩=some (.int .i64 (uc:Nat)))/\(wz.cell? ⟨sC,0,none⟩=some (.slice (some ⟨rA,0,none⟩) mm mm)/\wz.cell? ⟨sC,1,none⟩=some (.slice gA lA cA)/\wz.cell? ⟨tC,0,none⟩=some (.slice (some ⟨rB,0,none⟩) mm mm)/\wz.cell? ⟨tC,1,none⟩=some (.slice gB lB cB)) /\
  (wz.cell? ⟨rA,ua,none⟩=some (.int .i64 (fs:Nat))/\wz.cell? ⟨rA,uc,none⟩=some (.int .i64 (sn:Nat))/\wz.cell? ⟨rB,ua,none⟩=some (.int .i64 (on:Nat))/\wz.cell? ⟨rB,uc,none⟩=some (.int .i64 (tw:Nat)))/\wz.cell? ⟨mB,0,none⟩=some (.int .i64 (st:Nat))/\wz.cell? ⟨mB,1,none⟩=some (.int .i64 (mk:Nat))):=jd λwz hz=>by
  obtain⟨v1,v2,v3,v4,v5⟩:=uW (hz.blk aiV.o λx=>x);obtain⟨v6,v7,_,_⟩:=ay (hz.blk Nd.o.2.1 λx=>x);obtain⟨v8,v9,_,_⟩:=ay (hz.blk Nd.o.2.2 λx=>x);obtain⟨v10,v11,_,_⟩:=ay (hz.blk ZS.o λx=>x);obtain⟨r1,r2,r3,r4⟩:=k9.o;have Hm:=pO.o.trans hz;rw[<-Ai]at v6 v8;exact⟨⟨v1,v3⟩,⟨v6,v7,v8,v9⟩,⟨Hm.cell r1 λx=>x,Hm.cell r2 λx=>x,Hm.cell r3 λx=>x,Hm.cell r4 λx=>x⟩,v10,v11⟩
 have b1:(0:Int)<=(ua:Int):=by omega
 have b2:(ua:Int)<(mm:Int):=by omega
 have b3:(0:Int)<=(uc:Int):=by omega
 have b4:(uc:Int)<(mm:Int):=by omega
 go_upto_region 3 with fail;obtain⟨⟨v1,v2⟩,⟨v3,v4,v5,v6⟩,⟨v7,v8,v9,v10⟩,v11,v12⟩:=HKC.o w3 (refl _ _)
 go_quiet (fail)
 obtain⟨w4,We⟩:=jb (w3.drewN nq);have oW:Hd (New w3 w4):=jd (by rw[We.o];exact(refl _ _).drewN _);rw[<-We.o];clear v1 v2 v3 v4 v5 v6 v7 v8 v9 v10 v11 v12;go_upto_region 4 with fail;obtain⟨⟨v1,v2⟩,⟨v3,v4,v5,v6⟩,⟨v7,v8,v9,v10⟩,v11,v12⟩:=HKC.o w4 oW.o
 go_quiet (fail)
 obtain⟨w5,Rz⟩:=jb (w4.drewN nq);have vO:Hd (New w3 w5):=jd (by rw[Rz.o];exact oW.o.drewN _);rw[<-Rz.o];clear v1 v2 v3 v4 v5 v6 v7 v8 v9 v10 v11 v12 b1 b2 b3 b4;go_upto_region 5 with fail;obtain⟨be0,Z4⟩:=jb (mU X L st.testBit tt.testBit mk on tw 0)
 have Vb:i64.wrap ((mk:Int) / 2 ^ lA*2 ^ lB)=((be0:Nat):Int):=by
  have e:=Kn.base_start (T:=tt.testBit) (one:=on) (two:=tw) HMK.o;rw[<-WD.o,<-RP.o,<-Z4.o]at e
  have h1:be0<2 ^ 14:=by
   rw[Z4.o];exact jT (Kn.O7 0) (jI (by omega) (by unfold eY;have:=RP.o;omega))
  rw[show ((mk:Int) / 2 ^ lA*2 ^ lB)=((mk / 2 ^ lA*2 ^ lB:Nat):Int)by simp,e];exact IntWalk.i64_in _ (by omega)
 have HBE:=jd Vb;clear Vb
 go_cut [15] (λs15 wx=>∃pB:Nat,s15=.pointer (some ⟨pB,0,none⟩)/\Hd (New w3 wx/\w.heap.size<=pB/\mB<pB/\wx.heap[pB]?=some (.cells #[.int .i64 (tt:Nat),.int .i64 (be0:Nat)] 82 (0,0))))
 case first=>
  have FC:Hd (∀wz,New w3 wz->wz.cell? ⟨sC,1,none⟩=some (.slice gA lA cA)/\wz.cell? ⟨tC,1,none⟩=some (.slice gB lB cB)/\wz.cell? ⟨mB,1,none⟩=some (.int .i64 (mk:Nat))):=jd λwz hz=>by
   obtain⟨_,⟨_,v4,_,v6⟩,_,_,v12⟩:=HKC.o wz hz;exact⟨v4,v6,v12⟩
  go_region_held3 (λwz=>wz.cell? ⟨sC,1,none⟩=some (.slice gA lA cA)/\wz.cell? ⟨tC,1,none⟩=some (.slice gB lB cB)/\wz.cell? ⟨mB,1,none⟩=some (.int .i64 (mk:Nat)))
   (first|assumption|exact FC.o _ vO.o.drew|exact FC.o _ (vO.o.drew.alloc _)|exact FC.o _ (vO.o.alloc _).drew)
   (first|fail)
  rw[HBE.o];go_wp2_with fail;go_meet;exact⟨_,rfl,jd ⟨(vO.o.alloc _).drew,jJ pO.o.size vO.o.size,(jf.1 (vO.o.blk ZS.o λx=>x)).1,(refl (λ_=>False) _).drew.blk (heap_alloc_new w5 _) λx=>x⟩⟩
 case rest=>
 obtain⟨pB,rfl,Bv⟩:=hcut
 obtain⟨w6,rfl⟩:∃w6,w6=wc:=⟨_,rfl⟩
 have HIV:Hd (New w w6/\w6.heap[tC]?=some (.cells #[.slice (some ⟨rB,0,none⟩) mm mm,.slice gB lB cB] 76 (0,0))/\w6.heap[mB]?=some (.cells #[.int .i64 (st:Nat),.int .i64 (mk:Nat)] 82 (0,0))/\w6.heap[pB]?=some (.cells #[.int .i64 (tt:Nat),.int .i64 (mU X L st.testBit tt.testBit mk on tw 0:Nat)] 82 (0,0))):=jd (by
  have h2:=Nd.o.2.2;rw[<-Ai]at h2;have h4:=Bv.o.2.2.2;rw[Z4.o]at h4
  exact⟨pO.o.trans Bv.o.1,Bv.o.1.blk h2 λx=>x,Bv.o.1.blk ZS.o λx=>x,h4⟩)
 have G8:Hd (w.heap.size<=pB/\¬mB=pB):=jd ⟨Bv.o.2.1,λe=>by have:=Bv.o.2.2.1;omega⟩
 obtain⟨G,HG⟩:∃G:Nat->Nat,Hd (G=mU X L st.testBit tt.testBit mk on tw):=⟨_,jd rfl⟩
 rw[<-HG.o]at HIV;have l1:=(ay HIV.o.2.1).2.1;clear HBE Z4 Bv HKC vO Rz oW We Nd aiV ZS pO Bz KM AM;go_wp2_with fail;clear l1
 go_loopw [16,17,91] (λ_ _ i wr=>∃j:Nat,j<=lB/\i=.int .i64 j/\Hd (New w wr/\wr.heap[tC]?=some (.cells #[.slice (some ⟨rB,0,none⟩) mm mm,.slice gB lB cB] 76 (0,0))/\wr.heap[mB]?=some (.cells #[.int .i64 (st:Nat),.int .i64 (mk:Nat)] 82 (0,0))/\wr.heap[pB]?=some (.cells #[.int .i64 (tt:Nat),.int .i64 (G j:Nat)] 82 (0,0)))) (λ_ _ i _=>lB-(intOf i).toNat)
 case atStart=>exact⟨0,by omega,rfl,HIV⟩
 case round=>
 obtain⟨j,hj,rfl,HJ⟩:=hrel;by_cases hlt:j<lB
 · have W6:j<(aw X tt.testBit).length:=by have:=RP.o;omega
   obtain⟨r,KB⟩:∃r,Hd ((aw X tt.testBit)[j]?=some r):=⟨_,jd (je W6)⟩
   obtain⟨ba,oa,ea,hc⟩:=(HJ.o.1.ints HIB.o).at (k:=j) (by rw[xV];exact W6);subst ea
   have iw:(ints (aw X tt.testBit)).getD j 0=(r:Int):=by
    unfold ints
    rw[jc,List.getElem?_map,KB.o];rfl
   rw[iw]at hc
   have i3:(0:Int)<=(j:Int):=by omega
   have i4:(j:Int)<(lB:Int):=by omega
   obtain⟨y1,y2,_,_⟩:=ay HJ.o.2.2.1;have HBB:=jd (Kn.aiD (m:=mk) (S:=st.testBit) (one:=on) (two:=tw) KB.o);have aeg:=jd (Kn.Rn (L:=L) (m:=mk) (S:=st.testBit) (one:=on) (two:=tw) W6);rw[<-HG.o]at aeg
   have same:∀wz,M4 X st.testBit tt.testBit mk on tw j=false->New w wz/\wz.heap[tC]?=some (.cells #[.slice (some ⟨rB,0,none⟩) mm mm,.slice (some ⟨ba,oa,none⟩) lB cB] 76 (0,0))/\wz.heap[mB]?=some (.cells #[.int .i64 (st:Nat),.int .i64 (mk:Nat)] 82 (0,0))/\wz.heap[pB]?=some (.cells #[.int .i64 (tt:Nat),.int .i64 (G j:Nat)] 82 (0,0))->wz.heap[pB]?=some (.cells #[.int .i64 (tt:Nat),.int .i64 (G (j+1):Nat)] 82 (0,0)):=λwz hb h=>by
    have:=aeg.o;rw[hb]at this
    rw[this];exact h.2.2.2
   clear iw;by_cases e1:r=on
   · have d1:¬¬(r:Int)=(on:Int):=by omega
     have d1':(r:Int)=(on:Int):=by omega
     go_wp2_with fail;go_roundw
     case rel=>
      refine⟨j+1,by omega,by go_num,jd ⟨HJ.o.1,HJ.o.2.1,HJ.o.2.2.1,same wr ?_ HJ.o⟩⟩
      rw[HBB.o,jk e1];rfl
     case measure=>simp[intOf];omega
   have d1:¬(r:Int)=(on:Int):=by omega
   by_cases e2:r=tw
   · have d2:¬¬(r:Int)=(tw:Int):=by omega
     have d2':(r:Int)=(tw:Int):=by omega
     go_wp2_with fail;go_roundw
     case rel=>
      refine⟨j+1,by omega,by go_num,jd ⟨HJ.o.1,HJ.o.2.1,HJ.o.2.2.1,same wr ?_ HJ.o⟩⟩
      rw[HBB.o,jk e2];simp
     case measure=>simp[intOf];omega
   have d2:¬(r:Int)=(tw:Int):=by omega
   have hrS:r∈aw X st.testBit:=by
    have ad:=HAD.o;rw[<-HBT.o]at ad;exact HX.o.Tp ad (List.mem_of_getElem? KB.o) (by rw[HON.o]at e1;rw[Pf.o]at e1;exact e1) (by rw[Xi.o]at e2;rw[HUC.o]at e2;exact e2)
   have HCM:Hd (∀wz,New w wz->Calls Tryz.prog 48 #[.pointer (some ⟨bc,0,none⟩),mV st mk,.int .i64 (r:Nat)] wz (λe w'=>e=.returned (.bool (AA X st.testBit mk r))/\New wz w')):=jd λwz hz=>
    Jv bc b sB st mk r X L wz (HH.o.new hz) HST.o (by have:=HN.o;omega) (by omega) hrS
   obtain⟨vb,HVB⟩:=jb (AA X st.testBit mk r);rw[<-HVB.o]at HCM
   have hbb:M4 X st.testBit tt.testBit mk on tw j=vb:=by rw[HBB.o,<-HVB.o,jm e1,jm e2];rfl
   cases vb
   · go_wp2_with (go_at_call 48;refine(HCM.o _ HJ.o.1).mono ?_;rintro e w7 ⟨rfl,hN7⟩;have Pn:=jd hN7;clear hN7)
     go_roundw
     case rel=>
      refine⟨j+1,by omega,by go_num,jd ⟨HJ.o.1.trans Pn.o,Pn.o.blk HJ.o.2.1 (λx=>x),Pn.o.blk HJ.o.2.2.1 (λx=>x),Pn.o.blk (same wr hbb HJ.o) λx=>x⟩⟩
     case measure=>simp[intOf];omega
   have adg:=aeg.o;rw[hbb]at adg;have HG1:Hd (G (j+1)=G j ||| 2 ^ j):=jd adg
   have hgj:G j<2 ^ 14:=by
    rw[HG.o];exact jT (Kn.O7 j) (jI (by omega) (by unfold eY;have:=RP.o;omega))
   obtain⟨gj,HGJ⟩:=jb (G j);rw[<-HGJ.o]at HJ hgj HG1;clear hbb same adg
   have d3:((r:Int) != (on:Int))=true:=by simpa using d1
   have d4:((r:Int) != (tw:Int))=true:=by simpa using d2
   go_wp2_with (go_at_call 48;refine(HCM.o _ HJ.o.1).mono ?_;rintro e w7 ⟨rfl,hN7⟩;have Pn:=jd hN7;clear hN7)
   have hp7:=Pn.o.blk HJ.o.2.2.2 λx=>x
   obtain⟨y5,y6,y7,y8⟩:=ay ((refl (λ_=>False) w7).drew.blk hp7 λx=>x)
   go_still_tail 6,(by kernel_rfl)
   change wpList _ _ _ _ _ w7.drew;go_wp2_with fail;go_roundw
   case rel=>
    have hbw:bits BinOp.or i64 (gj:Nat) (wrap64 (2 ^ j))=((G (j+1):Nat):Int):=by
     rw[HG1.o,<-pK gj (2 ^ j) (by omega) (jT (Nat.pow_lt_pow_right (by omega) (show j<20 by omega):2 ^ j<2 ^ 20) (by omega))]
     congr 1
     exact wT (by omega)
    rw[hbw];have hS:=((refl (λk=>k=pB) w7).setCell (a:=⟨pB,1,none⟩) (.inl rfl) (.int .i64 (G (j+1):Nat))).drew
    exact⟨j+1,by omega,by go_num,jd ⟨(HJ.o.1.trans Pn.o).next hS λi hi=>.inr (by rw[hi];exact G8.o.1),hS.blk (Pn.o.blk HJ.o.2.1 λx=>x) (λe=>by
     have h2:=HJ.o.2.1;rw[e,HJ.o.2.2.2]at h2;cases h2),hS.blk (Pn.o.blk HJ.o.2.2.1 λx=>x) G8.o.2,(refl (λ_=>False) _).drew.blk (bD hp7 _).2 λx=>x⟩⟩
   case measure=>simp[intOf];omega
 obtain rfl:lB=j:=by omega
 have Xr:Hd (G lB=ig X L st.testBit tt.testBit mk on tw []):=jd (by rw[HG.o,RP.o];exact Kn.VX);have hJ:=HJ.o;rw[Xr.o]at hJ;have HJ':=jd hJ;clear hJ HJ HIV Xr G8
 have iaA:Kn.ah X ua:=by rw[Pf.o];exact HX.o.ah (p:=(k,0)) ⟨by have:=HN.o;omega,by show 0<4;omega⟩
 have iaC:Kn.ah X uc:=by rw[HUC.o];exact HX.o.ah (p:=(k,2)) ⟨by have:=HN.o;omega,by show 2<4;omega⟩
 have hfs:fs∈aw X st.testBit:=by rw[HFS.o];exact HX.o.gV iaA
 have hsn:sn∈aw X st.testBit:=by rw[ZD.o];exact HX.o.gV iaC
 have hon:on∈aw X tt.testBit:=by rw[HON.o];exact HX.o.gV iaA
 have htw:tw∈aw X tt.testBit:=by rw[Xi.o];exact HX.o.gV iaC
 have HTN:Hd (oZ X L st.testBit k mk=if fs=sn then(if AA X st.testBit mk fs then [ig X L st.testBit tt.testBit mk on tw [on],ig X L st.testBit tt.testBit mk on tw [tw]]else [ig X L st.testBit tt.testBit mk on tw []])
  else if AA X st.testBit mk fs&&AA X st.testBit mk sn then [ig X L st.testBit tt.testBit mk on tw [on]]else if AA X st.testBit mk fs||AA X st.testBit mk sn then [ig X L st.testBit tt.testBit mk on tw []]else []):=jd (by
  unfold oZ
  rw[<-HBT.o,<-Pf.o,<-HUC.o,<-HFS.o,<-ZD.o,<-HON.o,<-Xi.o])
 have CM:∀r,r∈aw X st.testBit->Hd (∀wz,New wr wz->Calls Tryz.prog 48 #[.pointer (some ⟨bc,0,none⟩),mV st mk,.int .i64 (r:Nat)] wz (λe w'=>e=.returned (.bool (AA X st.testBit mk r))/\New wz w')):=λr hr=>jd λwz hz=>
  Jv bc b sB st mk r X L wz (HH.o.new (HJ'.o.1.trans hz)) HST.o (by have:=HN.o;omega) (by omega) hr
 have Bw:=CM fs hfs;have vw:=CM sn hsn
 obtain⟨F,Xt⟩:∃F:List Nat->Nat,Hd (F=ig X L st.testBit tt.testBit mk on tw):=⟨_,jd rfl⟩
 have HCW:Hd (∀wz,New wr wz->∀a n c l,mN wz a (ints l)->n=l.length->n<=2->(∀r∈l,r∈aw X tt.testBit)->Calls Tryz.prog 49 #[.slice a n c,.pointer (some ⟨pB,0,none⟩),.pointer (some ⟨tC,0,none⟩)] wz (λe w'=>e=.returned (mV tt (F l))/\New wz w')):=jd λwz hz a n' c l h1 h2 h3 h4=>by
  rw[Xt.o];exact Su pB tC tt mk on tw n' c lB cB a gB _ l X L st.testBit tt.testBit wz (by have:=HN.o;omega) hL (hz.blk HJ'.o.2.2.2 λx=>x) (hz.blk HJ'.o.2.1 λx=>x) (New.ints (HJ'.o.1.trans hz) HIB.o) RP.o h1 h2 h3 h4
 rw[<-Xt.o]at HTN;obtain⟨ma,HMA⟩:=jb (AA X st.testBit mk fs);obtain⟨mb,apF⟩:=jb (AA X st.testBit mk sn);rw[<-HMA.o]at HTN Bw;rw[<-apF.o]at HTN vw
 have RH:Hd (∀r∈[on],r∈aw X tt.testBit):=jd λr hr=>by rw[jB.1 hr];exact hon
 have Wp:Hd (∀r∈[tw],r∈aw X tt.testBit):=jd λr hr=>by rw[jB.1 hr];exact htw
 obtain⟨y1,y2,_,_⟩:=ay HJ'.o.2.2.1;have Wf:=jd RA.o;rw[<-HTT.o,HTN.o]at Wf;have yK:Hd (New w wr):=jd HJ'.o.1;clear CM HTN hfs hsn hon htw iaA iaC;by_cases hfe:fs=sn
 · rw[if_pos hfe]at Wf
   subst hfe
   have hfb:((fs:Int) != (fs:Int))=false:=by simp
   cases ma
   · go_wp2_with (go_at_call 48;refine(Bw.o wr (refl _ wr)).mono ?_;rintro e w8 ⟨rfl,QX⟩;have Sk:=jd QX;clear QX)
     refine(HCW.o _ Sk.o none 0 0 [] (.inl rfl) rfl (by omega) (λr hr=>by cases hr)).mono ?_;rintro e w9 ⟨rfl,OK⟩;have DC:=jd OK;clear OK;go_wp2_with fail;go_ret;rw[Wf.o];exact xZ (yK.o.trans (Sk.o.trans DC.o)) tt (F [])
   go_wp2_with (go_at_call 48;refine(Bw.o wr (refl _ wr)).mono ?_;rintro e w8 ⟨rfl,QX⟩;have Sk:=jd QX;clear QX)
   have a1:=CL w8 on;refine(HCW.o _ (Sk.o.alloc _) _ 1 1 [on] a1 rfl (by omega) RH.o).mono ?_;rintro e w9 ⟨rfl,OK⟩;have DC:Hd (New wr w9):=jd ((Sk.o.alloc _).trans OK);clear OK a1;go_wp2_with fail;have a2:=CL w9 tw;refine(HCW.o _ (DC.o.alloc _) _ 1 1 [tw] a2 rfl (by omega) Wp.o).mono ?_;rintro e Sw ⟨rfl,MD⟩;have Wr:Hd (New wr Sw):=jd ((DC.o.alloc _).trans MD);clear MD a2;go_wp2_with fail;go_ret;rw[Wf.o];exact Vg (yK.o.trans Wr.o) tt (F [on]) tt (F [tw])
 have hfi:¬(fs:Int)=(sn:Int):=by omega
 rw[if_neg hfe]at Wf
 have hfb:((fs:Int) != (sn:Int))=true:=by simpa using hfi
 go_upto_region 14 with fail
 go_cut [19,20] (λs19 s20 wx=>s19=.bool ma/\s20=.bool mb/\Hd (New wr wx))
 case first=>
  have FC:Hd (∀wz,New wr wz->wz.cell? ⟨mB,0,none⟩=some (.int .i64 (st:Nat))/\wz.cell? ⟨mB,1,none⟩=some (.int .i64 (mk:Nat))):=jd λwz hz=>by
   obtain⟨v1,v2,_,_⟩:=ay (hz.blk HJ'.o.2.2.1 λx=>x);exact⟨v1,v2⟩
  have iu:Hd (New wr wr.drew):=jd (refl _ _).drew
  go_region_held3 (λwz=>wz.cell? ⟨mB,0,none⟩=some (.int .i64 (st:Nat))/\wz.cell? ⟨mB,1,none⟩=some (.int .i64 (mk:Nat)))
   (first|assumption|exact FC.o _ iu.o)
   (first
    |(go_at_call_of 48 (int i64 (fs:Nat));refine(Bw.o w9 HE9.o).mono ?_;rintro e w8 ⟨rfl,hE⟩;have hq:=FC.o w8 (HE9.o.trans hE);have HE8:Hd (New wr w8):=jd (HE9.o.trans hE);clear hE)
    |(go_at_call_of 48 (int i64 (fs:Nat));refine(Bw.o wr.drew iu.o).mono ?_;rintro e w8 ⟨rfl,hE⟩;have hq:=FC.o w8 (iu.o.trans hE);have HE8:Hd (New wr w8):=jd (iu.o.trans hE);clear hE)
    |(go_at_call_of 48 (int i64 (sn:Nat));refine(vw.o w8 HE8.o).mono ?_;rintro e w9 ⟨rfl,hE⟩;have hq:=FC.o w9 (HE8.o.trans hE);have HE9:Hd (New wr w9):=jd (HE8.o.trans hE);clear hE)
    |(go_at_call_of 48 (int i64 (sn:Nat));refine(vw.o wr.drew iu.o).mono ?_;rintro e w9 ⟨rfl,hE⟩;have hq:=FC.o w9 (iu.o.trans hE);have HE9:Hd (New wr w9):=jd (iu.o.trans hE);clear hE))
  all_goals
   go_wp2_with fail;go_meet
   first
    |exact⟨rfl,rfl,HE9⟩
    |exact⟨rfl,rfl,HE8⟩
 case rest=>
 obtain⟨rfl,rfl,nM⟩:=hcut
 obtain⟨w7,rfl⟩:∃w7,w7=wc:=⟨_,rfl⟩
 cases ma
 · cases mb
   · go_wp2_with fail
     go_ret;rw[Wf.o];exact QZ (yK.o.trans nM.o)
   go_wp2_with fail;refine(HCW.o _ nM.o none 0 0 [] (.inl rfl) rfl (by omega) (λr hr=>by cases hr)).mono ?_;rintro e w9 ⟨rfl,OK⟩;have DC:=jd OK;clear OK;go_wp2_with fail;go_ret;rw[Wf.o];exact xZ (yK.o.trans (nM.o.trans DC.o)) tt (F [])
 cases mb
 · go_wp2_with fail
   refine(HCW.o _ nM.o none 0 0 [] (.inl rfl) rfl (by omega) (λr hr=>by cases hr)).mono ?_;rintro e w9 ⟨rfl,OK⟩;have DC:=jd OK;clear OK;go_wp2_with fail;go_ret;rw[Wf.o];exact xZ (yK.o.trans (nM.o.trans DC.o)) tt (F [])
 go_wp2_with fail;have a1:=CL w7 on;refine(HCW.o _ (nM.o.alloc _) _ 1 1 [on] a1 rfl (by omega) RH.o).mono ?_;rintro e w9 ⟨rfl,OK⟩;have DC:Hd (New wr w9):=jd ((nM.o.alloc _).trans OK);clear OK a1;go_wp2_with fail;go_ret;rw[Wf.o];exact xZ (yK.o.trans DC.o) tt (F [on])
end Go.Proofs.YtfplmbmenjdlhaaGreatDoor
