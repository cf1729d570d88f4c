/- Walks: push. -/
import Derived.Test.YtfplmbmenjdlhaaGreatDoorN30a
set_option maxRecDepth 100000
set_option maxHeartbeats 16000000
namespace Go.Proofs.YtfplmbmenjdlhaaGreatDoor
open Go.RowKit
open Act (put)
open Fr (refl)
open IntKind (i64)
open IntWalk (i64_in)
open Kn (Cr AG aA oM ag iZ oQ)
open Go.Proofs.Tryz (prog)
def aj9(w:World)(u0 u1 u2 v0 v1 v2:Int)(s t:Value)(wx:World):Prop:=∃B6 B7,s=.pointer (some ⟨B6,0,none⟩)/\t=.pointer (some ⟨B7,0,none⟩)/\New w wx/\wx.heap[B6]?=some (.cells #[.int .i64 u0,.int .i64 u1,.int .i64 u2] 179 (0,0))/\wx.heap[B7]?=some (.cells #[.int .i64 v0,.int .i64 v1,.int .i64 v2] 179 (0,0))
theorem Tv(D b s:Nat)(fv v:Value)(bi bo:Nat)(X:List Cr)(L k x y u vv:Int)(ub vb ov:Bool)(w:World)(h:BW D w b s fv v bi bo X X L)(hr:Rows kN 0 156 w fv (aA X))(hX:Kn.Ok X)(hl:X.length<=16):
 Calls prog 67 #[.pointer (some ⟨b,0,none⟩),Hl k x y u vv ub vb ov] w (vQ D b s fv (nU X L u vv ub vb ov) w):=by
 have HX:=jd hX;have Np:=jd (GJ hX hl)
 obtain⟨r1,qh⟩:∃r,Hd (AG X u=r):=⟨_,jd rfl⟩
 obtain⟨r2,lO⟩:∃r,Hd (AG X vv=r):=⟨_,jd rfl⟩
 obtain⟨w1,cU⟩:=jb ((w.alloc (.cells #[.pointer (some ⟨b,0,none⟩)] 92)).alloc (.cells #[.int .i64 k,.int .i64 x,.int .i64 y,.int .i64 u,.bool ub,.int .i64 vv,.bool vb,.bool ov] 28));obtain⟨B0,oY⟩:=jb w.heap.size;obtain⟨B2,fD⟩:=jb (w.heap.size+1)
 have hn:New w w1:=by rw[cU.o];exact((refl _ w).alloc _).alloc _
 have HN:=jd hn
 have Hp:Hd (w1.heap[B0]?=some (.cells #[.pointer (some ⟨b,0,none⟩)] 92 (0,0))):=jd (by
  rw[cU.o,oY.o]
  exact((refl (λ_=>False) (w.alloc (.cells #[.pointer (some ⟨b,0,none⟩)] 92))).alloc _).blk (heap_alloc_new w (.cells #[.pointer (some ⟨b,0,none⟩)] 92)) λx=>x)
 have HZ:Hd (w1.heap[B2]?=some (.cells #[.int .i64 k,.int .i64 x,.int .i64 y,.int .i64 u,.bool ub,.int .i64 vv,.bool vb,.bool ov] 28 (0,0))):=jd (by
  have hz:=heap_alloc_new (w.alloc (.cells #[.pointer (some ⟨b,0,none⟩)] 92)) (.cells #[.int .i64 k,.int .i64 x,.int .i64 y,.int .i64 u,.bool ub,.int .i64 vv,.bool vb,.bool ov] 28);rw[World.size_alloc]at hz
  rw[cU.o,fD.o];exact hz)
 have HB:=jd (h.new hn);have HRO:=jd (Ar.new hr hn)
 have FB:Hd (¬(r1&&r2)=true->nU X L u vv ub vb ov=.no 3):=jd (λhno=>by
  unfold nU
  rw[qh.o,lO.o,if_neg hno])
 clear hX h hr hn
 have CA:Hd (∀r,r=w1.drew->∀z,Calls prog 92 #[.pointer (some ⟨s,0,none⟩),.int .i64 z] r λe w'=>e=.returned (.bool (AG X z))/\w'=r):=jd λr hr z=>CK s z X L r (by rw[hr];exact((HB.o.new (refl _ w1).drew).at).sh) hl
 have Pq:Hd (∀r,r=w1.drew->Calls prog 92 #[.pointer (some ⟨s,0,none⟩),.int .i64 u] r λe w'=>e=.returned (.bool r1)/\w'=r):=jd λr hr=>by rw[<-qh.o];exact CA.o r hr u
 have HCV:Hd (∀r,r=w1.drew->Calls prog 92 #[.pointer (some ⟨s,0,none⟩),.int .i64 vv] r λe w'=>e=.returned (.bool r2)/\w'=r):=jd λr hr=>by rw[<-lO.o];exact CA.o r hr vv
 have Xf:Hd ((r1&&r2)=false->∀r,r=w1.drew->Fr (λk=>D<=k) w r/\nU X L u vv ub vb ov=.no 3):=jd λh0 r hr=>⟨by rw[hr];exact(HN.o.drew).mono λ_ h=>h.elim,FB.o (by rw[h0];simp)⟩
 have j9:Hd (∀r,r=w1.drew->r.cell? ⟨B0,0,none⟩=some (.pointer (some ⟨b,0,none⟩))/\r.cell? ⟨b,0,none⟩=some (.pointer (some ⟨s,0,none⟩))/\r.cell? ⟨B2,3,none⟩=some (.int .i64 u)/\r.cell? ⟨B2,5,none⟩=some (.int .i64 vv)):=jd λr hr=>by
  subst hr;obtain⟨_,_,_,m3,_,m5,_,_⟩:=cH (show w1.drew.heap[B2]?=_ from HZ.o);exact⟨(Aa Hp.o).1,(ay HB.o.blk).1,m3,m5⟩
 go_enter Tryz.func67,Tryz.ntmps67
 go_wp2_with fail;rw[<-cU.o,<-fD.o,<-oY.o];have kG:=j9.o _ rfl
 refine wp_region_held_drew (S:=λwz=>wz.cell? ⟨B0,0,none⟩=some (.pointer (some ⟨b,0,none⟩))/\wz.cell? ⟨b,0,none⟩=some (.pointer (some ⟨s,0,none⟩))/\wz.cell? ⟨B2,3,none⟩=some (.int .i64 u)/\wz.cell? ⟨B2,5,none⟩=some (.int .i64 vv)) (by kernel_rfl) kG (λhHeld=>?_)
 clear kG;obtain⟨r0,sX⟩:=jb w1.drew;rw[<-sX.o]at hHeld ⊢;cases r1
 · skip
   refine' sq 0 (h:=sq 1 (h:=sq 2 (h:=sq 3 (h:=sq 4 (h:=sq 5 (h:=sq 6 (h:=?_)))))))
   refine dQ (i:=7) (λK hK=>?_);(try simp only[aR,aP,aO]);go_simp;refine(Pq.o r0 sX.o).mono ?_;rintro e r9 ⟨rfl,hw⟩;rw[hw];clear hw r9;go_wp2_with fail;refine hK.out _ _ (j9.o _ sX.o) (λhHeld=>?_);clear hK K;(try simp only[put,aR,aP,aO,bQ,bP,bO])
   refine' sq 8 (h:=?_)
   refine' yG (i:=9) ?_;(try simp only[put,aR,aP,aO,bQ,bP,bO]);refine' yG (i:=10) ?_;(try simp only[put,aR,aP,aO,bQ,bP,bO]);refine' yG (i:=11) ?_;(try simp only[put,aR,aP,aO,bQ,bP,bO]);refine' yG (i:=12) ?_;(try simp only[put,aR,aP,aO,bQ,bP,bO]);refine' yG (i:=13) ?_;(try simp only[put,aR,aP,aO,bQ,bP,bO]);refine' yG (i:=14) ?_;(try simp only[put,aR,aP,aO,bQ,bP,bO]);refine' yG (i:=15) ?_;(try simp only[put,aR,aP,aO,bQ,bP,bO])
   refine' yG (i:=16) ?_;(try simp only[put,aR,aP,aO,bQ,bP,bO])
   refine' sq 17 (h:=?_)
   refine dQ (i:=18) (λK hK=>?_);(try simp only[aR,aP,aO]);go_simp;refine(eH 3 _).mono ?_;rintro e r9 ⟨rfl,rfl⟩;go_wp2;obtain⟨q1,q2⟩:=Xf.o rfl _ sX.o;refine⟨rfl,q1,?_⟩;rw[q2]
 cases r2
 · skip
   refine' sq 0 (h:=sq 1 (h:=sq 2 (h:=sq 3 (h:=sq 4 (h:=sq 5 (h:=sq 6 (h:=?_)))))))
   refine dQ (i:=7) (λK hK=>?_);(try simp only[aR,aP,aO]);go_simp;refine(Pq.o r0 sX.o).mono ?_;rintro e r9 ⟨rfl,hw⟩;rw[hw];clear hw r9;go_wp2_with fail;refine hK.out _ _ (j9.o _ sX.o) (λhHeld=>?_);clear hK K;(try simp only[put,aR,aP,aO,bQ,bP,bO])
   refine' sq 8 (h:=sq 9 (h:=sq 10 (h:=sq 11 (h:=sq 12 (h:=sq 13 (h:=sq 14 (h:=sq 15 (h:=?_))))))))
   refine dQ (i:=16) (λK hK=>?_);(try simp only[aR,aP,aO]);rw[if_pos (by rfl)];go_simp;refine(HCV.o r0 sX.o).mono ?_;rintro e r9 ⟨rfl,hw⟩;rw[hw];clear hw r9;go_wp2_with fail;refine hK.out _ _ (j9.o _ sX.o) (λhHeld=>?_);clear hK K;(try simp only[put,aR,aP,aO,bQ,bP,bO])
   refine' sq 17 (h:=?_)
   refine dQ (i:=18) (λK hK=>?_);(try simp only[aR,aP,aO]);go_simp;refine(eH 3 _).mono ?_;rintro e r9 ⟨rfl,rfl⟩;go_wp2;obtain⟨q1,q2⟩:=Xf.o rfl _ sX.o;refine⟨rfl,q1,?_⟩;rw[q2]
 refine' sq 0 (h:=sq 1 (h:=sq 2 (h:=sq 3 (h:=sq 4 (h:=sq 5 (h:=sq 6 (h:=?_)))))))
 refine dQ (i:=7) (λK hK=>?_);(try simp only[aR,aP,aO]);go_simp;refine(Pq.o r0 sX.o).mono ?_;rintro e r9 ⟨rfl,hw⟩;rw[hw];clear hw r9;go_wp2_with fail;refine hK.out _ _ (j9.o _ sX.o) (λhHeld=>?_);clear hK K;(try simp only[put,aR,aP,aO,bQ,bP,bO])
 refine' sq 8 (h:=sq 9 (h:=sq 10 (h:=sq 11 (h:=sq 12 (h:=sq 13 (h:=sq 14 (h:=sq 15 (h:=?_))))))))
 refine dQ (i:=16) (λK hK=>?_);(try simp only[aR,aP,aO]);rw[if_pos (by rfl)];go_simp;refine(HCV.o r0 sX.o).mono ?_;rintro e r9 ⟨rfl,hw⟩;rw[hw];clear hw r9;go_wp2_with fail;refine hK.out _ _ (j9.o _ sX.o) (λhHeld=>?_);clear hK K;(try simp only[put,aR,aP,aO,bQ,bP,bO])
 refine' sq 17 (h:=?_)
 refine dQ (i:=18) (λK hK=>?_);(try simp only[aR,aP,aO]);go_simp;refine(fP 3 _).mono ?_;rintro e r9 ⟨rfl,hw⟩;rw[hw];clear hw r9;go_wp2_with fail;refine hK.out _ _ (j9.o _ sX.o) (λhHeld=>?_);clear hK K;(try simp only[put,aR,aP,aO,bQ,bP,bO]);refine wpAnyH_done (by kernel_rfl) ?_ _;(try dsimp only);clear Xf Pq HCV CA j9
 obtain⟨un,rfl⟩:∃n:Nat,u=n:=⟨u.toNat,by have:=(kI.1 qh.o).2;omega⟩
 obtain⟨vn,rfl⟩:∃n:Nat,vv=n:=⟨vv.toNat,by have:=(kI.1 lO.o).2;omega⟩
 have HAU:Hd (Kn.ah X un):=jd (kI.1 qh.o).1;have WH:Hd (Kn.ah X vn):=jd (kI.1 lO.o).1
 have Mr:0<X.length:=by have h1:=HAU.o.1;have h2:=HAU.o.2;unfold ag at h2;omega
 have HU:Hd (nU X L (un:Nat) (vn:Nat) ub vb ov=if decide ((un:Int)≠(vn:Int))&&OU X (un,ub) (vn,vb)then(if X.length+2<=16 then .ok (iZ X (un,ub) (vn,vb) ov) L else .no 2)else .no 8):=jd (by
  unfold nU
  rw[qh.o,lO.o];rfl)
 have gQ:Hd (New w r0):=jd (by rw[sX.o];exact HN.o.drew)
 have zt:New w1 r0:=by rw[sX.o];exact(refl _ _).drew
 have eU:=jd (HB.o.new zt);have Kw:=jd (zt.blk HZ.o λx=>x);have ad9:=jd (zt.blk Hp.o λx=>x);have ZI:=jd (Ar.new HRO.o zt);clear hHeld zt sX HN HB HZ Hp HRO FB cU qh lO;have p0:=(Aa ad9.o).1;obtain⟨p1,p2,_⟩:=ay eU.o.blk;obtain⟨_,_,_,m3,m4,m5,m6,_⟩:=cH Kw.o
 obtain⟨q,HQ⟩:∃q,Hd ((aA X).any (FQ (un,ub) (vn,vb))=q):=⟨_,jd rfl⟩
 have HCF:=jd (Ee B2 fv (un,ub) (vn,vb) (aA X) r0 ⟨m3,m4,m5,m6⟩ (λf hf=>(Np.o.2 f hf).1) Np.o.1 ZI.o);rw[HQ.o]at HCF;clear m3 m4 m5 m6;go_wp2_with fail
 refine HCF.o.mono ?_
 rintro e w2 ⟨rfl,hN⟩;have kZ:=jd (gQ.o.trans hN);have Nr:=jd (eU.o.new hN);have Xh:=jd (hN.blk Kw.o λx=>x);have ad8:=jd (hN.blk ad9.o λx=>x);clear hN HCF p0 p1 p2 gQ eU Kw ad9 ZI
 obtain⟨r3,Fz⟩:∃r,Hd (decide ((un:Int)≠(vn:Int))=r):=⟨_,jd rfl⟩
 have K0:((un:Int) != (vn:Int))=r3:=by rw[<-Fz.o,jD];simp
 have p0:=(Aa ad8.o).1;obtain⟨p1,p2,_⟩:=ay Nr.o.blk;obtain⟨_,_,_,m3,m4,m5,m6,m7⟩:=cH Xh.o
 have FB:Hd ((r3&&q)=false->vQ D b s fv (nU X L (un:Nat) (vn:Nat) ub vb ov) w (.panicked (sZ 8)) w2):=jd λh0=>by
  refine⟨kZ.o.mono λ_ h=>h.elim,?_⟩;have hf:OU X (un,ub) (vn,vb)=q:=HQ.o
  rw[HU.o,Fz.o,hf,h0];rfl
 cases r3
 · go_wp2_with fail
   refine(eH 8 _).mono ?_;rintro e w3 ⟨rfl,rfl⟩;go_wp2;exact⟨rfl,FB.o rfl⟩
 cases q
 · go_wp2_with fail
   refine(eH 8 _).mono ?_;rintro e w3 ⟨rfl,rfl⟩;go_wp2;exact⟨rfl,FB.o rfl⟩
 go_wp2_with fail;refine(fP 8 _).mono ?_;rintro e w3 ⟨rfl,rfl⟩;clear FB
 have HU2:Hd (nU X L (un:Nat) (vn:Nat) ub vb ov=if X.length+2<=16 then .ok (iZ X (un,ub) (vn,vb) ov) L else .no 2):=jd (by
  have hf:OU X (un,ub) (vn,vb)=true:=HQ.o
  rw[HU.o,Fz.o,hf];rfl)
 obtain⟨g,c,rfl,hDg⟩:=Nr.o.sl Mr;obtain⟨n,nM⟩:=jb X.length;rw[<-nM.o]at Nr
 have vo:n<=16:=by have:=nM.o;omega
 have hn0:0<n:=by have:=nM.o;omega
 obtain⟨_,s0,_⟩:=Nr.o.box;have hw2:i64.wrap ((n:Int)+2)=(n:Int)+2:=i64_in _ (by omega);by_cases ME:(n:Int)+2<=16;rotate_left
 · have Sb:decide ((n:Int)+2<=16)=false:=jm ME
   go_wp2_with fail;refine(eH 2 _).mono ?_;rintro e w4 ⟨rfl,rfl⟩;go_wp2;refine⟨rfl,kZ.o.mono λ_ h=>h.elim,?_⟩;rw[HU2.o,if_neg (by have:=nM.o;omega)]
 have Sb:decide ((n:Int)+2<=16)=true:=jk ME;go_wp2_with fail;refine(fP 2 _).mono ?_;rintro e w4 ⟨rfl,rfl⟩;go_wp2_with fail;refine(u6 s X L _ Nr.o.at.sh hl).mono ?_;rintro e w3 ⟨rfl,hw⟩;rw[<-hw];clear hw w3;obtain⟨m,RK⟩:=jb (ag X)
 have YE:m<=32:=by have:=RK.o;unfold ag at this;omega
 rw[<-RK.o];clear p0 p1 p2 m3 m4 m5 m6 m7 s0 K0 Sb hw2;go_wp2_with fail;obtain⟨m1,nN⟩:=jb ((m:Int)+1);obtain⟨m3,HM3⟩:=jb ((m:Int)+3);obtain⟨Xc,ajY⟩:=jb (if ub then m1+1 else(un:Int));obtain⟨cu2,ajX⟩:=jb (if ub then(un:Int)else m1+1);obtain⟨Xb,ajW⟩:=jb (if vb then m3+1 else(vn:Int));obtain⟨cv2,ajV⟩:=jb (if vb then(vn:Int)else m3+1)
 have CCU:Hd (∀r,Calls prog 100 #[.agg #[.int .i64 (un:Nat),.bool ub],.int .i64 m1] r (λe w'=>e=.returned (.agg #[.int .i64 Xc,.int .i64 m1,.int .i64 cu2])/\New r w')):=jd λr=>by
  rw[ajY.o,ajX.o];exact OZ (un:Nat) m1 ub r (by have:=nN.o;omega) (by have:=nN.o;omega)
 have CCV:Hd (∀r,Calls prog 100 #[.agg #[.int .i64 (vn:Nat),.bool vb],.int .i64 m3] r (λe w'=>e=.returned (.agg #[.int .i64 Xb,.int .i64 m3,.int .i64 cv2])/\New r w')):=jd λr=>by
  rw[ajW.o,ajV.o];exact OZ (vn:Nat) m3 vb r (by have:=HM3.o;omega) (by have:=HM3.o;omega)
 have Yt:i64.wrap m1=m1:=by rw[nN.o];exact i64_in _ (by omega)
 have ahj:i64.wrap m3=m3:=by rw[HM3.o];exact i64_in _ (by omega)
 have Aj:(m:Int)+1=m1:=nN.o.symm;have hm3:(m:Int)+3=m3:=HM3.o.symm;have HWM1:=jd Yt;have HWM3:=jd ahj
 obtain⟨w3,rfl⟩:∃w3,w3=w4:=⟨_,rfl⟩
 go_cut [6,7] (λs6 s7 wx=>Hd (aj9 w3 Xc m1 cu2 Xb m3 cv2 s6 s7 wx))
 case first=>
  have j9:Hd (∀r:World,r.heap[B2]?=some (.cells #[.int .i64 k,.int .i64 x,.int .i64 y,.int .i64 (un:Nat),.bool ub,.int .i64 (vn:Nat),.bool vb,.bool ov] 28 (0,0))->r.cell? ⟨B2,3,none⟩=some (.int .i64 (un:Nat))/\r.cell? ⟨B2,4,none⟩=some (.bool ub)/\r.cell? ⟨B2,5,none⟩=some (.int .i64 (vn:Nat))/\r.cell? ⟨B2,6,none⟩=some (.bool vb)):=jd λr hr=>by
   obtain⟨_,_,_,m3,m4,m5,m6,_⟩:=cH hr;exact⟨m3,m4,m5,m6⟩
  have DF:Hd (w3.drew.heap[B2]?=some (.cells #[.int .i64 k,.int .i64 x,.int .i64 y,.int .i64 (un:Nat),.bool ub,.int .i64 (vn:Nat),.bool vb,.bool ov] 28 (0,0))):=jd Xh.o;have iu:Hd (New w3 w3.drew):=jd (refl _ w3).drew;have kG:=j9.o _ DF.o
  refine wp_region_held_drew (S:=λwz=>wz.cell? ⟨B2,3,none⟩=some (.int .i64 (un:Nat))/\wz.cell? ⟨B2,4,none⟩=some (.bool ub)/\wz.cell? ⟨B2,5,none⟩=some (.int .i64 (vn:Nat))/\wz.cell? ⟨B2,6,none⟩=some (.bool vb)) (by kernel_rfl) kG (λhHeld=>?_)
  clear kG;generalize w3.drew=r0 at hHeld iu DF ⊢
  refine' sq 0 (h:=sq 1 (h:=sq 2 (h:=sq 3 (h:=sq 5 (h:=sq 6 (h:=sq 7 (h:=sq 8 (h:=?_))))))))
  refine Pz 4 9 10 11 179 #[.int .i64 0,.int .i64 0,.int .i64 0] (.agg #[.int .i64 Xc,.int .i64 m1,.int .i64 cu2]) (.agg #[.int .i64 Xb,.int .i64 m3,.int .i64 cv2]) (hSN:=λr hN=>j9.o _ (hN.blk DF.o λx=>x)) (s1:=?s1) (s2:=?s2) (sa:=?sa) (sb:=?sb) (fin:=?fin)
  case s1=>
   intro v1 v2 b1 b2 r hS K' hK;simp only[iM,put,aR,aP,aO,bQ,bP,bO];go_simp;refine(CCU.o _).mono ?_;rintro e r1 ⟨rfl,hF⟩;go_wp2_with fail;exact hK.out _ _ ⟨by simp only[iM,put,aR,aP,aO,bQ,bP,bO],hF⟩
  case s2=>
   intro v1 v2 b1 b2 r hS K' hK;simp only[iM,put,aR,aP,aO,bQ,bP,bO];go_simp;refine(CCV.o _).mono ?_;rintro e r1 ⟨rfl,hF⟩;go_wp2_with fail;exact hK.out _ _ ⟨by simp only[iM,put,aR,aP,aO,bQ,bP,bO],hF⟩
  case sa=>
   intro v1 v2 b1 b2 r hS K' hK;simp only[iM,put,aR,aP,aO,bQ,bP,bO];go_simp;exact hK.out _ _ ⟨by simp only[iM,put,aR,aP,aO,bQ,bP,bO],rfl⟩
  case sb=>
   intro v1 v2 b1 b2 r hS K' hK;simp only[iM,put,aR,aP,aO,bQ,bP,bO];go_simp;exact hK.out _ _ ⟨by simp only[iM,put,aR,aP,aO,bQ,bP,bO],rfl⟩
  case fin=>
  intro B6 B7 r4 hHeld hN g6 g7 hNE h6 h7;have oW:=jd (iu.o.trans hN);have WI:=jd h6;have aql:=jd h7;have yL:=jd (hN.blk DF.o λx=>x);have hz:=iu.o.size;clear h6 h7 hN;simp only[iM,put,aR,aP,aO,bQ,bP,bO];refine dQ (i:=12) (λK hK=>?_);(try simp only[aR,aP,aO]);obtain⟨x1,x2,x3,x4,x5,x6⟩:=eX WI.o;have QI:=ru (nQ (gG WI.o (.int .i64 Xc)) (.int .i64 m1)) (.int .i64 cu2)
  have vq:Fr (λk=>k=B6) r4 (((r4.setCell ⟨B6,0,none⟩ (.int .i64 Xc)).setCell ⟨B6,1,none⟩ (.int .i64 m1)).setCell ⟨B6,2,none⟩ (.int .i64 cu2)):=(((refl (λk=>k=B6) r4).setCell (a:=⟨B6,0,none⟩) (.inl rfl) _).setCell (a:=⟨B6,1,none⟩) (.inl rfl) _).setCell (a:=⟨B6,2,none⟩) (.inl rfl) _;obtain⟨_,y2,_,_,y5,_⟩:=eX (gG WI.o (.int .i64 Xc));obtain⟨_,_,z3,_,_,z6⟩:=eX (nQ (gG WI.o (.int .i64 Xc)) (.int .i64 m1));go_simp;clear x1 x2 x3 x4 x5 x6 y2 y5 z3 z6
  have RR:=jd (vq.blk aql.o λe=>hNE e.symm);have Nl:=jd (vq.blk yL.o (λe=>by have h1:=yL.o;rw[e,WI.o]at h1;cases h1));have HL6:=jd vq;have RE:=jd QI;clear QI vq;generalize (((r4.setCell ⟨B6,0,none⟩ (.int .i64 Xc)).setCell ⟨B6,1,none⟩ (.int .i64 m1)).setCell ⟨B6,2,none⟩ (.int .i64 cu2))=r5 at Nl HL6 RE RR ⊢;refine hK.out _ _ (j9.o _ Nl.o) (λhHeld=>?_);clear hK K;(try simp only[put,aR,aP,aO,bQ,bP,bO]);refine dQ (i:=13) (λK hK=>?_);(try simp only[aR,aP,aO])
  obtain⟨x1,x2,x3,x4,x5,x6⟩:=eX RR.o;have hs7:=ru (nQ (gG RR.o (.int .i64 Xb)) (.int .i64 m3)) (.int .i64 cv2);have Bg:Fr (λk=>k=B7) r5 (((r5.setCell ⟨B7,0,none⟩ (.int .i64 Xb)).setCell ⟨B7,1,none⟩ (.int .i64 m3)).setCell ⟨B7,2,none⟩ (.int .i64 cv2)):=(((refl (λk=>k=B7) r5).setCell (a:=⟨B7,0,none⟩) (.inl rfl) _).setCell (a:=⟨B7,1,none⟩) (.inl rfl) _).setCell (a:=⟨B7,2,none⟩) (.inl rfl) _;obtain⟨_,y2,_,_,y5,_⟩:=eX (gG RR.o (.int .i64 Xb))
  obtain⟨_,_,z3,_,_,z6⟩:=eX (nQ (gG RR.o (.int .i64 Xb)) (.int .i64 m3));go_simp;clear x1 x2 x3 x4 x5 x6 y2 y5 z3 z6;have RB:=jd (Bg.blk RE.o hNE);have HM6:=jd (Bg.blk Nl.o (λe=>by have h1:=Nl.o;rw[e,RR.o]at h1;cases h1));have HL7:=jd Bg;have HS7:=jd hs7;clear hs7 Bg;generalize (((r5.setCell ⟨B7,0,none⟩ (.int .i64 Xb)).setCell ⟨B7,1,none⟩ (.int .i64 m3)).setCell ⟨B7,2,none⟩ (.int .i64 cv2))=r6 at HM6 HL7 HS7 RB ⊢;refine hK.out _ _ (j9.o _ HM6.o) (λhHeld=>?_);clear hK K
  (try simp only[put,aR,aP,aO,bQ,bP,bO]);refine wpAnyH_done (by kernel_rfl) ?_ _;(try dsimp only);go_wp2_with fail;go_meet;exact jd ⟨B6,B7,rfl,rfl,(oW.o.next HL6.o λi hi=>.inr (by omega)).next HL7.o λi hi=>.inr (by omega),RB.o,HS7.o⟩
 case rest=>
 obtain⟨B6,B7,rfl,rfl,hN,hb6,QT⟩:=Hd.o hcut
 obtain⟨w5,rfl⟩:∃w5,w5=wc:=⟨_,rfl⟩
 have vO:=jd (kZ.o.trans hN);have Ei:=jd (Nr.o.new hN);have HZ5:=jd (hN.blk Xh.o λx=>x);have ad7:=jd (hN.blk ad8.o λx=>x);have HA6:=jd hb6;have HA7:=jd QT;clear hN hb6 QT hcut CCU CCV Yt ahj Aj hm3 kZ Nr Xh ad8;obtain⟨mm,vP⟩:=jb (bA X)
 have HGD:Hd (∀i,i=g->D<=i):=jd λi hi=>by rw[hi];exact hDg
 obtain⟨⟨pc,ps⟩,HP⟩:∃p,Hd (oM X un=p):=⟨_,jd rfl⟩
 obtain⟨⟨qc,qs⟩,HQP⟩:∃p,Hd (oM X vn=p):=⟨_,jd rfl⟩
 have OG:Kn.aq X (pc,ps):=by have:=HX.o.aD (io:=true) HAU.o;rw[<-HP.o];exact this
 have hqq:Kn.aq X (qc,qs):=by have:=HX.o.aD (io:=true) WH.o;rw[<-HQP.o];exact this
 have R9:pc<n:=by have:=OG.1;rw[<-nM.o]at this;exact this
 have KY:ps<4:=OG.2
 have KX:qc<n:=by have:=hqq.1;rw[<-nM.o]at this;exact this
 have hqs:qs<4:=hqq.2;clear OG hqq
 have hum:un<mm:=by have:=HAU.o.2;have:=vP.o;unfold ag at *;unfold bA at this;omega
 have hvm:vn<mm:=by have:=WH.o.2;have:=vP.o;unfold ag at *;unfold bA at this;omega
 have i1:(0:Int)<=(un:Int):=by omega
 have i2:(un:Int)<(mm:Int):=by omega
 have i3:(0:Int)<=(vn:Int):=by omega
 have i4:(vn:Int)<(mm:Int):=by omega
 have HCI:Hd (∀(W:World) (Z:List Cr),BW D W b s fv (.slice (some ⟨g,0,none⟩) n c) bi bo X Z L->W.cell? ⟨b,0,none⟩=some (.pointer (some ⟨s,0,none⟩))/\W.cell? ⟨s,2,none⟩=some (.slice (some ⟨bi,0,none⟩) mm mm) /\
  W.cell? ⟨bi,un*2,none⟩=some (.int .i64 (pc:Nat))/\W.cell? ⟨bi,un*2+1,none⟩=some (.int .i64 (ps:Nat))/\W.cell? ⟨bi,vn*2,none⟩=some (.int .i64 (qc:Nat))/\W.cell? ⟨bi,vn*2+1,none⟩=some (.int .i64 (qs:Nat))):=jd λW Z hB=>by
  obtain⟨k0,_,_,k2,_⟩:=hB.box;rw[<-vP.o]at k2;have h1:=hB.ri.cell (i:=un*2) (by rw[<-vP.o];omega);have h2:=hB.ri.cell (i:=un*2+1) (by rw[<-vP.o];omega);have h3:=hB.ri.cell (i:=vn*2) (by rw[<-vP.o];omega);have h4:=hB.ri.cell (i:=vn*2+1) (by rw[<-vP.o];omega);rw[vY,HP.o]at h1;rw[vX,HP.o]at h2;rw[vY,HQP.o]at h3;rw[vX,HQP.o]at h4;exact⟨k0,k2,h1,h2,h3,h4⟩
 obtain⟨m2,nA⟩:=jb ((m:Int)+2);obtain⟨m4,yL⟩:=jb ((m:Int)+4);have GA:(m:Int)+2=m2:=nA.o.symm;have hm4:(m:Int)+4=m4:=yL.o.symm
 have adb:i64.wrap m2=m2:=by rw[nA.o];exact i64_in _ (by omega)
 have am3:i64.wrap m4=m4:=by rw[yL.o];exact i64_in _ (by omega)
 have f0:w5.drew.cell? ⟨B0,0,none⟩=some (.pointer (some ⟨b,0,none⟩)):=(Aa ad7.o).1
 have f3:w5.drew.cell? ⟨B2,3,none⟩=some (.int .i64 (un:Nat)):=by obtain⟨_,_,_,k3,_⟩:=cH HZ5.o;exact k3
 obtain⟨f1,f2,f4,f5,_,_⟩:=HCI.o w5.drew X (Ei.o.new (refl _ w5).drew);go_wp2_with fail
 go_still_tail 15,(by kernel_rfl)
 change wpList _ _ _ _ _ w5.drew;clear f0 f1 f2 f3 f4 f5;go_wp2_with fail;refine(AY D b s fv g c bi bo n pc ps X X L m2 w5.drew (Ei.o.new (refl _ w5).drew) nM.o vo R9 KY).mono ?_;rintro e w6 ⟨rfl,hF,hB⟩;have Bh:Fr (λk=>k=g) w5 w6:=(((refl _ w5).drew).trans hF)
 have uT:∀{B t:Nat} {cs:Array Value},w5.heap[B]?=some (.cells cs t (0,0))->t≠70->109≠t->w6.heap[B]?=some (.cells cs t (0,0)):=λhb h1 h2=>Ei.o.keep (Bh.mono λk e=>.inr (by rw[e];rfl)) hb h1 h2
 have ZR:Hd (Fr (λk=>D<=k) w w6):=jd ((vO.o.mono λ_ h=>h.elim).trans (Bh.mono λi hi=>HGD.o i hi));have Le:=jd hB;have HZ6:=jd (uT HZ5.o (by decide) (by decide));have ad6:=jd (uT ad7.o (by decide) (by decide));have aj6:=jd (uT HA6.o (by decide) (by decide));have aj5:=jd (uT HA7.o (by decide) (by decide));clear hF hB Bh uT Ei HZ5 ad7 HA6 HA7 vO;have apw:Hd (n=(oQ X (pc,ps) m2).length):=jd (by rw[Kn.iH];exact nM.o);have f0:w6.drew.cell? ⟨B0,0,none⟩=some (.pointer (some ⟨b,0,none⟩)):=(Aa ad6.o).1
 have f3:w6.drew.cell? ⟨B2,5,none⟩=some (.int .i64 (vn:Nat)):=by obtain⟨_,_,_,_,_,k3,_⟩:=cH HZ6.o;exact k3
 obtain⟨f1,f2,_,_,f4,f5⟩:=HCI.o w6.drew _ (Le.o.new (refl _ w6).drew);go_wp2_with fail
 go_still_tail 15,(by kernel_rfl)
 change wpList _ _ _ _ _ w6.drew;clear f0 f1 f2 f3 f4 f5;go_wp2_with fail;refine(AY D b s fv g c bi bo n qc qs X _ L m4 w6.drew (Le.o.new (refl _ w6).drew) apw.o vo KX hqs).mono ?_;rintro e w7 ⟨rfl,hF,hB⟩;have Bh:Fr (λk=>k=g) w6 w7:=(((refl _ w6).drew).trans hF)
 have uT:∀{B t:Nat} {cs:Array Value},w6.heap[B]?=some (.cells cs t (0,0))->t≠70->109≠t->w7.heap[B]?=some (.cells cs t (0,0)):=λhb h1 h2=>Le.o.keep (Bh.mono λk e=>.inr (by rw[e];rfl)) hb h1 h2
 have Pn:Hd (Fr (λk=>D<=k) w w7):=jd (ZR.o.trans (Bh.mono λi hi=>HGD.o i hi));have DZ:=jd hB;have HZ7:=jd (uT HZ6.o (by decide) (by decide));have ad5:=jd (uT ad6.o (by decide) (by decide));have aeV:=jd (uT aj6.o (by decide) (by decide));have aeU:=jd (uT aj5.o (by decide) (by decide));clear hF hB Bh uT Le HZ6 ad6 aj6 aj5 ZR adb am3 GA hm4 i1 i2 i3 i4 HCI;obtain⟨Z,Wd⟩:=jb (oQ (oQ X (pc,ps) m2) (qc,qs) m4);rw[<-Wd.o]at DZ
 have hzl:Z.length<=16:=by rw[Wd.o,Kn.iH,Kn.iH];exact hl
 obtain⟨nup,HUP⟩:=jb (if ub then 1 else 3);obtain⟨nuq,HUQ⟩:=jb (if ub then 3 else 1)
 have anw:nup<4:=by have:=HUP.o;split at this<;>omega
 have anv:nuq<4:=by have:=HUQ.o;split at this<;>omega
 have CE:Hd (∀r,Calls prog 102 #[.bool ub,.int .i64 3,.int .i64 1] r λe w'=>e=.returned (.int .i64 (nup:Nat))/\w'=r):=jd λr=>by
  have h1:=wF ub 3 1 r
  have h2:(if ub=true then(1:Int)else 3)=(nup:Int):=by rw[HUP.o];split<;>rfl
  rw[h2]at h1;exact h1
 have CF:Hd (∀r,Calls prog 102 #[.bool ub,.int .i64 1,.int .i64 3] r λe w'=>e=.returned (.int .i64 (nuq:Nat))/\w'=r):=jd λr=>by
  have h1:=wF ub 1 3 r
  have h2:(if ub=true then(3:Int)else 1)=(nuq:Int):=by rw[HUQ.o];split<;>rfl
  rw[h2]at h1;exact h1
 obtain⟨g60,g61,_,_⟩:=eX (show w7.drew.heap[B6]?=_ from aeV.o);obtain⟨_,g71,g72,_⟩:=eX (show w7.drew.heap[B7]?=_ from aeU.o)
 have f4:w7.drew.cell? ⟨B2,4,none⟩=some (.bool ub):=by obtain⟨_,_,_,_,k4,_⟩:=cH HZ7.o;exact k4
 go_wp2_with fail
 refine wp_region_still_tail 14 (by kernel_rfl) (by kernel_rfl) ?_
 simp only[List.take_succ_cons,List.take_zero,List.drop_succ_cons,List.drop_zero]
 iterate 13 still_step
 still_call (CE.o _)
 refine wpStill_nil ?_
 change wpList _ _ _ _ _ w7.drew;clear g60 g61 g71 g72 f4;go_wp2_with fail;refine(EF D B0 B2 b s fv (.slice (some ⟨g,0,none⟩) n c) bi bo X Z L k x y (un:Nat) (vn:Nat) m3 m1 cv2 Xc ub vb ov nup w7.drew (DZ.o.new (refl _ w7).drew) (by omega) anw ad5.o HZ7.o).mono ?_;rintro e w8 ⟨v8,rfl,hB,hF⟩;have Bh:Fr (λk=>k=s\/(Value.slice (some ⟨g,0,none⟩) n c).ownBlock=some k) w7 w8:=(((refl _ w7).drew).trans hF)
 have Sk:Hd (Fr (λk=>D<=k) w w8):=jd (Pn.o.trans (Bh.mono λi hi=>by
  rcases hi with hi|hi
  · rw[hi];exact DZ.o.ls
  exact dR DZ.o.own i hi))
 have zS:=jd hB;have HZ8:=jd (DZ.o.keep Bh HZ7.o (by decide) (by decide));have aoS:=jd (DZ.o.keep Bh ad5.o (by decide) (by decide));have aqm:=jd (DZ.o.keep Bh aeV.o (by decide) (by decide));have aqk:=jd (DZ.o.keep Bh aeU.o (by decide) (by decide));clear hF hB Bh DZ HZ7 ad5 aeV aeU Pn CE;obtain⟨_,g61,g62,_⟩:=eX (show w8.drew.heap[B6]?=_ from aqm.o);obtain⟨g70,g71,_,_⟩:=eX (show w8.drew.heap[B7]?=_ from aqk.o)
 have f4:w8.drew.cell? ⟨B2,4,none⟩=some (.bool ub):=by obtain⟨_,_,_,_,k4,_⟩:=cH HZ8.o;exact k4
 go_wp2_with fail
 refine wp_region_still_tail 14 (by kernel_rfl) (by kernel_rfl) ?_
 simp only[List.take_succ_cons,List.take_zero,List.drop_succ_cons,List.drop_zero]
 iterate 13 still_step
 still_call (CF.o _)
 refine wpStill_nil ?_
 change wpList _ _ _ _ _ w8.drew;clear g61 g62 g70 g71 f4;go_wp2_with fail;refine(EF D B0 B2 b s fv v8 bi bo X _ L k x y (un:Nat) (vn:Nat) Xb m1 m3 cu2 ub vb ov nuq w8.drew (zS.o.new (refl _ w8).drew) (by rw[ju,List.length_singleton];omega) anv aoS.o HZ8.o).mono ?_;rintro e w9 ⟨v9,rfl,hB,hF⟩;have Hx:=jd hB
 have DC:Hd (Fr (λk=>D<=k) w w9):=jd (Sk.o.trans ((((refl _ w8).drew).trans hF).mono λi hi=>by
  rcases hi with hi|hi
  · rw[hi];exact zS.o.ls
  exact dR zS.o.own i hi))
 clear hB hF;go_wp2_with fail;go_end0
 have hY:nU X L (un:Nat) (vn:Nat) ub vb ov=.ok (Z++[Kn.pn (Kn.four m3 m1 cv2 Xc) (if vb then 2 else 0) nup ov]++[Kn.pn (Kn.four Xb m1 m3 cu2) (if vb then 2 else 0) nuq ov]) L:=by
  rw[HU2.o,if_pos (by have:=nM.o;omega)];have e1:Kn.aF X true un=(pc,ps):=HP.o;have e2:Kn.aF X true vn=(qc,qs):=HQP.o
  have e3:m1+1=(m:Int)+2:=by have:=nN.o;omega
  have e4:m3+1=(m:Int)+4:=by have:=HM3.o;omega
  unfold iZ Kn.xv Kn.pU0 Kn.pU2 Kn.pV0 Kn.pV2 Kn.Ax Kn.LF Kn.LD;rw[e1,e2,<-RK.o,Wd.o,nA.o,yL.o,ajY.o,ajX.o,ajW.o,ajV.o,e3,e4,nN.o,HM3.o,HUP.o,HUQ.o]
 rw[hY];exact Hx.o.gave DC.o
end Go.Proofs.YtfplmbmenjdlhaaGreatDoor
