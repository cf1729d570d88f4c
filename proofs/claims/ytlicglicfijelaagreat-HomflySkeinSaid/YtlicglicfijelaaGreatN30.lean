/- Walks: push. -/
import Derived.Test.YtlicglicfijelaaGreatTK
import Derived.Test.YtlicglicfijelaaGreatN9A
import Derived.Test.YtlicglicfijelaaGreatN30a
namespace Go.Proofs.YtlicglicfijelaaGreat
open Go.RowKit

def CutUV(w:World)(u0 u1 u2 v0 v1 v2:Int)(s t:Value)(wx:World):Prop:=∃B6 B7,s=.pointer (some ⟨B6,0,none⟩)∧t=.pointer (some ⟨B7,0,none⟩)∧New w wx∧wx.heap[B6]?=some (.cells #[.int .i64 u0,.int .i64 u1,.int .i64 u2] 146 (0,0))∧wx.heap[B7]?=some (.cells #[.int .i64 v0,.int .i64 v1,.int .i64 v2] 146 (0,0))
set_option maxRecDepth 100000 in
set_option maxHeartbeats 4000000 in
theorem push_any(D b s:Nat)(fv v:Value)(bi bo:Nat)(X:List Kn.Cr)(L k x y u vv:Int)(ub vb ov:Bool)(w:World)(h:BW D w b s fv v bi bo X X L)(hr:Rows OwnD 0 118 w fv (Kn.facesL X))(hX:Kn.Ok X)(hl:X.length≤16):
 Calls Tryz.prog 51 #[.pointer (some ⟨b,0,none⟩),mvV k x y u vv ub vb ov] w (GaveP D b s fv (pushO X L u vv ub vb ov) w):=by
 have HX:=Lib.hid hX;have HFO:=Lib.hid (facesOk hX hl)
 obtain⟨r1,HR1⟩:∃r,Hid (Kn.arcB X u=r):=⟨_,Lib.hid rfl⟩
 obtain⟨r2,HR2⟩:∃r,Hid (Kn.arcB X vv=r):=⟨_,Lib.hid rfl⟩
 obtain⟨w1,HW1⟩:∃w1,Hid (w1=(w.alloc (.cells #[.pointer (some ⟨b,0,none⟩)] 79)).alloc (.cells #[.int .i64 k,.int .i64 x,.int .i64 y,.int .i64 u,.bool ub,.int .i64 vv,.bool vb,.bool ov] 28)):=⟨_,Lib.hid rfl⟩
 obtain⟨B0,HB0⟩:∃B,Hid (B=w.heap.size):=⟨_,Lib.hid rfl⟩
 obtain⟨B2,HB2⟩:∃B,Hid (B=w.heap.size+1):=⟨_,Lib.hid rfl⟩
 have hn:New w w1:=by rw[HW1.out];exact((Fr.refl _ w).alloc _).alloc _
 have HN:=Lib.hid hn
 have HZ0:Hid (w1.heap[B0]?=some (.cells #[.pointer (some ⟨b,0,none⟩)] 79 (0,0))):=Lib.hid (by
  rw[HW1.out,HB0.out]
  exact((Fr.refl (fun _=>False) (w.alloc (.cells #[.pointer (some ⟨b,0,none⟩)] 79))).alloc _).blk (heap_alloc_new w (.cells #[.pointer (some ⟨b,0,none⟩)] 79)) fun x=>x)
 have HZ:Hid (w1.heap[B2]?=some (.cells #[.int .i64 k,.int .i64 x,.int .i64 y,.int .i64 u,.bool ub,.int .i64 vv,.bool vb,.bool ov] 28 (0,0))):=Lib.hid (by
  have hz:=heap_alloc_new (w.alloc (.cells #[.pointer (some ⟨b,0,none⟩)] 79)) (.cells #[.int .i64 k,.int .i64 x,.int .i64 y,.int .i64 u,.bool ub,.int .i64 vv,.bool vb,.bool ov] 28);rw[World.size_alloc]at hz
  rw[HW1.out,HB2.out];exact hz)
 have HB:=Lib.hid (h.new hn);have HRO:=Lib.hid (RowsD.new hr hn)
 have HNO:Hid (¬(r1&&r2)=true→pushO X L u vv ub vb ov=.no 3):=Lib.hid (fun hno=>by
  unfold pushO
  rw[HR1.out,HR2.out,if_neg hno])
 clear hX h hr hn
 have CA:Hid (∀r,r=w1.drew→∀z,Calls Tryz.prog 74 #[.pointer (some ⟨s,0,none⟩),.int .i64 z] r fun e w'=>e=.returned (.bool (Kn.arcB X z))∧w'=r):=Lib.hid fun r hr z=>isArcB_any s z X L r (by rw[hr];exact((HB.out.new (Fr.refl _ w1).drew).at).sh) hl
 have HCU:Hid (∀r,r=w1.drew→Calls Tryz.prog 74 #[.pointer (some ⟨s,0,none⟩),.int .i64 u] r fun e w'=>e=.returned (.bool r1)∧w'=r):=Lib.hid fun r hr=>by rw[←HR1.out];exact CA.out r hr u
 have HCV:Hid (∀r,r=w1.drew→Calls Tryz.prog 74 #[.pointer (some ⟨s,0,none⟩),.int .i64 vv] r fun e w'=>e=.returned (.bool r2)∧w'=r):=Lib.hid fun r hr=>by rw[←HR2.out];exact CA.out r hr vv
 have NO3:Hid ((r1&&r2)=false→∀r,r=w1.drew→Fr (fun k=>D≤k) w r∧pushO X L u vv ub vb ov=.no 3):=Lib.hid fun h0 r hr=>⟨by rw[hr];exact(HN.out.drew).mono fun _ h=>h.elim,HNO.out (by rw[h0];simp)⟩
 have HSS:Hid (∀r,r=w1.drew→r.cell? ⟨B0,0,none⟩=some (.pointer (some ⟨b,0,none⟩))∧r.cell? ⟨b,0,none⟩=some (.pointer (some ⟨s,0,none⟩))∧r.cell? ⟨B2,3,none⟩=some (.int .i64 u)∧r.cell? ⟨B2,5,none⟩=some (.int .i64 vv)):=Lib.hid fun r hr=>by
  subst hr;obtain⟨_,_,_,m3,_,m5,_,_⟩:=eight_c (show w1.drew.heap[B2]?=_ from HZ.out)
  exact⟨(one_c HZ0.out).1,(box2_c HB.out.blk).1,m3,m5⟩
 go_enter Tryz.func51,Tryz.ntmps51
 go_wp2_with fail;rw[←HW1.out,←HB2.out,←HB0.out];have hS0:=HSS.out _ rfl
 refine wp_region_held_drew (S:=fun wz=>wz.cell? ⟨B0,0,none⟩=some (.pointer (some ⟨b,0,none⟩))∧wz.cell? ⟨b,0,none⟩=some (.pointer (some ⟨s,0,none⟩))∧wz.cell? ⟨B2,3,none⟩=some (.int .i64 u)∧wz.cell? ⟨B2,5,none⟩=some (.int .i64 vv)) (by kernel_rfl) hS0 (fun hHeld=>?_)
 clear hS0
 obtain⟨r0,HE0⟩:∃r,Hid (r=w1.drew):=⟨_,Lib.hid rfl⟩
 rw[←HE0.out]at hHeld ⊢
 cases r1
 · skip
   refine' sq 0 (h:=sq 1 (h:=sq 2 (h:=sq 3 (h:=sq 4 (h:=sq 5 (h:=sq 6 (h:=?_)))))))
   refine rdO (i:=7) (fun K hK=>?_);(try simp only[lq1,lq2,lq3]);go_simp;refine(HCU.out r0 HE0.out).mono ?_;rintro e r9 ⟨rfl,hw⟩;rw[hw];clear hw r9;go_wp2_with fail;refine hK.out _ _ (HSS.out _ HE0.out) (fun hHeld=>?_);clear hK K;(try simp only[Act.put,lq1,lq2,lq3,lq4,lq5,lq6])
   refine' sq 8 (h:=?_)
   refine' skO (i:=9) ?_;(try simp only[Act.put,lq1,lq2,lq3,lq4,lq5,lq6]);refine' skO (i:=10) ?_;(try simp only[Act.put,lq1,lq2,lq3,lq4,lq5,lq6]);refine' skO (i:=11) ?_;(try simp only[Act.put,lq1,lq2,lq3,lq4,lq5,lq6]);refine' skO (i:=12) ?_;(try simp only[Act.put,lq1,lq2,lq3,lq4,lq5,lq6]);refine' skO (i:=13) ?_;(try simp only[Act.put,lq1,lq2,lq3,lq4,lq5,lq6]);refine' skO (i:=14) ?_;(try simp only[Act.put,lq1,lq2,lq3,lq4,lq5,lq6]);refine' skO (i:=15) ?_;(try simp only[Act.put,lq1,lq2,lq3,lq4,lq5,lq6])
   refine' skO (i:=16) ?_;(try simp only[Act.put,lq1,lq2,lq3,lq4,lq5,lq6])
   refine' sq 17 (h:=?_)
   refine rdO (i:=18) (fun K hK=>?_);(try simp only[lq1,lq2,lq3]);go_simp;refine(need_no 3 _).mono ?_;rintro e r9 ⟨rfl,rfl⟩;go_wp2;obtain⟨q1,q2⟩:=NO3.out rfl _ HE0.out
   refine⟨rfl,q1,?_⟩
   rw[q2]
 · cases r2
   · skip
     refine' sq 0 (h:=sq 1 (h:=sq 2 (h:=sq 3 (h:=sq 4 (h:=sq 5 (h:=sq 6 (h:=?_)))))))
     refine rdO (i:=7) (fun K hK=>?_);(try simp only[lq1,lq2,lq3]);go_simp;refine(HCU.out r0 HE0.out).mono ?_;rintro e r9 ⟨rfl,hw⟩;rw[hw];clear hw r9;go_wp2_with fail;refine hK.out _ _ (HSS.out _ HE0.out) (fun hHeld=>?_);clear hK K;(try simp only[Act.put,lq1,lq2,lq3,lq4,lq5,lq6])
     refine' sq 8 (h:=sq 9 (h:=sq 10 (h:=sq 11 (h:=sq 12 (h:=sq 13 (h:=sq 14 (h:=sq 15 (h:=?_))))))))
     refine rdO (i:=16) (fun K hK=>?_);(try simp only[lq1,lq2,lq3]);rw[if_pos (by rfl)];go_simp;refine(HCV.out r0 HE0.out).mono ?_;rintro e r9 ⟨rfl,hw⟩;rw[hw];clear hw r9;go_wp2_with fail;refine hK.out _ _ (HSS.out _ HE0.out) (fun hHeld=>?_);clear hK K;(try simp only[Act.put,lq1,lq2,lq3,lq4,lq5,lq6])
     refine' sq 17 (h:=?_)
     refine rdO (i:=18) (fun K hK=>?_);(try simp only[lq1,lq2,lq3]);go_simp;refine(need_no 3 _).mono ?_;rintro e r9 ⟨rfl,rfl⟩;go_wp2;obtain⟨q1,q2⟩:=NO3.out rfl _ HE0.out
     refine⟨rfl,q1,?_⟩
     rw[q2]
   · --BEGIN1c
     refine' sq 0 (h:=sq 1 (h:=sq 2 (h:=sq 3 (h:=sq 4 (h:=sq 5 (h:=sq 6 (h:=?_)))))))
     refine rdO (i:=7) (fun K hK=>?_);(try simp only[lq1,lq2,lq3]);go_simp;refine(HCU.out r0 HE0.out).mono ?_;rintro e r9 ⟨rfl,hw⟩;rw[hw];clear hw r9;go_wp2_with fail;refine hK.out _ _ (HSS.out _ HE0.out) (fun hHeld=>?_);clear hK K;(try simp only[Act.put,lq1,lq2,lq3,lq4,lq5,lq6])
     refine' sq 8 (h:=sq 9 (h:=sq 10 (h:=sq 11 (h:=sq 12 (h:=sq 13 (h:=sq 14 (h:=sq 15 (h:=?_))))))))
     refine rdO (i:=16) (fun K hK=>?_);(try simp only[lq1,lq2,lq3]);rw[if_pos (by rfl)];go_simp;refine(HCV.out r0 HE0.out).mono ?_;rintro e r9 ⟨rfl,hw⟩;rw[hw];clear hw r9;go_wp2_with fail;refine hK.out _ _ (HSS.out _ HE0.out) (fun hHeld=>?_);clear hK K;(try simp only[Act.put,lq1,lq2,lq3,lq4,lq5,lq6])
     refine' sq 17 (h:=?_)
     refine rdO (i:=18) (fun K hK=>?_);(try simp only[lq1,lq2,lq3]);go_simp;refine(need_yes 3 _).mono ?_;rintro e r9 ⟨rfl,hw⟩;rw[hw];clear hw r9;go_wp2_with fail;refine hK.out _ _ (HSS.out _ HE0.out) (fun hHeld=>?_);clear hK K;(try simp only[Act.put,lq1,lq2,lq3,lq4,lq5,lq6]);refine wpAnyH_done (by kernel_rfl) ?_ _;(try dsimp only);clear NO3 HCU HCV CA HSS
     obtain⟨un,rfl⟩:∃n:Nat,u=n:=⟨u.toNat,by have:=(arcB_iff.1 HR1.out).2;omega⟩
     obtain⟨vn,rfl⟩:∃n:Nat,vv=n:=⟨vv.toNat,by have:=(arcB_iff.1 HR2.out).2;omega⟩
     have HAU:Hid (Kn.isArc X un):=Lib.hid (arcB_iff.1 HR1.out).1;have HAV:Hid (Kn.isArc X vn):=Lib.hid (arcB_iff.1 HR2.out).1
     have hpos:0<X.length:=by have h1:=HAU.out.1;have h2:=HAU.out.2;unfold Kn.nArcs at h2;omega
     have HU:Hid (pushO X L (un:Nat) (vn:Nat) ub vb ov=if decide ((un:Int)≠(vn:Int))&&faceB X (un,ub) (vn,vb)then(if X.length+2≤16 then .ok (Kn.pushL X (un,ub) (vn,vb) ov) L else .no 2)else .no 8):=Lib.hid (by
      unfold pushO
      rw[HR1.out,HR2.out];rfl)
     have HN1:Hid (New w r0):=Lib.hid (by rw[HE0.out];exact HN.out.drew)
     have hN01:New w1 r0:=by rw[HE0.out];exact(Fr.refl _ _).drew
     have HB1:=Lib.hid (HB.out.new hN01);have HZ1:=Lib.hid (hN01.blk HZ.out fun x=>x);have HZ01:=Lib.hid (hN01.blk HZ0.out fun x=>x);have HRO1:=Lib.hid (RowsD.new HRO.out hN01);clear hHeld hN01 HE0 HN HB HZ HZ0 HRO HNO HW1 HR1 HR2;have p0:=(one_c HZ01.out).1;obtain⟨p1,p2,_⟩:=box2_c HB1.out.blk;obtain⟨_,_,_,m3,m4,m5,m6,_⟩:=eight_c HZ1.out
     obtain⟨q,HQ⟩:∃q,Hid ((Kn.facesL X).any (twoF (un,ub) (vn,vb))=q):=⟨_,Lib.hid rfl⟩
     have HCF:=Lib.hid (containsU_any B2 fv (un,ub) (vn,vb) (Kn.facesL X) r0 ⟨m3,m4,m5,m6⟩ (fun f hf=>(HFO.out.2 f hf).1) HFO.out.1 HRO1.out);rw[HQ.out]at HCF;clear m3 m4 m5 m6;go_wp2_with fail
     refine HCF.out.mono ?_
     rintro e w2 ⟨rfl,hN⟩;have HN2:=Lib.hid (HN1.out.trans hN);have HB2':=Lib.hid (HB1.out.new hN);have HZ2:=Lib.hid (hN.blk HZ1.out fun x=>x);have HZ02:=Lib.hid (hN.blk HZ01.out fun x=>x);clear hN HCF p0 p1 p2 HN1 HB1 HZ1 HZ01 HRO1
     obtain⟨r3,HR3⟩:∃r,Hid (decide ((un:Int)≠(vn:Int))=r):=⟨_,Lib.hid rfl⟩
     have hd1:((un:Int) != (vn:Int))=r3:=by rw[←HR3.out,Bool.eq_iff_iff];simp
     have p0:=(one_c HZ02.out).1;obtain⟨p1,p2,_⟩:=box2_c HB2'.out.blk;obtain⟨_,_,_,m3,m4,m5,m6,m7⟩:=eight_c HZ2.out
     have HNO:Hid ((r3&&q)=false→GaveP D b s fv (pushO X L (un:Nat) (vn:Nat) ub vb ov) w (.panicked (wrongP 8)) w2):=Lib.hid fun h0=>by
      refine⟨HN2.out.mono fun _ h=>h.elim,?_⟩
      have hf:faceB X (un,ub) (vn,vb)=q:=HQ.out
      rw[HU.out,HR3.out,hf,h0];rfl
     cases r3
     · go_wp2_with fail
       refine(need_no 8 _).mono ?_;rintro e w3 ⟨rfl,rfl⟩;go_wp2
       exact⟨rfl,HNO.out rfl⟩
     · cases q
       · go_wp2_with fail
         refine(need_no 8 _).mono ?_;rintro e w3 ⟨rfl,rfl⟩;go_wp2
         exact⟨rfl,HNO.out rfl⟩
       · go_wp2_with fail
         refine(need_yes 8 _).mono ?_;rintro e w3 ⟨rfl,rfl⟩;clear HNO
         have HU2:Hid (pushO X L (un:Nat) (vn:Nat) ub vb ov=if X.length+2≤16 then .ok (Kn.pushL X (un,ub) (vn,vb) ov) L else .no 2):=Lib.hid (by
          have hf:faceB X (un,ub) (vn,vb)=true:=HQ.out
          rw[HU.out,HR3.out,hf];rfl)
         obtain⟨g,c,rfl,hDg⟩:=HB2'.out.sl hpos
         obtain⟨n,HNX⟩:∃n,Hid (n=X.length):=⟨_,Lib.hid rfl⟩
         rw[←HNX.out]at HB2'
         have hn16:n≤16:=by have:=HNX.out;omega
         have hn0:0<n:=by have:=HNX.out;omega
         obtain⟨_,s0,_⟩:=HB2'.out.box;have hw2:IntKind.i64.wrap ((n:Int)+2)=(n:Int)+2:=IntWalk.i64_in _ (by omega)
         by_cases h16:(n:Int)+2≤16
         · have hd2:decide ((n:Int)+2≤16)=true:=decide_eq_true h16
           go_wp2_with fail;refine(need_yes 2 _).mono ?_;rintro e w4 ⟨rfl,rfl⟩;go_wp2_with fail;refine(arcsN_any s X L _ HB2'.out.at.sh hl).mono ?_;rintro e w3 ⟨rfl,hw⟩;rw[←hw];clear hw w3
           obtain⟨m,HMN⟩:∃m,Hid (m=Kn.nArcs X):=⟨_,Lib.hid rfl⟩
           have hm32:m≤32:=by have:=HMN.out;unfold Kn.nArcs at this;omega
           rw[←HMN.out];clear p0 p1 p2 m3 m4 m5 m6 m7 s0 hd1 hd2 hw2;go_wp2_with fail
           obtain⟨m1,HM1⟩:∃z:Int,Hid (z=(m:Int)+1):=⟨_,Lib.hid rfl⟩
           obtain⟨m3,HM3⟩:∃z:Int,Hid (z=(m:Int)+3):=⟨_,Lib.hid rfl⟩
           obtain⟨cu0,HCU0⟩:∃z:Int,Hid (z=if ub then m1+1 else(un:Int)):=⟨_,Lib.hid rfl⟩
           obtain⟨cu2,HCU2⟩:∃z:Int,Hid (z=if ub then(un:Int)else m1+1):=⟨_,Lib.hid rfl⟩
           obtain⟨cv0,HCV0⟩:∃z:Int,Hid (z=if vb then m3+1 else(vn:Int)):=⟨_,Lib.hid rfl⟩
           obtain⟨cv2,HCV2⟩:∃z:Int,Hid (z=if vb then(vn:Int)else m3+1):=⟨_,Lib.hid rfl⟩
           have CCU:Hid (∀r,Calls Tryz.prog 82 #[.agg #[.int .i64 (un:Nat),.bool ub],.int .i64 m1] r (fun e w'=>e=.returned (.agg #[.int .i64 cu0,.int .i64 m1,.int .i64 cu2])∧New r w')):=Lib.hid fun r=>by
            rw[HCU0.out,HCU2.out]
            exact cut_any (un:Nat) m1 ub r (by have:=HM1.out;omega) (by have:=HM1.out;omega)
           have CCV:Hid (∀r,Calls Tryz.prog 82 #[.agg #[.int .i64 (vn:Nat),.bool vb],.int .i64 m3] r (fun e w'=>e=.returned (.agg #[.int .i64 cv0,.int .i64 m3,.int .i64 cv2])∧New r w')):=Lib.hid fun r=>by
            rw[HCV0.out,HCV2.out]
            exact cut_any (vn:Nat) m3 vb r (by have:=HM3.out;omega) (by have:=HM3.out;omega)
           have hwm1:IntKind.i64.wrap m1=m1:=by rw[HM1.out];exact IntWalk.i64_in _ (by omega)
           have hwm3:IntKind.i64.wrap m3=m3:=by rw[HM3.out];exact IntWalk.i64_in _ (by omega)
           have hm1:(m:Int)+1=m1:=HM1.out.symm;have hm3:(m:Int)+3=m3:=HM3.out.symm;have HWM1:=Lib.hid hwm1;have HWM3:=Lib.hid hwm3
           obtain⟨w3,rfl⟩:∃w3,w3=w4:=⟨_,rfl⟩
           go_cut [6,7] (fun s6 s7 wx=>Hid (CutUV w3 cu0 m1 cu2 cv0 m3 cv2 s6 s7 wx))
           case first=>
            have HSS:Hid (∀r:World,r.heap[B2]?=some (.cells #[.int .i64 k,.int .i64 x,.int .i64 y,.int .i64 (un:Nat),.bool ub,.int .i64 (vn:Nat),.bool vb,.bool ov] 28 (0,0))→r.cell? ⟨B2,3,none⟩=some (.int .i64 (un:Nat))∧r.cell? ⟨B2,4,none⟩=some (.bool ub)∧r.cell? ⟨B2,5,none⟩=some (.int .i64 (vn:Nat))∧r.cell? ⟨B2,6,none⟩=some (.bool vb)):=Lib.hid fun r hr=>by
             obtain⟨_,_,_,m3,m4,m5,m6,_⟩:=eight_c hr
             exact⟨m3,m4,m5,m6⟩
            have HM0:Hid (w3.drew.heap[B2]?=some (.cells #[.int .i64 k,.int .i64 x,.int .i64 y,.int .i64 (un:Nat),.bool ub,.int .i64 (vn:Nat),.bool vb,.bool ov] 28 (0,0))):=Lib.hid HZ2.out;have HN0:Hid (New w3 w3.drew):=Lib.hid (Fr.refl _ w3).drew;have hS0:=HSS.out _ HM0.out
            refine wp_region_held_drew (S:=fun wz=>wz.cell? ⟨B2,3,none⟩=some (.int .i64 (un:Nat))∧wz.cell? ⟨B2,4,none⟩=some (.bool ub)∧wz.cell? ⟨B2,5,none⟩=some (.int .i64 (vn:Nat))∧wz.cell? ⟨B2,6,none⟩=some (.bool vb)) (by kernel_rfl) hS0 (fun hHeld=>?_)
            clear hS0;generalize w3.drew=r0 at hHeld HN0 HM0 ⊢
            refine' sq 0 (h:=sq 1 (h:=sq 2 (h:=sq 3 (h:=sq 5 (h:=sq 6 (h:=sq 7 (h:=sq 8 (h:=?_))))))))
            refine two_boxes 4 9 10 11 146 #[.int .i64 0,.int .i64 0,.int .i64 0] (.agg #[.int .i64 cu0,.int .i64 m1,.int .i64 cu2]) (.agg #[.int .i64 cv0,.int .i64 m3,.int .i64 cv2]) (hSN:=fun r hN=>HSS.out _ (hN.blk HM0.out fun x=>x)) (s1:=?s1) (s2:=?s2) (sa:=?sa) (sb:=?sb) (fin:=?fin)
            case s1=>
             intro v1 v2 b1 b2 r hS K' hK
             simp only[actW,Act.put,lq1,lq2,lq3,lq4,lq5,lq6];go_simp;refine(CCU.out _).mono ?_;rintro e r1 ⟨rfl,hF⟩;go_wp2_with fail
             exact hK.out _ _ ⟨by simp only[actW,Act.put,lq1,lq2,lq3,lq4,lq5,lq6],hF⟩
            case s2=>
             intro v1 v2 b1 b2 r hS K' hK
             simp only[actW,Act.put,lq1,lq2,lq3,lq4,lq5,lq6];go_simp;refine(CCV.out _).mono ?_;rintro e r1 ⟨rfl,hF⟩;go_wp2_with fail
             exact hK.out _ _ ⟨by simp only[actW,Act.put,lq1,lq2,lq3,lq4,lq5,lq6],hF⟩
            case sa=>
             intro v1 v2 b1 b2 r hS K' hK
             simp only[actW,Act.put,lq1,lq2,lq3,lq4,lq5,lq6];go_simp
             exact hK.out _ _ ⟨by simp only[actW,Act.put,lq1,lq2,lq3,lq4,lq5,lq6],rfl⟩
            case sb=>
             intro v1 v2 b1 b2 r hS K' hK
             simp only[actW,Act.put,lq1,lq2,lq3,lq4,lq5,lq6];go_simp
             exact hK.out _ _ ⟨by simp only[actW,Act.put,lq1,lq2,lq3,lq4,lq5,lq6],rfl⟩
            case fin=>
             intro B6 B7 r4 hHeld hN g6 g7 hNE h6 h7
             have HN4:=Lib.hid (HN0.out.trans hN);have HA64:=Lib.hid h6;have HA74:=Lib.hid h7;have HM4:=Lib.hid (hN.blk HM0.out fun x=>x);have hz:=HN0.out.size;clear h6 h7 hN;simp only[actW,Act.put,lq1,lq2,lq3,lq4,lq5,lq6];refine rdO (i:=12) (fun K hK=>?_);(try simp only[lq1,lq2,lq3]);obtain⟨x1,x2,x3,x4,x5,x6⟩:=three_c HA64.out;have hs6:=three_set2 (three_set1 (three_set0 HA64.out (.int .i64 cu0)) (.int .i64 m1)) (.int .i64 cu2)
             have hF6:Fr (fun k=>k=B6) r4 (((r4.setCell ⟨B6,0,none⟩ (.int .i64 cu0)).setCell ⟨B6,1,none⟩ (.int .i64 m1)).setCell ⟨B6,2,none⟩ (.int .i64 cu2)):=(((Fr.refl (fun k=>k=B6) r4).setCell (a:=⟨B6,0,none⟩) (.inl rfl) _).setCell (a:=⟨B6,1,none⟩) (.inl rfl) _).setCell (a:=⟨B6,2,none⟩) (.inl rfl) _;obtain⟨_,y2,_,_,y5,_⟩:=three_c (three_set0 HA64.out (.int .i64 cu0));obtain⟨_,_,z3,_,_,z6⟩:=three_c (three_set1 (three_set0 HA64.out (.int .i64 cu0)) (.int .i64 m1));go_simp;clear x1 x2 x3 x4 x5 x6 y2 y5 z3 z6
             have HA75:=Lib.hid (hF6.blk HA74.out fun e=>hNE e.symm);have HM5:=Lib.hid (hF6.blk HM4.out (fun e=>by have h1:=HM4.out;rw[e,HA64.out]at h1;cases h1));have HL6:=Lib.hid hF6;have HS6:=Lib.hid hs6;clear hs6 hF6;generalize (((r4.setCell ⟨B6,0,none⟩ (.int .i64 cu0)).setCell ⟨B6,1,none⟩ (.int .i64 m1)).setCell ⟨B6,2,none⟩ (.int .i64 cu2))=r5 at HM5 HL6 HS6 HA75 ⊢;refine hK.out _ _ (HSS.out _ HM5.out) (fun hHeld=>?_);clear hK K;(try simp only[Act.put,lq1,lq2,lq3,lq4,lq5,lq6]);refine rdO (i:=13) (fun K hK=>?_)
             (try simp only[lq1,lq2,lq3]);obtain⟨x1,x2,x3,x4,x5,x6⟩:=three_c HA75.out;have hs7:=three_set2 (three_set1 (three_set0 HA75.out (.int .i64 cv0)) (.int .i64 m3)) (.int .i64 cv2);have hF7:Fr (fun k=>k=B7) r5 (((r5.setCell ⟨B7,0,none⟩ (.int .i64 cv0)).setCell ⟨B7,1,none⟩ (.int .i64 m3)).setCell ⟨B7,2,none⟩ (.int .i64 cv2)):=(((Fr.refl (fun k=>k=B7) r5).setCell (a:=⟨B7,0,none⟩) (.inl rfl) _).setCell (a:=⟨B7,1,none⟩) (.inl rfl) _).setCell (a:=⟨B7,2,none⟩) (.inl rfl) _
             obtain⟨_,y2,_,_,y5,_⟩:=three_c (three_set0 HA75.out (.int .i64 cv0));obtain⟨_,_,z3,_,_,z6⟩:=three_c (three_set1 (three_set0 HA75.out (.int .i64 cv0)) (.int .i64 m3));go_simp;clear x1 x2 x3 x4 x5 x6 y2 y5 z3 z6;have HS66:=Lib.hid (hF7.blk HS6.out hNE);have HM6:=Lib.hid (hF7.blk HM5.out (fun e=>by have h1:=HM5.out;rw[e,HA75.out]at h1;cases h1));have HL7:=Lib.hid hF7;have HS7:=Lib.hid hs7;clear hs7 hF7
             generalize (((r5.setCell ⟨B7,0,none⟩ (.int .i64 cv0)).setCell ⟨B7,1,none⟩ (.int .i64 m3)).setCell ⟨B7,2,none⟩ (.int .i64 cv2))=r6 at HM6 HL7 HS7 HS66 ⊢;refine hK.out _ _ (HSS.out _ HM6.out) (fun hHeld=>?_);clear hK K;(try simp only[Act.put,lq1,lq2,lq3,lq4,lq5,lq6]);refine wpAnyH_done (by kernel_rfl) ?_ _;(try dsimp only);go_wp2_with fail
             go_meet
             exact Lib.hid ⟨B6,B7,rfl,rfl,(HN4.out.next HL6.out fun i hi=>.inr (by omega)).next HL7.out fun i hi=>.inr (by omega),HS66.out,HS7.out⟩
           case rest=>
           obtain⟨B6,B7,rfl,rfl,hN,hb6,hb7⟩:=Hid.out hcut
           obtain⟨w5,rfl⟩:∃w5,w5=wc:=⟨_,rfl⟩
           have HN5:=Lib.hid (HN2.out.trans hN);have HB5:=Lib.hid (HB2'.out.new hN);have HZ5:=Lib.hid (hN.blk HZ2.out fun x=>x);have HZ05:=Lib.hid (hN.blk HZ02.out fun x=>x);have HA6:=Lib.hid hb6;have HA7:=Lib.hid hb7;clear hN hb6 hb7 hcut CCU CCV hwm1 hwm3 hm1 hm3 HN2 HB2' HZ2 HZ02
           obtain⟨mm,HMM⟩:∃z,Hid (z=mArcs X):=⟨_,Lib.hid rfl⟩
           have HGD:Hid (∀i,i=g→D≤i):=Lib.hid fun i hi=>by rw[hi];exact hDg
           obtain⟨⟨pc,ps⟩,HP⟩:∃p,Hid (Kn.inP X un=p):=⟨_,Lib.hid rfl⟩
           obtain⟨⟨qc,qs⟩,HQP⟩:∃p,Hid (Kn.inP X vn=p):=⟨_,Lib.hid rfl⟩
           have hpp:Kn.isPl X (pc,ps):=by have:=HX.out.isPl_end (io:=true) HAU.out;rw[←HP.out];exact this
           have hqq:Kn.isPl X (qc,qs):=by have:=HX.out.isPl_end (io:=true) HAV.out;rw[←HQP.out];exact this
           have hpc:pc<n:=by have:=hpp.1;rw[←HNX.out]at this;exact this
           have hps:ps<4:=hpp.2
           have hqc:qc<n:=by have:=hqq.1;rw[←HNX.out]at this;exact this
           have hqs:qs<4:=hqq.2;clear hpp hqq
           have hum:un<mm:=by have:=HAU.out.2;have:=HMM.out;unfold Kn.nArcs at *;unfold mArcs at this;omega
           have hvm:vn<mm:=by have:=HAV.out.2;have:=HMM.out;unfold Kn.nArcs at *;unfold mArcs at this;omega
           have i1:(0:Int)≤(un:Int):=by omega
           have i2:(un:Int)<(mm:Int):=by omega
           have i3:(0:Int)≤(vn:Int):=by omega
           have i4:(vn:Int)<(mm:Int):=by omega
           have HCI:Hid (∀(W:World) (Z:List Kn.Cr),BW D W b s fv (.slice (some ⟨g,0,none⟩) n c) bi bo X Z L→W.cell? ⟨b,0,none⟩=some (.pointer (some ⟨s,0,none⟩))∧W.cell? ⟨s,2,none⟩=some (.slice (some ⟨bi,0,none⟩) mm mm) ∧
            W.cell? ⟨bi,un*2,none⟩=some (.int .i64 (pc:Nat))∧W.cell? ⟨bi,un*2+1,none⟩=some (.int .i64 (ps:Nat))∧W.cell? ⟨bi,vn*2,none⟩=some (.int .i64 (qc:Nat))∧W.cell? ⟨bi,vn*2+1,none⟩=some (.int .i64 (qs:Nat))):=Lib.hid fun W Z hB=>by
            obtain⟨k0,_,_,k2,_⟩:=hB.box;rw[←HMM.out]at k2;have h1:=hB.ri.cell (i:=un*2) (by rw[←HMM.out];omega);have h2:=hB.ri.cell (i:=un*2+1) (by rw[←HMM.out];omega);have h3:=hB.ri.cell (i:=vn*2) (by rw[←HMM.out];omega);have h4:=hB.ri.cell (i:=vn*2+1) (by rw[←HMM.out];omega);rw[plFn_0,HP.out]at h1;rw[plFn_1,HP.out]at h2;rw[plFn_0,HQP.out]at h3;rw[plFn_1,HQP.out]at h4
            exact⟨k0,k2,h1,h2,h3,h4⟩
           obtain⟨m2,HM2⟩:∃z:Int,Hid (z=(m:Int)+2):=⟨_,Lib.hid rfl⟩
           obtain⟨m4,HM4⟩:∃z:Int,Hid (z=(m:Int)+4):=⟨_,Lib.hid rfl⟩
           have hm2:(m:Int)+2=m2:=HM2.out.symm;have hm4:(m:Int)+4=m4:=HM4.out.symm
           have hwm2:IntKind.i64.wrap m2=m2:=by rw[HM2.out];exact IntWalk.i64_in _ (by omega)
           have hwm4:IntKind.i64.wrap m4=m4:=by rw[HM4.out];exact IntWalk.i64_in _ (by omega)
           have f0:w5.drew.cell? ⟨B0,0,none⟩=some (.pointer (some ⟨b,0,none⟩)):=(one_c HZ05.out).1
           have f3:w5.drew.cell? ⟨B2,3,none⟩=some (.int .i64 (un:Nat)):=by obtain⟨_,_,_,k3,_⟩:=eight_c HZ5.out;exact k3
           obtain⟨f1,f2,f4,f5,_,_⟩:=HCI.out w5.drew X (HB5.out.new (Fr.refl _ w5).drew);go_wp2_with fail
           go_still_tail 15,(by kernel_rfl)
           change wpList _ _ _ _ _ w5.drew
           clear f0 f1 f2 f3 f4 f5;go_wp2_with fail;refine(set_any D b s fv g c bi bo n pc ps X X L m2 w5.drew (HB5.out.new (Fr.refl _ w5).drew) HNX.out hn16 hpc hps).mono ?_;rintro e w6 ⟨rfl,hF,hB⟩;have hF5:Fr (fun k=>k=g) w5 w6:=(((Fr.refl _ w5).drew).trans hF)
           have hkp:∀{B t:Nat} {cs:Array Value},w5.heap[B]?=some (.cells cs t (0,0))→t≠52→41≠t→w6.heap[B]?=some (.cells cs t (0,0)):=fun hb h1 h2=>HB5.out.keep (hF5.mono fun k e=>.inr (by rw[e];rfl)) hb h1 h2
           have HN6:Hid (Fr (fun k=>D≤k) w w6):=Lib.hid ((HN5.out.mono fun _ h=>h.elim).trans (hF5.mono fun i hi=>HGD.out i hi));have HB6:=Lib.hid hB;have HZ6:=Lib.hid (hkp HZ5.out (by decide) (by decide));have HZ06:=Lib.hid (hkp HZ05.out (by decide) (by decide));have HA66:=Lib.hid (hkp HA6.out (by decide) (by decide));have HA76:=Lib.hid (hkp HA7.out (by decide) (by decide));clear hF hB hF5 hkp HB5 HZ5 HZ05 HA6 HA7 HN5;have HNX6:Hid (n=(Kn.putA X (pc,ps) m2).length):=Lib.hid (by rw[Kn.putA_len];exact HNX.out)
           have f0:w6.drew.cell? ⟨B0,0,none⟩=some (.pointer (some ⟨b,0,none⟩)):=(one_c HZ06.out).1
           have f3:w6.drew.cell? ⟨B2,5,none⟩=some (.int .i64 (vn:Nat)):=by obtain⟨_,_,_,_,_,k3,_⟩:=eight_c HZ6.out;exact k3
           obtain⟨f1,f2,_,_,f4,f5⟩:=HCI.out w6.drew _ (HB6.out.new (Fr.refl _ w6).drew);go_wp2_with fail
           go_still_tail 15,(by kernel_rfl)
           change wpList _ _ _ _ _ w6.drew
           clear f0 f1 f2 f3 f4 f5;go_wp2_with fail;refine(set_any D b s fv g c bi bo n qc qs X _ L m4 w6.drew (HB6.out.new (Fr.refl _ w6).drew) HNX6.out hn16 hqc hqs).mono ?_;rintro e w7 ⟨rfl,hF,hB⟩;have hF5:Fr (fun k=>k=g) w6 w7:=(((Fr.refl _ w6).drew).trans hF)
           have hkp:∀{B t:Nat} {cs:Array Value},w6.heap[B]?=some (.cells cs t (0,0))→t≠52→41≠t→w7.heap[B]?=some (.cells cs t (0,0)):=fun hb h1 h2=>HB6.out.keep (hF5.mono fun k e=>.inr (by rw[e];rfl)) hb h1 h2
           have HN7:Hid (Fr (fun k=>D≤k) w w7):=Lib.hid (HN6.out.trans (hF5.mono fun i hi=>HGD.out i hi));have HB7:=Lib.hid hB;have HZ7:=Lib.hid (hkp HZ6.out (by decide) (by decide));have HZ07:=Lib.hid (hkp HZ06.out (by decide) (by decide));have HA67:=Lib.hid (hkp HA66.out (by decide) (by decide));have HA77:=Lib.hid (hkp HA76.out (by decide) (by decide));clear hF hB hF5 hkp HB6 HZ6 HZ06 HA66 HA76 HN6 hwm2 hwm4 hm2 hm4 i1 i2 i3 i4 HCI
           obtain⟨Z,HZZ⟩:∃Z,Hid (Z=Kn.putA (Kn.putA X (pc,ps) m2) (qc,qs) m4):=⟨_,Lib.hid rfl⟩
           rw[←HZZ.out]at HB7
           have hzl:Z.length≤16:=by rw[HZZ.out,Kn.putA_len,Kn.putA_len];exact hl
           obtain⟨nup,HUP⟩:∃z:Nat,Hid (z=if ub then 1 else 3):=⟨_,Lib.hid rfl⟩
           obtain⟨nuq,HUQ⟩:∃z:Nat,Hid (z=if ub then 3 else 1):=⟨_,Lib.hid rfl⟩
           have hnup:nup<4:=by have:=HUP.out;split at this<;>omega
           have hnuq:nuq<4:=by have:=HUQ.out;split at this<;>omega
           have CE:Hid (∀r,Calls Tryz.prog 84 #[.bool ub,.int .i64 3,.int .i64 1] r fun e w'=>e=.returned (.int .i64 (nup:Nat))∧w'=r):=Lib.hid fun r=>by
            have h1:=either_any ub 3 1 r
            have h2:(if ub=true then(1:Int)else 3)=(nup:Int):=by rw[HUP.out];split<;>rfl
            rw[h2]at h1;exact h1
           have CF:Hid (∀r,Calls Tryz.prog 84 #[.bool ub,.int .i64 1,.int .i64 3] r fun e w'=>e=.returned (.int .i64 (nuq:Nat))∧w'=r):=Lib.hid fun r=>by
            have h1:=either_any ub 1 3 r
            have h2:(if ub=true then(3:Int)else 1)=(nuq:Int):=by rw[HUQ.out];split<;>rfl
            rw[h2]at h1;exact h1
           obtain⟨g60,g61,_,_⟩:=three_c (show w7.drew.heap[B6]?=_ from HA67.out);obtain⟨_,g71,g72,_⟩:=three_c (show w7.drew.heap[B7]?=_ from HA77.out)
           have f4:w7.drew.cell? ⟨B2,4,none⟩=some (.bool ub):=by obtain⟨_,_,_,_,k4,_⟩:=eight_c HZ7.out;exact k4
           go_wp2_with fail
           refine wp_region_still_tail 14 (by kernel_rfl) (by kernel_rfl) ?_
           simp only[List.take_succ_cons,List.take_zero,List.drop_succ_cons,List.drop_zero]
           iterate 13 still_step
           still_call (CE.out _)
           refine wpStill_nil ?_
           change wpList _ _ _ _ _ w7.drew
           clear g60 g61 g71 g72 f4;go_wp2_with fail;refine(push2_any D B0 B2 b s fv (.slice (some ⟨g,0,none⟩) n c) bi bo X Z L k x y (un:Nat) (vn:Nat) m3 m1 cv2 cu0 ub vb ov nup w7.drew (HB7.out.new (Fr.refl _ w7).drew) (by omega) hnup HZ07.out HZ7.out).mono ?_;rintro e w8 ⟨v8,rfl,hB,hF⟩;have hF5:Fr (fun k=>k=s∨(Value.slice (some ⟨g,0,none⟩) n c).ownBlock=some k) w7 w8:=(((Fr.refl _ w7).drew).trans hF)
           have HN8:Hid (Fr (fun k=>D≤k) w w8):=Lib.hid (HN7.out.trans (hF5.mono fun i hi=>by
            rcases hi with hi|hi
            · rw[hi];exact HB7.out.ls
            · exact own_lb HB7.out.own i hi))
           have HB8:=Lib.hid hB;have HZ8:=Lib.hid (HB7.out.keep hF5 HZ7.out (by decide) (by decide));have HZ08:=Lib.hid (HB7.out.keep hF5 HZ07.out (by decide) (by decide));have HA68:=Lib.hid (HB7.out.keep hF5 HA67.out (by decide) (by decide));have HA78:=Lib.hid (HB7.out.keep hF5 HA77.out (by decide) (by decide));clear hF hB hF5 HB7 HZ7 HZ07 HA67 HA77 HN7 CE;obtain⟨_,g61,g62,_⟩:=three_c (show w8.drew.heap[B6]?=_ from HA68.out);obtain⟨g70,g71,_,_⟩:=three_c (show w8.drew.heap[B7]?=_ from HA78.out)
           have f4:w8.drew.cell? ⟨B2,4,none⟩=some (.bool ub):=by obtain⟨_,_,_,_,k4,_⟩:=eight_c HZ8.out;exact k4
           go_wp2_with fail
           refine wp_region_still_tail 14 (by kernel_rfl) (by kernel_rfl) ?_
           simp only[List.take_succ_cons,List.take_zero,List.drop_succ_cons,List.drop_zero]
           iterate 13 still_step
           still_call (CF.out _)
           refine wpStill_nil ?_
           change wpList _ _ _ _ _ w8.drew
           clear g61 g62 g70 g71 f4;go_wp2_with fail;refine(push2_any D B0 B2 b s fv v8 bi bo X _ L k x y (un:Nat) (vn:Nat) cv0 m1 m3 cu2 ub vb ov nuq w8.drew (HB8.out.new (Fr.refl _ w8).drew) (by rw[List.length_append,List.length_singleton];omega) hnuq HZ08.out HZ8.out).mono ?_;rintro e w9 ⟨v9,rfl,hB,hF⟩;have HB9:=Lib.hid hB
           have HN9:Hid (Fr (fun k=>D≤k) w w9):=Lib.hid (HN8.out.trans ((((Fr.refl _ w8).drew).trans hF).mono fun i hi=>by
            rcases hi with hi|hi
            · rw[hi];exact HB8.out.ls
            · exact own_lb HB8.out.own i hi))
           clear hB hF;go_wp2_with fail;go_end0
           have hY:pushO X L (un:Nat) (vn:Nat) ub vb ov=.ok (Z++[Kn.pushC (Kn.four m3 m1 cv2 cu0) (if vb then 2 else 0) nup ov]++[Kn.pushC (Kn.four cv0 m1 m3 cu2) (if vb then 2 else 0) nuq ov]) L:=by
            rw[HU2.out,if_pos (by have:=HNX.out;omega)];have e1:Kn.endP X true un=(pc,ps):=HP.out;have e2:Kn.endP X true vn=(qc,qs):=HQP.out
            have e3:m1+1=(m:Int)+2:=by have:=HM1.out;omega
            have e4:m3+1=(m:Int)+4:=by have:=HM3.out;omega
            unfold Kn.pushL Kn.pushZ Kn.pU0 Kn.pU2 Kn.pV0 Kn.pV2 Kn.pVi Kn.pUp Kn.pUq
            rw[e1,e2,←HMN.out,HZZ.out,HM2.out,HM4.out,HCU0.out,HCU2.out,HCV0.out,HCV2.out,e3,e4,HM1.out,HM3.out,HUP.out,HUQ.out]
           rw[hY]
           exact HB9.out.gave HN9.out
         · have hd2:decide ((n:Int)+2≤16)=false:=decide_eq_false h16
           go_wp2_with fail;refine(need_no 2 _).mono ?_;rintro e w4 ⟨rfl,rfl⟩;go_wp2
           refine⟨rfl,HN2.out.mono fun _ h=>h.elim,?_⟩
           rw[HU2.out,if_neg (by have:=HNX.out;omega)]
end Go.Proofs.YtlicglicfijelaaGreat
