/- Walks: changed (region 1 printed by gen_h5.py). -/
import Derived.Test.YtlicglicfijelaaGreatTK
import Derived.Test.YtlicglicfijelaaGreatN8a
import Derived.Test.YtlicglicfijelaaGreatW2
import Derived.Test.YtlicglicfijelaaGreatW40
import Derived.Test.YtlicglicfijelaaGreatMAll
namespace Go.Proofs.YtlicglicfijelaaGreat
open Go.RowKit

theorem five_f{W:World}{B t:Nat}{a b c d e:Value}(h:W.heap[B]?=some (.cells #[a,b,c,d,e] t (0,0))):
 W.frozen? ⟨B,0,none⟩=false∧W.frozen? ⟨B,1,none⟩=false∧W.frozen? ⟨B,2,none⟩=false∧W.frozen? ⟨B,3,none⟩=false∧W.frozen? ⟨B,4,none⟩=false:=by
 refine⟨?_,?_,?_,?_,?_⟩<;>simp[World.frozen?,h]
theorem box5_set4{W:World}{B t:Nat}{a b c d e:Value}(h:W.heap[B]?=some (.cells #[a,b,c,d,e] t (0,0)))(e':Value):(W.setCell ⟨B,4,none⟩ e').heap[B]?=some (.cells #[a,b,c,d,e'] t (0,0)):=by
 unfold World.setCell;simp[Array.getElem?_modify,h]
theorem fr5'(W:World)(B:Nat)(a b c d e:Value):Fr (fun k=>k=B) W (((((W.setCell ⟨B,0,none⟩ a).setCell ⟨B,1,none⟩ b).setCell ⟨B,2,none⟩ c).setCell ⟨B,3,none⟩ d).setCell ⟨B,4,none⟩ e):=
 (((((Fr.refl (fun k=>k=B) W).setCell (a:=⟨B,0,none⟩) (.inl rfl) _).setCell (a:=⟨B,1,none⟩) (.inl rfl) _).setCell (a:=⟨B,2,none⟩) (.inl rfl) _).setCell (a:=⟨B,3,none⟩) (.inl rfl) _).setCell (a:=⟨B,4,none⟩) (.inl rfl) _
set_option maxRecDepth 100000 in
set_option maxHeartbeats 4000000 in
theorem changed_any(x:Kn.Cr)(w:World):Calls Tryz.prog 34 #[crV x] w (fun e w'=>e=.returned (crV (Kn.mirC x))∧New w w'):=by
 obtain⟨a,b,c,d,p⟩:=x
 obtain⟨y,HY⟩:∃y,Hid (Kn.turnC ⟨a,b,c,d,p⟩ (Kn.over p)=y):=⟨_,Lib.hid rfl⟩
 have HYP:Hid (y.p=p):=Lib.hid (by rw[←HY.out];rfl);have HM:Hid (Kn.mirC ⟨a,b,c,d,p⟩={ y with p:=!p }):=Lib.hid (by rw[←HY.out];rfl);obtain⟨ya,yb,yc,yd,yp⟩:=y;have hyp:yp=p:=HYP.out;subst hyp
 go_enter Tryz.func34,Tryz.ntmps34
 go_upto_region 1 with fail
 obtain⟨w1,HW1⟩:∃w1,Hid (w1=(w.alloc (.cells #[.int .i64 a,.int .i64 b,.int .i64 c,.int .i64 d,.bool yp] 41)).alloc (.cells #[.int .i64 0,.int .i64 0,.int .i64 0,.int .i64 0,.bool false] 41)):=⟨_,Lib.hid rfl⟩
 rw[←HW1.out];have hb2:=heap_alloc_new (w.alloc (.cells #[.int .i64 a,.int .i64 b,.int .i64 c,.int .i64 d,.bool yp] 41)) (.cells #[.int .i64 0,.int .i64 0,.int .i64 0,.int .i64 0,.bool false] 41);rw[World.size_alloc]at hb2;have HN0:Hid (New w w1.drew):=Lib.hid (by rw[HW1.out];exact(((Fr.refl _ w).alloc _).alloc _).drew);have HB0:Hid (w1.drew.heap[w.heap.size]?=some (.cells #[.int .i64 a,.int .i64 b,.int .i64 c,.int .i64 d,.bool yp] 41 (0,0))):=Lib.hid (by rw[HW1.out];exact((Fr.refl (fun _=>False) _).alloc _).drew.blk (heap_alloc_new w _) fun x=>x)
 have HR0:Hid (w1.drew.heap[w.heap.size+1]?=some (.cells #[.int .i64 0,.int .i64 0,.int .i64 0,.int .i64 0,.bool false] 41 (0,0))):=Lib.hid (by rw[HW1.out];exact hb2);clear hb2
 go_cut [3] (fun t3 wz=>∃k:Nat,t3=.pointer (some ⟨k,0,none⟩)∧w.heap.size+2≤k∧Hid (wz.heap[k]?=some (.cells #[.int .i64 ya,.int .i64 yb,.int .i64 yc,.int .i64 yd,.bool yp] 41 (0,0)))∧Hid (wz.heap[w.heap.size]?=some (.cells #[.int .i64 a,.int .i64 b,.int .i64 c,.int .i64 d,.bool yp] 41 (0,0)))∧Hid (New w wz)∧Hid (wz.heap[w.heap.size+1]?=some (.cells #[.int .i64 0,.int .i64 0,.int .i64 0,.int .i64 0,.bool false] 41 (0,0))))
 case first=>
  have hSS:=five_c HB0.out
  refine wp_region_held_drew (S:=fun w'=>w'.cell? ⟨w.heap.size,0,none⟩=some (.int .i64 a)∧w'.cell? ⟨w.heap.size,1,none⟩=some (.int .i64 b)∧w'.cell? ⟨w.heap.size,2,none⟩=some (.int .i64 c)∧w'.cell? ⟨w.heap.size,3,none⟩=some (.int .i64 d)∧w'.cell? ⟨w.heap.size,4,none⟩=some (.bool yp)) (by kernel_rfl) hSS (fun hHeld=>?_)
  clear hSS;generalize w1.drew=r0 at hHeld HN0 HB0 HR0 ⊢
  refine' sq 0 (h:=sq 1 (h:=?_))
  refine wpAnyH_ready (rs:=[2,4]) (by kernel_rfl) (by simp) ?_
  refine AllReadyH.cons rfl (fun K hK=>?_) (AllReadyH.cons rfl (fun K hK=>?_) AllReadyH.nil)
  · skip
    (try simp only[lq1,lq2,lq3]);go_simp;refine(overIn_any a b c d yp _).mono ?_;rintro e r1 ⟨rfl,hF⟩;have HN1:=Lib.hid (HN0.out.trans hF);have HB1:=Lib.hid (hF.blk HB0.out fun x=>x);have HR1:=Lib.hid (hF.blk HR0.out fun x=>x);clear hF;go_wp2_with fail;refine hK.out _ _ (five_c HB1.out) (fun hHeld=>?_);clear hK K;(try simp only[Act.put,lq1,lq2,lq3,lq4,lq5,lq6])
    refine wpAnyH_ready (rs:=[3,4]) (by kernel_rfl) (by simp) ?_
    refine AllReadyH.cons rfl (fun K hK=>?_) (AllReadyH.cons rfl (fun K hK=>?_) AllReadyH.nil)
    · skip
      (try simp only[lq1,lq2,lq3]);go_simp;refine(turned_any a b c d yp (Kn.over yp) _ (Kn.over_lt yp)).mono ?_;rintro e r2 ⟨rfl,hF⟩;rw[HY.out];have HN2:=Lib.hid (HN1.out.trans hF);have HB2:=Lib.hid (hF.blk HB1.out fun x=>x);have HR2:=Lib.hid (hF.blk HR1.out fun x=>x);clear hF;go_wp2_with fail;refine hK.out _ _ (five_c HB2.out) (fun hHeld=>?_);clear hK K;(try simp only[Act.put,lq1,lq2,lq3,lq4,lq5,lq6]);refine rdO (i:=4) (fun K hK=>?_);(try simp only[lq1,lq2,lq3]);go_simp
      have hF:New r2 (r2.alloc (.cells #[.int .i64 0,.int .i64 0,.int .i64 0,.int .i64 0,.bool false] 41)):=(Fr.refl _ _).alloc _;have hk:=heap_alloc_new r2 (.cells #[.int .i64 0,.int .i64 0,.int .i64 0,.int .i64 0,.bool false] 41);have hl:=(Array.getElem?_eq_some_iff.1 HR2.out).1
      obtain⟨k3,Hk3⟩:∃z,Hid (z=r2.heap.size):=⟨_,Lib.hid rfl⟩
      rw[←Hk3.out]at hk hl ⊢;generalize r2.alloc (.cells #[.int .i64 0,.int .i64 0,.int .i64 0,.int .i64 0,.bool false] 41)=r3 at hF hk ⊢;have HN3:=Lib.hid (HN2.out.trans hF);have HB3:=Lib.hid (hF.blk HB2.out fun x=>x);have HR3:=Lib.hid (hF.blk HR2.out fun x=>x);have HK3:=Lib.hid hk;clear hF hk;refine hK.out _ _ (five_c HB3.out) (fun hHeld=>?_);clear hK K;(try simp only[Act.put,lq1,lq2,lq3,lq4,lq5,lq6]);refine rdO (i:=5) (fun K hK=>?_);(try simp only[lq1,lq2,lq3]);obtain⟨q1,q2,q3,q4,q5⟩:=five_c HK3.out
      obtain⟨g1,g2,g3,g4,g5⟩:=five_f HK3.out;go_simp;clear q1 q2 q3 q4 q5 g1 g2 g3 g4 g5;have HE:=Lib.hid (box5_set HK3.out (.int .i64 ya) (.int .i64 yb) (.int .i64 yc) (.int .i64 yd) (.bool yp));have HF:=Lib.hid (fr5' r3 k3 (.int .i64 ya) (.int .i64 yb) (.int .i64 yc) (.int .i64 yd) (.bool yp));generalize ((((r3.setCell ⟨k3,0,none⟩ (.int .i64 ya)).setCell ⟨k3,1,none⟩ (.int .i64 yb)).setCell ⟨k3,2,none⟩ (.int .i64 yc)).setCell ⟨k3,3,none⟩ (.int .i64 yd)).setCell ⟨k3,4,none⟩ (.bool yp)=s3 at HE HF ⊢
      refine hK.out _ _ (five_c (HF.out.blk HB3.out (by omega))) (fun hHeld=>?_);clear hK K;(try simp only[Act.put,lq1,lq2,lq3,lq4,lq5,lq6]);refine wpAnyH_done (by kernel_rfl) ?_ _;go_wp2
      go_meet
      exact⟨k3,rfl,by omega,HE,Lib.hid (HF.out.blk HB3.out (by omega)),Lib.hid (HN3.out.next HF.out fun i hi=>.inr (by omega)),Lib.hid (HF.out.blk HR3.out (by omega))⟩
    · skip
      (try simp only[lq1,lq2,lq3]);go_simp;have hF:New r1 (r1.alloc (.cells #[.int .i64 0,.int .i64 0,.int .i64 0,.int .i64 0,.bool false] 41)):=(Fr.refl _ _).alloc _;have hk:=heap_alloc_new r1 (.cells #[.int .i64 0,.int .i64 0,.int .i64 0,.int .i64 0,.bool false] 41);have hl:=(Array.getElem?_eq_some_iff.1 HR1.out).1
      obtain⟨k3,Hk3⟩:∃z,Hid (z=r1.heap.size):=⟨_,Lib.hid rfl⟩
      rw[←Hk3.out]at hk hl ⊢;generalize r1.alloc (.cells #[.int .i64 0,.int .i64 0,.int .i64 0,.int .i64 0,.bool false] 41)=r4 at hF hk ⊢;have HN4:=Lib.hid (HN1.out.trans hF);have HB4:=Lib.hid (hF.blk HB1.out fun x=>x);have HR4:=Lib.hid (hF.blk HR1.out fun x=>x);have HK4:=Lib.hid hk;clear hF hk;refine hK.out _ _ (five_c HB4.out) (fun hHeld=>?_);clear hK K;(try simp only[Act.put,lq1,lq2,lq3,lq4,lq5,lq6]);refine rdO (i:=3) (fun K hK=>?_);(try simp only[lq1,lq2,lq3]);go_simp;refine(turned_any a b c d yp (Kn.over yp) _ (Kn.over_lt yp)).mono ?_
      rintro e r5 ⟨rfl,hF⟩;rw[HY.out];have HN5:=Lib.hid (HN4.out.trans hF);have HB5:=Lib.hid (hF.blk HB4.out fun x=>x);have HR5:=Lib.hid (hF.blk HR4.out fun x=>x);have HK5:=Lib.hid (hF.blk HK4.out fun x=>x);clear hF;go_wp2_with fail;refine hK.out _ _ (five_c HB5.out) (fun hHeld=>?_);clear hK K;(try simp only[Act.put,lq1,lq2,lq3,lq4,lq5,lq6]);refine rdO (i:=5) (fun K hK=>?_);(try simp only[lq1,lq2,lq3]);obtain⟨q1,q2,q3,q4,q5⟩:=five_c HK5.out;obtain⟨g1,g2,g3,g4,g5⟩:=five_f HK5.out;go_simp;clear q1 q2 q3 q4 q5 g1 g2 g3 g4 g5
      have HE:=Lib.hid (box5_set HK5.out (.int .i64 ya) (.int .i64 yb) (.int .i64 yc) (.int .i64 yd) (.bool yp));have HF:=Lib.hid (fr5' r5 k3 (.int .i64 ya) (.int .i64 yb) (.int .i64 yc) (.int .i64 yd) (.bool yp));generalize ((((r5.setCell ⟨k3,0,none⟩ (.int .i64 ya)).setCell ⟨k3,1,none⟩ (.int .i64 yb)).setCell ⟨k3,2,none⟩ (.int .i64 yc)).setCell ⟨k3,3,none⟩ (.int .i64 yd)).setCell ⟨k3,4,none⟩ (.bool yp)=s3 at HE HF ⊢;refine hK.out _ _ (five_c (HF.out.blk HB5.out (by omega))) (fun hHeld=>?_);clear hK K;(try simp only[Act.put,lq1,lq2,lq3,lq4,lq5,lq6])
      refine wpAnyH_done (by kernel_rfl) ?_ _;go_wp2
      go_meet
      exact⟨k3,rfl,by omega,HE,Lib.hid (HF.out.blk HB5.out (by omega)),Lib.hid (HN5.out.next HF.out fun i hi=>.inr (by omega)),Lib.hid (HF.out.blk HR5.out (by omega))⟩
  · skip
    (try simp only[lq1,lq2,lq3]);go_simp;have hF:New r0 (r0.alloc (.cells #[.int .i64 0,.int .i64 0,.int .i64 0,.int .i64 0,.bool false] 41)):=(Fr.refl _ _).alloc _;have hk:=heap_alloc_new r0 (.cells #[.int .i64 0,.int .i64 0,.int .i64 0,.int .i64 0,.bool false] 41);have hl:=(Array.getElem?_eq_some_iff.1 HR0.out).1
    obtain⟨k3,Hk3⟩:∃z,Hid (z=r0.heap.size):=⟨_,Lib.hid rfl⟩
    rw[←Hk3.out]at hk hl ⊢;generalize r0.alloc (.cells #[.int .i64 0,.int .i64 0,.int .i64 0,.int .i64 0,.bool false] 41)=r6 at hF hk ⊢;have HN6:=Lib.hid (HN0.out.trans hF);have HB6:=Lib.hid (hF.blk HB0.out fun x=>x);have HR6:=Lib.hid (hF.blk HR0.out fun x=>x);have HK6:=Lib.hid hk;clear hF hk;refine hK.out _ _ (five_c HB6.out) (fun hHeld=>?_);clear hK K;(try simp only[Act.put,lq1,lq2,lq3,lq4,lq5,lq6]);refine rdO (i:=2) (fun K hK=>?_);(try simp only[lq1,lq2,lq3]);go_simp;refine(overIn_any a b c d yp _).mono ?_;rintro e r7 ⟨rfl,hF⟩
    have HN7:=Lib.hid (HN6.out.trans hF);have HB7:=Lib.hid (hF.blk HB6.out fun x=>x);have HR7:=Lib.hid (hF.blk HR6.out fun x=>x);have HK7:=Lib.hid (hF.blk HK6.out fun x=>x);clear hF;go_wp2_with fail;refine hK.out _ _ (five_c HB7.out) (fun hHeld=>?_);clear hK K;(try simp only[Act.put,lq1,lq2,lq3,lq4,lq5,lq6]);refine rdO (i:=3) (fun K hK=>?_);(try simp only[lq1,lq2,lq3]);go_simp;refine(turned_any a b c d yp (Kn.over yp) _ (Kn.over_lt yp)).mono ?_;rintro e r8 ⟨rfl,hF⟩;rw[HY.out];have HN8:=Lib.hid (HN7.out.trans hF)
    have HB8:=Lib.hid (hF.blk HB7.out fun x=>x);have HR8:=Lib.hid (hF.blk HR7.out fun x=>x);have HK8:=Lib.hid (hF.blk HK7.out fun x=>x);clear hF;go_wp2_with fail;refine hK.out _ _ (five_c HB8.out) (fun hHeld=>?_);clear hK K;(try simp only[Act.put,lq1,lq2,lq3,lq4,lq5,lq6]);refine rdO (i:=5) (fun K hK=>?_);(try simp only[lq1,lq2,lq3]);obtain⟨q1,q2,q3,q4,q5⟩:=five_c HK8.out;obtain⟨g1,g2,g3,g4,g5⟩:=five_f HK8.out;go_simp;clear q1 q2 q3 q4 q5 g1 g2 g3 g4 g5
    have HE:=Lib.hid (box5_set HK8.out (.int .i64 ya) (.int .i64 yb) (.int .i64 yc) (.int .i64 yd) (.bool yp));have HF:=Lib.hid (fr5' r8 k3 (.int .i64 ya) (.int .i64 yb) (.int .i64 yc) (.int .i64 yd) (.bool yp));generalize ((((r8.setCell ⟨k3,0,none⟩ (.int .i64 ya)).setCell ⟨k3,1,none⟩ (.int .i64 yb)).setCell ⟨k3,2,none⟩ (.int .i64 yc)).setCell ⟨k3,3,none⟩ (.int .i64 yd)).setCell ⟨k3,4,none⟩ (.bool yp)=s3 at HE HF ⊢;refine hK.out _ _ (five_c (HF.out.blk HB8.out (by omega))) (fun hHeld=>?_);clear hK K;(try simp only[Act.put,lq1,lq2,lq3,lq4,lq5,lq6])
    refine wpAnyH_done (by kernel_rfl) ?_ _;go_wp2
    go_meet
    exact⟨k3,rfl,by omega,HE,Lib.hid (HF.out.blk HB8.out (by omega)),Lib.hid (HN8.out.next HF.out fun i hi=>.inr (by omega)),Lib.hid (HF.out.blk HR8.out (by omega))⟩
 case rest=>
  obtain⟨k,rfl,hk,HK,HB,HN,HR⟩:=hcut;obtain⟨q1,q2,q3,q4,q5⟩:=five_c HB.out;obtain⟨k1,k2,k3,k4,k5⟩:=five_c HK.out;obtain⟨_,_,_,_,g5⟩:=five_f HK.out;go_upto_region 3 with fail;have HE:=Lib.hid (box5_set4 HK.out (.bool (!yp)));have HF:=Lib.hid ((Fr.refl (fun i=>i=k) wc).setCell (a:=⟨k,4,none⟩) (.inl rfl) (.bool (!yp)));generalize wc.setCell ⟨k,4,none⟩ (.bool (!yp))=s3 at HE HF ⊢;clear q1 q2 q3 q4 q5 k1 k2 k3 k4 k5 g5;have HR3:=Lib.hid (HF.out.blk HR.out (by omega));obtain⟨k1,k2,k3,k4,k5⟩:=five_c HE.out
  obtain⟨q1,q2,q3,q4,q5⟩:=five_c HR3.out;obtain⟨g1,g2,g3,g4,g5⟩:=five_f HR3.out;have HE2:=Lib.hid (box5_set HR3.out (.int .i64 ya) (.int .i64 yb) (.int .i64 yc) (.int .i64 yd) (.bool (!yp)));have HF2:=Lib.hid (fr5' s3 (w.heap.size+1) (.int .i64 ya) (.int .i64 yb) (.int .i64 yc) (.int .i64 yd) (.bool (!yp)));go_wp2;obtain⟨p1,p2,p3,p4,p5⟩:=five_c HE2.out
  refine bodyPost_ret (v:=.agg #[.int .i64 ya,.int .i64 yb,.int .i64 yc,.int .i64 yd,.bool (!yp)]) (by simp[results,Tryz.results34,go_sem,p1,p2,p3,p4,p5]) rfl ⟨by rw[HM.out],(HN.out.next HF.out fun i hi=>.inr (by omega)).next HF2.out fun i hi=>.inr (by omega)⟩
end Go.Proofs.YtlicglicfijelaaGreat
