/- Walks: slide. -/
import Derived.Test.YtlicglicfijelaaGreatTK
import Derived.Test.YtlicglicfijelaaGreatN35z
namespace Go.Proofs.YtlicglicfijelaaGreat
open Go.RowKit

set_option maxRecDepth 100000 in
set_option maxHeartbeats 4000000 in
theorem slide_any(D b s:Nat)(fv v:Value)(bi bo:Nat)(X:List Kn.Cr)(L k a by_ u vv:Int)(ub vb ov:Bool)(w:World)(h:BW D w b s fv v bi bo X X L)(hr:Rows OwnD 0 118 w fv (Kn.facesL X))(hX:Kn.Ok X)(hl:X.length≤16):
 Calls Tryz.prog 53 #[.pointer (some ⟨b,0,none⟩),mvV k a by_ u vv ub vb ov] w (GaveP D b s fv (slideO X L a) w):=by
 have HX:=Lib.hid hX;have HFO:=Lib.hid (facesOk hX hl);obtain⟨fa,fc,rfl⟩:=hr.sl
 obtain⟨nf,HNF⟩:∃n,Hid (n=(Kn.facesL X).length):=⟨_,Lib.hid rfl⟩
 have hnf:nf≤64:=by rw[HNF.out];exact HFO.out.1
 rw[←HNF.out]at h hr ⊢
 obtain⟨c1,HC1⟩:∃r,Hid (decide (0≤a)=r):=⟨_,Lib.hid rfl⟩
 obtain⟨c2,HC2⟩:∃r,Hid (decide (a<(nf:Int))=r):=⟨_,Lib.hid rfl⟩
 obtain⟨w1,HW1⟩:∃w1,Hid (w1=w.alloc (.cells #[.int .i64 k,.int .i64 a,.int .i64 by_,.int .i64 u,.bool ub,.int .i64 vv,.bool vb,.bool ov] 28)):=⟨_,Lib.hid rfl⟩
 obtain⟨B2,HB2⟩:∃B,Hid (B=w.heap.size):=⟨_,Lib.hid rfl⟩
 have hn:New w w1:=by rw[HW1.out];exact(Fr.refl _ w).alloc _
 have HN:=Lib.hid hn
 have HZ:Hid (w1.heap[B2]?=some (.cells #[.int .i64 k,.int .i64 a,.int .i64 by_,.int .i64 u,.bool ub,.int .i64 vv,.bool vb,.bool ov] 28 (0,0))):=Lib.hid (by
  rw[HW1.out,HB2.out];exact heap_alloc_new _ _)
 have HB:=Lib.hid (h.new hn);have HRW:=Lib.hid hr
 have HSS:Hid (∀r,r=w1.drew→r.cell? ⟨b,1,none⟩=some (.slice fa nf fc)∧r.cell? ⟨B2,1,none⟩=some (.int .i64 a)):=Lib.hid fun r hr=>by
  subst hr;obtain⟨_,m1,_⟩:=eight_c (show w1.drew.heap[B2]?=_ from HZ.out)
  exact⟨(box2_c HB.out.blk).2.1,m1⟩
 have NO3:Hid ((c1&&c2)=false→∀r,r=w1.drew→GaveP D b s (.slice fa nf fc) (slideO X L a) w (.panicked (wrongP 3)) r):=Lib.hid fun h0 r hr=>by
  refine⟨by rw[hr];exact(HN.out.drew).mono fun _ h=>h.elim,?_⟩
  unfold slideO
  rw[HC1.out,←HNF.out,HC2.out,h0];rfl
 have hb1:decide (0≤a)=c1:=HC1.out;have hb2:decide (a<(nf:Int))=c2:=HC2.out;clear h hr hX hn
 go_enter Tryz.func53,Tryz.ntmps53
 go_wp2_with fail;rw[←HW1.out,←HB2.out]
 refine wp_region_held_drew (S:=fun wz=>wz.cell? ⟨b,1,none⟩=some (.slice fa nf fc)∧wz.cell? ⟨B2,1,none⟩=some (.int .i64 a)) (by kernel_rfl) (HSS.out _ rfl) (fun hHeld=>?_)
 obtain⟨r0,HE0⟩:∃r,Hid (r=w1.drew):=⟨_,Lib.hid rfl⟩
 rw[←HE0.out]at hHeld ⊢
 cases c1
 · skip
   refine' sq 0 (h:=sq 1 (h:=sq 2 (h:=sq 3 (h:=?_))))
   refine' skO (i:=4) ?_;(try simp only[Act.put,lq1,lq2,lq3,lq4,lq5,lq6]);refine' skO (i:=5) ?_;(try simp only[Act.put,lq1,lq2,lq3,lq4,lq5,lq6]);refine' skO (i:=6) ?_;(try simp only[Act.put,lq1,lq2,lq3,lq4,lq5,lq6]);refine' skO (i:=7) ?_;(try simp only[Act.put,lq1,lq2,lq3,lq4,lq5,lq6]);refine' skO (i:=8) ?_;(try simp only[Act.put,lq1,lq2,lq3,lq4,lq5,lq6]);refine' skO (i:=9) ?_;(try simp only[Act.put,lq1,lq2,lq3,lq4,lq5,lq6]);refine' skO (i:=10) ?_;(try simp only[Act.put,lq1,lq2,lq3,lq4,lq5,lq6])
   refine' skO (i:=11) ?_;(try simp only[Act.put,lq1,lq2,lq3,lq4,lq5,lq6])
   refine' sq 12 (h:=?_)
   refine rdO (i:=13) (fun K hK=>?_);(try simp only[lq1,lq2,lq3]);go_simp;refine(need_no 3 _).mono ?_;rintro e r9 ⟨rfl,rfl⟩;go_wp2
   exact⟨rfl,NO3.out (by rfl) _ HE0.out⟩
 · cases c2
   · skip
     refine' sq 0 (h:=sq 1 (h:=sq 2 (h:=sq 3 (h:=sq 4 (h:=sq 5 (h:=sq 6 (h:=sq 7 (h:=sq 8 (h:=sq 9 (h:=sq 10 (h:=sq 11 (h:=sq 12 (h:=?_)))))))))))))
     refine rdO (i:=13) (fun K hK=>?_);(try simp only[lq1,lq2,lq3]);go_simp;refine(need_no 3 _).mono ?_;rintro e r9 ⟨rfl,rfl⟩;go_wp2
     exact⟨rfl,NO3.out (by rfl) _ HE0.out⟩
   · skip
     refine' sq 0 (h:=sq 1 (h:=sq 2 (h:=sq 3 (h:=sq 4 (h:=sq 5 (h:=sq 6 (h:=sq 7 (h:=sq 8 (h:=sq 9 (h:=sq 10 (h:=sq 11 (h:=sq 12 (h:=?_)))))))))))))
     refine rdO (i:=13) (fun K hK=>?_);(try simp only[lq1,lq2,lq3]);go_simp;refine(need_yes 3 _).mono ?_;rintro e r9 ⟨rfl,hw⟩;rw[hw];clear hw r9;go_wp2_with fail;refine hK.out _ _ (HSS.out _ HE0.out) (fun hHeld=>?_);clear hK K;(try simp only[Act.put,lq1,lq2,lq3,lq4,lq5,lq6]);refine wpAnyH_done (by kernel_rfl) ?_ _;(try dsimp only);have h1:0≤a:=of_decide_eq_true HC1.out;have h2:a<(nf:Int):=of_decide_eq_true HC2.out
     obtain⟨an,rfl⟩:∃n:Nat,a=n:=⟨a.toNat,by omega⟩
     have han:an<(Kn.facesL X).length:=by rw[←HNF.out];omega
     have HN1:Hid (New w r0):=Lib.hid (by rw[HE0.out];exact HN.out.drew)
     have hN01:New w1 r0:=by rw[HE0.out];exact(Fr.refl _ _).drew
     have HB1:=Lib.hid (HB.out.new hN01);have HZ1:=Lib.hid (hN01.blk HZ.out fun x=>x);clear hHeld hN01 HE0 HN HB HZ HW1 HB2 hb1 hb2 NO3 HSS
     have hfp:0<nf:=by omega
     obtain⟨g,c',fs,he,hcell,hown⟩:=HRW.out.at han;rw[←HNF.out]at he
     cases he
     obtain⟨f,HF⟩:∃f,Hid (f=(Kn.facesL X)[an]):=⟨_,Lib.hid rfl⟩
     rw[←HF.out]at hown;have HFM:Hid (f∈Kn.facesL X):=Lib.hid (by rw[HF.out];exact List.getElem_mem han)
     have HFA:Hid (faceAt X (an:Nat)=f):=Lib.hid (by
      unfold faceAt
      rw[Int.toNat_natCast,List.getD_eq_getElem?_getD,List.getElem?_eq_getElem han,HF.out];rfl)
     have HU:Hid (slideO X L (an:Nat)=if Kn.slidesB X f then .ok (Kn.slideL X (f.map (·.1))) L else .no 8):=Lib.hid (by
      unfold slideO
      rw[HFA.out,if_pos]
      rw[HC1.out,←HNF.out,HC2.out];rfl)
     have HO:=Lib.hid hown;obtain⟨_,p1,_⟩:=box2_c HB1.out.blk;obtain⟨_,p2,_⟩:=eight_c HZ1.out
     have p3:=HN1.out.cell hcell fun x=>x
     obtain⟨sa,sc,rfl,hcs⟩:=hown.cells;have HCS:=Lib.hid hcs
     obtain⟨lf,HLF⟩:∃n,Hid (n=f.length):=⟨_,Lib.hid rfl⟩
     rw[←HLF.out]at p3 HO
     have i1:(0:Int)≤(an:Int):=by omega
     have i2:(an:Int)<(nf:Int):=h2;clear hown hcs hcell;go_wp2_with fail
     go_quiet (fail)
     obtain⟨w2,HW2⟩:∃w2,Hid (w2=r0.drewN nq):=⟨_,Lib.hid rfl⟩
     rw[←HW2.out]
     have hN12:New r0 w2:=by rw[HW2.out];exact(Fr.refl _ _).drewN _
     have HN2:=Lib.hid (HN1.out.trans hN12);have HB2:=Lib.hid (HB1.out.new hN12);clear hN12 HW2 HN1 HB1 HZ1 HCS p1 p2 p3 i1 i2
     obtain⟨q,HQ⟩:∃q,Hid (Kn.slidesB X f=q):=⟨_,Lib.hid rfl⟩
     have CS:=Lib.hid (slides_any b s (.slice (some ⟨g,0,none⟩) nf fc) (.slice sa lf sc) X L f w2 HB2.out.at HX.out hl (HN2.out.owns HO.out fun _ _ x=>x) (fun d hd=>HX.out.face_arc HFM.out hd));rw[HQ.out]at CS;go_wp2_with fail
     refine CS.out.mono ?_
     rintro e w3 ⟨rfl,hN⟩;have HN3:=Lib.hid (HN2.out.trans hN);have HB3:=Lib.hid (HB2.out.new hN);clear hN HN2 HB2 CS
     cases q
     · go_wp2_with fail
       refine(need_no 8 _).mono ?_;rintro e w4 ⟨rfl,rfl⟩;go_wp2
       refine⟨rfl,HN3.out.mono fun _ h=>h.elim,?_⟩
       rw[HU.out,HQ.out];rfl
     · go_wp2_with fail
       refine(need_yes 8 _).mono ?_;rintro e w4 ⟨rfl,hw⟩;rw[hw];clear hw w4
       have hf3:f.length=3:=by
        have h1:=HQ.out
        unfold Kn.slidesB at h1
        simp only[Bool.and_eq_true,decide_eq_true_eq]at h1
        exact h1.1.1.1
       obtain rfl:lf=3:=by rw[HLF.out];exact hf3
       have HF3:=Lib.hid hf3;clear hf3 HLF;obtain⟨DD,hT,hE,hM⟩:=Kn.slides_tri HX.out HFM.out HQ.out;have HT:=Lib.hid hT;have HE:=Lib.hid hE;clear hT hE hM
       have hpos:0<X.length:=by have h1:=HT.out.arc 0;have h2:=h1.1;have h3:=h1.2;unfold Kn.nArcs at h3;omega
       obtain⟨gv,cv,rfl,hDg⟩:=HB3.out.sl hpos
       obtain⟨n,HNX⟩:∃n,Hid (n=X.length):=⟨_,Lib.hid rfl⟩
       rw[←HNX.out]at HB3
       have hn16:n≤16:=by have:=HNX.out;omega
       have hmm:=@run_makeMap Tryz.prog;go_wp2_with fail
       obtain⟨mb,HMB⟩:∃mb,Hid (mb=w3.heap.size):=⟨_,Lib.hid rfl⟩
       obtain⟨w4,HW4⟩:∃w4,Hid (w4=w3.alloc (.map #[] 0)):=⟨_,Lib.hid rfl⟩
       have hN34:New w3 w4:=by rw[HW4.out];exact(Fr.refl _ w3).alloc _
       have HSV:Hid (SlV D w w4 b s (.slice (some ⟨g,0,none⟩) nf fc) (.slice (some ⟨gv,0,none⟩) n cv) bi bo X L mb 0 (nowF X [])):=Lib.hid ⟨HB3.out.new hN34,by rw[HW4.out,HMB.out];exact NowMap.made w3,HN3.out.trans hN34,by rw[HMB.out];exact HN3.out.size⟩;rw[←HW4.out,←HMB.out];clear hN34 HW4 HMB HN3 HB3 hmm
       obtain⟨mm,HMM⟩:∃z,Hid (z=mArcs X):=⟨_,Lib.hid rfl⟩
       go_loopw [45] (fun i wr=>∃k:Nat,k≤3∧i=.int .i64 k∧Hid (SlV D w wr b s (.slice (some ⟨g,0,none⟩) nf fc) (.slice (some ⟨gv,0,none⟩) n cv) bi bo X L mb (k*4) (nowF X ((f.take k).map (·.1))))) (fun i _=>3-(intOf i).toNat)
       case atStart=>exact⟨0,by omega,rfl,HSV⟩
       case round=>
        obtain⟨k,hk,rfl,HSV⟩:=hrel
        by_cases hlt:k<3
        · have hkl:k<f.length:=by rw[HF3.out];exact hlt
          have hOr:OwnD wr (.slice sa 3 sc) f:=HSV.out.new.owns HO.out fun _ _ x=>x
          obtain⟨sa',sc',he,hcs⟩:=hOr.cells;rw[HF3.out]at he
          cases he
          clear hOr;obtain⟨gf,rfl,hcell⟩:=hcs.resolve_left (fun e=>by rw[e]at hkl;simp at hkl);obtain⟨d1,d2⟩:=hcell k hkl
          obtain⟨en,HEN⟩:∃x,Hid (x=(f[k]).1):=⟨_,Lib.hid rfl⟩
          obtain⟨eb,HEB⟩:∃x,Hid (x=(f[k]).2):=⟨_,Lib.hid rfl⟩
          rw[←HEN.out]at d1;rw[←HEB.out]at d2;have HEA:Hid (Kn.isArc X en):=Lib.hid (by rw[HEN.out];exact HX.out.face_arc HFM.out (List.getElem_mem hkl))
          have HNF1:Hid (nowF X ((f.take (k+1)).map (·.1))=nowS X (nowF X ((f.take k).map (·.1))) en):=Lib.hid (by
           rw[List.take_succ_eq_append_getElem hkl,List.map_append,List.map_singleton,nowF_snoc,←HEN.out])
          have j1:(0:Int)≤(k:Int):=by omega
          have j2:(k:Int)<3:=by omega
          clear hcs hcell;go_upto_region 10 with fail;clear d1 d2 j1 j2
          obtain⟨w5,HW5⟩:∃w5,Hid (w5=wr.alloc (.cells #[.int .i64 (en:Nat),.bool eb] 26)):=⟨_,Lib.hid rfl⟩
          obtain⟨B8,HB8⟩:∃B,Hid (B=wr.heap.size):=⟨_,Lib.hid rfl⟩
          have hN5:New wr w5:=by rw[HW5.out];exact(Fr.refl _ wr).alloc _
          have HSV5:=Lib.hid (HSV.out.nw hN5);rw[←HW5.out,←HB8.out];clear hN5 HW5 HB8 HSV
          obtain⟨⟨fc1,fs1⟩,HPF⟩:∃p,Hid (Kn.outP X en=p):=⟨_,Lib.hid rfl⟩
          obtain⟨⟨tc1,ts1⟩,HPT⟩:∃p,Hid (Kn.inP X en=p):=⟨_,Lib.hid rfl⟩
          have hpf:Kn.isPl X (fc1,fs1):=by have:=HX.out.isPl_end (io:=false) HEA.out;rw[←HPF.out];exact this
          have hpt:Kn.isPl X (tc1,ts1):=by have:=HX.out.isPl_end (io:=true) HEA.out;rw[←HPT.out];exact this
          have hfc:fc1<n:=by have:=hpf.1;rw[←HNX.out]at this;exact this
          have hfs:fs1<4:=hpf.2
          have htc:tc1<n:=by have:=hpt.1;rw[←HNX.out]at this;exact this
          have hts:ts1<4:=hpt.2;have HPLF:=Lib.hid hpf;have HPLT:=Lib.hid hpt;clear hpf hpt
          have hem:en<mm:=by have:=HEA.out.2;have:=HMM.out;unfold Kn.nArcs at *;unfold mArcs at this;omega
          have hen32:en≤32:=by have:=HEA.out.2;unfold Kn.nArcs at this;omega
          have i1:(0:Int)≤(en:Int):=by omega
          have i2:(en:Int)<(mm:Int):=by omega
          obtain⟨wq,rfl⟩:∃wq,wq=w5:=⟨_,rfl⟩
          have HSF:Hid (wq.cell? ⟨b,0,none⟩=some (.pointer (some ⟨s,0,none⟩))∧wq.cell? ⟨s,2,none⟩=some (.slice (some ⟨bi,0,none⟩) mm mm)∧wq.cell? ⟨s,3,none⟩=some (.slice (some ⟨bo,0,none⟩) mm mm) ∧
           wq.cell? ⟨bi,en*2,none⟩=some (.int .i64 (tc1:Nat))∧wq.cell? ⟨bi,en*2+1,none⟩=some (.int .i64 (ts1:Nat))∧wq.cell? ⟨bo,en*2,none⟩=some (.int .i64 (fc1:Nat))∧wq.cell? ⟨bo,en*2+1,none⟩=some (.int .i64 (fs1:Nat))):=Lib.hid (by
           obtain⟨k0,_,_,k2,k3⟩:=HSV5.out.bw.box;rw[←HMM.out]at k2 k3;have h1:=HSV5.out.bw.ri.cell (i:=en*2) (by rw[←HMM.out];omega);have h2:=HSV5.out.bw.ri.cell (i:=en*2+1) (by rw[←HMM.out];omega);have h3:=HSV5.out.bw.ro.cell (i:=en*2) (by rw[←HMM.out];omega);have h4:=HSV5.out.bw.ro.cell (i:=en*2+1) (by rw[←HMM.out];omega);rw[plFn_0,HPT.out]at h1;rw[plFn_1,HPT.out]at h2;rw[plFn_0,HPF.out]at h3;rw[plFn_1,HPF.out]at h4
           exact⟨k0,k2,k3,h1,h2,h3,h4⟩)
          go_cut [10,11] (fun s10 s11 wx=>Hid (CutFT wq fc1 fs1 tc1 ts1 s10 s11 wx))
          case first=>
           have HSI:Hid (∀r,New wq r→r.cell? ⟨b,0,none⟩=some (.pointer (some ⟨s,0,none⟩))∧r.cell? ⟨s,2,none⟩=some (.slice (some ⟨bi,0,none⟩) mm mm)∧r.cell? ⟨s,3,none⟩=some (.slice (some ⟨bo,0,none⟩) mm mm) ∧
            r.cell? ⟨bi,en*2,none⟩=some (.int .i64 (tc1:Nat))∧r.cell? ⟨bi,en*2+1,none⟩=some (.int .i64 (ts1:Nat))∧r.cell? ⟨bo,en*2,none⟩=some (.int .i64 (fc1:Nat))∧r.cell? ⟨bo,en*2+1,none⟩=some (.int .i64 (fs1:Nat))):=Lib.hid fun r hr=>by
            obtain⟨k0,k1,k2,k3,k4,k5,k6⟩:=HSF.out
            exact⟨hr.cell k0 fun x=>x,hr.cell k1 fun x=>x,hr.cell k2 fun x=>x,hr.cell k3 fun x=>x,hr.cell k4 fun x=>x,hr.cell k5 fun x=>x,hr.cell k6 fun x=>x⟩
           have HN0:Hid (New wq wq.drew):=Lib.hid (Fr.refl _ wq).drew;have hS0:=HSI.out _ HN0.out
           refine wp_region_held_drew (S:=fun r=>r.cell? ⟨b,0,none⟩=some (.pointer (some ⟨s,0,none⟩))∧r.cell? ⟨s,2,none⟩=some (.slice (some ⟨bi,0,none⟩) mm mm)∧r.cell? ⟨s,3,none⟩=some (.slice (some ⟨bo,0,none⟩) mm mm) ∧
            r.cell? ⟨bi,en*2,none⟩=some (.int .i64 (tc1:Nat))∧r.cell? ⟨bi,en*2+1,none⟩=some (.int .i64 (ts1:Nat))∧r.cell? ⟨bo,en*2,none⟩=some (.int .i64 (fc1:Nat))∧r.cell? ⟨bo,en*2+1,none⟩=some (.int .i64 (fs1:Nat))) (by kernel_rfl) hS0 (fun hHeld=>?_)
           clear hS0;generalize wq.drew=r0 at hHeld HN0 ⊢
           refine' sq 0 (h:=sq 1 (h:=sq 2 (h:=sq 3 (h:=sq 4 (h:=sq 5 (h:=sq 6 (h:=sq 7 (h:=sq 8 (h:=sq 9 (h:=sq 10 (h:=sq 11 (h:=sq 12 (h:=sq 13 (h:=sq 14 (h:=sq 15 (h:=sq 16 (h:=sq 17 (h:=sq 18 (h:=sq 19 (h:=?_))))))))))))))))))))
           refine wpAnyH_ready (rs:=[20,21]) (by kernel_rfl) (by simp) ?_
           refine AllReadyH.cons rfl (fun K hK=>?_) (AllReadyH.cons rfl (fun K hK=>?_) AllReadyH.nil)
           · skip
             (try simp only[lq1,lq2,lq3]);go_simp;have hN:New r0 (r0.alloc (.cells #[.int .i64 0,.int .i64 0] 104)):=(Fr.refl _ r0).alloc _;have hA:=heap_alloc_new r0 (.cells #[.int .i64 0,.int .i64 0] 104)
             obtain⟨B10,HB10⟩:∃B,Hid (B=r0.heap.size):=⟨_,Lib.hid rfl⟩
             rw[←HB10.out]at hA ⊢;generalize r0.alloc (.cells #[.int .i64 0,.int .i64 0] 104)=r1 at hN hA ⊢;have HN1:=Lib.hid (HN0.out.trans hN);have HA101:=Lib.hid hA;have HGE10:Hid (wq.heap.size≤B10):=Lib.hid (by have h1:=HN0.out.size;have h2:=HB10.out;omega);clear hN hA HB10;refine hK.out _ _ (HSI.out _ HN1.out) (fun hHeld=>?_);clear hK K;(try simp only[Act.put,lq1,lq2,lq3,lq4,lq5,lq6]);refine rdO (i:=21) (fun K hK=>?_);(try simp only[lq1,lq2,lq3]);go_simp
             have hN:New r1 (r1.alloc (.cells #[.int .i64 0,.int .i64 0] 104)):=(Fr.refl _ r1).alloc _;have hA:=heap_alloc_new r1 (.cells #[.int .i64 0,.int .i64 0] 104)
             obtain⟨B11,HB11⟩:∃B,Hid (B=r1.heap.size):=⟨_,Lib.hid rfl⟩
             rw[←HB11.out]at hA ⊢
             have HNE:Hid (¬B11=B10):=Lib.hid fun e=>by
              have h1:=(Array.getElem?_eq_some_iff.1 HA101.out).1;have h2:=HB11.out
              omega
             generalize r1.alloc (.cells #[.int .i64 0,.int .i64 0] 104)=r2 at hN hA ⊢;have HN2:=Lib.hid (HN1.out.trans hN);have HA102:=Lib.hid (hN.blk HA101.out fun x=>x);have HA112:=Lib.hid hA;have HGE11:Hid (wq.heap.size≤B11):=Lib.hid (by have h1:=HN1.out.size;have h2:=HB11.out;omega);clear hN hA HB11;refine hK.out _ _ (HSI.out _ HN2.out) (fun hHeld=>?_);clear hK K;(try simp only[Act.put,lq1,lq2,lq3,lq4,lq5,lq6]);refine rdO (i:=22) (fun K hK=>?_);(try simp only[lq1,lq2,lq3]);obtain⟨x1,x2,x3,x4⟩:=box2_c HA102.out
             have hs6:=(box2_set (box2_set HA102.out (.int .i64 (fc1:Nat))).1 (.int .i64 (fs1:Nat))).2;have hF6:Fr (fun k=>k=B10) r2 ((r2.setCell ⟨B10,0,none⟩ (.int .i64 (fc1:Nat))).setCell ⟨B10,1,none⟩ (.int .i64 (fs1:Nat))):=((Fr.refl (fun k=>k=B10) r2).setCell (a:=⟨B10,0,none⟩) (.inl rfl) _).setCell (a:=⟨B10,1,none⟩) (.inl rfl) _;obtain⟨_,y2,_,y4⟩:=box2_c (box2_set HA102.out (.int .i64 (fc1:Nat))).1;go_simp;clear x1 x2 x3 x4 y2 y4;have hA7:=hF6.blk HA112.out HNE.out
             have HN3:Hid (New wq _):=Lib.hid (HN2.out.next hF6 fun i hi=>.inr (by rw[hi];exact HGE10.out));have HL6:=Lib.hid hF6;have HS6:=Lib.hid hs6;generalize ((r2.setCell ⟨B10,0,none⟩ (.int .i64 (fc1:Nat))).setCell ⟨B10,1,none⟩ (.int .i64 (fs1:Nat)))=r3 at HN3 HL6 HS6 hA7 ⊢;have HA113:=Lib.hid hA7;clear hs6 hF6 hA7;refine hK.out _ _ (HSI.out _ HN3.out) (fun hHeld=>?_);clear hK K;(try simp only[Act.put,lq1,lq2,lq3,lq4,lq5,lq6]);refine rdO (i:=23) (fun K hK=>?_);(try simp only[lq1,lq2,lq3]);obtain⟨x1,x2,x3,x4⟩:=box2_c HA113.out
             have hs7:=(box2_set (box2_set HA113.out (.int .i64 (tc1:Nat))).1 (.int .i64 (ts1:Nat))).2;have hF7:Fr (fun k=>k=B11) r3 ((r3.setCell ⟨B11,0,none⟩ (.int .i64 (tc1:Nat))).setCell ⟨B11,1,none⟩ (.int .i64 (ts1:Nat))):=((Fr.refl (fun k=>k=B11) r3).setCell (a:=⟨B11,0,none⟩) (.inl rfl) _).setCell (a:=⟨B11,1,none⟩) (.inl rfl) _;obtain⟨_,y2,_,y4⟩:=box2_c (box2_set HA113.out (.int .i64 (tc1:Nat))).1;go_simp;clear x1 x2 x3 x4 y2 y4;have hS6:=hF7.blk HS6.out (fun e=>(HNE.out) e.symm)
             have HN4:Hid (New wq _):=Lib.hid (HN3.out.next hF7 fun i hi=>.inr (by rw[hi];exact HGE11.out));have HL7:=Lib.hid hF7;have HS7:=Lib.hid hs7;generalize ((r3.setCell ⟨B11,0,none⟩ (.int .i64 (tc1:Nat))).setCell ⟨B11,1,none⟩ (.int .i64 (ts1:Nat)))=r4 at HN4 HL7 HS7 hS6 ⊢;have HS66:=Lib.hid hS6;clear hs7 hF7 hS6;refine hK.out _ _ (HSI.out _ HN4.out) (fun hHeld=>?_);clear hK K;(try simp only[Act.put,lq1,lq2,lq3,lq4,lq5,lq6]);refine wpAnyH_done (by kernel_rfl) ?_ _;(try dsimp only);go_wp2_with fail
             go_meet
             exact Lib.hid ⟨B10,B11,rfl,rfl,HN4.out,HS66.out,HS7.out⟩
           · skip
             (try simp only[lq1,lq2,lq3]);go_simp;have hN:New r0 (r0.alloc (.cells #[.int .i64 0,.int .i64 0] 104)):=(Fr.refl _ r0).alloc _;have hA:=heap_alloc_new r0 (.cells #[.int .i64 0,.int .i64 0] 104)
             obtain⟨B11,HB11⟩:∃B,Hid (B=r0.heap.size):=⟨_,Lib.hid rfl⟩
             rw[←HB11.out]at hA ⊢;generalize r0.alloc (.cells #[.int .i64 0,.int .i64 0] 104)=r1 at hN hA ⊢;have HN1:=Lib.hid (HN0.out.trans hN);have HA111:=Lib.hid hA;have HGE11:Hid (wq.heap.size≤B11):=Lib.hid (by have h1:=HN0.out.size;have h2:=HB11.out;omega);clear hN hA HB11;refine hK.out _ _ (HSI.out _ HN1.out) (fun hHeld=>?_);clear hK K;(try simp only[Act.put,lq1,lq2,lq3,lq4,lq5,lq6]);refine rdO (i:=20) (fun K hK=>?_);(try simp only[lq1,lq2,lq3]);go_simp
             have hN:New r1 (r1.alloc (.cells #[.int .i64 0,.int .i64 0] 104)):=(Fr.refl _ r1).alloc _;have hA:=heap_alloc_new r1 (.cells #[.int .i64 0,.int .i64 0] 104)
             obtain⟨B10,HB10⟩:∃B,Hid (B=r1.heap.size):=⟨_,Lib.hid rfl⟩
             rw[←HB10.out]at hA ⊢
             have HNE:Hid (¬B10=B11):=Lib.hid fun e=>by
              have h1:=(Array.getElem?_eq_some_iff.1 HA111.out).1;have h2:=HB10.out
              omega
             generalize r1.alloc (.cells #[.int .i64 0,.int .i64 0] 104)=r2 at hN hA ⊢;have HN2:=Lib.hid (HN1.out.trans hN);have HA112:=Lib.hid (hN.blk HA111.out fun x=>x);have HA102:=Lib.hid hA;have HGE10:Hid (wq.heap.size≤B10):=Lib.hid (by have h1:=HN1.out.size;have h2:=HB10.out;omega);clear hN hA HB10;refine hK.out _ _ (HSI.out _ HN2.out) (fun hHeld=>?_);clear hK K;(try simp only[Act.put,lq1,lq2,lq3,lq4,lq5,lq6]);refine rdO (i:=22) (fun K hK=>?_);(try simp only[lq1,lq2,lq3]);obtain⟨x1,x2,x3,x4⟩:=box2_c HA102.out
             have hs6:=(box2_set (box2_set HA102.out (.int .i64 (fc1:Nat))).1 (.int .i64 (fs1:Nat))).2;have hF6:Fr (fun k=>k=B10) r2 ((r2.setCell ⟨B10,0,none⟩ (.int .i64 (fc1:Nat))).setCell ⟨B10,1,none⟩ (.int .i64 (fs1:Nat))):=((Fr.refl (fun k=>k=B10) r2).setCell (a:=⟨B10,0,none⟩) (.inl rfl) _).setCell (a:=⟨B10,1,none⟩) (.inl rfl) _;obtain⟨_,y2,_,y4⟩:=box2_c (box2_set HA102.out (.int .i64 (fc1:Nat))).1;go_simp;clear x1 x2 x3 x4 y2 y4;have hA7:=hF6.blk HA112.out (fun e=>HNE.out e.symm)
             have HN3:Hid (New wq _):=Lib.hid (HN2.out.next hF6 fun i hi=>.inr (by rw[hi];exact HGE10.out));have HL6:=Lib.hid hF6;have HS6:=Lib.hid hs6;generalize ((r2.setCell ⟨B10,0,none⟩ (.int .i64 (fc1:Nat))).setCell ⟨B10,1,none⟩ (.int .i64 (fs1:Nat)))=r3 at HN3 HL6 HS6 hA7 ⊢;have HA113:=Lib.hid hA7;clear hs6 hF6 hA7;refine hK.out _ _ (HSI.out _ HN3.out) (fun hHeld=>?_);clear hK K;(try simp only[Act.put,lq1,lq2,lq3,lq4,lq5,lq6]);refine rdO (i:=23) (fun K hK=>?_);(try simp only[lq1,lq2,lq3]);obtain⟨x1,x2,x3,x4⟩:=box2_c HA113.out
             have hs7:=(box2_set (box2_set HA113.out (.int .i64 (tc1:Nat))).1 (.int .i64 (ts1:Nat))).2;have hF7:Fr (fun k=>k=B11) r3 ((r3.setCell ⟨B11,0,none⟩ (.int .i64 (tc1:Nat))).setCell ⟨B11,1,none⟩ (.int .i64 (ts1:Nat))):=((Fr.refl (fun k=>k=B11) r3).setCell (a:=⟨B11,0,none⟩) (.inl rfl) _).setCell (a:=⟨B11,1,none⟩) (.inl rfl) _;obtain⟨_,y2,_,y4⟩:=box2_c (box2_set HA113.out (.int .i64 (tc1:Nat))).1;go_simp;clear x1 x2 x3 x4 y2 y4;have hS6:=hF7.blk HS6.out (fun e=>((fun e=>HNE.out e.symm)) e.symm)
             have HN4:Hid (New wq _):=Lib.hid (HN3.out.next hF7 fun i hi=>.inr (by rw[hi];exact HGE11.out));have HL7:=Lib.hid hF7;have HS7:=Lib.hid hs7;generalize ((r3.setCell ⟨B11,0,none⟩ (.int .i64 (tc1:Nat))).setCell ⟨B11,1,none⟩ (.int .i64 (ts1:Nat)))=r4 at HN4 HL7 HS7 hS6 ⊢;have HS66:=Lib.hid hS6;clear hs7 hF7 hS6;refine hK.out _ _ (HSI.out _ HN4.out) (fun hHeld=>?_);clear hK K;(try simp only[Act.put,lq1,lq2,lq3,lq4,lq5,lq6]);refine wpAnyH_done (by kernel_rfl) ?_ _;(try dsimp only);go_wp2_with fail
             go_meet
             exact Lib.hid ⟨B10,B11,rfl,rfl,HN4.out,HS66.out,HS7.out⟩
          case rest=>
          obtain⟨B10,B11,rfl,rfl,hN,hb10,hb11⟩:=Hid.out hcut
          obtain⟨w6,rfl⟩:∃w6,w6=wc:=⟨_,rfl⟩
          have HR6:Hid (SlR D w w6 b s (.slice (some ⟨g,0,none⟩) nf fc) (.slice (some ⟨gv,0,none⟩) n cv) bi bo X L mb (k*4) (nowF X ((f.take k).map (·.1))) B10 B11 fc1 fs1 tc1 ts1):=Lib.hid ⟨HSV5.out.nw hN,hb10,hb11⟩;clear hcut hN hb10 hb11 HSV5 HSF i1 i2
          obtain⟨F,HFF⟩:∃F,Hid (F=nowF X ((f.take k).map (·.1))):=⟨_,Lib.hid rfl⟩
          rw[←HFF.out]at HR6
          obtain⟨xs1,HXS1⟩:∃z,Hid (z=(fs1+2)%4):=⟨_,Lib.hid rfl⟩
          obtain⟨xs2,HXS2⟩:∃z,Hid (z=(ts1+2)%4):=⟨_,Lib.hid rfl⟩
          have hx1:xs1<4:=by have:=HXS1.out;omega
          have hx2:xs2<4:=by have:=HXS2.out;omega
          obtain⟨ai,HAI⟩:∃z,Hid (z=Kn.arcN X (fc1,xs1)):=⟨_,Lib.hid rfl⟩
          obtain⟨oi,HOI⟩:∃z,Hid (z=Kn.arcN X (tc1,xs2)):=⟨_,Lib.hid rfl⟩
          have hai:ai≤32:=by
           have h1:=(HX.out.isArc (p:=(fc1,xs1)) ⟨by have:=HNX.out;show fc1<_;omega,hx1⟩).2
           rw[←HAI.out]at h1;unfold Kn.nArcs at h1;omega
          have hoi:oi≤32:=by
           have h1:=(HX.out.isArc (p:=(tc1,xs2)) ⟨by have:=HNX.out;show tc1<_;omega,hx2⟩).2
           rw[←HOI.out]at h1;unfold Kn.nArcs at h1;omega
          have CX1:Hid (∀r,Calls Tryz.prog 90 #[.agg #[.int .i64 (fc1:Nat),.int .i64 (fs1:Nat)]] r fun e w'=>e=.returned (.agg #[.int .i64 (fc1:Nat),.int .i64 (xs1:Nat)])∧New r w'):=Lib.hid fun r=>by
           rw[HXS1.out];exact across_any fc1 fs1 r hfs
          have CX2:Hid (∀r,Calls Tryz.prog 90 #[.agg #[.int .i64 (tc1:Nat),.int .i64 (ts1:Nat)]] r fun e w'=>e=.returned (.agg #[.int .i64 (tc1:Nat),.int .i64 (xs2:Nat)])∧New r w'):=Lib.hid fun r=>by
           rw[HXS2.out];exact across_any tc1 ts1 r hts
          have CA1:Hid (∀r,SlR D w r b s (.slice (some ⟨g,0,none⟩) nf fc) (.slice (some ⟨gv,0,none⟩) n cv) bi bo X L mb (k*4) F B10 B11 fc1 fs1 tc1 ts1→Calls Tryz.prog 91 #[.pointer (some ⟨s,0,none⟩),.agg #[.int .i64 (fc1:Nat),.int .i64 (xs1:Nat)]] r fun e w'=>e=.returned (.int .i64 (ai:Nat))∧New r w'):=Lib.hid fun r hr=>by
           rw[HAI.out];exact at_any s fc1 xs1 X L r (by have h1:=hr.sv.bw;rw[HNX.out]at h1;exact h1.at.sh) HX.out hl (by have:=HNX.out;omega) hx1
          have CA2:Hid (∀r,SlR D w r b s (.slice (some ⟨g,0,none⟩) nf fc) (.slice (some ⟨gv,0,none⟩) n cv) bi bo X L mb (k*4) F B10 B11 fc1 fs1 tc1 ts1→Calls Tryz.prog 91 #[.pointer (some ⟨s,0,none⟩),.agg #[.int .i64 (tc1:Nat),.int .i64 (xs2:Nat)]] r fun e w'=>e=.returned (.int .i64 (oi:Nat))∧New r w'):=Lib.hid fun r hr=>by
           rw[HOI.out];exact at_any s tc1 xs2 X L r (by have h1:=hr.sv.bw;rw[HNX.out]at h1;exact h1.at.sh) HX.out hl (by have:=HNX.out;omega) hx2
          go_wp2_with fail;have HV0:=Lib.hid (HR6.out.new (Fr.refl _ w6).drew);have hS0:=HV0.out.sls
          refine wp_region_held_drew (S:=fun r=>SlS r b s B10 B11 fc1 fs1 tc1 ts1) (by kernel_rfl) hS0 (fun hHeld=>?_)
          clear hS0 HR6;generalize w6.drew=r0 at hHeld HV0 ⊢;refine' tkO (i:=0) ?_ (hy:=by (intro w' hSw;unfold SlS at hSw;(try dsimp only at hSw);go_simp<;>with_reducible rfl));(try simp only[Act.put,lq1,lq2,lq3,lq4,lq5,lq6]);refine' tkO (i:=1) ?_ (hy:=by (intro w' hSw;unfold SlS at hSw;(try dsimp only at hSw);go_simp<;>with_reducible rfl));(try simp only[Act.put,lq1,lq2,lq3,lq4,lq5,lq6]);refine' tkO (i:=2) ?_ (hy:=by (intro w' hSw;unfold SlS at hSw;(try dsimp only at hSw);go_simp<;>with_reducible rfl))
          (try simp only[Act.put,lq1,lq2,lq3,lq4,lq5,lq6]);refine' tkO (i:=3) ?_ (hy:=by (intro w' hSw;unfold SlS at hSw;(try dsimp only at hSw);go_simp<;>with_reducible rfl));(try simp only[Act.put,lq1,lq2,lq3,lq4,lq5,lq6]);refine' tkO (i:=4) ?_ (hy:=by (intro w' hSw;unfold SlS at hSw;(try dsimp only at hSw);go_simp<;>with_reducible rfl));(try simp only[Act.put,lq1,lq2,lq3,lq4,lq5,lq6]);refine' tkO (i:=5) ?_ (hy:=by (intro w' hSw;unfold SlS at hSw;(try dsimp only at hSw);go_simp<;>with_reducible rfl))
          (try simp only[Act.put,lq1,lq2,lq3,lq4,lq5,lq6]);refine' tkO (i:=8) ?_ (hy:=by (intro w' hSw;unfold SlS at hSw;(try dsimp only at hSw);go_simp<;>with_reducible rfl));(try simp only[Act.put,lq1,lq2,lq3,lq4,lq5,lq6]);refine' tkO (i:=9) ?_ (hy:=by (intro w' hSw;unfold SlS at hSw;(try dsimp only at hSw);go_simp<;>with_reducible rfl));(try simp only[Act.put,lq1,lq2,lq3,lq4,lq5,lq6]);refine' tkO (i:=10) ?_ (hy:=by (intro w' hSw;unfold SlS at hSw;(try dsimp only at hSw);go_simp<;>with_reducible rfl))
          (try simp only[Act.put,lq1,lq2,lq3,lq4,lq5,lq6]);refine' tkO (i:=11) ?_ (hy:=by (intro w' hSw;unfold SlS at hSw;(try dsimp only at hSw);go_simp<;>with_reducible rfl));(try simp only[Act.put,lq1,lq2,lq3,lq4,lq5,lq6]);refine' tkO (i:=12) ?_ (hy:=by (intro w' hSw;unfold SlS at hSw;(try dsimp only at hSw);go_simp<;>with_reducible rfl));(try simp only[Act.put,lq1,lq2,lq3,lq4,lq5,lq6]);refine' tkO (i:=13) ?_ (hy:=by (intro w' hSw;unfold SlS at hSw;(try dsimp only at hSw);go_simp<;>with_reducible rfl))
          (try simp only[Act.put,lq1,lq2,lq3,lq4,lq5,lq6]);refine rdO (i:=6) (fun K hK=>?_);(try simp only[lq1,lq2,lq3]);go_simp;refine(CX1.out _).mono ?_;rintro e r1 ⟨rfl,hN⟩;have HV1:=Lib.hid (HV0.out.new hN);clear hN;go_wp2_with fail;refine hK.out _ _ (HV1.out.sls) (fun hHeld=>?_);clear hK K;(try simp only[Act.put,lq1,lq2,lq3,lq4,lq5,lq6]);refine rdO (i:=7) (fun K hK=>?_);(try simp only[lq1,lq2,lq3]);go_simp;refine(CA1.out _ HV1.out).mono ?_;rintro e r2 ⟨rfl,hN⟩;have HV2:=Lib.hid (HV1.out.new hN);clear hN;go_wp2_with fail
          refine hK.out _ _ (HV2.out.sls) (fun hHeld=>?_);clear hK K;(try simp only[Act.put,lq1,lq2,lq3,lq4,lq5,lq6]);refine rdO (i:=14) (fun K hK=>?_);(try simp only[lq1,lq2,lq3]);go_simp;refine(CX2.out _).mono ?_;rintro e r3 ⟨rfl,hN⟩;have HV3:=Lib.hid (HV2.out.new hN);clear hN;go_wp2_with fail;refine hK.out _ _ (HV3.out.sls) (fun hHeld=>?_);clear hK K;(try simp only[Act.put,lq1,lq2,lq3,lq4,lq5,lq6]);refine rdO (i:=15) (fun K hK=>?_);(try simp only[lq1,lq2,lq3]);go_simp;refine(CA2.out _ HV3.out).mono ?_;rintro e r4 ⟨rfl,hN⟩
          have HV4:=Lib.hid (HV3.out.new hN);clear hN;go_wp2_with fail;refine hK.out _ _ (HV4.out.sls) (fun hHeld=>?_);clear hK K;(try simp only[Act.put,lq1,lq2,lq3,lq4,lq5,lq6]);refine' tkO (i:=16) ?_ (hy:=by (intro w' hSw;unfold SlS at hSw;(try dsimp only at hSw);go_simp<;>with_reducible rfl));(try simp only[Act.put,lq1,lq2,lq3,lq4,lq5,lq6]);refine' tkO (i:=17) ?_ (hy:=by (intro w' hSw;unfold SlS at hSw;(try dsimp only at hSw);go_simp<;>with_reducible rfl));(try simp only[Act.put,lq1,lq2,lq3,lq4,lq5,lq6])
          refine wpAnyH_done (by kernel_rfl) ?_ _;(try dsimp only)
          obtain⟨kl1,KP1⟩:∃l,Hid (keyOf Tryz.prog 104 (plV (fc1,fs1))=some l):=by
           obtain⟨l,hl⟩:=plKey (fc1,fs1) (by show fc1<16;have:=HNX.out;have:=HPLF.out.1;omega) hfs
           exact⟨l,Lib.hid hl⟩
          obtain⟨kl2,KP2⟩:∃l,Hid (keyOf Tryz.prog 104 (plV (tc1,ts1))=some l):=by
           obtain⟨l,hl⟩:=plKey (tc1,ts1) (by show tc1<16;have:=HNX.out;have:=HPLT.out.1;omega) hts
           exact⟨l,Lib.hid hl⟩
          obtain⟨kl3,KX2⟩:∃l,Hid (keyOf Tryz.prog 104 (plV (tc1,xs2))=some l):=by
           obtain⟨l,hl⟩:=plKey (tc1,xs2) (by show tc1<16;have:=HNX.out;have:=HPLT.out.1;omega) hx2
           exact⟨l,Lib.hid hl⟩
          have hfc16:fc1<16:=by have:=HPLF.out.1;omega
          obtain⟨w7,rfl⟩:∃w7,w7=r4:=⟨_,rfl⟩
          have HR7:=HV4;clear HV0 HV1 HV2 HV3 HV4 CA1 CA2 hHeld;go_wp2_with fail;have HV0:=Lib.hid (HR7.out.new (Fr.refl _ w7).drew);have hS0:=HV0.out.sls
          refine wp_region_held_drew (S:=fun r=>SlS r b s B10 B11 fc1 fs1 tc1 ts1) (by kernel_rfl) hS0 (fun hHeld=>?_)
          clear hS0 HR7;generalize w7.drew=r0 at hHeld HV0 ⊢;refine' tkO (i:=0) ?_ (hy:=by (intro w' hSw;unfold SlS at hSw;(try dsimp only at hSw);go_simp<;>with_reducible rfl));(try simp only[Act.put,lq1,lq2,lq3,lq4,lq5,lq6]);refine' tkO (i:=1) ?_ (hy:=by (intro w' hSw;unfold SlS at hSw;(try dsimp only at hSw);go_simp<;>with_reducible rfl));(try simp only[Act.put,lq1,lq2,lq3,lq4,lq5,lq6]);refine' tkO (i:=2) ?_ (hy:=by (intro w' hSw;unfold SlS at hSw;(try dsimp only at hSw);go_simp<;>with_reducible rfl))
          (try simp only[Act.put,lq1,lq2,lq3,lq4,lq5,lq6]);refine' tkO (i:=3) ?_ (hy:=by (intro w' hSw;unfold SlS at hSw;(try dsimp only at hSw);go_simp<;>with_reducible rfl));(try simp only[Act.put,lq1,lq2,lq3,lq4,lq5,lq6]);refine' tkO (i:=4) ?_ (hy:=by (intro w' hSw;unfold SlS at hSw;(try dsimp only at hSw);go_simp<;>with_reducible rfl));(try simp only[Act.put,lq1,lq2,lq3,lq4,lq5,lq6]);refine' tkO (i:=6) ?_ (hy:=by (intro w' hSw;unfold SlS at hSw;(try dsimp only at hSw);go_simp<;>with_reducible rfl))
          (try simp only[Act.put,lq1,lq2,lq3,lq4,lq5,lq6]);refine' tkO (i:=7) ?_ (hy:=by (intro w' hSw;unfold SlS at hSw;(try dsimp only at hSw);go_simp<;>with_reducible rfl));(try simp only[Act.put,lq1,lq2,lq3,lq4,lq5,lq6]);refine rdO (i:=5) (fun K hK=>?_);(try simp only[lq1,lq2,lq3]);go_simp;refine(CX2.out _).mono ?_;rintro e r1 ⟨rfl,hN⟩;have HV1:=Lib.hid (HV0.out.new hN);clear hN;go_wp2_with fail;refine hK.out _ _ (HV1.out.sls) (fun hHeld=>?_);clear hK K;(try simp only[Act.put,lq1,lq2,lq3,lq4,lq5,lq6])
          refine rdO (i:=8) (fun K hK=>?_);(try simp only[lq1,lq2,lq3]);rw[if_pos (by rfl)];obtain⟨DD,hown,hd⟩:=HV1.out.now
          refine wp_mapUpdate_own _ _ _ _ 154 rfl 104 3 Tryz.law104 Tryz.ul154 _ mb (k*4) _ rfl hown (by unfold maxLen;omega) _ _ _ rfl rfl (KP2.out) _ [] (plainElem_int Tryz.underlying3 (wfN (x:=ai) (by omega))) ?_
          intro r2 hown6 hg6
          have HV2:=Lib.hid (HV1.out.upd ⟨_,hown6,hd.put (KP2.out)⟩ ((Fr.refl (fun k=>k=mb) r1).grown hg6 fun k e=>.inl (Option.some.inj e).symm));clear hown hd hown6 hg6;refine hK.out _ _ (HV2.out.sls) (fun hHeld=>?_);clear hK K;(try simp only[Act.put,lq1,lq2,lq3,lq4,lq5,lq6]);refine rdO (i:=9) (fun K hK=>?_);(try simp only[lq1,lq2,lq3]);rw[if_pos (by rfl)];obtain⟨DD,hown,hd⟩:=HV2.out.now
          refine wp_mapUpdate_own _ _ _ _ 154 rfl 104 3 Tryz.law104 Tryz.ul154 _ mb (k*4+1) _ rfl hown (by unfold maxLen;omega) _ _ _ rfl rfl (KX2.out) _ [] (plainElem_int Tryz.underlying3 (wfN (x:=en) (by omega))) ?_
          intro r3 hown6 hg6
          have HV3:=Lib.hid (HV2.out.upd ⟨_,hown6,hd.put (KX2.out)⟩ ((Fr.refl (fun k=>k=mb) r2).grown hg6 fun k e=>.inl (Option.some.inj e).symm));clear hown hd hown6 hg6;refine hK.out _ _ (HV3.out.sls) (fun hHeld=>?_);clear hK K;(try simp only[Act.put,lq1,lq2,lq3,lq4,lq5,lq6]);refine wpAnyH_done (by kernel_rfl) ?_ _;(try dsimp only)
          obtain⟨w8,rfl⟩:∃w8,w8=r3:=⟨_,rfl⟩
          have HR8:=HV3;clear HV0 HV1 HV2 HV3 hHeld;go_wp2_with fail;have HV0:=Lib.hid (HR8.out.new (Fr.refl _ w8).drew);have hS0:=HV0.out.sls
          refine wp_region_held_drew (S:=fun r=>SlS r b s B10 B11 fc1 fs1 tc1 ts1) (by kernel_rfl) hS0 (fun hHeld=>?_)
          clear hS0 HR8;generalize w8.drew=r0 at hHeld HV0 ⊢;refine' tkO (i:=0) ?_ (hy:=by (intro w' hSw;unfold SlS at hSw;(try dsimp only at hSw);go_simp<;>with_reducible rfl));(try simp only[Act.put,lq1,lq2,lq3,lq4,lq5,lq6]);refine' tkO (i:=1) ?_ (hy:=by (intro w' hSw;unfold SlS at hSw;(try dsimp only at hSw);go_simp<;>with_reducible rfl));(try simp only[Act.put,lq1,lq2,lq3,lq4,lq5,lq6]);refine' tkO (i:=2) ?_ (hy:=by (intro w' hSw;unfold SlS at hSw;(try dsimp only at hSw);go_simp<;>with_reducible rfl))
          (try simp only[Act.put,lq1,lq2,lq3,lq4,lq5,lq6]);refine' tkO (i:=4) ?_ (hy:=by (intro w' hSw;unfold SlS at hSw;(try dsimp only at hSw);go_simp<;>with_reducible rfl));(try simp only[Act.put,lq1,lq2,lq3,lq4,lq5,lq6]);refine' tkO (i:=5) ?_ (hy:=by (intro w' hSw;unfold SlS at hSw;(try dsimp only at hSw);go_simp<;>with_reducible rfl));(try simp only[Act.put,lq1,lq2,lq3,lq4,lq5,lq6]);refine' tkO (i:=6) ?_ (hy:=by (intro w' hSw;unfold SlS at hSw;(try dsimp only at hSw);go_simp<;>with_reducible rfl))
          (try simp only[Act.put,lq1,lq2,lq3,lq4,lq5,lq6]);refine' tkO (i:=7) ?_ (hy:=by (intro w' hSw;unfold SlS at hSw;(try dsimp only at hSw);go_simp<;>with_reducible rfl));(try simp only[Act.put,lq1,lq2,lq3,lq4,lq5,lq6]);refine rdO (i:=3) (fun K hK=>?_);(try simp only[lq1,lq2,lq3]);go_simp;refine(CX1.out _).mono ?_;rintro e r1 ⟨rfl,hN⟩;have HV1:=Lib.hid (HV0.out.new hN);clear hN;go_wp2_with fail;refine hK.out _ _ (HV1.out.sls) (fun hHeld=>?_);clear hK K;(try simp only[Act.put,lq1,lq2,lq3,lq4,lq5,lq6])
          refine rdO (i:=8) (fun K hK=>?_);(try simp only[lq1,lq2,lq3]);obtain⟨v0,st,W1,W2,hme,hF1,hb1,hes,hn2,hF2⟩:=HV1.out.now.entry (by unfold maxLen;omega) (p:=(fc1,xs1)) (by omega) (by omega) en (by omega);have hme':(Instr.mapEntry 154 (.map (some mb)) (.agg #[.int .i64 (fc1:Nat),.int .i64 (xs1:Nat)])).run Tryz.prog r1=.ok (.tuple #[v0,.int .i64 st]) W1:=hme;go_simp;clear hme hme';have HW1:=Lib.hid (HV1.out.part hF1);refine hK.out _ _ (HW1.out) (fun hHeld=>?_);clear hK K;(try simp only[Act.put,lq1,lq2,lq3,lq4,lq5,lq6])
          refine' tkO (i:=9) ?_ (hy:=by (intro w' hSw;unfold SlS at hSw;(try dsimp only at hSw);go_simp<;>with_reducible rfl));(try simp only[Act.put,lq1,lq2,lq3,lq4,lq5,lq6]);refine rdO (i:=10) (fun K hK=>?_);(try simp only[lq1,lq2,lq3]);go_simp;clear hes;have HV2:=Lib.hid (HV1.out.upd hn2 hF2);clear hn2 hF2 hF1 hb1;refine hK.out _ _ (HV2.out.sls) (fun hHeld=>?_);clear hK K;(try simp only[Act.put,lq1,lq2,lq3,lq4,lq5,lq6]);refine rdO (i:=11) (fun K hK=>?_);(try simp only[lq1,lq2,lq3]);rw[if_pos (by rfl)]
          obtain⟨DD,hown,hd⟩:=HV2.out.now
          refine wp_mapUpdate_own _ _ _ _ 154 rfl 104 3 Tryz.law104 Tryz.ul154 _ mb (k*4+2+1) _ rfl hown (by unfold maxLen;omega) _ _ _ rfl rfl (KP1.out) _ [] (plainElem_int Tryz.underlying3 (wfN (x:=oi) (by omega))) ?_
          intro r3 hown6 hg6
          have HV3:=Lib.hid (HV2.out.upd ⟨_,hown6,hd.put (KP1.out)⟩ ((Fr.refl (fun k=>k=mb) W2).grown hg6 fun k e=>.inl (Option.some.inj e).symm));clear hown hd hown6 hg6;refine hK.out _ _ (HV3.out.sls) (fun hHeld=>?_);clear hK K;(try simp only[Act.put,lq1,lq2,lq3,lq4,lq5,lq6]);refine wpAnyH_done (by kernel_rfl) ?_ _;(try dsimp only)
          have HG:Hid (putF (putF (putF (putF F (tc1,ts1) ai) (tc1,xs2) en) (fc1,xs1) en) (fc1,fs1) oi=nowF X ((f.take (k+1)).map (·.1))):=Lib.hid (by
           rw[HNF1.out,←HFF.out]
           unfold nowS
           rw[HPF.out,HPT.out]
           have q1:Kn.acr (fc1,fs1)=(fc1,xs1):=by rw[HXS1.out];rfl
           have q2:Kn.acr (tc1,ts1)=(tc1,xs2):=by rw[HXS2.out];rfl
           rw[q1,q2,←HAI.out,←HOI.out])
          rw[HG.out]at HV3;have HV4:=Lib.hid HV3.out.sv;go_wp2_with fail
          go_roundw
          case rel=>exact⟨k+1,by omega,by go_num,by rw[show (k+1)*4=k*4+2+1+1 by omega];exact HV4⟩
          case measure=>simp only[intOf];omega
        · have hk3:k=3:=by omega
          subst hk3;rw[show f.take 3=f from List.take_of_length_le (by rw[HF3.out];omega)]at HSV
          have hlt':¬((3:Nat):Int)<3:=by omega
          obtain⟨DD,HOW,HND⟩:∃DD,Hid (wr.ownsMap Tryz.prog 104 (plainElem Tryz.prog 3) mb (3*4) DD)∧Hid (NowD DD (nowF X (f.map (·.1)))):=by
           obtain⟨DD,h1,h2⟩:=HSV.out.now
           exact⟨DD,Lib.hid h1,Lib.hid h2⟩
          have HB4:=Lib.hid HSV.out.bw;have HN4:=Lib.hid HSV.out.new;have HLM:=Lib.hid HSV.out.lm
          obtain⟨fm,HFM2⟩:∃fm,Hid (fm=nowF X (f.map (·.1))):=⟨_,Lib.hid rfl⟩
          rw[←HFM2.out]at HND;have HD4:Hid (D≤wr.heap.size):=Lib.hid (by have h1:=HB4.out.lb;have h2:=HB4.out.blk;have h3:=(Array.getElem?_eq_some_iff.1 h2).1;omega);clear HSV
          go_wp2_with (first
           |(at_range;refine wpList_range_own _ rfl _ 154 rfl 104 3 Tryz.law104 Tryz.ul154 _ mb (3*4) DD rfl HOW.out ?_;intro w8 hrg0 hg0 hs0)
           |fail)
          (try go_frame)
          obtain⟨r,HR⟩:∃r,Hid (r=wr.heap.size):=⟨_,Lib.hid rfl⟩
          rw[←HR.out]at hrg0 ⊢;have hN8:New wr w8:=⟨hg0.os,hg0.tape,hg0.output,hg0.size,fun i hi _=>hg0.block i hi (by simp)⟩;have HSW:Hid (SlW D w w8 b s (.slice (some ⟨g,0,none⟩) nf fc) (.slice (some ⟨gv,0,none⟩) n cv) bi bo X X L mb r (3*4) fm DD (Go.Maps.has DD) (Go.Maps.size DD)):=Lib.hid ⟨HB4.out.new hN8,SlZ.start X HND.out,hrg0,HND.out,fun _ h=>h,((HN4.out.trans hN8).mono fun _ x=>x.elim),by rw[HR.out];exact HD4.out⟩;clear hrg0 hg0 hs0 hN8 HOW
          go_loopw [108] (fun _ wx=>∃(Z:List Kn.Cr) (left:Lit→Bool) (cnt:Nat),Hid (SlW D w wx b s (.slice (some ⟨g,0,none⟩) nf fc) (.slice (some ⟨gv,0,none⟩) n cv) bi bo X Z L mb r (3*4) fm DD left cnt)) (fun _ wx=>wx.rangeLeft mb r)
          case atStart=>exact⟨X,_,_,HSW⟩
          case round=>
           obtain⟨Z,left,cnt,HSW⟩:=hrel;have hrgx:=HSW.out.rg
           go_wp2_with (first
            |(at_next;refine wpList_next_now rfl _ rfl mb r (3*4) DD fm left cnt rfl hrgx HND.out HSW.out.sub ?_ ?_)
            |fail)
           · intro hl0
             clear hrgx;go_wp2_with fail;go_end0;have hZ:Z=Kn.slideL X (f.map (·.1)):=(HFM2.out ▸ HSW.out.z).done hl0 HT.out HE.out hl;rw[HU.out,HQ.out,if_pos rfl,←hZ]
             exact HSW.out.bw.gave HSW.out.fr
           · intro pc ps av kl wy cnt' hkk hvv hrgy hlt2 hFy hen
             have HEN2:=Lib.hid hkk;have HVV:=Lib.hid hvv;have HRGY:=Lib.hid hrgy;obtain⟨hb0,hf0⟩:=HSW.out.turn hFy;have HBY:=Lib.hid hb0;have HFY:=Lib.hid hf0;have HMS:=Lib.hid (hrgx.left_eq);clear hkk hvv hrgy hFy hb0 hf0 hrgx
             have hin:=nowF_in HX.out (f.map (·.1)) (fun e he=>by
              obtain⟨d,hd,rfl⟩:=List.mem_map.1 he
              exact HX.out.face_arc HFM.out hd) (pc,ps) av (by rw[←HFM2.out];exact HVV.out)
             have HPL:=Lib.hid hin.1
             have hpc:pc<n:=by rw[HNX.out];exact hin.1.1
             have hps:ps<4:=hin.1.2
             have hnZ:n=Z.length:=by rw[HSW.out.z.len];exact HNX.out
             clear hin;go_upto_region 18 with fail;clear hen
             obtain⟨w10,HW10⟩:∃w10,Hid (w10=wy.alloc (.cells #[.int .i64 (pc:Nat),.int .i64 (ps:Nat)] 104)):=⟨_,Lib.hid rfl⟩
             obtain⟨B14,HB14⟩:∃B,Hid (B=wy.heap.size):=⟨_,Lib.hid rfl⟩
             have hN10:New wy w10:=by rw[HW10.out];exact(Fr.refl _ wy).alloc _
             have hc14:w10.heap[B14]?=some (.cells #[.int .i64 (pc:Nat),.int .i64 (ps:Nat)] 104 (0,0)):=by rw[HW10.out,HB14.out];exact heap_alloc_new _ _
             have HSY:Hid (SlW D w w10 b s (.slice (some ⟨g,0,none⟩) nf fc) (.slice (some ⟨gv,0,none⟩) n cv) bi bo X Z L mb r (3*4) fm DD left cnt→True):=Lib.hid fun _=>trivial
             have HBW:=Lib.hid (HBY.out.new hN10);have HRG:=Lib.hid (ranges_fr HRGY.out hN10 (fun x=>x) (fun x=>x));have HFX:=Lib.hid (HFY.out.trans (hN10.mono fun _ x=>x.elim));rw[←HW10.out,←HB14.out];obtain⟨g140,g141,_⟩:=box2_c hc14;clear hN10 HW10 HB14 HSY HBY HRGY HFY hc14;go_wp2_with fail;clear g140 g141;refine(set_any D b s (.slice (some ⟨g,0,none⟩) nf fc) gv cv bi bo n pc ps X Z L (av:Nat) w10 HBW.out hnZ hn16 hpc hps).mono ?_;rintro e w11 ⟨rfl,hF,hB⟩;have hR:=ranges_row HRG.out HBW.out.own hF;have HR11:=Lib.hid hR
             have HF11:=Lib.hid (HFX.out.trans (hF.mono fun i hi=>by
              rw[hi];exact hDg))
             have HB11:=Lib.hid hB;clear hF hB hR HRG HBW;go_wp2_with fail
             go_roundw
             case rel=>exact⟨_,_,cnt',Lib.hid ⟨HB11.out,HSW.out.z.step HEN2.out HPL.out HVV.out,HR11.out,HSW.out.now,fun kl hk=>HSW.out.sub kl (by simp only[Bool.and_eq_true]at hk;exact hk.1),HF11.out,HSW.out.lr⟩⟩
             case measure=>rw[HR11.out.left_eq,HMS.out];exact hlt2
end Go.Proofs.YtlicglicfijelaaGreat
