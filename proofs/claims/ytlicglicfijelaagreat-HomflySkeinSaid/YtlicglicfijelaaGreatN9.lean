/- Walks: Without. -/
import Derived.Test.YtlicglicfijelaaGreatTK
import Derived.BigRegion
import Derived.Test.YtlicglicfijelaaGreatN8
import Derived.Test.YtlicglicfijelaaGreatMAll
namespace Go.Proofs.YtlicglicfijelaaGreat
open Go.RowKit

def GaveWith(Y:List Kn.Cr)(L:Int)(w:World)(e:Ending)(w':World):Prop:=∃sc,e=.returned (.agg #[sc,.int .i64 L])∧w'.ownsRow w.heap.size 41 5 sc Y.length (crCells Y)∧New w w'
structure WA(w wr:World)(rb cB rB m:Nat)(f:Nat→Nat):Prop where
 new:New w wr
 res:wr.heap[rb]?=some (.cells #[.slice none 0 0,.int .i64 0] 24 (0,0))
 cls:wr.heap[cB]?=some (.cells #[.slice (some ⟨rB,0,none⟩) m m] 78 (0,0))
 row:wr.rowIs rB 3 m (numFn f)
 lr:w.heap.size≤rb
 lrow:w.heap.size≤rB
theorem WA.cl{w wr:World}{rb cB rB m:Nat}{f:Nat→Nat}(h:WA w wr rb cB rB m f)(a x:Nat):WA w (wr.setCell ⟨rB,a,none⟩ (.int .i64 (x:Nat))) rb cB rB m (fun y=>if y=a then x else f y):=by
 have hF:Fr (fun k=>k=rB) wr (wr.setCell ⟨rB,a,none⟩ (.int .i64 (x:Nat))):=(Fr.refl (fun k=>k=rB) wr).setCell (a:=⟨rB,a,none⟩) (.inl rfl) _
 exact⟨h.new.next hF fun i hi=>.inr (by rw[hi];exact h.lrow),hF.blk h.res (blk_ne h.res h.row (by decide)),hF.blk h.cls (blk_ne h.cls h.row (by decide)),rowIs_setN h.row a x,h.lr,h.lrow⟩
theorem WA.congr{w wr:World}{rb cB rB m:Nat}{f g:Nat→Nat}(h:WA w wr rb cB rB m f)(hg:∀j,j<m→g j=f j):WA w wr rb cB rB m g:=
 ⟨h.new,h.res,h.cls,rowIs_congr h.row fun j hj=>by unfold numFn;rw[hg j hj],h.lr,h.lrow⟩
theorem WA.c1{w wr:World}{rb cB rB m:Nat}{f:Nat→Nat}(h:WA w wr rb cB rB m f):wr.cell? ⟨cB,0,none⟩=some (.slice (some ⟨rB,0,none⟩) m m):=cell_of_row _ _ 0 _ 78 (0,0) h.cls
def tieG(f:Nat→Nat)(u0 v0 u1 v1:Nat):Nat→Nat→Nat
 |0=>f
 |1=>Kn.joinF f u0 v0
 |_=>Kn.joinF (Kn.joinF f u0 v0) u1 v1
set_option maxRecDepth 100000 in
theorem tieG_step(f:Nat→Nat)(u0 v0 u1 v1 mm j:Nat)(hj:j<2)(h0:u0<mm)(h1:v0<mm)(h2:u1<mm)(h3:v1<mm):∃u v,u<mm∧v<mm∧tieG f u0 v0 u1 v1 (j+1)=Kn.joinF (tieG f u0 v0 u1 v1 j) u v ∧
 ∀w,(Instr.index 97 (.agg #[.int .i64 (u0:Nat),.int .i64 (v0:Nat),.int .i64 (u1:Nat),.int .i64 (v1:Nat)]) (.int .i64 (j:Nat))).run Tryz.prog w=.ok (.agg #[.int .i64 (u:Nat),.int .i64 (v:Nat)]) w:=by
 match j,hj with
 |0,_=>exact⟨u0,v0,h0,h1,rfl,fun w=>by kernel_rfl⟩
 |1,_=>exact⟨u1,v1,h2,h3,rfl,fun w=>by kernel_rfl⟩
set_option maxRecDepth 100000 in
set_option maxHeartbeats 16000000 in
theorem without_any(b g ng cg:Nat)(gs:List Int)(gone:Nat→Bool)(X:List Kn.Cr)(L:Int)(w:World)(h:ShAt w b X L)(hX:Kn.Ok X)(hl:X.length≤16)(l1:-1000≤L)(l2:L≤1000)(hg:IntsAt w g gs)(hng:ng=gs.length)(hn16:ng≤16)
 (hgone:∀c,c<X.length→gone c=decide ((c:Int)∈gs))
 (gf:Nat) (eg:∀args w,(callFunc gf args).run Tryz.prog w=.ok (.enter gf args) w) (CF:Nat→Nat→Nat) (U0 V0 U1 V1:Nat→Nat) (hC0:CF 0=fun a=>a) (hCn:∀k,gone k=false→CF (k+1)=CF k) (hCy:∀k,k<X.length→gone k=true→CF (k+1)=Kn.joinF (Kn.joinF (CF k) (U0 k) (V0 k)) (U1 k) (V1 k)) (hrep:∃E,Kn.Rep (CF X.length) E)
 (hU:∀k,k<X.length→∀u∈[U0 k,V0 k,U1 k,V1 k],∃s,s<4∧u=Kn.arcN X (k,s)) (hcall:∀k,k<X.length→∀w,Calls Tryz.prog gf #[crV (Kn.cr X k)] w fun e w'=>e=.returned (.agg #[.int .i64 (U0 k:Nat),.int .i64 (V0 k:Nat),.int .i64 (U1 k:Nat),.int .i64 (V1 k:Nat)])∧New w w'):
 Calls Tryz.prog 20 #[.pointer (some ⟨b,0,none⟩),.func (.func gf) #[] #[],.slice (some ⟨g,0,none⟩) ng cg] w (GaveWith (Kn.withL X (CF X.length) gone) (L+Kn.ringN X (CF X.length) gone) w):=by
 obtain⟨n,hn⟩:∃n,n=X.length:=⟨_,rfl⟩
 obtain⟨m,hm⟩:∃m,m=Kn.nArcs X:=⟨_,rfl⟩
 have hn2:n≤16:=by omega
 have hm32:m≤32:=by rw[hm];unfold Kn.nArcs;omega
 have HN:=Lib.hid hn;have HM:=Lib.hid hm;have HS:=Lib.hid h;have HX:=Lib.hid hX;have HG:=Lib.hid hg;have HNG:=Lib.hid hng;have HGO:=Lib.hid hgone;have HCN:=Lib.hid hCn;have HCY:=Lib.hid hCy;have HRP:=Lib.hid hrep;have HU:=Lib.hid hU;have HCL:=Lib.hid hcall;have HC0:=Lib.hid hC0;have hmm:=@run_makeMap Tryz.prog;obtain⟨a0,c0,hs0,hs1,hcr⟩:=h.crs;rw[←hn]at hs0;have HCR:=Lib.hid hcr;have HS0:=Lib.hid hs0;have HS1:=Lib.hid hs1;clear h hX hm hn hg hng hgone hcr hs0 hs1 hCn hCy hrep hU hcall hC0
 have hmk:∀w,(Instr.makeSlice 78 (.int .i64 ((m:Int)+1)) (.int .i64 ((m:Int)+1))).run Tryz.prog w=.ok (.slice (some ⟨w.heap.size,0,none⟩) (m+1) (m+1)) (w.alloc (.cells (madeCells #[.int .i64 0] (m+1)) 3)):=fun w=>by
  have:=run_make_row' (P:=Tryz.prog) 78 3 (.int .i64 0) 8 Tryz.underlying78 Tryz.info3 rfl .i64 .i64 (m+1) (by omega) (by omega) w
  rwa [show (((m+1:Nat)):Int)=(m:Int)+1 by omega]at this
 obtain⟨i0,hi,hz0,hz1,hz2⟩:=info_parts Tryz.info41
 go_enter Tryz.func20,Tryz.ntmps20
 go_wp2_with (go_at_call 35;refine(arcsN' b m X L _ (New.shAt ((Fr.refl _ _).alloc _) HS.out) hl HM.out).mono ?_;rintro e w' ⟨rfl,rfl⟩)
 obtain⟨w1,HW1⟩:∃w1,Hid (w1=(((w.alloc (.cells #[.slice none 0 0,.int .i64 0] 24)).alloc (.cells (madeCells #[.int .i64 0] (m+1)) 3)).alloc (.cells #[.slice (some ⟨w.heap.size+1,0,none⟩) (m+1) (m+1)] 78))):=⟨_,Lib.hid rfl⟩
 obtain⟨rb,HRB⟩:∃B,Hid (B=w.heap.size):=⟨_,Lib.hid rfl⟩
 obtain⟨rB,HRR⟩:∃B,Hid (B=w.heap.size+1):=⟨_,Lib.hid rfl⟩
 obtain⟨cB,HCB⟩:∃B,Hid (B=w.heap.size+1+1):=⟨_,Lib.hid rfl⟩
 have HA0:Hid (WA w w1 rb cB rB (m+1) (fun x=>if x<0 then x else 0)):=Lib.hid (by
  have h1:=heap_alloc_new w (.cells #[.slice none 0 0,.int .i64 0] 24);have h2:=World.rowIs_made (w.alloc (.cells #[.slice none 0 0,.int .i64 0] 24)) (.int .i64 0) (m+1) 3;have h3:=heap_alloc_new ((w.alloc (.cells #[.slice none 0 0,.int .i64 0] 24)).alloc (.cells (madeCells #[.int .i64 0] (m+1)) 3)) (.cells #[.slice (some ⟨w.heap.size+1,0,none⟩) (m+1) (m+1)] 78);rw[World.size_alloc]at h2;rw[World.size_alloc,World.size_alloc]at h3;rw[HW1.out,HRB.out,HRR.out,HCB.out]
  refine⟨(((Fr.refl _ w).alloc _).alloc _).alloc _,((((Fr.refl (fun _=>False) _).alloc _).alloc _).blk h1 fun x=>x),h3,((Fr.refl (fun _=>False) _).alloc _).row (rowIs_congr h2 fun j _=>?_) (fun x=>x),by omega,by omega⟩
  unfold numFn;simp)
 rw[←HW1.out];rw[←HCB.out,←HRR.out,←HRB.out];clear HW1 HRR HCB hmk
 obtain⟨mm,hmm1⟩:∃mm,mm=m+1:=⟨_,rfl⟩
 have hmm2:(m:Int)+1=(mm:Int):=by omega
 have hmm32:mm≤33:=by omega
 rw[hmm2];rw[←hmm1]at HA0 ⊢;have HMM:=Lib.hid hmm1;clear hmm1 hmm2
 go_loopw [33] (fun i wr=>∃k:Nat,k≤mm∧i=.int .i64 k∧Hid (WA w wr rb cB rB mm (fun x=>if x<k then x else 0))) (fun i _=>mm-(intOf i).toNat)
 case atStart=>exact⟨0,by omega,rfl,HA0⟩
 case round=>
  obtain⟨k,hk,rfl,HA⟩:=hrel
  by_cases hkm:k<mm
  · have hc:=HA.out.c1
    have hr:=HA.out.row.cell (i:=k) hkm;have hf:=HA.out.row.frozen k;simp only[numFn]at hr
    have i1:(0:Int)≤(k:Int):=by omega
    have i2:(k:Int)<(mm:Int):=by omega
    go_wp2
    go_roundw
    case rel=>
     refine⟨k+1,by omega,by go_num,Lib.hid ((HA.out.cl k k).congr fun j _=>?_)⟩
     by_cases e:j=k
     · rw[if_pos e,if_pos (by omega),e]
     · rw[if_neg e]
       by_cases e2:j<k
       · rw[if_pos e2,if_pos (by omega)]
       · rw[if_neg e2,if_neg (by omega)]
    case measure=>simp[intOf];omega
  · obtain rfl:mm=k:=by omega
    have HAk:Hid (WA w wr rb cB rB mm (CF 0)):=Lib.hid (HA.out.congr fun j hj=>by rw[if_pos hj,HC0.out]);have hN1:New wr (wr.alloc (.map #[] 0)):=(Fr.refl _ wr).alloc _;have hN2:New wr ((wr.alloc (.map #[] 0)).alloc (.cells #[.slice none 0 0,.int .i64 L] 24)):=hN1.alloc _
    have s1:=hN1.cell (HA.out.new.cell HS1.out fun x=>x) fun x=>x
    have s0:=hN2.cell (HA.out.new.cell HS0.out fun x=>x) fun x=>x
    clear HA;go_wp2;clear s0 s1
    obtain⟨wo,HWO⟩:∃wo,Hid (wo=(wr.alloc (.map #[] 0)).alloc (.cells #[.slice none 0 0,.int .i64 L] 24)):=⟨_,Lib.hid rfl⟩
    obtain⟨mB,HMB⟩:∃B,Hid (B=wr.heap.size):=⟨_,Lib.hid rfl⟩
    obtain⟨dB,HDB⟩:∃B,Hid (B=wr.heap.size+1):=⟨_,Lib.hid rfl⟩
    have HI0:Hid (WS w wo rb cB rB dB mB mm (CF 0) L (.slice none 0 0) (keptTo X gone 0) []):=Lib.hid (by
     have s:=HAk.out;have h1:=heap_alloc_new (wr.alloc (.map #[] 0)) (.cells #[.slice none 0 0,.int .i64 L] 24);rw[World.size_alloc]at h1;have hb:=(Array.getElem?_eq_some_iff.1 s.res).1;have hs:=s.new.size;rw[HWO.out,HMB.out,HDB.out]
     exact⟨s.new.trans hN2,hN2.blk s.res fun x=>x,hN2.blk s.cls fun x=>x,hN2.row s.row fun x=>x,h1,⟨rfl,.inl ⟨rfl,rfl⟩⟩,(LeftMap.made wr).fr ((Fr.refl (fun _=>False) _).alloc _) fun x=>x,s.lr,s.lrow,by omega,by omega,by omega⟩)
    rw[←HWO.out,←HDB.out,←HMB.out];clear hN1 hN2 HWO HMB HDB HAk HA0;clear wr w1
    go_loopw [54] (fun i wr=>∃k:Nat,k≤n∧i=.int .i64 k∧Hid (∃v,WS w wr rb cB rB dB mB mm (CF k) L v (keptTo X gone k) [])) (fun i _=>n-(intOf i).toNat)
    case atStart=>exact⟨0,by omega,rfl,Lib.hid ⟨_,HI0.out⟩⟩
    case round=>
     obtain⟨k,hk,rfl,HIE⟩:=hrel;obtain⟨v,hie⟩:=HIE.out;have HI:=Lib.hid hie;clear HIE hie
     by_cases hkn:k<n
     · have hkX:k<X.length:=by have:=HN.out;omega
       obtain⟨bx,ox,e0,hx⟩:=(New.crs HI.out.new HCR.out).at hkX;subst e0;obtain⟨xa,xb,xc,xd,xp,HXC⟩:=Kn.cr_parts' X k;rw[HXC.out]at hx;obtain⟨x1,x2,x3,x4,x5⟩:=hx
       have i1:(0:Int)≤(k:Int):=by omega
       have i2:(k:Int)<(n:Int):=by omega
       obtain⟨go,HGK⟩:∃go,Hid (go=gone k):=⟨_,Lib.hid rfl⟩
       have HGD:Hid (decide ((k:Int)∈gs)=go):=Lib.hid (by rw[HGK.out,HGO.out k hkX]);obtain⟨av,cv,ev,hcv⟩:=own_shape2 HI.out.own;subst ev
       obtain⟨nk,HNK⟩:∃nk,Hid (nk=(keptTo X gone k).length):=⟨_,Lib.hid rfl⟩
       have hnk:nk≤16:=by have:=keptTo_len X gone k;have:=HNK.out;omega
       rw[←HNK.out]at HI;clear hcv;have HIa:=Lib.hid (HI.out.nw ((Fr.refl _ wr).alloc (.cells #[.int .i64 xa,.int .i64 xb,.int .i64 xc,.int .i64 xd,.bool xp] 41)));have hbs:w.heap.size≤wr.heap.size:=HI.out.new.size
       cases go
       · obtain⟨d0,_,_,_⟩:=box2_c HIa.out.dia
         have HOV:=Lib.hid HIa.out.own;rw[←HNK.out]at HOV
         go_wp2_with (first
          |(go_at_call 36;refine(contains_any g ng cg gs (k:Int) _ (HG.out.new (HI.out.new.alloc _)) HNG.out hn16).mono ?_;rintro e w' ⟨rfl,rfl⟩;rw[HGD.out])
          |(at_builtin;refine wpList_append_lies _ rfl _ _ 22 rfl w.heap.size 41 i0 (.agg #[.int .i64 0,.int .i64 0,.int .i64 0,.int .i64 0,.bool false]) 5 40 Tryz.underlying22 hi hz0 hz1 hz2 rfl (by decide) _ nk (crCells (keptTo X gone k)) rfl (World.ownsRow.alloc HOV.out _) ⟨_,0,none⟩ 1 1 [.int .i64 xa,.int .i64 xb,.int .i64 xc,.int .i64 xd,.bool xp] rfl rfl (five_cells (World.size_alloc _ _).symm) (one_five _ _ _ _ _) (by decide) (by unfold maxLen;omega) (by omega) (by simp only[World.size_alloc];omega) _ rfl ?_;intro g' cap' w7 hown hgrow hloc _;obtain⟨hb7,hI7⟩:=HIa.out.app (x:=⟨xa,xb,xc,xd,xp⟩) HNK.out hown hgrow;obtain⟨y0,_,y2,_⟩:=box2_c hb7;have HI7:=Lib.hid hI7;clear hown hgrow hloc hb7 hI7))
         go_roundw
         case rel=>
          have h7:=HI7.out
          have e7:keptTo X gone (k+1)=keptTo X gone k++[⟨xa,xb,xc,xd,xp⟩]:=by rw[keptTo_succ,←HGK.out,←HXC.out];rfl
          have e8:CF (k+1)=CF k:=HCN.out k HGK.out.symm;rw[←e7,←e8]at h7
          exact⟨k+1,by omega,by go_num,Lib.hid ⟨_,h7⟩⟩
         case measure=>simp[intOf];omega
       · obtain⟨f1,f2,f3,f4,f5⟩:=arc_nat HX.out hkX
         clear f1 f2 f3 f4
         obtain⟨u0,HU0⟩:∃q,Hid (q=U0 k):=⟨_,Lib.hid rfl⟩
         obtain⟨v0,HV0⟩:∃q,Hid (q=V0 k):=⟨_,Lib.hid rfl⟩
         obtain⟨u1,HU1⟩:∃q,Hid (q=U1 k):=⟨_,Lib.hid rfl⟩
         obtain⟨v1,HV1⟩:∃q,Hid (q=V1 k):=⟨_,Lib.hid rfl⟩
         have HCK:=Lib.hid (HCL.out k hkX);rw[←HU0.out,←HV0.out,←HU1.out,←HV1.out,HXC.out]at HCK
         have bnd:∀u∈[U0 k,V0 k,U1 k,V1 k],u<mm:=fun u hu=>by
          obtain⟨s,hs,e⟩:=HU.out k hkX u hu;have:=f5 s hs
          have:=HMM.out;have:=HM.out;unfold Kn.nArcs at this;omega
         have bU0:u0<mm:=by rw[HU0.out];exact bnd _ (by simp)
         have bV0:v0<mm:=by rw[HV0.out];exact bnd _ (by simp)
         have bU1:u1<mm:=by rw[HU1.out];exact bnd _ (by simp)
         have bV1:v1<mm:=by rw[HV1.out];exact bnd _ (by simp)
         clear bnd f5;have t1:=five_c (heap_alloc_new wr (.cells #[.int .i64 xa,.int .i64 xb,.int .i64 xc,.int .i64 xd,.bool xp] 41))
         go_wp2_with (first
          |(go_at_call 36;refine(contains_any g ng cg gs (k:Int) _ (HG.out.new (HI.out.new.alloc _)) HNG.out hn16).mono ?_;rintro e w' ⟨rfl,rfl⟩;rw[HGD.out])
          |(refine(HCK.out _).mono ?_;rintro e w4 ⟨rfl,hF⟩;have HI4:=Lib.hid (HIa.out.nw hF);clear hF))
         clear t1;have HIB:=HI;have HI5:Hid (WS w w4 rb cB rB dB mB mm (tieG (CF k) u0 v0 u1 v1 0) L (.slice av nk cv) (keptTo X gone k) []):=HI4
         go_loopw [72] (fun i wr=>∃j:Nat,j≤2∧i=.int .i64 j∧Hid (WS w wr rb cB rB dB mB mm (tieG (CF k) u0 v0 u1 v1 j) L (.slice av nk cv) (keptTo X gone k) [])) (fun i _=>2-(intOf i).toNat)
         case atStart=>exact⟨0,by omega,rfl,HI5⟩
         case round=>
          obtain⟨j,hj,rfl,HJ⟩:=hrel
          by_cases hj2:j<2
          · obtain⟨u,v,hu,hv,htg,hidx⟩:=tieG_step (CF k) u0 v0 u1 v1 mm j hj2 bU0 bV0 bU1 bV1
            obtain⟨F,HFF⟩:∃F,Hid (F=tieG (CF k) u0 v0 u1 v1 j):=⟨_,Lib.hid rfl⟩
            rw[←HFF.out]at HJ htg;have HTG:=Lib.hid htg
            obtain⟨fu,HFU⟩:∃q,Hid (F u=q):=⟨_,Lib.hid rfl⟩
            obtain⟨fv,HFV⟩:∃q,Hid (F v=q):=⟨_,Lib.hid rfl⟩
            obtain⟨wz,HWZ⟩:∃wz,Hid (wz=wr.alloc (.cells #[.int .i64 (u:Nat),.int .i64 (v:Nat)] 96)):=⟨_,Lib.hid rfl⟩
            have j1:(j:Int)<2:=by omega
            clear htg;go_wp2
            obtain⟨B9,HB9⟩:∃B,Hid (B=wr.heap.size):=⟨_,Lib.hid rfl⟩
            rw[←HWZ.out,←HB9.out];have HJz:Hid (WS w wz rb cB rB dB mB mm F L (.slice av nk cv) (keptTo X gone k) []):=Lib.hid (by rw[HWZ.out];exact HJ.out.nw ((Fr.refl _ wr).alloc _))
            have hz9:wz.heap[B9]?=some (.cells #[.int .i64 (u:Nat),.int .i64 (v:Nat)] 96 (0,0)):=by rw[HWZ.out,HB9.out];exact heap_alloc_new _ _
            obtain⟨z1,z2,_⟩:=two_c hz9;have z0:=HJz.out.c1;have z3:=HJz.out.row.cell (i:=u) hu;have z4:=HJz.out.row.cell (i:=v) hv;simp only[numFn,HFU.out,HFV.out]at z3 z4
            have b1:(0:Int)≤(u:Int):=by omega
            have b2:(u:Int)<(mm:Int):=by omega
            have b3:(0:Int)≤(v:Int):=by omega
            have b4:(v:Int)<(mm:Int):=by omega
            clear hz9 HWZ
            go_quiet (fail)
            clear z0 z1 z2 z3 z4
            obtain⟨fr,hfr⟩:∃q:Nat,q=max fu fv:=⟨_,rfl⟩
            obtain⟨fn,hfn⟩:∃q:Nat,q=min fu fv:=⟨_,rfl⟩
            rw[show max (fu:Int) (fv:Int)=(fr:Int)by omega,show min (fu:Int) (fv:Int)=(fn:Int)by omega];have HFR:=Lib.hid hfr;have HFN:=Lib.hid hfn;have HJF:Hid (∀x,Kn.joinF F u v x=if F x=fr then fn else F x):=Lib.hid (fun x=>by unfold Kn.joinF;rw[HFU.out,HFV.out,hfr,hfn]);clear hfr hfn;have HJq:Hid (WS w (wz.drewN nq) rb cB rB dB mB mm F L (.slice av nk cv) (keptTo X gone k) []):=Lib.hid (HJz.out.nw ((Fr.refl _ wz).drewN _))
            obtain⟨wq,HWQ⟩:∃wq,Hid (wq=wz.drewN nq):=⟨_,Lib.hid rfl⟩
            rw[←HWQ.out]at HJq ⊢;have q0:=HJq.out.c1;go_wp2;clear q0;have HQ0:Hid (WS w wq rb cB rB dB mB mm (fun x=>if x<0 then Kn.joinF F u v x else F x) L (.slice av nk cv) (keptTo X gone k) []):=Lib.hid (HJq.out.congr fun x _=>by simp)
            go_loopw [99] (fun i wr=>∃a:Nat,a≤mm∧i=.int .i64 a∧Hid (WS w wr rb cB rB dB mB mm (fun x=>if x<a then Kn.joinF F u v x else F x) L (.slice av nk cv) (keptTo X gone k) [])) (fun i _=>mm-(intOf i).toNat)
            case atStart=>exact⟨0,by omega,rfl,HQ0⟩
            case round=>
             obtain⟨a,ha,rfl,HA⟩:=hrel
             by_cases ham:a<mm
             · have q0:=HA.out.c1
               have q1:=HA.out.row.cell (i:=a) ham;have q2:=HA.out.row.frozen a
               obtain⟨fa,HFA⟩:∃q,Hid (F a=q):=⟨_,Lib.hid rfl⟩
               simp only[numFn,Nat.lt_irrefl,if_false,HFA.out]at q1
               have b5:(0:Int)≤(a:Int):=by omega
               have b6:(a:Int)<(mm:Int):=by omega
               by_cases hfa:fa=fr
               · have hb:((fa:Int)==(fr:Int))=true:=by rw[hfa];exact beq_self_eq_true _
                 go_wp2
                 go_roundw
                 case rel=>
                  refine⟨a+1,by omega,by go_num,Lib.hid ((HA.out.cl a fn).congr fun x _=>?_)⟩
                  by_cases e:x=a
                  · rw[if_pos e,if_pos (by omega),HJF.out,e,HFA.out,if_pos hfa]
                  · rw[if_neg e]
                    by_cases e2:x<a
                    · rw[if_pos e2,if_pos (by omega)]
                    · rw[if_neg e2,if_neg (by omega)]
                 case measure=>simp[intOf];omega
               · have hb:((fa:Int)==(fr:Int))=false:=by simp;omega
                 go_wp2
                 go_roundw
                 case rel=>
                  refine⟨a+1,by omega,by go_num,Lib.hid (HA.out.congr fun x _=>?_)⟩
                  by_cases e:x=a
                  · rw[if_pos (by omega),if_neg (by omega),HJF.out,e,HFA.out,if_neg hfa]
                  · by_cases e2:x<a
                    · rw[if_pos e2,if_pos (by omega)]
                    · rw[if_neg e2,if_neg (by omega)]
                 case measure=>simp[intOf];omega
             · obtain rfl:mm=a:=by omega
               have HE:Hid (WS w wr rb cB rB dB mB mm (tieG (CF k) u0 v0 u1 v1 (j+1)) L (.slice av nk cv) (keptTo X gone k) []):=Lib.hid (HA.out.congr fun x hx=>by rw[if_pos hx,HTG.out]);go_wp2
               go_roundw
               case rel=>exact⟨j+1,by omega,by go_num,HE⟩
               case measure=>simp[intOf];omega
          · obtain rfl:2=j:=by omega
            have HE:Hid (WS w wr rb cB rB dB mB mm (CF (k+1)) L (.slice av nk cv) (keptTo X gone (k+1)) []):=Lib.hid (by
             have e7:keptTo X gone (k+1)=keptTo X gone k:=by rw[keptTo_succ,←HGK.out];rfl
             have e8:CF (k+1)=tieG (CF k) u0 v0 u1 v1 2:=by
              rw[HCY.out k hkX HGK.out.symm,←HU0.out,←HV0.out,←HU1.out,←HV1.out]
              rfl
             rw[e7,e8]
             exact HJ.out)
            go_wp2
            go_roundw
            case rel=>exact⟨k+1,by omega,by go_num,Lib.hid ⟨_,HE.out⟩⟩
            case measure=>simp[intOf];omega
     · obtain rfl:n=k:=by omega
       obtain⟨av,cv,ev,_⟩:=own_shape2 HI.out.own;subst ev
       obtain⟨Y,HY⟩:∃Y,Hid (Y=keptTo X gone n):=⟨_,Lib.hid rfl⟩
       obtain⟨f,HFc⟩:∃f,Hid (f=CF n):=⟨_,Lib.hid rfl⟩
       rw[←HY.out,←HFc.out]at HI
       obtain⟨nk,HNK⟩:∃nk,Hid (nk=Y.length):=⟨_,Lib.hid rfl⟩
       have hnk:nk≤16:=by have:=keptTo_len X gone n;have:=HNK.out;rw[HY.out]at this;omega
       rw[←HNK.out]at HI
       have HYA:Hid (∀q,q<nk→∀s,s<4→(Kn.cr Y q).arc s=(Kn.arcN Y (q,s):Nat)∧Kn.arcN Y (q,s)<mm∧1≤Kn.arcN Y (q,s)):=Lib.hid (fun q hq s hs=>by
        have h1:=HNK.out;rw[HY.out]at h1 ⊢
        exact keptTo_arc HX.out HN.out (by rw[HMM.out,HM.out]) (by omega) hs)
       have hfle:Hid (∀a,f a≤a):=Lib.hid (by rw[HFc.out,HN.out];exact HRP.out.choose_spec.le);obtain⟨d0,_,_,_⟩:=box2_c HI.out.dia;go_wp2;clear d0;clear HI0
       obtain⟨w5,rfl⟩:∃w5,w5=wr:=⟨_,rfl⟩
       go_loopw [118] (fun i wr=>∃q:Nat,q≤nk∧i=.int .i64 q∧Hid (∃l,WS w wr rb cB rB dB mB mm f L (.slice av nk cv) Y l∧l.length=q*4∧∀r,r∈l↔markS Y f q 0 r)) (fun i _=>nk-(intOf i).toNat)
       case atStart=>exact⟨0,by omega,rfl,Lib.hid ⟨[],HI.out,rfl,fun r=>⟨fun h=>absurd h (by simp),fun h=>absurd h (markS_zero Y f r)⟩⟩⟩
       case round=>
        obtain⟨q,hq,rfl,HQ⟩:=hrel
        by_cases hqn:q<nk
        · obtain⟨l,hws,hll,hlm⟩:=HQ.out
          have HW:=Lib.hid hws;have HLM:=Lib.hid hlm;clear hws hlm HQ
          obtain⟨gv,e0⟩:∃gv,av=some ⟨gv,0,none⟩:=by
           rcases HW.out.own.2 with⟨_,h0'⟩|⟨g,cap,cur,e,_⟩
           · have:=HNK.out;omega
           · injection e with e1 _ _;exact⟨g,e1⟩
          subst e0;have hown:=HW.out.own;rw[←HNK.out]at hown;have hx5:=own_five hown HNK.out (j:=q) (by have:=HNK.out;omega);obtain⟨xa,xb,xc,xd,xp,HXC⟩:=Kn.cr_parts' Y q;rw[HXC.out]at hx5;obtain⟨x1,x2,x3,x4,x5⟩:=hx5
          have i1:(0:Int)≤(q:Int):=by omega
          have i2:(q:Int)<(nk:Int):=by omega
          clear hown;go_wp2;clear x1 x2 x3 x4 x5
          obtain⟨wo,HWO⟩:∃wo,Hid (wo=wr.alloc (.cells #[.int .i64 xa,.int .i64 xb,.int .i64 xc,.int .i64 xd,.bool xp] 41)):=⟨_,Lib.hid rfl⟩
          obtain⟨Bx,HBX⟩:∃B,Hid (B=wr.heap.size):=⟨_,Lib.hid rfl⟩
          rw[←HWO.out,←HBX.out];have HB0:Hid (wo.heap[Bx]?=some (.cells #[.int .i64 xa,.int .i64 xb,.int .i64 xc,.int .i64 xd,.bool xp] 41 (0,0))):=Lib.hid (by rw[HWO.out,HBX.out];exact heap_alloc_new _ _);have HW0:Hid (WS w wo rb cB rB dB mB mm f L (.slice (some ⟨gv,0,none⟩) nk cv) Y l):=Lib.hid (by rw[HWO.out];exact HW.out.nw ((Fr.refl _ wr).alloc _));clear HWO HBX HW
          obtain⟨w6,rfl⟩:∃w6,w6=wr:=⟨_,rfl⟩
          go_loopw [122] (fun i wr=>∃t:Nat,t≤4∧i=.int .i64 t∧Hid (wr.heap[Bx]?=some (.cells #[.int .i64 xa,.int .i64 xb,.int .i64 xc,.int .i64 xd,.bool xp] 41 (0,0)))∧Hid (∃l,WS w wr rb cB rB dB mB mm f L (.slice (some ⟨gv,0,none⟩) nk cv) Y l∧l.length=q*4+t∧∀r,r∈l↔markS Y f q t r)) (fun i _=>4-(intOf i).toNat)
          case atStart=>exact⟨0,by omega,rfl,HB0,Lib.hid ⟨l,HW0.out,hll,HLM.out⟩⟩
          case round=>
           obtain⟨t,ht,rfl,HB,HT⟩:=hrel
           by_cases ht4:t<4
           · obtain⟨l,hws,hll,hlm⟩:=HT.out
             have HW:=Lib.hid hws;have HLM:=Lib.hid hlm
             obtain⟨u,HU⟩:∃u,Hid (u=Kn.arcN Y (q,t)):=⟨_,Lib.hid rfl⟩
             obtain⟨fu,HFU⟩:∃z,Hid (z=f u):=⟨_,Lib.hid rfl⟩
             obtain⟨ha1,ha2,ha3⟩:=HYA.out q hqn t ht4;rw[←HU.out]at ha1 ha2 ha3;rw[HXC.out]at ha1;have HAR:Hid (arcI xa xb xc xd t=(u:Nat)):=Lib.hid ha1
             have hfu:fu≤1000:=by have:=hfle.out u;have:=HFU.out;omega
             have b1:(0:Int)≤(u:Int):=by omega
             have b2:(u:Int)<(mm:Int):=by omega
             have HSK:Hid (∀wz (l:List Nat),WS w wz rb cB rB dB mB mm f L (.slice (some ⟨gv,0,none⟩) nk cv) Y l→wz.heap[Bx]?=some (.cells #[.int .i64 xa,.int .i64 xb,.int .i64 xc,.int .i64 xd,.bool xp] 41 (0,0)) →
              wz.cell? ⟨Bx,0,none⟩=some (.int .i64 xa)∧wz.cell? ⟨Bx,1,none⟩=some (.int .i64 xb)∧wz.cell? ⟨Bx,2,none⟩=some (.int .i64 xc)∧wz.cell? ⟨Bx,3,none⟩=some (.int .i64 xd)∧wz.cell? ⟨Bx,4,none⟩=some (.bool xp) ∧
              wz.cell? ⟨cB,0,none⟩=some (.slice (some ⟨rB,0,none⟩) mm mm)∧wz.cell? ⟨rB,u,none⟩=some (.int .i64 (fu:Nat))):=Lib.hid (fun wz l h1 h2=>by
              obtain⟨g1,g2,g3,g4,g5⟩:=five_c h2
              refine⟨g1,g2,g3,g4,g5,h1.c1,?_⟩
              have:=h1.row.cell (i:=u) ha2;simp only[numFn]at this
              rw[this,HFU.out])
             clear ha1 ha3 hws hlm;go_wp2_with fail;have HR0:Hid (WS w wr.drew rb cB rB dB mB mm f L (.slice (some ⟨gv,0,none⟩) nk cv) Y l):=Lib.hid (HW.out.nw (Fr.refl _ wr).drew);have HB0':Hid (wr.drew.heap[Bx]?=some (.cells #[.int .i64 xa,.int .i64 xb,.int .i64 xc,.int .i64 xd,.bool xp] 41 (0,0))):=Lib.hid HB.out;have hS0:=HSK.out _ _ HR0.out HB0'.out
             refine wp_region_held_drew (S:=fun wz=>wz.cell? ⟨Bx,0,none⟩=some (.int .i64 xa)∧wz.cell? ⟨Bx,1,none⟩=some (.int .i64 xb)∧wz.cell? ⟨Bx,2,none⟩=some (.int .i64 xc)∧wz.cell? ⟨Bx,3,none⟩=some (.int .i64 xd)∧wz.cell? ⟨Bx,4,none⟩=some (.bool xp) ∧
              wz.cell? ⟨cB,0,none⟩=some (.slice (some ⟨rB,0,none⟩) mm mm)∧wz.cell? ⟨rB,u,none⟩=some (.int .i64 (fu:Nat))) (by kernel_rfl) hS0 (fun hHeld=>?_)
             clear hS0;generalize wr.drew=r0 at hHeld HR0 HB0' ⊢
             refine' sq 0 (h:=sq 1 (h:=sq 2 (h:=sq 3 (h:=?_))))
             refine rdO (i:=4) (fun K hK=>?_);(try simp only[lq1,lq2,lq3]);go_simp;refine(arc_any xa xb xc xd xp t _ ht4).mono ?_;rintro e r1 ⟨rfl,hF⟩;rw[HAR.out];have HR1:=Lib.hid (HR0.out.nw hF);have HB1:=Lib.hid (hF.blk HB0'.out fun x=>x);clear hF;go_wp2_with fail;refine hK.out _ _ (HSK.out _ _ HR1.out HB1.out) (fun hHeld=>?_);clear hK K;(try simp only[Act.put,lq1,lq2,lq3,lq4,lq5,lq6])
             refine' sq 5 (h:=sq 6 (h:=?_))
             refine rdO (i:=7) (fun K hK=>?_);(try simp only[lq1,lq2,lq3]);rw[if_pos (by rfl)];obtain⟨D,hown,hm1,hm2⟩:=HR1.out.map
             refine wp_mapUpdate_own _ _ _ _ 94 rfl 3 4 Tryz.law3 Tryz.ul94 _ mB l.length _ rfl hown (by unfold maxLen;omega) _ _ _ rfl rfl (Maps.keyOf_int_mk Tryz.underlying3 (wfN hfu)) _ [] (plainElem_bool Tryz.ul4 true) ?_
             intro r2 hown2 hg2
             have HR2:=Lib.hid (HR1.out.mark hg2 rfl (LeftMap.put hm1 hm2 hown2));have HB2:Hid (r2.heap[Bx]?=some (.cells #[.int .i64 xa,.int .i64 xb,.int .i64 xc,.int .i64 xd,.bool xp] 41 (0,0))):=Lib.hid (((Fr.refl (fun k=>k=mB) r1).grown hg2 fun k e=>.inl (Option.some.inj e).symm).blk HB1.out fun e=>map_ne_blk HR1.out.map HB1.out e.symm);clear hown hm1 hm2 hown2 hg2 D;refine hK.out _ _ (HSK.out _ _ HR2.out HB2.out) (fun hHeld=>?_);clear hK K;(try simp only[Act.put,lq1,lq2,lq3,lq4,lq5,lq6]);refine wpAnyH_done (by kernel_rfl) ?_ _
             have HT1:Hid (∃l,WS w r2 rb cB rB dB mB mm f L (.slice (some ⟨gv,0,none⟩) nk cv) Y l∧l.length=q*4+(t+1)∧∀r,r∈l↔markS Y f q (t+1) r):=Lib.hid ⟨_,HR2.out,by rw[List.length_append];simp;omega,fun r=>by
              rw[markS_step ht4,List.mem_append,List.mem_singleton,HLM.out r,HFU.out,HU.out]⟩
             go_wp2
             go_roundw
             case rel=>exact⟨t+1,by omega,by go_num,HB2,HT1⟩
             case measure=>simp[intOf];omega
           · obtain rfl:4=t:=by omega
             go_wp2
             go_roundw
             case rel=>
              obtain⟨l,h1,h2,h3⟩:=HT.out
              exact⟨q+1,by omega,by go_num,Lib.hid ⟨l,h1,by omega,fun r=>(h3 r).trans markS_next⟩⟩
             case measure=>simp[intOf];omega
        · obtain rfl:nk=q:=by omega
          obtain⟨l,hws,hll,hlm⟩:=HQ.out;have HW:=Lib.hid hws
          have HLM:Hid (∀r,r∈l↔Kn.leftB X f gone r=true):=Lib.hid (fun r=>by
           rw[hlm r,HNK.out,HY.out]
           exact markS_left HN.out f r)
          clear hws hlm HQ HI
          have hmk2:∀w,(Instr.makeSlice 78 (.int .i64 (mm:Int)) (.int .i64 (mm:Int))).run Tryz.prog w=.ok (.slice (some ⟨w.heap.size,0,none⟩) mm mm) (w.alloc (.cells (madeCells #[.int .i64 0] mm) 3)):=fun w=>
           run_make_row' (P:=Tryz.prog) 78 3 (.int .i64 0) 8 Tryz.underlying78 Tryz.info3 rfl .i64 .i64 mm (by omega) (by omega) w
          have z0:=HW.out.c1;go_wp2;clear z0
          obtain⟨w7,HW7⟩:∃w7,Hid (w7=(wr.alloc (.cells (madeCells #[.int .i64 0] mm) 3)).alloc (.cells #[.slice (some ⟨wr.heap.size,0,none⟩) mm mm] 78)):=⟨_,Lib.hid rfl⟩
          obtain⟨nB,HNB⟩:∃B,Hid (B=wr.heap.size+1):=⟨_,Lib.hid rfl⟩
          obtain⟨qB,HQB⟩:∃B,Hid (B=wr.heap.size):=⟨_,Lib.hid rfl⟩
          have HK0:Hid (WT w w7 rb cB rB dB mB mm nB qB f (numTo X f gone 1) (L+(ringC X f gone 0:Nat)) (.slice av nk cv) Y l):=Lib.hid (by
           have h2:=World.rowIs_made wr (.int .i64 0) mm 3;have h3:=heap_alloc_new (wr.alloc (.cells (madeCells #[.int .i64 0] mm) 3)) (.cells #[.slice (some ⟨wr.heap.size,0,none⟩) mm mm] 78);rw[World.size_alloc]at h3;have hz:=HW.out.new.size
           have hN1:New wr w7:=by rw[HW7.out];exact((Fr.refl _ wr).alloc _).alloc _
           have hrow:=HW.out.row
           have hnq:¬rB=wr.heap.size:=by
            obtain⟨cs,k1,_⟩:=hrow;have:=(Array.getElem?_eq_some_iff.1 k1).1
            omega
           refine⟨?_,by rw[HW7.out,HNB.out,HQB.out];exact h3,?_,by rw[HQB.out];omega,by rw[HQB.out];exact hnq⟩
           · have e0:L+((ringC X f gone 0:Nat):Int)=L:=by show L+((0:Nat):Int)=L;omega
             rw[e0]
             exact HW.out.nw hN1
           · rw[HW7.out,HQB.out]
             refine((Fr.refl (fun _=>False) _).alloc _).row (rowIs_congr h2 fun j _=>?_) fun x=>x
             unfold numFn numTo
             rw[if_neg (by omega)];rfl)
          rw[←HW7.out,←HNB.out];rw[←HQB.out]at HW7 ⊢;clear HW7 HNB HQB HW hmk2
          go_loopw [22,23] (fun o i wr=>∃a v cn:Nat,1≤a∧a≤mm∧i=.int .i64 a∧o=.int .i64 cn∧Hid (a=v+1)∧Hid (cn=Kn.numF X f gone v)∧Hid (WT w wr rb cB rB dB mB mm nB qB f (numTo X f gone a) (L+(ringC X f gone v:Nat)) (.slice av nk cv) Y l)) (fun _ i _=>mm-(intOf i).toNat)
          case atStart=>exact⟨1,0,0,by omega,by have:=HMM.out;omega,rfl,rfl,Lib.hid rfl,Lib.hid rfl,HK0⟩
          case round=>
           obtain⟨a,v,cn,ha1,ha2,rfl,rfl,HAV,HCN,HK⟩:=hrel
           have hcn:cn≤40:=by have h1:=HCN.out;have h2:=numF_le X f gone v;have h3:=HAV.out;omega
           obtain⟨LV,HLV⟩:∃q:Int,Hid (q=L+(ringC X f gone v:Nat)):=⟨_,Lib.hid rfl⟩
           have hlv1:-2000≤LV:=by have h1:=HLV.out;omega
           have hlv2:LV≤2000:=by have h1:=HLV.out;have h2:=ringC_le X f gone v;have h3:=HAV.out;omega
           rw[←HLV.out]at HK
           by_cases ham:a<mm
           · have q0:=HK.out.ws.c1
             have q1:=HK.out.ws.row.cell (i:=a) ham
             obtain⟨fa,HFA⟩:∃q,Hid (f a=q):=⟨_,Lib.hid rfl⟩
             simp only[numFn,HFA.out]at q1
             have b5:(0:Int)≤(a:Int):=by omega
             have b6:(a:Int)<(mm:Int):=by omega
             have ha1000:a≤1000:=by omega
             by_cases hfa:a=fa
             · subst hfa
               obtain⟨lb,HLB⟩:∃lb,Hid (Kn.leftB X f gone a=lb):=⟨_,Lib.hid rfl⟩
               have hlook:=HK.out.ws.map.look ha1000
               have hdl:decide (a∈l)=lb:=by rw[←HLB.out,Bool.eq_iff_iff,decide_eq_true_eq];exact HLM.out a
               rw[hdl]at hlook;have HROOT:Hid (Kn.rootB X f gone a=lb):=Lib.hid (by unfold Kn.rootB;rw[HFA.out,HLB.out];simp)
               have HNF:Hid (Kn.numF X f gone a=cn+if lb then 1 else 0):=Lib.hid (by
                have h1:=HROOT.out;have h2:=HCN.out;have h3:=HAV.out
                rw[h2,h3,Kn.numF_succ,←h3,h1])
               have HRC:Hid (ringC X f gone a=ringC X f gone v+if lb then 0 else 1):=Lib.hid (by
                have h3:=HAV.out;have h4:=HFA.out;have h5:=HLB.out;rw[h3,ringC_succ,←h3,h4,h5]
                cases lb<;>simp)
               clear hdl
               cases lb
               · obtain⟨_,d1,_,d3⟩:=box2_c HK.out.ws.dia
                 go_wp2
                 go_roundw
                 case rel=>
                  refine⟨a+1,a,cn,by omega,by omega,by go_num,rfl,Lib.hid rfl,Lib.hid (by have:=HNF.out;simp at this;omega),Lib.hid ?_⟩
                  have h1:=(HK.out.ring (LV+1)).congr (g':=numTo X f gone (a+1)) fun x _=>numTo_skip HROOT.out x
                  have h2:LV+1=L+(ringC X f gone a:Nat):=by have h3:=HRC.out;have h4:=HLV.out;simp at h3;omega
                  rw[←h2]
                  exact h1
                 case measure=>simp[intOf];omega
               · have n0:=HK.out.c2
                 have n1:=HK.out.nrow.cell (i:=a) ham;have n2:=HK.out.nrow.frozen a
                 obtain⟨na,HNA⟩:∃q,Hid (numTo X f gone a a=q):=⟨_,Lib.hid rfl⟩
                 simp only[numFn,HNA.out]at n1;go_wp2
                 go_roundw
                 case rel=>
                  refine⟨a+1,a,cn+1,by omega,by omega,by go_num,by go_num,Lib.hid rfl,Lib.hid (by have:=HNF.out;simp at this;omega),Lib.hid ?_⟩
                  have h1:=(HK.out.set a (cn+1)).congr (g':=numTo X f gone (a+1)) fun x _=>by
                   rw[numTo_put ha1 HROOT.out,HNF.out];rfl
                  have h2:LV=L+(ringC X f gone a:Nat):=by have h3:=HRC.out;have h4:=HLV.out;simp at h3;omega
                  rw[←h2]
                  exact h1
                 case measure=>simp[intOf];omega
             · have hb:((fa:Int)==(a:Int))=false:=by simp;omega
               have hbi:¬(fa:Int)=(a:Int):=by omega
               have HROOT:Hid (Kn.rootB X f gone a=false):=Lib.hid (by unfold Kn.rootB;rw[HFA.out,decide_eq_false (fun e=>hfa e.symm)];rfl)
               have HNF:Hid (Kn.numF X f gone a=cn):=Lib.hid (by
                have h1:=HROOT.out;have h2:=HCN.out;have h3:=HAV.out
                rw[h2,h3,Kn.numF_succ,←h3,h1];simp)
               have HRC:Hid (ringC X f gone a=ringC X f gone v):=Lib.hid (by
                have h3:=HAV.out;have h4:=HFA.out
                rw[h3,ringC_succ,←h3,h4,decide_eq_false (fun e=>hfa e.symm)];simp)
               go_wp2
               go_roundw
               case rel=>
                refine⟨a+1,a,cn,by omega,by omega,by go_num,rfl,Lib.hid rfl,Lib.hid HNF.out.symm,Lib.hid ?_⟩
                have h1:=HK.out.congr (g':=numTo X f gone (a+1)) fun x _=>numTo_skip HROOT.out x
                have h2:LV=L+(ringC X f gone a:Nat):=by rw[HRC.out];exact HLV.out
                rw[←h2]
                exact h1
               case measure=>simp[intOf];omega
           · obtain rfl:mm=a:=by omega
             have q0:=HK.out.ws.c1;obtain⟨d0,_,_,_⟩:=box2_c HK.out.ws.dia
             have HRT:Hid (∀q,q<nk→∀s,s<4→numTo X f gone mm (f (Kn.arcN Y (q,s)))=Kn.numF X f gone (f (Kn.arcN Y (q,s)))):=Lib.hid (fun q hq s hs=>by
              obtain⟨_,k2,k3⟩:=HYA.out q hq s hs
              obtain⟨_,hR⟩:∃E,Kn.Rep f E:=by rw[HFc.out,HN.out];exact HRP.out
              have h1:=hR.pos _ k3;have h2:=hR.le (Kn.arcN Y (q,s))
              have h3:Kn.rootB X f gone (f (Kn.arcN Y (q,s)))=true:=by
               unfold Kn.rootB
               rw[hR.idem,decide_eq_true rfl,Bool.true_and,←markS_left HN.out];rw[←HY.out,←HNK.out]
               exact⟨q,s,hs,.inl hq,rfl⟩
              unfold numTo
              rw[if_pos ⟨h1,by omega,h3⟩])
             have HRN:Hid (LV=L+(Kn.ringN X (CF X.length) gone:Nat)):=Lib.hid (by
              have h1:=HLV.out
              have h2:v=Kn.nArcs X:=by have h3:=HAV.out;have h4:=HMM.out;have h5:=HM.out;omega
              rw[h2]at h1;rw[←HN.out,←HFc.out]
              exact h1)
             have HZ0:Hid (WT w wr rb cB rB dB mB mm nB qB f (numTo X f gone mm) LV (.slice av nk cv) (mapTo (fun x=>x.ren fun a=>Kn.numF X f gone (f a)) Y 0) l):=Lib.hid (by rw[mapTo_zero];exact HK.out);clear HK HLV HCN HAV;go_wp2;clear q0 d0
             obtain⟨w8,rfl⟩:∃w8,w8=wr:=⟨_,rfl⟩
             go_loopw [168] (fun i wr=>∃q:Nat,q≤nk∧i=.int .i64 q∧Hid (WT w wr rb cB rB dB mB mm nB qB f (numTo X f gone mm) LV (.slice av nk cv) (mapTo (fun x=>x.ren fun a=>Kn.numF X f gone (f a)) Y q) l)) (fun i _=>nk-(intOf i).toNat)
             case atStart=>exact⟨0,by omega,rfl,HZ0⟩
             case round=>
              obtain⟨q,hq,rfl,HZ⟩:=hrel
              by_cases hqn:q<nk
              · have hqY:q<Y.length:=by have:=HNK.out;omega
                obtain⟨gv,e0⟩:∃gv,av=some ⟨gv,0,none⟩:=by
                 rcases HZ.out.ws.own.2 with⟨_,h0'⟩|⟨g,cap,cur,e,_⟩
                 · rw[mapTo_len]at h0';have:=HNK.out;omega
                 · injection e with e1 _ _;exact⟨g,e1⟩
                subst e0;obtain⟨xa,xb,xc,xd,xp,HXC⟩:=Kn.cr_parts' Y q
                obtain⟨na,HNA⟩:∃z,Hid (z=Kn.arcN Y (q,0)):=⟨_,Lib.hid rfl⟩
                obtain⟨nb,HNB⟩:∃z,Hid (z=Kn.arcN Y (q,1)):=⟨_,Lib.hid rfl⟩
                obtain⟨nc,HNC⟩:∃z,Hid (z=Kn.arcN Y (q,2)):=⟨_,Lib.hid rfl⟩
                obtain⟨nd,HND⟩:∃z,Hid (z=Kn.arcN Y (q,3)):=⟨_,Lib.hid rfl⟩
                obtain⟨ha1,bna,_⟩:=HYA.out q hqn 0 (by omega);obtain⟨hb1,bnb,_⟩:=HYA.out q hqn 1 (by omega);obtain⟨hc1,bnc,_⟩:=HYA.out q hqn 2 (by omega);obtain⟨hd1,bnd,_⟩:=HYA.out q hqn 3 (by omega);rw[←HNA.out]at ha1 bna;rw[←HNB.out]at hb1 bnb;rw[←HNC.out]at hc1 bnc;rw[←HND.out]at hd1 bnd;rw[HXC.out]at ha1 hb1 hc1 hd1;have ha1:xa=(na:Nat):=ha1;have hb1:xb=(nb:Nat):=hb1;have hc1:xc=(nc:Nat):=hc1;have hd1:xd=(nd:Nat):=hd1;subst ha1 hb1 hc1 hd1
                obtain⟨ea,HEa⟩:∃e,Hid (numTo X f gone mm (f na)=e):=⟨_,Lib.hid rfl⟩
                obtain⟨eb,HEb⟩:∃e,Hid (numTo X f gone mm (f nb)=e):=⟨_,Lib.hid rfl⟩
                obtain⟨ec,HEc⟩:∃e,Hid (numTo X f gone mm (f nc)=e):=⟨_,Lib.hid rfl⟩
                obtain⟨ed,HEd⟩:∃e,Hid (numTo X f gone mm (f nd)=e):=⟨_,Lib.hid rfl⟩
                have HRF:Hid ((Kn.cr Y q).ren (fun a=>Kn.numF X f gone (f a))=⟨(ea:Nat),(eb:Nat),(ec:Nat),(ed:Nat),xp⟩):=Lib.hid (by
                 rw[HXC.out]
                 unfold Kn.Cr.ren
                 simp only[Int.toNat_natCast];have h1:=HRT.out q hqn 0 (by omega);have h2:=HRT.out q hqn 1 (by omega);have h3:=HRT.out q hqn 2 (by omega);have h4:=HRT.out q hqn 3 (by omega);rw[←HNA.out,HEa.out]at h1;rw[←HNB.out,HEb.out]at h2;rw[←HNC.out,HEc.out]at h3;rw[←HND.out,HEd.out]at h4
                 rw[←h1,←h2,←h3,←h4])
                have bfa:f na<mm:=Nat.lt_of_le_of_lt (hfle.out na) bna;have bfb:f nb<mm:=Nat.lt_of_le_of_lt (hfle.out nb) bnb;have bfc:f nc<mm:=Nat.lt_of_le_of_lt (hfle.out nc) bnc;have bfd:f nd<mm:=Nat.lt_of_le_of_lt (hfle.out nd) bnd
                have HOWN:Hid (∀wz,WT w wz rb cB rB dB mB mm nB qB f (numTo X f gone mm) LV (.slice (some ⟨gv,0,none⟩) nk cv) (mapTo (fun x=>x.ren fun a=>Kn.numF X f gone (f a)) Y q) l→CrAt wz gv (q*5) ⟨(na:Nat),(nb:Nat),(nc:Nat),(nd:Nat),xp⟩):=Lib.hid (fun wz hz=>by
                 have hown:=hz.ws.own;rw[mapTo_len,←HNK.out]at hown;have hx5:=own_five hown (by rw[mapTo_len];exact HNK.out) (j:=q) (by rw[mapTo_len];exact hqY);rw[mapTo_cr hqY,HXC.out]at hx5
                 exact hx5)
                have HFZ:Hid (∀wz,WT w wz rb cB rB dB mB mm nB qB f (numTo X f gone mm) LV (.slice (some ⟨gv,0,none⟩) nk cv) (mapTo (fun x=>x.ren fun a=>Kn.numF X f gone (f a)) Y q) l→∀j,wz.frozen? ⟨gv,j,none⟩=false):=Lib.hid (fun wz hz j=>by
                 have hown:=hz.ws.own;rw[mapTo_len,←HNK.out]at hown
                 exact own_free hown j)
                obtain⟨x1,x2,x3,x4,x5⟩:=HOWN.out _ HZ.out
                have i1:(0:Int)≤(q:Int):=by omega
                have i2:(q:Int)<(nk:Int):=by omega
                have hgl:gv<wr.heap.size:=by
                 rcases HZ.out.ws.own.2 with⟨h0',_⟩|⟨g,cap,cur,e,_,h5,_⟩
                 · cases h0'
                 · injection e with e1 _ _
                   injection e1 with e1
                   injection e1 with e1 _ _
                   subst e1
                   exact(Array.getElem?_eq_some_iff.1 h5).1
                go_wp2_with fail;clear x1 x2 x3 x4 x5
                obtain⟨wo,HWO⟩:∃wo,Hid (wo=wr.alloc (.cells #[.int .i64 (na:Nat),.int .i64 (nb:Nat),.int .i64 (nc:Nat),.int .i64 (nd:Nat),.bool xp] 41)):=⟨_,Lib.hid rfl⟩
                obtain⟨Bx,HBX⟩:∃B,Hid (B=wr.heap.size):=⟨_,Lib.hid rfl⟩
                rw[←HWO.out,←HBX.out]
                have hBg:¬Bx=gv:=by have:=HBX.out;omega
                have HBo:Hid (wo.drew.heap[Bx]?=some (.cells #[.int .i64 (na:Nat),.int .i64 (nb:Nat),.int .i64 (nc:Nat),.int .i64 (nd:Nat),.bool xp] 41 (0,0))):=Lib.hid (by
                 have h1:wo.heap[Bx]?=some (.cells #[.int .i64 (na:Nat),.int .i64 (nb:Nat),.int .i64 (nc:Nat),.int .i64 (nd:Nat),.bool xp] 41 (0,0)):=by rw[HWO.out,HBX.out];exact heap_alloc_new _ _
                 exact h1)
                have HRo:Hid (WT w wo.drew rb cB rB dB mB mm nB qB f (numTo X f gone mm) LV (.slice (some ⟨gv,0,none⟩) nk cv) (mapTo (fun x=>x.ren fun a=>Kn.numF X f gone (f a)) Y q) l):=Lib.hid (by
                 have h1:New wr wo:=by rw[HWO.out];exact(Fr.refl _ wr).alloc _
                 exact HZ.out.nw h1.drew)
                have HSK:Hid (∀wz (Z:List Kn.Cr),WT w wz rb cB rB dB mB mm nB qB f (numTo X f gone mm) LV (.slice (some ⟨gv,0,none⟩) nk cv) Z l→wz.heap[Bx]?=some (.cells #[.int .i64 (na:Nat),.int .i64 (nb:Nat),.int .i64 (nc:Nat),.int .i64 (nd:Nat),.bool xp] 41 (0,0)) →
                 wz.cell? ⟨Bx,0,none⟩=some (.int .i64 (na:Nat))∧wz.cell? ⟨Bx,1,none⟩=some (.int .i64 (nb:Nat))∧wz.cell? ⟨Bx,2,none⟩=some (.int .i64 (nc:Nat))∧wz.cell? ⟨Bx,3,none⟩=some (.int .i64 (nd:Nat))∧wz.cell? ⟨Bx,4,none⟩=some (.bool xp) ∧
                 wz.cell? ⟨dB,0,none⟩=some (.slice (some ⟨gv,0,none⟩) nk cv)):=Lib.hid (fun wz Z h1 h2=>by
                 obtain⟨g1,g2,g3,g4,g5⟩:=five_c h2
                 exact⟨g1,g2,g3,g4,g5,(box2_c h1.ws.dia).1⟩)
                have hS0:=HSK.out _ _ HRo.out HBo.out;clear HWO HBX hgl
                refine wp_region_held_drew (S:=fun wz=>wz.cell? ⟨Bx,0,none⟩=some (.int .i64 (na:Nat))∧wz.cell? ⟨Bx,1,none⟩=some (.int .i64 (nb:Nat))∧wz.cell? ⟨Bx,2,none⟩=some (.int .i64 (nc:Nat))∧wz.cell? ⟨Bx,3,none⟩=some (.int .i64 (nd:Nat))∧wz.cell? ⟨Bx,4,none⟩=some (.bool xp) ∧
                 wz.cell? ⟨dB,0,none⟩=some (.slice (some ⟨gv,0,none⟩) nk cv)) (by kernel_rfl) hS0 (fun hHeld=>?_)
                clear hS0;generalize wo.drew=r0 at hHeld HRo HBo ⊢;have HR0:=HRo;have HB0:=HBo
                refine' sq 0 (h:=sq 1 (h:=sq 2 (h:=sq 3 (h:=sq 4 (h:=sq 5 (h:=sq 7 (h:=sq 8 (h:=sq 9 (h:=sq 11 (h:=sq 12 (h:=sq 13 (h:=sq 15 (h:=sq 16 (h:=sq 17 (h:=sq 19 (h:=sq 20 (h:=?_)))))))))))))))))
                refine rdO (i:=6) (fun K hK=>?_);(try simp only[lq1,lq2,lq3]);go_simp;refine(HR0.out.clo bna bfa HEa.out).mono ?_;rintro e r1 ⟨rfl,hF⟩;have HR1:=Lib.hid (HR0.out.nw hF);have HB1:=Lib.hid (hF.blk HB0.out fun x=>x);clear hF;go_wp2_with fail;refine hK.out _ _ (HSK.out _ _ HR1.out HB1.out) (fun hHeld=>?_);clear hK K;(try simp only[Act.put,lq1,lq2,lq3,lq4,lq5,lq6]);refine rdO (i:=10) (fun K hK=>?_);(try simp only[lq1,lq2,lq3]);go_simp;refine(HR1.out.clo bnb bfb HEb.out).mono ?_;rintro e r2 ⟨rfl,hF⟩
                have HR2:=Lib.hid (HR1.out.nw hF);have HB2:=Lib.hid (hF.blk HB1.out fun x=>x);clear hF;go_wp2_with fail;refine hK.out _ _ (HSK.out _ _ HR2.out HB2.out) (fun hHeld=>?_);clear hK K;(try simp only[Act.put,lq1,lq2,lq3,lq4,lq5,lq6]);refine rdO (i:=14) (fun K hK=>?_);(try simp only[lq1,lq2,lq3]);go_simp;refine(HR2.out.clo bnc bfc HEc.out).mono ?_;rintro e r3 ⟨rfl,hF⟩;have HR3:=Lib.hid (HR2.out.nw hF);have HB3:=Lib.hid (hF.blk HB2.out fun x=>x);clear hF;go_wp2_with fail;refine hK.out _ _ (HSK.out _ _ HR3.out HB3.out) (fun hHeld=>?_)
                clear hK K;(try simp only[Act.put,lq1,lq2,lq3,lq4,lq5,lq6]);refine rdO (i:=18) (fun K hK=>?_);(try simp only[lq1,lq2,lq3]);go_simp;refine(HR3.out.clo bnd bfd HEd.out).mono ?_;rintro e r4 ⟨rfl,hF⟩;have HR4:=Lib.hid (HR3.out.nw hF);have HB4:=Lib.hid (hF.blk HB3.out fun x=>x);clear hF;go_wp2_with fail;refine hK.out _ _ (HSK.out _ _ HR4.out HB4.out) (fun hHeld=>?_);clear hK K;(try simp only[Act.put,lq1,lq2,lq3,lq4,lq5,lq6])
                refine' sq 21 (h:=sq 22 (h:=?_))
                refine rdO (i:=23) (fun K hK=>?_);(try simp only[lq1,lq2,lq3]);obtain⟨x1,x2,x3,x4,x5⟩:=HOWN.out _ HR4.out;have hfz:=HFZ.out _ HR4.out;go_simp;have HP:=Lib.hid (HR4.out.put (k:=q) (x:=⟨(ea:Nat),(eb:Nat),(ec:Nat),(ed:Nat),xp⟩) (by rw[mapTo_len];exact HNK.out) (by rw[mapTo_len];exact hqY));have HB5:=Lib.hid ((fr_set5 r4 gv q (ea:Nat) (eb:Nat) (ec:Nat) (ed:Nat) xp).blk HB4.out hBg);clear x1 x2 x3 x4 x5 hfz;refine hK.out _ _ (HSK.out _ _ HP.out HB5.out) (fun hHeld=>?_);clear hK K
                (try simp only[Act.put,lq1,lq2,lq3,lq4,lq5,lq6]);refine wpAnyH_done (by kernel_rfl) ?_ _
                have HZ1:Hid (WT w (set5 r4 gv q (ea:Nat) (eb:Nat) (ec:Nat) (ed:Nat) xp) rb cB rB dB mB mm nB qB f (numTo X f gone mm) LV (.slice (some ⟨gv,0,none⟩) nk cv) (mapTo (fun x=>x.ren fun a=>Kn.numF X f gone (f a)) Y (q+1)) l):=Lib.hid (by
                 have h1:=mapTo_succ (f:=fun x=>x.ren fun a=>Kn.numF X f gone (f a)) hqY;rw[←h1]
                 show WT _ _ _ _ _ _ _ _ _ _ _ _ _ _ ((mapTo _ Y q).set q ((Kn.cr Y q).ren fun a=>Kn.numF X f gone (f a))) _
                 rw[HRF.out]
                 exact HP.out)
                go_wp2
                go_roundw
                case rel=>exact⟨q+1,by omega,by go_num,HZ1⟩
                case measure=>simp[intOf];omega
              · obtain rfl:nk=q:=by omega
                obtain⟨d0,d1,_,_⟩:=box2_c HZ.out.ws.dia;have hb1:=(box2_set HZ.out.ws.res (.slice av nk cv)).1;have hb2:=(box2_set hb1 (.int .i64 LV)).2;obtain⟨e0,_,z0,_⟩:=box2_c HZ.out.ws.res;obtain⟨_,e1,_,z1⟩:=box2_c hb1;obtain⟨m5,m6,_,_⟩:=box2_c hb2;have HGV:=Lib.hid HZ.out.gave;clear hb1 hb2;go_wp2
                refine bodyPost_ret (v:=.agg #[.slice av nk cv,.int .i64 LV]) (by simp[results,Tryz.results20,go_sem,m5,m6]) rfl ⟨_,by rw[HRN.out],?_,HGV.out.2⟩
                have h1:=HGV.out.1
                have h2:mapTo (fun x=>x.ren fun a=>Kn.numF X f gone (f a)) Y nk=Kn.withL X (CF X.length) gone:=by
                 rw[HNK.out,mapTo_all];rw[withL_map HN.out,←HN.out,←HFc.out,←HY.out]
                rw[h2]at h1
                exact h1
end Go.Proofs.YtlicglicfijelaaGreat
