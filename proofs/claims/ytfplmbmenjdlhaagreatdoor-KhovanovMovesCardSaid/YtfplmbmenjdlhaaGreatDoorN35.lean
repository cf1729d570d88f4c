/- Walks: slide. -/
import Derived.Test.YtfplmbmenjdlhaaGreatDoorN35z
set_option maxRecDepth 100000
set_option maxHeartbeats 16000000
namespace Go.Proofs.YtfplmbmenjdlhaaGreatDoor
open Go.RowKit
open Act (put)
open AllReadyH (cons nil)
open Fr (refl)
open Kn (Cr AH aA ag)
open Go.Proofs.Tryz (prog underlying3)
theorem PR(D b s:Nat)(fv v:Value)(bi bo:Nat)(X:List Cr)(L k a uk u vv:Int)(ub vb ov:Bool)(w:World)(h:BW D w b s fv v bi bo X X L)(hr:Rows kN 0 156 w fv (aA X))(hX:Kn.Ok X)(hl:X.length<=16):
 Calls prog 69 #[.pointer (some ⟨b,0,none⟩),Hl k a uk u vv ub vb ov] w (vQ D b s fv (kB X L a) w):=by
 have HX:=jd hX;have Np:=jd (GJ hX hl);obtain⟨fa,fc,rfl⟩:=hr.sl;obtain⟨nf,DW⟩:=jb ((aA X).length)
 have hnf:nf<=64:=by rw[DW.o];exact Np.o.1
 rw[<-DW.o]at h hr ⊢
 obtain⟨c1,Bw⟩:∃r,Hd (decide (0<=a)=r):=⟨_,jd rfl⟩
 obtain⟨c2,vw⟩:∃r,Hd (decide (a<(nf:Int))=r):=⟨_,jd rfl⟩
 obtain⟨w1,cU⟩:=jb (w.alloc (.cells #[.int .i64 k,.int .i64 a,.int .i64 uk,.int .i64 u,.bool ub,.int .i64 vv,.bool vb,.bool ov] 28));obtain⟨B2,fD⟩:=jb w.heap.size
 have hn:New w w1:=by rw[cU.o];exact(refl _ w).alloc _
 have HN:=jd hn
 have HZ:Hd (w1.heap[B2]?=some (.cells #[.int .i64 k,.int .i64 a,.int .i64 uk,.int .i64 u,.bool ub,.int .i64 vv,.bool vb,.bool ov] 28 (0,0))):=jd (by
  rw[cU.o,fD.o];exact heap_alloc_new _ _)
 have HB:=jd (h.new hn);have Ng:=jd hr
 have j9:Hd (∀r,r=w1.drew->r.cell? ⟨b,1,none⟩=some (.slice fa nf fc)/\r.cell? ⟨B2,1,none⟩=some (.int .i64 a)):=jd λr hr=>by
  subst hr;obtain⟨_,m1,_⟩:=cH (show w1.drew.heap[B2]?=_ from HZ.o);exact⟨(ay HB.o.blk).2.1,m1⟩
 have Xf:Hd ((c1&&c2)=false->∀r,r=w1.drew->vQ D b s (.slice fa nf fc) (kB X L a) w (.panicked (sZ 3)) r):=jd λh0 r hr=>by
  refine⟨by rw[hr];exact(HN.o.drew).mono λ_ h=>h.elim,?_⟩;unfold kB
  rw[Bw.o,<-DW.o,vw.o,h0];rfl
 have hb1:decide (0<=a)=c1:=Bw.o;have hb2:decide (a<(nf:Int))=c2:=vw.o;clear h hr hX hn
 go_enter Tryz.func69,Tryz.ntmps69
 go_wp2_with fail;rw[<-cU.o,<-fD.o]
 refine wp_region_held_drew (S:=λwz=>wz.cell? ⟨b,1,none⟩=some (.slice fa nf fc)/\wz.cell? ⟨B2,1,none⟩=some (.int .i64 a)) (by kernel_rfl) (j9.o _ rfl) (λhHeld=>?_)
 obtain⟨r0,sX⟩:=jb w1.drew;rw[<-sX.o]at hHeld ⊢;cases c1
 · skip
   refine' sq 0 (h:=sq 1 (h:=sq 2 (h:=sq 3 (h:=?_))))
   refine' yG (i:=4) ?_;(try simp only[put,aR,aP,aO,bQ,bP,bO]);refine' yG (i:=5) ?_;(try simp only[put,aR,aP,aO,bQ,bP,bO]);refine' yG (i:=6) ?_;(try simp only[put,aR,aP,aO,bQ,bP,bO]);refine' yG (i:=7) ?_;(try simp only[put,aR,aP,aO,bQ,bP,bO]);refine' yG (i:=8) ?_;(try simp only[put,aR,aP,aO,bQ,bP,bO]);refine' yG (i:=9) ?_;(try simp only[put,aR,aP,aO,bQ,bP,bO]);refine' yG (i:=10) ?_;(try simp only[put,aR,aP,aO,bQ,bP,bO])
   refine' yG (i:=11) ?_;(try simp only[put,aR,aP,aO,bQ,bP,bO])
   refine' sq 12 (h:=?_)
   refine dQ (i:=13) (λK hK=>?_);(try simp only[aR,aP,aO]);go_simp;refine(eH 3 _).mono ?_;rintro e r9 ⟨rfl,rfl⟩;go_wp2;exact⟨rfl,Xf.o (by rfl) _ sX.o⟩
 cases c2
 · skip
   refine' sq 0 (h:=sq 1 (h:=sq 2 (h:=sq 3 (h:=sq 4 (h:=sq 5 (h:=sq 6 (h:=sq 7 (h:=sq 8 (h:=sq 9 (h:=sq 10 (h:=sq 11 (h:=sq 12 (h:=?_)))))))))))))
   refine dQ (i:=13) (λK hK=>?_);(try simp only[aR,aP,aO]);go_simp;refine(eH 3 _).mono ?_;rintro e r9 ⟨rfl,rfl⟩;go_wp2;exact⟨rfl,Xf.o (by rfl) _ sX.o⟩
 refine' sq 0 (h:=sq 1 (h:=sq 2 (h:=sq 3 (h:=sq 4 (h:=sq 5 (h:=sq 6 (h:=sq 7 (h:=sq 8 (h:=sq 9 (h:=sq 10 (h:=sq 11 (h:=sq 12 (h:=?_)))))))))))))
 refine dQ (i:=13) (λK hK=>?_);(try simp only[aR,aP,aO]);go_simp;refine(fP 3 _).mono ?_;rintro e r9 ⟨rfl,hw⟩;rw[hw];clear hw r9;go_wp2_with fail;refine hK.out _ _ (j9.o _ sX.o) (λhHeld=>?_);clear hK K;(try simp only[put,aR,aP,aO,bQ,bP,bO]);refine wpAnyH_done (by kernel_rfl) ?_ _;(try dsimp only);have h1:0<=a:=jl Bw.o;have h2:a<(nf:Int):=jl vw.o
 obtain⟨an,rfl⟩:∃n:Nat,a=n:=⟨a.toNat,by omega⟩
 have Sc:an<(aA X).length:=by rw[<-DW.o];omega
 have gQ:Hd (New w r0):=jd (by rw[sX.o];exact HN.o.drew)
 have zt:New w1 r0:=by rw[sX.o];exact(refl _ _).drew
 have eU:=jd (HB.o.new zt);have Kw:=jd (zt.blk HZ.o λx=>x);clear hHeld zt sX HN HB HZ cU fD hb1 hb2 Xf j9
 have hfp:0<nf:=by omega
 obtain⟨g,c',fs,he,hcell,hown⟩:=Ng.o.at Sc;rw[<-DW.o]at he;cases he;obtain⟨f,HF⟩:=jb ((aA X)[an]);rw[<-HF.o]at hown;have HFM:Hd (f∈aA X):=jd (by rw[HF.o];exact jM Sc)
 have Ha:Hd (mJ X (an:Nat)=f):=jd (by
  unfold mJ
  rw[Int.toNat_natCast,jc,je Sc,HF.o];rfl)
 have HU:Hd (kB X L (an:Nat)=if Kn.dS X f then .ok (Kn.aN X (f.map (·.1))) L else .no 8):=jd (by
  unfold kB;rw[Ha.o,if_pos]
  rw[Bw.o,<-DW.o,vw.o];rfl)
 have HO:=jd hown;obtain⟨_,p1,_⟩:=ay eU.o.blk;obtain⟨_,p2,_⟩:=cH Kw.o
 have p3:=gQ.o.cell hcell λx=>x
 obtain⟨sa,sc,rfl,hcs⟩:=hown.cells;have HCS:=jd hcs;obtain⟨lf,ZV⟩:=jb f.length;rw[<-ZV.o]at p3 HO
 have i1:(0:Int)<=(an:Int):=by omega
 have i2:(an:Int)<(nf:Int):=h2;clear hown hcs hcell;go_wp2_with fail
 go_quiet (fail)
 obtain⟨w2,AM⟩:=jb (r0.drewN nq);rw[<-AM.o]
 have adI:New r0 w2:=by rw[AM.o];exact(refl _ _).drewN _
 have kZ:=jd (gQ.o.trans adI);have fD:=jd (eU.o.new adI);clear adI AM gQ eU Kw HCS p1 p2 p3 i1 i2
 obtain⟨q,HQ⟩:∃q,Hd (Kn.dS X f=q):=⟨_,jd rfl⟩
 have CS:=jd (Ll b s (.slice (some ⟨g,0,none⟩) nf fc) (.slice sa lf sc) X L f w2 fD.o.at HX.o hl (kZ.o.owns HO.o λ_ _ x=>x) (λd hd=>HX.o.fQ HFM.o hd));rw[HQ.o]at CS;go_wp2_with fail
 refine CS.o.mono ?_
 rintro e w3 ⟨rfl,hN⟩;have pO:=jd (kZ.o.trans hN);have kQ:=jd (fD.o.new hN);clear hN kZ fD CS;cases q
 · go_wp2_with fail
   refine(eH 8 _).mono ?_;rintro e w4 ⟨rfl,rfl⟩;go_wp2;refine⟨rfl,pO.o.mono λ_ h=>h.elim,?_⟩
   rw[HU.o,HQ.o];rfl
 go_wp2_with fail;refine(fP 8 _).mono ?_;rintro e w4 ⟨rfl,hw⟩;rw[hw];clear hw w4
 have hf3:f.length=3:=by
  have h1:=HQ.o;unfold Kn.dS at h1;simp only[jp,jh]at h1;exact h1.1.1.1
 obtain rfl:lf=3:=by rw[ZV.o];exact hf3
 have qY:=jd hf3;clear hf3 ZV;obtain⟨DD,hT,hE,hM⟩:=Kn.vT HX.o HFM.o HQ.o;have HT:=jd hT;have HE:=jd hE;clear hT hE hM
 have Mr:0<X.length:=by have h1:=HT.o.ie 0;have h2:=h1.1;have h3:=h1.2;unfold ag at h3;omega
 obtain⟨gv,cv,rfl,hDg⟩:=kQ.o.sl Mr;obtain⟨n,nM⟩:=jb X.length;rw[<-nM.o]at kQ
 have vo:n<=16:=by have:=nM.o;omega
 have Ai:=@run_makeMap prog;go_wp2_with fail;obtain⟨mb,uq⟩:=jb w3.heap.size;obtain⟨w4,We⟩:=jb (w3.alloc (.map #[] 0))
 have adH:New w3 w4:=by rw[We.o];exact(refl _ w3).alloc _
 have Wh:Hd (Zu D w w4 b s (.slice (some ⟨g,0,none⟩) nf fc) (.slice (some ⟨gv,0,none⟩) n cv) bi bo X L mb 0 (sT X [])):=jd ⟨kQ.o.new adH,by rw[We.o,uq.o];exact iX.made w3,pO.o.trans adH,by rw[uq.o];exact pO.o.size⟩;rw[<-We.o,<-uq.o];clear adH We uq pO kQ Ai;obtain⟨mm,vP⟩:=jb (bA X)
 go_loopw [45] (λi wr=>∃k:Nat,k<=3/\i=.int .i64 k/\Hd (Zu D w wr b s (.slice (some ⟨g,0,none⟩) nf fc) (.slice (some ⟨gv,0,none⟩) n cv) bi bo X L mb (k*4) (sT X ((f.take k).map (·.1))))) (λi _=>3-(intOf i).toNat)
 case atStart=>exact⟨0,by omega,rfl,Wh⟩
 case round=>
 obtain⟨k,hk,rfl,Wh⟩:=hrel;by_cases hlt:k<3;rotate_left
 · have hk3:k=3:=by omega
   subst hk3;rw[show f.take 3=f from List.take_of_length_le (by rw[qY.o];omega)]at Wh
   have YG:¬((3:Nat):Int)<3:=by omega
   obtain⟨DD,HOW,Xp⟩:∃DD,Hd (wr.ownsMap prog 158 (plainElem prog 3) mb (3*4) DD)/\Hd (Dz DD (sT X (f.map (·.1)))):=by
    obtain⟨DD,h1,h2⟩:=Wh.o.now;exact⟨DD,jd h1,jd h2⟩
   have u9:=jd Wh.o.bw;have oW:=jd Wh.o.new;have ZU:=jd Wh.o.lm;obtain⟨fm,aeJ⟩:=jb (sT X (f.map (·.1)));rw[<-aeJ.o]at Xp;have HD4:Hd (D<=wr.heap.size):=jd (by have h1:=u9.o.lb;have h2:=u9.o.blk;have h3:=(jf.1 h2).1;omega);clear Wh
   go_wp2_with (first
    |(at_range;refine wpList_range_own _ rfl _ 188 rfl 158 3 Tryz.og Tryz.Er _ mb (3*4) DD rfl HOW.o ?_;intro w8 hrg0 hg0 hs0)
    |fail)
   (try go_frame);obtain⟨r,HR⟩:=jb wr.heap.size;rw[<-HR.o]at hrg0 ⊢;have QX:New wr w8:=⟨hg0.os,hg0.tape,hg0.output,hg0.size,λi hi _=>hg0.block i hi (by simp)⟩;have Kz:Hd (SlW D w w8 b s (.slice (some ⟨g,0,none⟩) nf fc) (.slice (some ⟨gv,0,none⟩) n cv) bi bo X X L mb r (3*4) fm DD (Go.Maps.has DD) (Go.Maps.size DD)):=jd ⟨u9.o.new QX,Zt.start X Xp.o,hrg0,Xp.o,λ_ h=>h,((oW.o.trans QX).mono λ_ x=>x.elim),by rw[HR.o];exact HD4.o⟩;clear hrg0 hg0 hs0 QX HOW
   go_loopw [108] (λ_ wx=>∃(Z:List Cr) (left:Lit->Bool) (cnt:Nat),Hd (SlW D w wx b s (.slice (some ⟨g,0,none⟩) nf fc) (.slice (some ⟨gv,0,none⟩) n cv) bi bo X Z L mb r (3*4) fm DD left cnt)) (λ_ wx=>wx.rangeLeft mb r)
   case atStart=>exact⟨X,_,_,Kz⟩
   case round=>
   obtain⟨Z,left,cnt,Kz⟩:=hrel;have Yx:=Kz.o.rg
   go_wp2_with (first
    |(at_next;refine Av rfl _ rfl mb r (3*4) DD fm left cnt rfl Yx Xp.o Kz.o.sub ?_ ?_)
    |fail)
   · intro hl0
     clear Yx;go_wp2_with fail;go_end0;have hZ:Z=Kn.aN X (f.map (·.1)):=(aeJ.o ▸ Kz.o.z).done hl0 HT.o HE.o hl;rw[HU.o,HQ.o,if_pos rfl,<-hZ];exact Kz.o.bw.gave Kz.o.fr
   intro pc ps av kl wy cnt' CU hvv ahs YF hFy hen;have ap0:=jd CU;have HVV:=jd hvv;have ajb:=jd ahs;obtain⟨hb0,hf0⟩:=Kz.o.turn hFy;have HBY:=jd hb0;have HFY:=jd hf0;have HMS:=jd (Yx.left_eq);clear CU hvv ahs hFy hb0 hf0 Yx
   have Be:=Yd HX.o (f.map (·.1)) (λe he=>by
    obtain⟨d,hd,rfl⟩:=jv.1 he
    exact HX.o.fQ HFM.o hd) (pc,ps) av (by rw[<-aeJ.o];exact HVV.o)
   have Xk:=jd Be.1
   have R9:pc<n:=by rw[nM.o];exact Be.1.1
   have KY:ps<4:=Be.1.2
   have hnZ:n=Z.length:=by rw[Kz.o.z.len];exact nM.o
   clear Be;go_upto_region 18 with fail;clear hen;obtain⟨Sw,ZA⟩:=jb (wy.alloc (.cells #[.int .i64 (pc:Nat),.int .i64 (ps:Nat)] 158));obtain⟨B14,aeS⟩:=jb wy.heap.size
   have MD:New wy Sw:=by rw[ZA.o];exact(refl _ wy).alloc _
   have ah3:Sw.heap[B14]?=some (.cells #[.int .i64 (pc:Nat),.int .i64 (ps:Nat)] 158 (0,0)):=by rw[ZA.o,aeS.o];exact heap_alloc_new _ _
   have HSY:Hd (SlW D w Sw b s (.slice (some ⟨g,0,none⟩) nf fc) (.slice (some ⟨gv,0,none⟩) n cv) bi bo X Z L mb r (3*4) fm DD left cnt->True):=jd λ_=>trivial
   have HBW:=jd (HBY.o.new MD);have Ld:=jd (EC ajb.o MD (λx=>x) (λx=>x));have HFX:=jd (HFY.o.trans (MD.mono λ_ x=>x.elim));rw[<-ZA.o,<-aeS.o];obtain⟨aou,aot,_⟩:=ay ah3;clear MD ZA aeS HSY HBY ajb HFY ah3;go_wp2_with fail;clear aou aot;refine(AY D b s (.slice (some ⟨g,0,none⟩) nf fc) gv cv bi bo n pc ps X Z L (av:Nat) Sw HBW.o hnZ vo R9 KY).mono ?_;rintro e w11 ⟨rfl,hF,hB⟩;have hR:=Lt Ld.o HBW.o.own hF;have aje:=jd hR
   have apW:=jd (HFX.o.trans (hF.mono λi hi=>by
    rw[hi];exact hDg))
   have Ej:=jd hB;clear hF hB hR Ld HBW;go_wp2_with fail;go_roundw
   case rel=>exact⟨_,_,cnt',jd ⟨Ej.o,Kz.o.z.step ap0.o Xk.o HVV.o,aje.o,Kz.o.now,λkl hk=>Kz.o.sub kl (by simp only[jp]at hk;exact hk.1),apW.o,Kz.o.lr⟩⟩
   case measure=>rw[aje.o.left_eq,HMS.o];exact YF
 have fY:k<f.length:=by rw[qY.o];exact hlt
 have hOr:kN wr (.slice sa 3 sc) f:=Wh.o.new.owns HO.o λ_ _ x=>x
 obtain⟨sa',sc',he,hcs⟩:=hOr.cells;rw[qY.o]at he;cases he;clear hOr;obtain⟨gf,rfl,hcell⟩:=hcs.resolve_left (λe=>by rw[e]at fY;simp at fY);obtain⟨d1,d2⟩:=hcell k fY;obtain⟨en,HEN⟩:=jb ((f[k]).1);obtain⟨eb,RP⟩:=jb ((f[k]).2);rw[<-HEN.o]at d1;rw[<-RP.o]at d2;have WD:Hd (Kn.ah X en):=jd (by rw[HEN.o];exact HX.o.fQ HFM.o (jM fY))
 have apz:Hd (sT X ((f.take (k+1)).map (·.1))=Az X (sT X ((f.take k).map (·.1))) en):=jd (by
  rw[jq fY,jP,List.map_singleton,Qj,<-HEN.o])
 have j1:(0:Int)<=(k:Int):=by omega
 have j2:(k:Int)<3:=by omega
 clear hcs hcell;go_upto_region 10 with fail;clear d1 d2 j1 j2;obtain⟨w5,Rz⟩:=jb (wr.alloc (.cells #[.int .i64 (en:Nat),.bool eb] 26));obtain⟨B8,zS⟩:=jb wr.heap.size
 have Vc:New wr w5:=by rw[Rz.o];exact(refl _ wr).alloc _
 have Nc:=jd (Wh.o.nw Vc);rw[<-Rz.o,<-zS.o];clear Vc Rz zS Wh
 obtain⟨⟨lW,qK⟩,HPF⟩:∃p,Hd (Kn.fH X en=p):=⟨_,jd rfl⟩
 obtain⟨⟨lQ,qo⟩,HPT⟩:∃p,Hd (Kn.oM X en=p):=⟨_,jd rfl⟩
 have QJ:Kn.aq X (lW,qK):=by have:=HX.o.aD (io:=false) WD.o;rw[<-HPF.o];exact this
 have hpt:Kn.aq X (lQ,qo):=by have:=HX.o.aD (io:=true) WD.o;rw[<-HPT.o];exact this
 have hfc:lW<n:=by have:=QJ.1;rw[<-nM.o]at this;exact this
 have hfs:qK<4:=QJ.2
 have htc:lQ<n:=by have:=hpt.1;rw[<-nM.o]at this;exact this
 have R6:qo<4:=hpt.2;have ajj:=jd QJ;have aji:=jd hpt;clear QJ hpt
 have hem:en<mm:=by have:=WD.o.2;have:=vP.o;unfold ag at *;unfold bA at this;omega
 have ar6:en<=32:=by have:=WD.o.2;unfold ag at this;omega
 have i1:(0:Int)<=(en:Int):=by omega
 have i2:(en:Int)<(mm:Int):=by omega
 obtain⟨wq,rfl⟩:∃wq,wq=w5:=⟨_,rfl⟩
 have HSF:Hd (wq.cell? ⟨b,0,none⟩=some (.pointer (some ⟨s,0,none⟩))/\wq.cell? ⟨s,2,none⟩=some (.slice (some ⟨bi,0,none⟩) mm mm)/\wq.cell? ⟨s,3,none⟩=some (.slice (some ⟨bo,0,none⟩) mm mm) /\
  wq.cell? ⟨bi,en*2,none⟩=some (.int .i64 (lQ:Nat))/\wq.cell? ⟨bi,en*2+1,none⟩=some (.int .i64 (qo:Nat))/\wq.cell? ⟨bo,en*2,none⟩=some (.int .i64 (lW:Nat))/\wq.cell? ⟨bo,en*2+1,none⟩=some (.int .i64 (qK:Nat))):=jd (by
  obtain⟨k0,_,_,k2,k3⟩:=Nc.o.bw.box;rw[<-vP.o]at k2 k3;have h1:=Nc.o.bw.ri.cell (i:=en*2) (by rw[<-vP.o];omega);have h2:=Nc.o.bw.ri.cell (i:=en*2+1) (by rw[<-vP.o];omega);have h3:=Nc.o.bw.ro.cell (i:=en*2) (by rw[<-vP.o];omega);have h4:=Nc.o.bw.ro.cell (i:=en*2+1) (by rw[<-vP.o];omega);rw[vY,HPT.o]at h1;rw[vX,HPT.o]at h2;rw[vY,HPF.o]at h3;rw[vX,HPF.o]at h4
  exact⟨k0,k2,k3,h1,h2,h3,h4⟩)
 go_cut [10,11] (λs10 s11 wx=>Hd (aka wq lW qK lQ qo s10 s11 wx))
 case first=>
  have ZF:Hd (∀r,New wq r->r.cell? ⟨b,0,none⟩=some (.pointer (some ⟨s,0,none⟩))/\r.cell? ⟨s,2,none⟩=some (.slice (some ⟨bi,0,none⟩) mm mm)/\r.cell? ⟨s,3,none⟩=some (.slice (some ⟨bo,0,none⟩) mm mm) /\
   r.cell? ⟨bi,en*2,none⟩=some (.int .i64 (lQ:Nat))/\r.cell? ⟨bi,en*2+1,none⟩=some (.int .i64 (qo:Nat))/\r.cell? ⟨bo,en*2,none⟩=some (.int .i64 (lW:Nat))/\r.cell? ⟨bo,en*2+1,none⟩=some (.int .i64 (qK:Nat))):=jd λr hr=>by
   obtain⟨k0,k1,k2,k3,k4,k5,k6⟩:=HSF.o;exact⟨hr.cell k0 λx=>x,hr.cell k1 λx=>x,hr.cell k2 λx=>x,hr.cell k3 λx=>x,hr.cell k4 λx=>x,hr.cell k5 λx=>x,hr.cell k6 λx=>x⟩
  have iu:Hd (New wq wq.drew):=jd (refl _ wq).drew;have kG:=ZF.o _ iu.o
  refine wp_region_held_drew (S:=λr=>r.cell? ⟨b,0,none⟩=some (.pointer (some ⟨s,0,none⟩))/\r.cell? ⟨s,2,none⟩=some (.slice (some ⟨bi,0,none⟩) mm mm)/\r.cell? ⟨s,3,none⟩=some (.slice (some ⟨bo,0,none⟩) mm mm) /\
   r.cell? ⟨bi,en*2,none⟩=some (.int .i64 (lQ:Nat))/\r.cell? ⟨bi,en*2+1,none⟩=some (.int .i64 (qo:Nat))/\r.cell? ⟨bo,en*2,none⟩=some (.int .i64 (lW:Nat))/\r.cell? ⟨bo,en*2+1,none⟩=some (.int .i64 (qK:Nat))) (by kernel_rfl) kG (λhHeld=>?_)
  clear kG;generalize wq.drew=r0 at hHeld iu ⊢
  refine' sq 0 (h:=sq 1 (h:=sq 2 (h:=sq 3 (h:=sq 4 (h:=sq 5 (h:=sq 6 (h:=sq 7 (h:=sq 8 (h:=sq 9 (h:=sq 10 (h:=sq 11 (h:=sq 12 (h:=sq 13 (h:=sq 14 (h:=sq 15 (h:=sq 16 (h:=sq 17 (h:=sq 18 (h:=sq 19 (h:=?_))))))))))))))))))))
  refine wpAnyH_ready (rs:=[20,21]) (by kernel_rfl) (by simp) ?_
  refine cons rfl (λK hK=>?_) (cons rfl (λK hK=>?_) nil)
  · skip
    (try simp only[aR,aP,aO]);go_simp;have hN:New r0 (r0.alloc (.cells #[.int .i64 0,.int .i64 0] 158)):=(refl _ r0).alloc _;have hA:=heap_alloc_new r0 (.cells #[.int .i64 0,.int .i64 0] 158);obtain⟨nC,Ek⟩:=jb r0.heap.size;rw[<-Ek.o]at hA ⊢;generalize r0.alloc (.cells #[.int .i64 0,.int .i64 0] 158)=r1 at hN hA ⊢;have gQ:=jd (iu.o.trans hN);have abI:=jd hA;have Wy:Hd (wq.heap.size<=nC):=jd (by have h1:=iu.o.size;have h2:=Ek.o;omega);clear hN hA Ek;refine hK.out _ _ (ZF.o _ gQ.o) (λhHeld=>?_);clear hK K
    (try simp only[put,aR,aP,aO,bQ,bP,bO]);refine dQ (i:=21) (λK hK=>?_);(try simp only[aR,aP,aO]);go_simp;have hN:New r1 (r1.alloc (.cells #[.int .i64 0,.int .i64 0] 158)):=(refl _ r1).alloc _;have hA:=heap_alloc_new r1 (.cells #[.int .i64 0,.int .i64 0] 158);obtain⟨nO,Ej⟩:=jb r1.heap.size;rw[<-Ej.o]at hA ⊢
    have G8:Hd (¬nO=nC):=jd λe=>by
     have h1:=(jf.1 abI.o).1;have h2:=Ej.o;omega
    generalize r1.alloc (.cells #[.int .i64 0,.int .i64 0] 158)=r2 at hN hA ⊢;have kZ:=jd (gQ.o.trans hN);have DL:=jd (hN.blk abI.o λx=>x);have WJ:=jd hA;have Wx:Hd (wq.heap.size<=nO):=jd (by have h1:=gQ.o.size;have h2:=Ej.o;omega);clear hN hA Ej;refine hK.out _ _ (ZF.o _ kZ.o) (λhHeld=>?_);clear hK K;(try simp only[put,aR,aP,aO,bQ,bP,bO]);refine dQ (i:=22) (λK hK=>?_);(try simp only[aR,aP,aO]);obtain⟨x1,x2,x3,x4⟩:=ay DL.o
    have QI:=(bD (bD DL.o (.int .i64 (lW:Nat))).1 (.int .i64 (qK:Nat))).2;have vq:Fr (λk=>k=nC) r2 ((r2.setCell ⟨nC,0,none⟩ (.int .i64 (lW:Nat))).setCell ⟨nC,1,none⟩ (.int .i64 (qK:Nat))):=((refl (λk=>k=nC) r2).setCell (a:=⟨nC,0,none⟩) (.inl rfl) _).setCell (a:=⟨nC,1,none⟩) (.inl rfl) _;obtain⟨_,y2,_,y4⟩:=ay (bD DL.o (.int .i64 (lW:Nat))).1;go_simp;clear x1 x2 x3 x4 y2 y4;have hA7:=vq.blk WJ.o G8.o;have pO:Hd (New wq _):=jd (kZ.o.next vq λi hi=>.inr (by rw[hi];exact Wy.o))
    have HL6:=jd vq;have RE:=jd QI;generalize ((r2.setCell ⟨nC,0,none⟩ (.int .i64 (lW:Nat))).setCell ⟨nC,1,none⟩ (.int .i64 (qK:Nat)))=r3 at pO HL6 RE hA7 ⊢;have DK:=jd hA7;clear QI vq hA7;refine hK.out _ _ (ZF.o _ pO.o) (λhHeld=>?_);clear hK K;(try simp only[put,aR,aP,aO,bQ,bP,bO]);refine dQ (i:=23) (λK hK=>?_);(try simp only[aR,aP,aO]);obtain⟨x1,x2,x3,x4⟩:=ay DK.o;have hs7:=(bD (bD DK.o (.int .i64 (lQ:Nat))).1 (.int .i64 (qo:Nat))).2
    have Bg:Fr (λk=>k=nO) r3 ((r3.setCell ⟨nO,0,none⟩ (.int .i64 (lQ:Nat))).setCell ⟨nO,1,none⟩ (.int .i64 (qo:Nat))):=((refl (λk=>k=nO) r3).setCell (a:=⟨nO,0,none⟩) (.inl rfl) _).setCell (a:=⟨nO,1,none⟩) (.inl rfl) _;obtain⟨_,y2,_,y4⟩:=ay (bD DK.o (.int .i64 (lQ:Nat))).1;go_simp;clear x1 x2 x3 x4 y2 y4;have hS6:=Bg.blk RE.o (λe=>(G8.o) e.symm);have oW:Hd (New wq _):=jd (pO.o.next Bg λi hi=>.inr (by rw[hi];exact Wx.o));have HL7:=jd Bg;have HS7:=jd hs7
    generalize ((r3.setCell ⟨nO,0,none⟩ (.int .i64 (lQ:Nat))).setCell ⟨nO,1,none⟩ (.int .i64 (qo:Nat)))=r4 at oW HL7 HS7 hS6 ⊢;have RB:=jd hS6;clear hs7 Bg hS6;refine hK.out _ _ (ZF.o _ oW.o) (λhHeld=>?_);clear hK K;(try simp only[put,aR,aP,aO,bQ,bP,bO]);refine wpAnyH_done (by kernel_rfl) ?_ _;(try dsimp only);go_wp2_with fail;go_meet;exact jd ⟨nC,nO,rfl,rfl,oW.o,RB.o,HS7.o⟩
  · skip
    (try simp only[aR,aP,aO]);go_simp;have hN:New r0 (r0.alloc (.cells #[.int .i64 0,.int .i64 0] 158)):=(refl _ r0).alloc _;have hA:=heap_alloc_new r0 (.cells #[.int .i64 0,.int .i64 0] 158);obtain⟨nO,Ej⟩:=jb r0.heap.size;rw[<-Ej.o]at hA ⊢;generalize r0.alloc (.cells #[.int .i64 0,.int .i64 0] 158)=r1 at hN hA ⊢;have gQ:=jd (iu.o.trans hN);have abH:=jd hA;have Wx:Hd (wq.heap.size<=nO):=jd (by have h1:=iu.o.size;have h2:=Ej.o;omega);clear hN hA Ej;refine hK.out _ _ (ZF.o _ gQ.o) (λhHeld=>?_);clear hK K
    (try simp only[put,aR,aP,aO,bQ,bP,bO]);refine dQ (i:=20) (λK hK=>?_);(try simp only[aR,aP,aO]);go_simp;have hN:New r1 (r1.alloc (.cells #[.int .i64 0,.int .i64 0] 158)):=(refl _ r1).alloc _;have hA:=heap_alloc_new r1 (.cells #[.int .i64 0,.int .i64 0] 158);obtain⟨nC,Ek⟩:=jb r1.heap.size;rw[<-Ek.o]at hA ⊢
    have G8:Hd (¬nC=nO):=jd λe=>by
     have h1:=(jf.1 abH.o).1;have h2:=Ek.o;omega
    generalize r1.alloc (.cells #[.int .i64 0,.int .i64 0] 158)=r2 at hN hA ⊢;have kZ:=jd (gQ.o.trans hN);have WJ:=jd (hN.blk abH.o λx=>x);have DL:=jd hA;have Wy:Hd (wq.heap.size<=nC):=jd (by have h1:=gQ.o.size;have h2:=Ek.o;omega);clear hN hA Ek;refine hK.out _ _ (ZF.o _ kZ.o) (λhHeld=>?_);clear hK K;(try simp only[put,aR,aP,aO,bQ,bP,bO]);refine dQ (i:=22) (λK hK=>?_);(try simp only[aR,aP,aO]);obtain⟨x1,x2,x3,x4⟩:=ay DL.o
    have QI:=(bD (bD DL.o (.int .i64 (lW:Nat))).1 (.int .i64 (qK:Nat))).2;have vq:Fr (λk=>k=nC) r2 ((r2.setCell ⟨nC,0,none⟩ (.int .i64 (lW:Nat))).setCell ⟨nC,1,none⟩ (.int .i64 (qK:Nat))):=((refl (λk=>k=nC) r2).setCell (a:=⟨nC,0,none⟩) (.inl rfl) _).setCell (a:=⟨nC,1,none⟩) (.inl rfl) _;obtain⟨_,y2,_,y4⟩:=ay (bD DL.o (.int .i64 (lW:Nat))).1;go_simp;clear x1 x2 x3 x4 y2 y4;have hA7:=vq.blk WJ.o (λe=>G8.o e.symm)
    have pO:Hd (New wq _):=jd (kZ.o.next vq λi hi=>.inr (by rw[hi];exact Wy.o));have HL6:=jd vq;have RE:=jd QI;generalize ((r2.setCell ⟨nC,0,none⟩ (.int .i64 (lW:Nat))).setCell ⟨nC,1,none⟩ (.int .i64 (qK:Nat)))=r3 at pO HL6 RE hA7 ⊢;have DK:=jd hA7;clear QI vq hA7;refine hK.out _ _ (ZF.o _ pO.o) (λhHeld=>?_);clear hK K;(try simp only[put,aR,aP,aO,bQ,bP,bO]);refine dQ (i:=23) (λK hK=>?_);(try simp only[aR,aP,aO]);obtain⟨x1,x2,x3,x4⟩:=ay DK.o
    have hs7:=(bD (bD DK.o (.int .i64 (lQ:Nat))).1 (.int .i64 (qo:Nat))).2;have Bg:Fr (λk=>k=nO) r3 ((r3.setCell ⟨nO,0,none⟩ (.int .i64 (lQ:Nat))).setCell ⟨nO,1,none⟩ (.int .i64 (qo:Nat))):=((refl (λk=>k=nO) r3).setCell (a:=⟨nO,0,none⟩) (.inl rfl) _).setCell (a:=⟨nO,1,none⟩) (.inl rfl) _;obtain⟨_,y2,_,y4⟩:=ay (bD DK.o (.int .i64 (lQ:Nat))).1;go_simp;clear x1 x2 x3 x4 y2 y4;have hS6:=Bg.blk RE.o (λe=>((λe=>G8.o e.symm)) e.symm)
    have oW:Hd (New wq _):=jd (pO.o.next Bg λi hi=>.inr (by rw[hi];exact Wx.o));have HL7:=jd Bg;have HS7:=jd hs7;generalize ((r3.setCell ⟨nO,0,none⟩ (.int .i64 (lQ:Nat))).setCell ⟨nO,1,none⟩ (.int .i64 (qo:Nat)))=r4 at oW HL7 HS7 hS6 ⊢;have RB:=jd hS6;clear hs7 Bg hS6;refine hK.out _ _ (ZF.o _ oW.o) (λhHeld=>?_);clear hK K;(try simp only[put,aR,aP,aO,bQ,bP,bO]);refine wpAnyH_done (by kernel_rfl) ?_ _;(try dsimp only);go_wp2_with fail;go_meet;exact jd ⟨nC,nO,rfl,rfl,oW.o,RB.o,HS7.o⟩
 case rest=>
 obtain⟨nC,nO,rfl,rfl,hN,ah6,ah5⟩:=Hd.o hcut
 obtain⟨w6,rfl⟩:∃w6,w6=wc:=⟨_,rfl⟩
 have Wm:Hd (M7 D w w6 b s (.slice (some ⟨g,0,none⟩) nf fc) (.slice (some ⟨gv,0,none⟩) n cv) bi bo X L mb (k*4) (sT X ((f.take k).map (·.1))) nC nO lW qK lQ qo):=jd ⟨Nc.o.nw hN,ah6,ah5⟩;clear hcut hN ah6 ah5 Nc HSF i1 i2;obtain⟨F,Xt⟩:=jb (sT X ((f.take k).map (·.1)));rw[<-Xt.o]at Wm;obtain⟨WQ,aec⟩:=jb ((qK+2)%4);obtain⟨WO,aeb⟩:=jb ((qo+2)%4)
 have hx1:WQ<4:=by have:=aec.o;omega
 have hx2:WO<4:=by have:=aeb.o;omega
 obtain⟨ai,HAI⟩:=jb (Kn.aa X (lW,WQ));obtain⟨oi,HOI⟩:=jb (Kn.aa X (lQ,WO))
 have hai:ai<=32:=by
  have h1:=(HX.o.ah (p:=(lW,WQ)) ⟨by have:=nM.o;show lW<_;omega,hx1⟩).2
  rw[<-HAI.o]at h1;unfold ag at h1;omega
 have hoi:oi<=32:=by
  have h1:=(HX.o.ah (p:=(lQ,WO)) ⟨by have:=nM.o;show lQ<_;omega,hx2⟩).2
  rw[<-HOI.o]at h1;unfold ag at h1;omega
 have CX1:Hd (∀r,Calls prog 108 #[.agg #[.int .i64 (lW:Nat),.int .i64 (qK:Nat)]] r λe w'=>e=.returned (.agg #[.int .i64 (lW:Nat),.int .i64 (WQ:Nat)])/\New r w'):=jd λr=>by
  rw[aec.o];exact Dw lW qK r hfs
 have CX2:Hd (∀r,Calls prog 108 #[.agg #[.int .i64 (lQ:Nat),.int .i64 (qo:Nat)]] r λe w'=>e=.returned (.agg #[.int .i64 (lQ:Nat),.int .i64 (WO:Nat)])/\New r w'):=jd λr=>by
  rw[aeb.o];exact Dw lQ qo r R6
 have CA1:Hd (∀r,M7 D w r b s (.slice (some ⟨g,0,none⟩) nf fc) (.slice (some ⟨gv,0,none⟩) n cv) bi bo X L mb (k*4) F nC nO lW qK lQ qo->Calls prog 109 #[.pointer (some ⟨s,0,none⟩),.agg #[.int .i64 (lW:Nat),.int .i64 (WQ:Nat)]] r λe w'=>e=.returned (.int .i64 (ai:Nat))/\New r w'):=jd λr hr=>by
  rw[HAI.o];exact Du s lW WQ X L r (by have h1:=hr.sv.bw;rw[nM.o]at h1;exact h1.at.sh) HX.o hl (by have:=nM.o;omega) hx1
 have CA2:Hd (∀r,M7 D w r b s (.slice (some ⟨g,0,none⟩) nf fc) (.slice (some ⟨gv,0,none⟩) n cv) bi bo X L mb (k*4) F nC nO lW qK lQ qo->Calls prog 109 #[.pointer (some ⟨s,0,none⟩),.agg #[.int .i64 (lQ:Nat),.int .i64 (WO:Nat)]] r λe w'=>e=.returned (.int .i64 (oi:Nat))/\New r w'):=jd λr hr=>by
  rw[HOI.o];exact Du s lQ WO X L r (by have h1:=hr.sv.bw;rw[nM.o]at h1;exact h1.at.sh) HX.o hl (by have:=nM.o;omega) hx2
 go_wp2_with fail;have DB:=jd (Wm.o.new (refl _ w6).drew);have kG:=DB.o.PN
 refine wp_region_held_drew (S:=λr=>u7 r b s nC nO lW qK lQ qo) (by kernel_rfl) kG (λhHeld=>?_)
 clear kG Wm;generalize w6.drew=r0 at hHeld DB ⊢;refine' sS (i:=0) ?_ (hy:=by (intro w' hSw;unfold u7 at hSw;(try dsimp only at hSw);go_simp<;>with_reducible rfl));(try simp only[put,aR,aP,bQ,bP,bO]);refine' sS (i:=1) ?_ (hy:=by (intro w' hSw;unfold u7 at hSw;(try dsimp only at hSw);go_simp<;>with_reducible rfl));(try simp only[put,aR,aP,aO,bQ,bP,bO]);refine' sS (i:=2) ?_ (hy:=by (intro w' hSw;unfold u7 at hSw;(try dsimp only at hSw);go_simp<;>with_reducible rfl))
 (try simp only[put,aR,aP,aO,bQ,bP,bO]);refine' sS (i:=3) ?_ (hy:=by (intro w' hSw;unfold u7 at hSw;(try dsimp only at hSw);go_simp<;>with_reducible rfl));(try simp only[put,aR,aP,aO,bQ,bP,bO]);refine' sS (i:=4) ?_ (hy:=by (intro w' hSw;unfold u7 at hSw;(try dsimp only at hSw);go_simp<;>with_reducible rfl));(try simp only[put,aR,aP,aO,bQ,bP,bO]);refine' sS (i:=5) ?_ (hy:=by (intro w' hSw;unfold u7 at hSw;(try dsimp only at hSw);go_simp<;>with_reducible rfl))
 (try simp only[put,aR,aP,aO,bQ,bP,bO]);refine' sS (i:=8) ?_ (hy:=by (intro w' hSw;unfold u7 at hSw;(try dsimp only at hSw);go_simp<;>with_reducible rfl));(try simp only[put,aR,aP,aO,bQ,bP,bO]);refine' sS (i:=9) ?_ (hy:=by (intro w' hSw;unfold u7 at hSw;(try dsimp only at hSw);go_simp<;>with_reducible rfl));(try simp only[put,aR,aP,aO,bQ,bP,bO]);refine' sS (i:=10) ?_ (hy:=by (intro w' hSw;unfold u7 at hSw;(try dsimp only at hSw);go_simp<;>with_reducible rfl))
 (try simp only[put,aR,aP,aO,bQ,bP,bO]);refine' sS (i:=11) ?_ (hy:=by (intro w' hSw;unfold u7 at hSw;(try dsimp only at hSw);go_simp<;>with_reducible rfl));(try simp only[put,aR,aP,aO,bQ,bP,bO]);refine' sS (i:=12) ?_ (hy:=by (intro w' hSw;unfold u7 at hSw;(try dsimp only at hSw);go_simp<;>with_reducible rfl));(try simp only[put,aR,aP,aO,bQ,bP,bO]);refine' sS (i:=13) ?_ (hy:=by (intro w' hSw;unfold u7 at hSw;(try dsimp only at hSw);go_simp<;>with_reducible rfl))
 (try simp only[put,aR,aP,aO,bQ,bP,bO]);refine dQ (i:=6) (λK hK=>?_);(try simp only[aR,aP,aO]);go_simp;refine(CX1.o _).mono ?_;rintro e r1 ⟨rfl,hN⟩;have yC:=jd (DB.o.new hN);clear hN;go_wp2_with fail;refine hK.out _ _ (yC.o.PN) (λhHeld=>?_);clear hK K;(try simp only[put,aR,aP,aO,bQ,bP,bO]);refine dQ (i:=7) (λK hK=>?_);(try simp only[aR,aP,aO]);go_simp;refine(CA1.o _ yC.o).mono ?_;rintro e r2 ⟨rfl,hN⟩;have Hq:=jd (yC.o.new hN);clear hN;go_wp2_with fail
 refine hK.out _ _ (Hq.o.PN) (λhHeld=>?_);clear hK K;(try simp only[put,aR,aP,aO,bQ,bP,bO]);refine dQ (i:=14) (λK hK=>?_);(try simp only[aR,aP,aO]);go_simp;refine(CX2.o _).mono ?_;rintro e r3 ⟨rfl,hN⟩;have Sf:=jd (Hq.o.new hN);clear hN;go_wp2_with fail;refine hK.out _ _ (Sf.o.PN) (λhHeld=>?_);clear hK K;(try simp only[put,aR,aP,aO,bQ,bP,bO]);refine dQ (i:=15) (λK hK=>?_);(try simp only[aR,aP,aO]);go_simp;refine(CA2.o _ Sf.o).mono ?_;rintro e r4 ⟨rfl,hN⟩;have HV4:=jd (Sf.o.new hN)
 clear hN;go_wp2_with fail;refine hK.out _ _ (HV4.o.PN) (λhHeld=>?_);clear hK K;(try simp only[put,aR,aP,aO,bQ,bP,bO]);refine' sS (i:=16) ?_ (hy:=by (intro w' hSw;unfold u7 at hSw;(try dsimp only at hSw);go_simp<;>with_reducible rfl));(try simp only[put,aR,aP,aO,bQ,bP,bO]);refine' sS (i:=17) ?_ (hy:=by (intro w' hSw;unfold u7 at hSw;(try dsimp only at hSw);go_simp<;>with_reducible rfl));(try simp only[put,aR,aP,aO,bQ,bP,bO]);refine wpAnyH_done (by kernel_rfl) ?_ _;(try dsimp only)
 obtain⟨kl1,KP1⟩:∃l,Hd (keyOf prog 158 (Hj (lW,qK))=some l):=by
  obtain⟨l,hl⟩:=I8 (lW,qK) (by show lW<16;have:=nM.o;have:=ajj.o.1;omega) hfs;exact⟨l,jd hl⟩
 obtain⟨kl2,KP2⟩:∃l,Hd (keyOf prog 158 (Hj (lQ,qo))=some l):=by
  obtain⟨l,hl⟩:=I8 (lQ,qo) (by show lQ<16;have:=nM.o;have:=aji.o.1;omega) R6;exact⟨l,jd hl⟩
 obtain⟨kl3,KX2⟩:∃l,Hd (keyOf prog 158 (Hj (lQ,WO))=some l):=by
  obtain⟨l,hl⟩:=I8 (lQ,WO) (by show lQ<16;have:=nM.o;have:=aji.o.1;omega) hx2;exact⟨l,jd hl⟩
 have ar4:lW<16:=by have:=ajj.o.1;omega
 obtain⟨w7,rfl⟩:∃w7,w7=r4:=⟨_,rfl⟩
 have HR7:=HV4;clear DB yC Hq Sf HV4 CA1 CA2 hHeld;go_wp2_with fail;have DB:=jd (HR7.o.new (refl _ w7).drew);have kG:=DB.o.PN
 refine wp_region_held_drew (S:=λr=>u7 r b s nC nO lW qK lQ qo) (by kernel_rfl) kG (λhHeld=>?_)
 clear kG HR7;generalize w7.drew=r0 at hHeld DB ⊢;refine' sS (i:=0) ?_ (hy:=by (intro w' hSw;unfold u7 at hSw;(try dsimp only at hSw);go_simp<;>with_reducible rfl));(try simp only[put,aR,aP,bQ,bP,bO]);refine' sS (i:=1) ?_ (hy:=by (intro w' hSw;unfold u7 at hSw;(try dsimp only at hSw);go_simp<;>with_reducible rfl));(try simp only[put,aR,aP,aO,bQ,bP,bO]);refine' sS (i:=2) ?_ (hy:=by (intro w' hSw;unfold u7 at hSw;(try dsimp only at hSw);go_simp<;>with_reducible rfl))
 (try simp only[put,aR,aP,aO,bQ,bP,bO]);refine' sS (i:=3) ?_ (hy:=by (intro w' hSw;unfold u7 at hSw;(try dsimp only at hSw);go_simp<;>with_reducible rfl));(try simp only[put,aR,aP,aO,bQ,bP,bO]);refine' sS (i:=4) ?_ (hy:=by (intro w' hSw;unfold u7 at hSw;(try dsimp only at hSw);go_simp<;>with_reducible rfl));(try simp only[put,aR,aP,aO,bQ,bP,bO]);refine' sS (i:=6) ?_ (hy:=by (intro w' hSw;unfold u7 at hSw;(try dsimp only at hSw);go_simp<;>with_reducible rfl))
 (try simp only[put,aR,aP,aO,bQ,bP,bO]);refine' sS (i:=7) ?_ (hy:=by (intro w' hSw;unfold u7 at hSw;(try dsimp only at hSw);go_simp<;>with_reducible rfl));(try simp only[put,aR,aP,aO,bQ,bP,bO]);refine dQ (i:=5) (λK hK=>?_);(try simp only[aR,aP,aO]);go_simp;refine(CX2.o _).mono ?_;rintro e r1 ⟨rfl,hN⟩;have yC:=jd (DB.o.new hN);clear hN;go_wp2_with fail;refine hK.out _ _ (yC.o.PN) (λhHeld=>?_);clear hK K;(try simp only[put,aR,aP,aO,bQ,bP,bO]);refine dQ (i:=8) (λK hK=>?_)
 (try simp only[aR,aP,aO]);rw[if_pos (by rfl)];obtain⟨DD,hown,hd⟩:=yC.o.now
 refine fh _ _ _ _ 188 rfl 158 3 Tryz.og Tryz.Er _ mb (k*4) _ rfl hown (by unfold maxLen;omega) _ _ _ rfl rfl (KP2.o) _ [] (plainElem_int underlying3 (WR (x:=ai) (by omega))) ?_
 intro r2 tW Mw;have Hq:=jd (yC.o.upd ⟨_,tW,hd.put (KP2.o)⟩ ((refl (λk=>k=mb) r1).grown Mw λk e=>.inl (Option.some.inj e).symm));clear hown hd tW Mw;refine hK.out _ _ (Hq.o.PN) (λhHeld=>?_);clear hK K;(try simp only[put]);refine dQ (i:=9) (λK hK=>?_);(try simp only[aR,aP,aO]);rw[if_pos (by rfl)];obtain⟨DD,hown,hd⟩:=Hq.o.now
 refine fh _ _ _ _ 188 rfl 158 3 Tryz.og Tryz.Er _ mb (k*4+1) _ rfl hown (by unfold maxLen;omega) _ _ _ rfl rfl (KX2.o) _ [] (plainElem_int underlying3 (WR (x:=en) (by omega))) ?_
 intro r3 tW Mw;have Sf:=jd (Hq.o.upd ⟨_,tW,hd.put (KX2.o)⟩ ((refl (λk=>k=mb) r2).grown Mw λk e=>.inl (Option.some.inj e).symm));clear hown hd tW Mw;refine hK.out _ _ (Sf.o.PN) (λhHeld=>?_);clear hK K;(try simp only[put]);refine wpAnyH_done (by kernel_rfl) ?_ _;(try dsimp only)
 obtain⟨w8,rfl⟩:∃w8,w8=r3:=⟨_,rfl⟩
 have HR8:=Sf;clear DB yC Hq Sf hHeld;go_wp2_with fail;have DB:=jd (HR8.o.new (refl _ w8).drew);have kG:=DB.o.PN
 refine wp_region_held_drew (S:=λr=>u7 r b s nC nO lW qK lQ qo) (by kernel_rfl) kG (λhHeld=>?_)
 clear kG HR8;generalize w8.drew=r0 at hHeld DB ⊢;refine' sS (i:=0) ?_ (hy:=by (intro w' hSw;unfold u7 at hSw;(try dsimp only at hSw);go_simp<;>with_reducible rfl));(try simp only[put,aR,aP,bQ,bP,bO]);refine' sS (i:=1) ?_ (hy:=by (intro w' hSw;unfold u7 at hSw;(try dsimp only at hSw);go_simp<;>with_reducible rfl));(try simp only[put,aR,aP,aO,bQ,bP,bO]);refine' sS (i:=2) ?_ (hy:=by (intro w' hSw;unfold u7 at hSw;(try dsimp only at hSw);go_simp<;>with_reducible rfl))
 (try simp only[put,aR,aP,aO,bQ,bP,bO]);refine' sS (i:=4) ?_ (hy:=by (intro w' hSw;unfold u7 at hSw;(try dsimp only at hSw);go_simp<;>with_reducible rfl));(try simp only[put,aR,aP,aO,bQ,bP,bO]);refine' sS (i:=5) ?_ (hy:=by (intro w' hSw;unfold u7 at hSw;(try dsimp only at hSw);go_simp<;>with_reducible rfl));(try simp only[put,aR,aP,aO,bQ,bP,bO]);refine' sS (i:=6) ?_ (hy:=by (intro w' hSw;unfold u7 at hSw;(try dsimp only at hSw);go_simp<;>with_reducible rfl))
 (try simp only[put,aR,aP,aO,bQ,bP,bO]);refine' sS (i:=7) ?_ (hy:=by (intro w' hSw;unfold u7 at hSw;(try dsimp only at hSw);go_simp<;>with_reducible rfl));(try simp only[put,aR,aP,aO,bQ,bP,bO]);refine dQ (i:=3) (λK hK=>?_);(try simp only[aR,aP,aO]);go_simp;refine(CX1.o _).mono ?_;rintro e r1 ⟨rfl,hN⟩;have yC:=jd (DB.o.new hN);clear hN;go_wp2_with fail;refine hK.out _ _ (yC.o.PN) (λhHeld=>?_);clear hK K;(try simp only[put,aR,aP,aO,bQ,bP,bO]);refine dQ (i:=8) (λK hK=>?_)
 (try simp only[aR,aP,aO]);obtain⟨v0,st,W1,W2,QL,Fb,hb1,hes,JI,hF2⟩:=yC.o.now.entry (by unfold maxLen;omega) (p:=(lW,WQ)) (by omega) (by omega) en (by omega);have anA:(Instr.mapEntry 188 (.map (some mb)) (.agg #[.int .i64 (lW:Nat),.int .i64 (WQ:Nat)])).run prog r1=.ok (.tuple #[v0,.int .i64 st]) W1:=QL;go_simp;clear QL anA;have cU:=jd (yC.o.part Fb);refine hK.out _ _ (cU.o) (λhHeld=>?_);clear hK K;(try simp only[put,aR,aP,aO,bQ,bP,bO])
 refine' sS (i:=9) ?_ (hy:=by (intro w' hSw;unfold u7 at hSw;(try dsimp only at hSw);go_simp<;>with_reducible rfl));(try simp only[put,aR,aP,aO,bQ,bP,bO]);refine dQ (i:=10) (λK hK=>?_);(try simp only[aR,aP,aO]);go_simp;clear hes;have Hq:=jd (yC.o.upd JI hF2);clear JI hF2 Fb hb1;refine hK.out _ _ (Hq.o.PN) (λhHeld=>?_);clear hK K;(try simp only[put,aR,aP,aO,bQ,bP,bO]);refine dQ (i:=11) (λK hK=>?_);(try simp only[aR,aP,aO]);rw[if_pos (by rfl)];obtain⟨DD,hown,hd⟩:=Hq.o.now
 refine fh _ _ _ _ 188 rfl 158 3 Tryz.og Tryz.Er _ mb (k*4+2+1) _ rfl hown (by unfold maxLen;omega) _ _ _ rfl rfl (KP1.o) _ [] (plainElem_int underlying3 (WR (x:=oi) (by omega))) ?_
 intro r3 tW Mw;have Sf:=jd (Hq.o.upd ⟨_,tW,hd.put (KP1.o)⟩ ((refl (λk=>k=mb) W2).grown Mw λk e=>.inl (Option.some.inj e).symm));clear hown hd tW Mw;refine hK.out _ _ (Sf.o.PN) (λhHeld=>?_);clear hK K;(try simp only[put]);refine wpAnyH_done (by kernel_rfl) ?_ _;(try dsimp only)
 have HG:Hd (vg (vg (vg (vg F (lQ,qo) ai) (lQ,WO) en) (lW,WQ) en) (lW,qK) oi=sT X ((f.take (k+1)).map (·.1))):=jd (by
  rw[apz.o,<-Xt.o];unfold Az;rw[HPF.o,HPT.o]
  have q1:AH (lW,qK)=(lW,WQ):=by rw[aec.o];rfl
  have q2:AH (lQ,qo)=(lQ,WO):=by rw[aeb.o];rfl
  rw[q1,q2,<-HAI.o,<-HOI.o])
 rw[HG.o]at Sf;have HV4:=jd Sf.o.sv;go_wp2_with fail;go_roundw
 case rel=>exact⟨k+1,by omega,by go_num,by rw[show (k+1)*4=k*4+2+1+1 by omega];exact HV4⟩
 case measure=>simp only[intOf];omega
end Go.Proofs.YtfplmbmenjdlhaaGreatDoor
