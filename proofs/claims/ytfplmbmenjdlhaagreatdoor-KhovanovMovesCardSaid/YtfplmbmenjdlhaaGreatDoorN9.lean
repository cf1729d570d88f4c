/- Walks: Without. -/
import Derived.Test.YtfplmbmenjdlhaaGreatDoorN8
set_option maxRecDepth 100000
set_option maxHeartbeats 16000000
namespace Go.Proofs.YtfplmbmenjdlhaaGreatDoor
open Go.RowKit
open Fr (refl)
open Kn (Cr M9 aa cr dG ag fC gh)
open Go.Proofs.Tryz (prog)
open World (size_alloc)
variable {f:Nat->Nat} {w wr:World}
def KQ(Y:List Cr)(L:Int)(w:World)(e:Ending)(w':World):Prop:=∃sc,e=.returned (.agg #[sc,.int .i64 L])/\w'.ownsRow w.heap.size 109 5 sc Y.length (bE Y)/\New w w'
structure WA(w wr:World)(rb cB rB m:Nat)(f:Nat->Nat):Prop where
 new:New w wr
 res:wr.heap[rb]?=some (.cells #[.slice none 0 0,.int .i64 0] 24 (0,0))
 cls:wr.heap[cB]?=some (.cells #[.slice (some ⟨rB,0,none⟩) m m] 74 (0,0))
 row:wr.rowIs rB 3 m (bS f)
 lr:w.heap.size<=rb
 xL:w.heap.size<=rB
theorem WA.cl{rb cB rB m:Nat}(h:WA w wr rb cB rB m f)(a x:Nat):WA w (wr.setCell ⟨rB,a,none⟩ (.int .i64 (x:Nat))) rb cB rB m (λy=>if y=a then x else f y):=by
 have hF:Fr (λk=>k=rB) wr (wr.setCell ⟨rB,a,none⟩ (.int .i64 (x:Nat))):=(refl (λk=>k=rB) wr).setCell (a:=⟨rB,a,none⟩) (.inl rfl) _;exact⟨h.new.next hF λi hi=>.inr (by rw[hi];exact h.xL),hF.blk h.res (dF h.res h.row (by decide)),hF.blk h.cls (dF h.cls h.row (by decide)),gI h.row a x,h.lr,h.xL⟩
theorem WA.congr{rb cB rB m:Nat}{g:Nat->Nat}(h:WA w wr rb cB rB m f)(hg:∀j,j<m->g j=f j):WA w wr rb cB rB m g:=
 ⟨h.new,h.res,h.cls,bu h.row λj hj=>by unfold bS;rw[hg j hj],h.lr,h.xL⟩
theorem WA.c1{rb cB rB m:Nat}(h:WA w wr rb cB rB m f):wr.cell? ⟨cB,0,none⟩=some (.slice (some ⟨rB,0,none⟩) m m):=cell_of_row _ _ 0 _ 74 (0,0) h.cls
def Lj(f:Nat->Nat)(u0 v0 u1 v1:Nat):Nat->Nat->Nat
 |0=>f
 |1=>dG f u0 v0
 |_=>dG (dG f u0 v0) u1 v1
theorem PF(f:Nat->Nat)(u0 v0 u1 v1 mm j:Nat)(hj:j<2)(h0:u0<mm)(h1:v0<mm)(h2:u1<mm)(h3:v1<mm):∃u v,u<mm/\v<mm/\Lj f u0 v0 u1 v1 (j+1)=dG (Lj f u0 v0 u1 v1 j) u v /\
 ∀w,(Instr.index 149 (.agg #[.int .i64 (u0:Nat),.int .i64 (v0:Nat),.int .i64 (u1:Nat),.int .i64 (v1:Nat)]) (.int .i64 (j:Nat))).run prog w=.ok (.agg #[.int .i64 (u:Nat),.int .i64 (v:Nat)]) w:=by
 match j,hj with
 |0,_=>exact⟨u0,v0,h0,h1,rfl,λw=>by kernel_rfl⟩
 |1,_=>exact⟨u1,v1,h2,h3,rfl,λw=>by kernel_rfl⟩
theorem H7(b g ng cg:Nat)(gs:List Int)(gone:Nat->Bool)(X:List Cr)(L:Int)(w:World)(h:fS w b X L)(hX:Kn.Ok X)(hl:X.length<=16)(l1:-1000<=L)(l2:L<=1000)(hg:vM w g gs)(hng:ng=gs.length)(vo:ng<=16)
 (mP:∀c,c<X.length->gone c=decide ((c:Int)∈gs))
 (gf:Nat) (eg:∀args w,(callFunc gf args).run prog w=.ok (.enter gf args) w) (CF:Nat->Nat->Nat) (U0 V0 U1 V1:Nat->Nat) (hC0:CF 0=λa=>a) (hCn:∀k,gone k=false->CF (k+1)=CF k) (hCy:∀k,k<X.length->gone k=true->CF (k+1)=dG (dG (CF k) (U0 k) (V0 k)) (U1 k) (V1 k)) (aht:∃E,M9 (CF X.length) E)
 (hU:∀k,k<X.length->∀u∈[U0 k,V0 k,U1 k,V1 k],∃s,s<4/\u=aa X (k,s)) (JM:∀k,k<X.length->∀w,Calls prog gf #[crV (cr X k)] w λe w'=>e=.returned (.agg #[.int .i64 (U0 k:Nat),.int .i64 (V0 k:Nat),.int .i64 (U1 k:Nat),.int .i64 (V1 k:Nat)])/\New w w'):
 Calls prog 117 #[.pointer (some ⟨b,0,none⟩),.func (.func gf) #[] #[],.slice (some ⟨g,0,none⟩) ng cg] w (KQ (Kn.kR X (CF X.length) gone) (L+Kn.IY X (CF X.length) gone) w):=by
 obtain⟨n,hn⟩:∃n,n=X.length:=⟨_,rfl⟩
 obtain⟨m,hm⟩:∃m,m=ag X:=⟨_,rfl⟩
 have JI:n<=16:=by omega
 have YE:m<=32:=by rw[hm];unfold ag;omega
 have HN:=jd hn;have HM:=jd hm;have HS:=jd h;have HX:=jd hX;have HG:=jd hg;have HNG:=jd hng;have ZZ:=jd mP;have Hv:=jd hCn;have HCY:=jd hCy;have HRP:=jd aht;have HU:=jd hU;have HCL:=jd JM;have HC0:=jd hC0;have Ai:=@run_makeMap prog;obtain⟨a0,c0,hs0,hs1,iw⟩:=h.uh;rw[<-hn]at hs0;have WG:=jd iw;have Ph:=jd hs0;have KA:=jd hs1;clear h hX hm hn hg hng mP iw hs0 hs1 hCn hCy aht hU JM hC0
 have OH:∀w,(Instr.makeSlice 74 (.int .i64 ((m:Int)+1)) (.int .i64 ((m:Int)+1))).run prog w=.ok (.slice (some ⟨w.heap.size,0,none⟩) (m+1) (m+1)) (w.alloc (.cells (madeCells #[.int .i64 0] (m+1)) 3)):=λw=>by
  have:=run_make_row' (P:=prog) 74 3 (.int .i64 0) 8 Tryz.underlying74 Tryz.xX rfl .i64 .i64 (m+1) (by omega) (by omega) w
  rwa [show (((m+1:Nat)):Int)=(m:Int)+1 by omega]at this
 obtain⟨i0,hi,hz0,hz1,hz2⟩:=info_parts Tryz.Bd
 go_enter Tryz.func117,Tryz.ntmps117
 go_wp2_with (go_at_call 46;refine(M5 b m X L _ (New.kM ((refl _ _).alloc _) HS.o) hl HM.o).mono ?_;rintro e w' ⟨rfl,rfl⟩)
 obtain⟨w1,cU⟩:=jb ((((w.alloc (.cells #[.slice none 0 0,.int .i64 0] 24)).alloc (.cells (madeCells #[.int .i64 0] (m+1)) 3)).alloc (.cells #[.slice (some ⟨w.heap.size+1,0,none⟩) (m+1) (m+1)] 74)));obtain⟨rb,sV⟩:=jb w.heap.size;obtain⟨rB,Nh⟩:=jb (w.heap.size+1);obtain⟨cB,DG⟩:=jb (w.heap.size+1+1)
 have Ps:Hd (WA w w1 rb cB rB (m+1) (λx=>if x<0 then x else 0)):=jd (by
  have h1:=heap_alloc_new w (.cells #[.slice none 0 0,.int .i64 0] 24);have h2:=World.rowIs_made (w.alloc (.cells #[.slice none 0 0,.int .i64 0] 24)) (.int .i64 0) (m+1) 3;have h3:=heap_alloc_new ((w.alloc (.cells #[.slice none 0 0,.int .i64 0] 24)).alloc (.cells (madeCells #[.int .i64 0] (m+1)) 3)) (.cells #[.slice (some ⟨w.heap.size+1,0,none⟩) (m+1) (m+1)] 74);rw[size_alloc]at h2;rw[size_alloc,size_alloc]at h3;rw[cU.o,sV.o,Nh.o,DG.o]
  refine⟨(((refl _ w).alloc _).alloc _).alloc _,((((refl (λ_=>False) _).alloc _).alloc _).blk h1 λx=>x),h3,((refl (λ_=>False) _).alloc _).row (bu h2 λj _=>?_) (λx=>x),by omega,by omega⟩
  unfold bS;simp)
 rw[<-cU.o];rw[<-DG.o,<-Nh.o,<-sV.o];clear cU Nh DG OH
 obtain⟨mm,Ms⟩:∃mm,mm=m+1:=⟨_,rfl⟩
 have U5:(m:Int)+1=(mm:Int):=by omega
 have ahI:mm<=33:=by omega
 rw[U5];rw[<-Ms]at Ps ⊢;have vP:=jd Ms;clear Ms U5
 go_loopw [33] (λi wr=>∃k:Nat,k<=mm/\i=.int .i64 k/\Hd (WA w wr rb cB rB mm (λx=>if x<k then x else 0))) (λi _=>mm-(intOf i).toNat)
 case atStart=>exact⟨0,by omega,rfl,Ps⟩
 case round=>
 obtain⟨k,hk,rfl,HA⟩:=hrel;by_cases hkm:k<mm
 · have hc:=HA.o.c1
   have hr:=HA.o.row.cell (i:=k) hkm;have hf:=HA.o.row.frozen k;simp only[bS]at hr
   have i1:(0:Int)<=(k:Int):=by omega
   have i2:(k:Int)<(mm:Int):=by omega
   go_wp2;go_roundw
   case rel=>
    refine⟨k+1,by omega,by go_num,jd ((HA.o.cl k k).congr λj _=>?_)⟩;by_cases e:j=k
    · rw[if_pos e,if_pos (by omega),e]
    rw[if_neg e];by_cases e2:j<k
    · rw[if_pos e2,if_pos (by omega)]
    rw[if_neg e2,if_neg (by omega)]
   case measure=>simp[intOf];omega
 obtain rfl:mm=k:=by omega
 have HAk:Hd (WA w wr rb cB rB mm (CF 0)):=jd (HA.o.congr λj hj=>by rw[if_pos hj,HC0.o]);have Bf:New wr (wr.alloc (.map #[] 0)):=(refl _ wr).alloc _;have K5:New wr ((wr.alloc (.map #[] 0)).alloc (.cells #[.slice none 0 0,.int .i64 L] 24)):=Bf.alloc _
 have s1:=Bf.cell (HA.o.new.cell KA.o λx=>x) λx=>x
 have s0:=K5.cell (HA.o.new.cell Ph.o λx=>x) λx=>x
 clear HA;go_wp2;clear s0 s1;obtain⟨wo,Ky⟩:=jb ((wr.alloc (.map #[] 0)).alloc (.cells #[.slice none 0 0,.int .i64 L] 24));obtain⟨mB,uq⟩:=jb wr.heap.size;obtain⟨dB,Xu⟩:=jb (wr.heap.size+1)
 have Po:Hd (WS w wo rb cB rB dB mB mm (CF 0) L (.slice none 0 0) (bZ X gone 0) []):=jd (by
  have s:=HAk.o;have h1:=heap_alloc_new (wr.alloc (.map #[] 0)) (.cells #[.slice none 0 0,.int .i64 L] 24);rw[size_alloc]at h1;have hb:=(jf.1 s.res).1;have hs:=s.new.size;rw[Ky.o,uq.o,Xu.o]
  exact⟨s.new.trans K5,K5.blk s.res λx=>x,K5.blk s.cls λx=>x,K5.row s.row λx=>x,h1,⟨rfl,.inl ⟨rfl,rfl⟩⟩,(dT.made wr).fr ((refl (λ_=>False) _).alloc _) λx=>x,s.lr,s.xL,by omega,by omega,by omega⟩)
 rw[<-Ky.o,<-Xu.o,<-uq.o];clear Bf K5 Ky uq Xu HAk Ps;clear wr w1
 go_loopw [54] (λi wr=>∃k:Nat,k<=n/\i=.int .i64 k/\Hd (∃v,WS w wr rb cB rB dB mB mm (CF k) L v (bZ X gone k) [])) (λi _=>n-(intOf i).toNat)
 case atStart=>exact⟨0,by omega,rfl,jd ⟨_,Po.o⟩⟩
 case round=>
 obtain⟨k,hk,rfl,HIE⟩:=hrel;obtain⟨v,hie⟩:=HIE.o;have HI:=jd hie;clear HIE hie;by_cases hkn:k<n
 · have E9:k<X.length:=by have:=HN.o;omega
   obtain⟨bx,ox,e0,hx⟩:=(New.uh HI.o.new WG.o).at E9;subst e0;obtain⟨xa,xb,xc,xd,xp,qV⟩:=Kn.uY X k;rw[qV.o]at hx;obtain⟨x1,x2,x3,x4,x5⟩:=hx
   have i1:(0:Int)<=(k:Int):=by omega
   have i2:(k:Int)<(n:Int):=by omega
   obtain⟨go,HGK⟩:=jb (gone k);have HGD:Hd (decide ((k:Int)∈gs)=go):=jd (by rw[HGK.o,ZZ.o k E9]);obtain⟨av,cv,ev,hcv⟩:=dr HI.o.own;subst ev;obtain⟨nk,vN⟩:=jb ((bZ X gone k).length)
   have hnk:nk<=16:=by have:=CI X gone k;have:=vN.o;omega
   rw[<-vN.o]at HI;clear hcv;have HIa:=jd (HI.o.nw ((refl _ wr).alloc (.cells #[.int .i64 xa,.int .i64 xb,.int .i64 xc,.int .i64 xd,.bool xp] 109)));have hbs:w.heap.size<=wr.heap.size:=HI.o.new.size;cases go
   · obtain⟨d0,_,_,_⟩:=ay HIa.o.DV
     have KF:=jd HIa.o.own;rw[<-vN.o]at KF
     go_wp2_with (first
      |(go_at_call 133;refine(yn g ng cg gs (k:Int) _ (HG.o.new (HI.o.new.alloc _)) HNG.o vo).mono ?_;rintro e w' ⟨rfl,rfl⟩;rw[HGD.o])
      |(at_builtin;refine wpList_append_lies _ rfl _ _ 22 rfl w.heap.size 109 i0 (.agg #[.int .i64 0,.int .i64 0,.int .i64 0,.int .i64 0,.bool false]) 5 40 Tryz.underlying22 hi hz0 hz1 hz2 rfl (by decide) _ nk (bE (bZ X gone k)) rfl (World.ownsRow.alloc KF.o _) ⟨_,0,none⟩ 1 1 [.int .i64 xa,.int .i64 xb,.int .i64 xc,.int .i64 xd,.bool xp] rfl rfl (wD (size_alloc _ _).symm) (Cs _ _ _ _ _) (by decide) (by unfold maxLen;omega) (by omega) (by simp only[size_alloc];omega) _ rfl ?_;intro g' cap' w7 hown cN hloc _;obtain⟨QT,hI7⟩:=HIa.o.app (x:=⟨xa,xb,xc,xd,xp⟩) vN.o hown cN;obtain⟨y0,_,y2,_⟩:=ay QT;have HI7:=jd hI7;clear hown cN hloc QT hI7))
     go_roundw
     case rel=>
      have h7:=HI7.o
      have e7:bZ X gone (k+1)=bZ X gone k++[⟨xa,xb,xc,xd,xp⟩]:=by rw[Af,<-HGK.o,<-qV.o];rfl
      have e8:CF (k+1)=CF k:=Hv.o k HGK.o.symm;rw[<-e7,<-e8]at h7;exact⟨k+1,by omega,by go_num,jd ⟨_,h7⟩⟩
     case measure=>simp[intOf];omega
   obtain⟨f1,f2,f3,f4,f5⟩:=G5 HX.o E9;clear f1 f2 f3 f4;obtain⟨u0,HU0⟩:=jb (U0 k);obtain⟨v0,DB⟩:=jb (V0 k);obtain⟨u1,HU1⟩:=jb (U1 k);obtain⟨v1,yC⟩:=jb (V1 k);have HCK:=jd (HCL.o k E9);rw[<-HU0.o,<-DB.o,<-HU1.o,<-yC.o,qV.o]at HCK
   have Zq:∀u∈[U0 k,V0 k,U1 k,V1 k],u<mm:=λu hu=>by
    obtain⟨s,hs,e⟩:=HU.o k E9 u hu;have:=f5 s hs
    have:=vP.o;have:=HM.o;unfold ag at this;omega
   have bU0:u0<mm:=by rw[HU0.o];exact Zq _ (by simp)
   have bV0:v0<mm:=by rw[DB.o];exact Zq _ (by simp)
   have bU1:u1<mm:=by rw[HU1.o];exact Zq _ (by simp)
   have bV1:v1<mm:=by rw[yC.o];exact Zq _ (by simp)
   clear Zq f5;have t1:=pY (heap_alloc_new wr (.cells #[.int .i64 xa,.int .i64 xb,.int .i64 xc,.int .i64 xd,.bool xp] 109))
   go_wp2_with (first
    |(go_at_call 133;refine(yn g ng cg gs (k:Int) _ (HG.o.new (HI.o.new.alloc _)) HNG.o vo).mono ?_;rintro e w' ⟨rfl,rfl⟩;rw[HGD.o])
    |(refine(HCK.o _).mono ?_;rintro e w4 ⟨rfl,hF⟩;have HI4:=jd (HIa.o.nw hF);clear hF))
   clear t1;have HIB:=HI;have Ww:Hd (WS w w4 rb cB rB dB mB mm (Lj (CF k) u0 v0 u1 v1 0) L (.slice av nk cv) (bZ X gone k) []):=HI4
   go_loopw [72] (λi wr=>∃j:Nat,j<=2/\i=.int .i64 j/\Hd (WS w wr rb cB rB dB mB mm (Lj (CF k) u0 v0 u1 v1 j) L (.slice av nk cv) (bZ X gone k) [])) (λi _=>2-(intOf i).toNat)
   case atStart=>exact⟨0,by omega,rfl,Ww⟩
   case round=>
   obtain⟨j,hj,rfl,HJ⟩:=hrel;by_cases hj2:j<2;rotate_left
   · obtain rfl:2=j:=by omega
     have HE:Hd (WS w wr rb cB rB dB mB mm (CF (k+1)) L (.slice av nk cv) (bZ X gone (k+1)) []):=jd (by
      have e7:bZ X gone (k+1)=bZ X gone k:=by rw[Af,<-HGK.o];rfl
      have e8:CF (k+1)=Lj (CF k) u0 v0 u1 v1 2:=by
       rw[HCY.o k E9 HGK.o.symm,<-HU0.o,<-DB.o,<-HU1.o,<-yC.o];rfl
      rw[e7,e8]
      exact HJ.o)
     go_wp2;go_roundw
     case rel=>exact⟨k+1,by omega,by go_num,jd ⟨_,HE.o⟩⟩
     case measure=>simp[intOf];omega
   obtain⟨u,v,hu,hv,htg,anS⟩:=PF (CF k) u0 v0 u1 v1 mm j hj2 bU0 bV0 bU1 bV1;obtain⟨F,Xt⟩:=jb (Lj (CF k) u0 v0 u1 v1 j);rw[<-Xt.o]at HJ htg;have HTG:=jd htg
   obtain⟨fu,Z1⟩:∃q,Hd (F u=q):=⟨_,jd rfl⟩
   obtain⟨fv,HFV⟩:∃q,Hd (F v=q):=⟨_,jd rfl⟩
   obtain⟨wz,HWZ⟩:=jb (wr.alloc (.cells #[.int .i64 (u:Nat),.int .i64 (v:Nat)] 148))
   have j1:(j:Int)<2:=by omega
   clear htg;go_wp2;obtain⟨B9,Hx⟩:=jb wr.heap.size;rw[<-HWZ.o,<-Hx.o];have ZX:Hd (WS w wz rb cB rB dB mB mm F L (.slice av nk cv) (bZ X gone k) []):=jd (by rw[HWZ.o];exact HJ.o.nw ((refl _ wr).alloc _))
   have hz9:wz.heap[B9]?=some (.cells #[.int .i64 (u:Nat),.int .i64 (v:Nat)] 148 (0,0)):=by rw[HWZ.o,Hx.o];exact heap_alloc_new _ _
   obtain⟨z1,z2,_⟩:=zV hz9;have z0:=ZX.o.c1;have z3:=ZX.o.row.cell (i:=u) hu;have z4:=ZX.o.row.cell (i:=v) hv;simp only[bS,Z1.o,HFV.o]at z3 z4
   have b1:(0:Int)<=(u:Int):=by omega
   have b2:(u:Int)<(mm:Int):=by omega
   have b3:(0:Int)<=(v:Int):=by omega
   have b4:(v:Int)<(mm:Int):=by omega
   clear hz9 HWZ
   go_quiet (fail)
   clear z0 z1 z2 z3 z4
   obtain⟨fr,QP⟩:∃q:Nat,q=max fu fv:=⟨_,rfl⟩
   obtain⟨fn,hfn⟩:∃q:Nat,q=min fu fv:=⟨_,rfl⟩
   rw[show max (fu:Int) (fv:Int)=(fr:Int)by omega,show min (fu:Int) (fv:Int)=(fn:Int)by omega];have HFR:=jd QP;have HFN:=jd hfn;have HJF:Hd (∀x,dG F u v x=if F x=fr then fn else F x):=jd (λx=>by unfold dG;rw[Z1.o,HFV.o,QP,hfn]);clear QP hfn;have HJq:Hd (WS w (wz.drewN nq) rb cB rB dB mB mm F L (.slice av nk cv) (bZ X gone k) []):=jd (ZX.o.nw ((refl _ wz).drewN _));obtain⟨wq,Zz⟩:=jb (wz.drewN nq);rw[<-Zz.o]at HJq ⊢;have q0:=HJq.o.c1;go_wp2;clear q0
   have HQ0:Hd (WS w wq rb cB rB dB mB mm (λx=>if x<0 then dG F u v x else F x) L (.slice av nk cv) (bZ X gone k) []):=jd (HJq.o.congr λx _=>by simp)
   go_loopw [99] (λi wr=>∃a:Nat,a<=mm/\i=.int .i64 a/\Hd (WS w wr rb cB rB dB mB mm (λx=>if x<a then dG F u v x else F x) L (.slice av nk cv) (bZ X gone k) [])) (λi _=>mm-(intOf i).toNat)
   case atStart=>exact⟨0,by omega,rfl,HQ0⟩
   case round=>
   obtain⟨a,ha,rfl,HA⟩:=hrel;by_cases ham:a<mm;rotate_left
   · obtain rfl:mm=a:=by omega
     have HE:Hd (WS w wr rb cB rB dB mB mm (Lj (CF k) u0 v0 u1 v1 (j+1)) L (.slice av nk cv) (bZ X gone k) []):=jd (HA.o.congr λx hx=>by rw[if_pos hx,HTG.o]);go_wp2;go_roundw
     case rel=>exact⟨j+1,by omega,by go_num,HE⟩
     case measure=>simp[intOf];omega
   have q0:=HA.o.c1;have q1:=HA.o.row.cell (i:=a) ham;have q2:=HA.o.row.frozen a
   obtain⟨fa,Ha⟩:∃q,Hd (F a=q):=⟨_,jd rfl⟩
   simp only[bS,Nat.lt_irrefl,if_false,Ha.o]at q1
   have b5:(0:Int)<=(a:Int):=by omega
   have b6:(a:Int)<(mm:Int):=by omega
   by_cases W8:fa=fr
   · have hb:((fa:Int)==(fr:Int))=true:=by rw[W8];exact beq_self_eq_true _
     go_wp2;go_roundw
     case rel=>
      refine⟨a+1,by omega,by go_num,jd ((HA.o.cl a fn).congr λx _=>?_)⟩;by_cases e:x=a
      · rw[if_pos e,if_pos (by omega),HJF.o,e,Ha.o,if_pos W8]
      rw[if_neg e];by_cases e2:x<a
      · rw[if_pos e2,if_pos (by omega)]
      rw[if_neg e2,if_neg (by omega)]
     case measure=>simp[intOf];omega
   have hb:((fa:Int)==(fr:Int))=false:=by simp;omega
   go_wp2;go_roundw
   case rel=>
    refine⟨a+1,by omega,by go_num,jd (HA.o.congr λx _=>?_)⟩;by_cases e:x=a
    · rw[if_pos (by omega),if_neg (by omega),HJF.o,e,Ha.o,if_neg W8]
    by_cases e2:x<a
    · rw[if_pos e2,if_pos (by omega)]
    rw[if_neg e2,if_neg (by omega)]
   case measure=>simp[intOf];omega
 obtain rfl:n=k:=by omega
 obtain⟨av,cv,ev,_⟩:=dr HI.o.own;subst ev;obtain⟨Y,HY⟩:=jb (bZ X gone n);obtain⟨f,HFc⟩:=jb (CF n);rw[<-HY.o,<-HFc.o]at HI;obtain⟨nk,vN⟩:=jb Y.length
 have hnk:nk<=16:=by have:=CI X gone n;have:=vN.o;rw[HY.o]at this;omega
 rw[<-vN.o]at HI
 have HYA:Hd (∀q,q<nk->∀s,s<4->(cr Y q).ie s=(aa Y (q,s):Nat)/\aa Y (q,s)<mm/\1<=aa Y (q,s)):=jd (λq hq s hs=>by
  have h1:=vN.o;rw[HY.o]at h1 ⊢
  exact Mg HX.o HN.o (by rw[vP.o,HM.o]) (by omega) hs)
 have U7:Hd (∀a,f a<=a):=jd (by rw[HFc.o,HN.o];exact HRP.o.choose_spec.le);obtain⟨d0,_,_,_⟩:=ay HI.o.DV;go_wp2;clear d0;clear Po
 obtain⟨w5,rfl⟩:∃w5,w5=wr:=⟨_,rfl⟩
 go_loopw [118] (λi wr=>∃q:Nat,q<=nk/\i=.int .i64 q/\Hd (∃l,WS w wr rb cB rB dB mB mm f L (.slice av nk cv) Y l/\l.length=q*4/\∀r,r∈l↔xK Y f q 0 r)) (λi _=>nk-(intOf i).toNat)
 case atStart=>exact⟨0,by omega,rfl,jd ⟨[],HI.o,rfl,λr=>⟨λh=>absurd h (by simp),λh=>absurd h (LZ Y f r)⟩⟩⟩
 case round=>
 obtain⟨q,hq,rfl,HQ⟩:=hrel;by_cases Mo:q<nk
 · obtain⟨l,hws,hll,YI⟩:=HQ.o
   have HW:=jd hws;have ZU:=jd YI;clear hws YI HQ
   obtain⟨gv,e0⟩:∃gv,av=some ⟨gv,0,none⟩:=by
    rcases HW.o.own.2 with⟨_,h0'⟩|⟨g,cap,cur,e,_⟩
    · have:=vN.o;omega
    injection e with e1 _ _;exact⟨g,e1⟩
   subst e0;have hown:=HW.o.own;rw[<-vN.o]at hown;have hx5:=Je hown vN.o (j:=q) (by have:=vN.o;omega);obtain⟨xa,xb,xc,xd,xp,qV⟩:=Kn.uY Y q;rw[qV.o]at hx5;obtain⟨x1,x2,x3,x4,x5⟩:=hx5
   have i1:(0:Int)<=(q:Int):=by omega
   have i2:(q:Int)<(nk:Int):=by omega
   clear hown;go_wp2;clear x1 x2 x3 x4 x5;obtain⟨wo,Ky⟩:=jb (wr.alloc (.cells #[.int .i64 xa,.int .i64 xb,.int .i64 xc,.int .i64 xd,.bool xp] 109));obtain⟨Bx,Bz⟩:=jb wr.heap.size;rw[<-Ky.o,<-Bz.o];have oY:Hd (wo.heap[Bx]?=some (.cells #[.int .i64 xa,.int .i64 xb,.int .i64 xc,.int .i64 xd,.bool xp] 109 (0,0))):=jd (by rw[Ky.o,Bz.o];exact heap_alloc_new _ _);have Se:Hd (WS w wo rb cB rB dB mB mm f L (.slice (some ⟨gv,0,none⟩) nk cv) Y l):=jd (by rw[Ky.o];exact HW.o.nw ((refl _ wr).alloc _));clear Ky Bz HW
   obtain⟨w6,rfl⟩:∃w6,w6=wr:=⟨_,rfl⟩
   go_loopw [122] (λi wr=>∃t:Nat,t<=4/\i=.int .i64 t/\Hd (wr.heap[Bx]?=some (.cells #[.int .i64 xa,.int .i64 xb,.int .i64 xc,.int .i64 xd,.bool xp] 109 (0,0)))/\Hd (∃l,WS w wr rb cB rB dB mB mm f L (.slice (some ⟨gv,0,none⟩) nk cv) Y l/\l.length=q*4+t/\∀r,r∈l↔xK Y f q t r)) (λi _=>4-(intOf i).toNat)
   case atStart=>exact⟨0,by omega,rfl,oY,jd ⟨l,Se.o,hll,ZU.o⟩⟩
   case round=>
   obtain⟨t,ht,rfl,HB,HT⟩:=hrel;by_cases Yv:t<4;rotate_left
   · obtain rfl:4=t:=by omega
     go_wp2;go_roundw
     case rel=>
      obtain⟨l,h1,h2,h3⟩:=HT.o;exact⟨q+1,by omega,by go_num,jd ⟨l,h1,by omega,λr=>(h3 r).trans L6⟩⟩
     case measure=>simp[intOf];omega
   obtain⟨l,hws,hll,YI⟩:=HT.o;have HW:=jd hws;have ZU:=jd YI;obtain⟨u,HU⟩:=jb (aa Y (q,t));obtain⟨fu,Z1⟩:=jb (f u);obtain⟨ha1,ha2,ha3⟩:=HYA.o q Mo t Yv;rw[<-HU.o]at ha1 ha2 ha3;rw[qV.o]at ha1;have HAR:Hd (wJ xa xb xc xd t=(u:Nat)):=jd ha1
   have hfu:fu<=1000:=by have:=U7.out u;have:=Z1.o;omega
   have b1:(0:Int)<=(u:Int):=by omega
   have b2:(u:Int)<(mm:Int):=by omega
   have Nf:Hd (∀wz (l:List Nat),WS w wz rb cB rB dB mB mm f L (.slice (some ⟨gv,0,none⟩) nk cv) Y l->wz.heap[Bx]?=some (.cells #[.int .i64 xa,.int .i64 xb,.int .i64 xc,.int .i64 xd,.bool xp] 109 (0,0)) ->
    wz.cell? ⟨Bx,0,none⟩=some (.int .i64 xa)/\wz.cell? ⟨Bx,1,none⟩=some (.int .i64 xb)/\wz.cell? ⟨Bx,2,none⟩=some (.int .i64 xc)/\wz.cell? ⟨Bx,3,none⟩=some (.int .i64 xd)/\wz.cell? ⟨Bx,4,none⟩=some (.bool xp) /\
    wz.cell? ⟨cB,0,none⟩=some (.slice (some ⟨rB,0,none⟩) mm mm)/\wz.cell? ⟨rB,u,none⟩=some (.int .i64 (fu:Nat))):=jd (λwz l h1 h2=>by
    obtain⟨g1,g2,g3,g4,g5⟩:=pY h2;refine⟨g1,g2,g3,g4,g5,h1.c1,?_⟩;have:=h1.row.cell (i:=u) ha2;simp only[bS]at this
    rw[this,Z1.o])
   clear ha1 ha3 hws YI;go_wp2_with fail;have sY:Hd (WS w wr.drew rb cB rB dB mB mm f L (.slice (some ⟨gv,0,none⟩) nk cv) Y l):=jd (HW.o.nw (refl _ wr).drew);have aeT:Hd (wr.drew.heap[Bx]?=some (.cells #[.int .i64 xa,.int .i64 xb,.int .i64 xc,.int .i64 xd,.bool xp] 109 (0,0))):=jd HB.o;have kG:=Nf.o _ _ sY.o aeT.o
   refine wp_region_held_drew (S:=λwz=>wz.cell? ⟨Bx,0,none⟩=some (.int .i64 xa)/\wz.cell? ⟨Bx,1,none⟩=some (.int .i64 xb)/\wz.cell? ⟨Bx,2,none⟩=some (.int .i64 xc)/\wz.cell? ⟨Bx,3,none⟩=some (.int .i64 xd)/\wz.cell? ⟨Bx,4,none⟩=some (.bool xp) /\
    wz.cell? ⟨cB,0,none⟩=some (.slice (some ⟨rB,0,none⟩) mm mm)/\wz.cell? ⟨rB,u,none⟩=some (.int .i64 (fu:Nat))) (by kernel_rfl) kG (λhHeld=>?_)
   clear kG;generalize wr.drew=r0 at hHeld sY aeT ⊢
   refine' sq 0 (h:=sq 1 (h:=sq 2 (h:=sq 3 (h:=?_))))
   refine dQ (i:=4) (λK hK=>?_);(try simp only[aR,aP,aO]);go_simp;refine(nu xa xb xc xd xp t _ Yv).mono ?_;rintro e r1 ⟨rfl,hF⟩;rw[HAR.o];have qh:=jd (sY.o.nw hF);have eU:=jd (hF.blk aeT.o λx=>x);clear hF;go_wp2_with fail;refine hK.out _ _ (Nf.o _ _ qh.o eU.o) (λhHeld=>?_);clear hK K;(try simp only[Act.put,aR,aP,aO,bQ,bP,bO])
   refine' sq 5 (h:=sq 6 (h:=?_))
   refine dQ (i:=7) (λK hK=>?_);(try simp only[aR,aP,aO]);rw[if_pos (by rfl)];obtain⟨D,hown,Aj,GA⟩:=qh.o.map
   refine fh _ _ _ _ 86 rfl 3 4 Tryz.iW Tryz.XD _ mB l.length _ rfl hown (by unfold maxLen;omega) _ _ _ rfl rfl (Maps.keyOf_int_mk Tryz.underlying3 (WR hfu)) _ [] (plainElem_bool Tryz.ul4 true) ?_
   intro r2 dz hg2;have lO:=jd (qh.o.mark hg2 rfl (dT.put Aj GA dz));have fD:Hd (r2.heap[Bx]?=some (.cells #[.int .i64 xa,.int .i64 xb,.int .i64 xc,.int .i64 xd,.bool xp] 109 (0,0))):=jd (((refl (λk=>k=mB) r1).grown hg2 λk e=>.inl (Option.some.inj e).symm).blk eU.o λe=>iV qh.o.map eU.o e.symm);clear hown Aj GA dz hg2 D;refine hK.out _ _ (Nf.o _ _ lO.o fD.o) (λhHeld=>?_);clear hK K;(try simp only[Act.put]);refine wpAnyH_done (by kernel_rfl) ?_ _
   have HT1:Hd (∃l,WS w r2 rb cB rB dB mB mm f L (.slice (some ⟨gv,0,none⟩) nk cv) Y l/\l.length=q*4+(t+1)/\∀r,r∈l↔xK Y f q (t+1) r):=jd ⟨_,lO.o,by rw[ju];simp;omega,λr=>by
    rw[L5 Yv,jx,jB,ZU.o r,Z1.o,HU.o]⟩
   go_wp2;go_roundw
   case rel=>exact⟨t+1,by omega,by go_num,fD,HT1⟩
   case measure=>simp[intOf];omega
 obtain rfl:nk=q:=by omega
 obtain⟨l,hws,hll,YI⟩:=HQ.o;have HW:=jd hws
 have ZU:Hd (∀r,r∈l↔Kn.gw X f gone r=true):=jd (λr=>by
  rw[YI r,vN.o,HY.o]
  exact CD HN.o f r)
 clear hws YI HQ HI
 have ahJ:∀w,(Instr.makeSlice 74 (.int .i64 (mm:Int)) (.int .i64 (mm:Int))).run prog w=.ok (.slice (some ⟨w.heap.size,0,none⟩) mm mm) (w.alloc (.cells (madeCells #[.int .i64 0] mm) 3)):=λw=>
  run_make_row' (P:=prog) 74 3 (.int .i64 0) 8 Tryz.underlying74 Tryz.xX rfl .i64 .i64 mm (by omega) (by omega) w
 have z0:=HW.o.c1;go_wp2;clear z0;obtain⟨w7,HW7⟩:=jb ((wr.alloc (.cells (madeCells #[.int .i64 0] mm) 3)).alloc (.cells #[.slice (some ⟨wr.heap.size,0,none⟩) mm mm] 74));obtain⟨nB,HNB⟩:=jb (wr.heap.size+1);obtain⟨qB,Wn⟩:=jb wr.heap.size
 have HK0:Hd (WT w w7 rb cB rB dB mB mm nB qB f (fq X f gone 1) (L+(mO X f gone 0:Nat)) (.slice av nk cv) Y l):=jd (by
  have h2:=World.rowIs_made wr (.int .i64 0) mm 3;have h3:=heap_alloc_new (wr.alloc (.cells (madeCells #[.int .i64 0] mm) 3)) (.cells #[.slice (some ⟨wr.heap.size,0,none⟩) mm mm] 74);rw[size_alloc]at h3;have hz:=HW.o.new.size
  have Bf:New wr w7:=by rw[HW7.o];exact((refl _ wr).alloc _).alloc _
  have hrow:=HW.o.row
  have hnq:¬rB=wr.heap.size:=by
   obtain⟨cs,k1,_⟩:=hrow;have:=(jf.1 k1).1;omega
  refine⟨?_,by rw[HW7.o,HNB.o,Wn.o];exact h3,?_,by rw[Wn.o];omega,by rw[Wn.o];exact hnq⟩
  · have e0:L+((mO X f gone 0:Nat):Int)=L:=by show L+((0:Nat):Int)=L;omega
    rw[e0];exact HW.o.nw Bf
  rw[HW7.o,Wn.o]
  refine((refl (λ_=>False) _).alloc _).row (bu h2 λj _=>?_) λx=>x
  unfold bS fq
  rw[if_neg (by omega)];rfl)
 rw[<-HW7.o,<-HNB.o];rw[<-Wn.o]at HW7 ⊢;clear HW7 HNB Wn HW ahJ
 go_loopw [22,23] (λo i wr=>∃a v cn:Nat,1<=a/\a<=mm/\i=.int .i64 a/\o=.int .i64 cn/\Hd (a=v+1)/\Hd (cn=fC X f gone v)/\Hd (WT w wr rb cB rB dB mB mm nB qB f (fq X f gone a) (L+(mO X f gone v:Nat)) (.slice av nk cv) Y l)) (λ_ i _=>mm-(intOf i).toNat)
 case atStart=>exact⟨1,0,0,by omega,by have:=vP.o;omega,rfl,rfl,jd rfl,jd rfl,HK0⟩
 case round=>
 obtain⟨a,v,cn,ha1,ha2,rfl,rfl,WH,Hv,HK⟩:=hrel
 have U9:cn<=40:=by have h1:=Hv.o;have h2:=Ya X f gone v;have h3:=WH.o;omega
 obtain⟨LV,Wt⟩:=jb (L+(mO X f gone v:Nat))
 have hlv1:-2000<=LV:=by have h1:=Wt.o;omega
 have hlv2:LV<=2000:=by have h1:=Wt.o;have h2:=IZ X f gone v;have h3:=WH.o;omega
 rw[<-Wt.o]at HK;by_cases ham:a<mm
 · have q0:=HK.o.ws.c1
   have q1:=HK.o.ws.row.cell (i:=a) ham
   obtain⟨fa,Ha⟩:∃q,Hd (f a=q):=⟨_,jd rfl⟩
   simp only[bS,Ha.o]at q1
   have b5:(0:Int)<=(a:Int):=by omega
   have b6:(a:Int)<(mm:Int):=by omega
   have adE:a<=1000:=by omega
   by_cases W8:a=fa;rotate_left
   · have hb:((fa:Int)==(a:Int))=false:=by simp;omega
     have hbi:¬(fa:Int)=(a:Int):=by omega
     have Fy:Hd (gh X f gone a=false):=jd (by unfold gh;rw[Ha.o,jm (λe=>W8 e.symm)];rfl)
     have DW:Hd (fC X f gone a=cn):=jd (by
      have h1:=Fy.o;have h2:=Hv.o;have h3:=WH.o
      rw[h2,h3,Kn.qF,<-h3,h1];simp)
     have HRC:Hd (mO X f gone a=mO X f gone v):=jd (by
      have h3:=WH.o;have h4:=Ha.o
      rw[h3,Cg,<-h3,h4,jm (λe=>W8 e.symm)];simp)
     go_wp2;go_roundw
     case rel=>
      refine⟨a+1,a,cn,by omega,by omega,by go_num,rfl,jd rfl,jd DW.o.symm,jd ?_⟩
      have h1:=HK.o.congr (g':=fq X f gone (a+1)) λx _=>Cv Fy.o x
      have h2:LV=L+(mO X f gone a:Nat):=by rw[HRC.o];exact Wt.o
      rw[<-h2];exact h1
     case measure=>simp[intOf];omega
   subst W8
   obtain⟨lb,G9⟩:∃lb,Hd (Kn.gw X f gone a=lb):=⟨_,jd rfl⟩
   have ahN:=HK.o.ws.map.look adE
   have QQ:decide (a∈l)=lb:=by rw[<-G9.o,jD,jh];exact ZU.o a
   rw[QQ]at ahN;have Fy:Hd (gh X f gone a=lb):=jd (by unfold gh;rw[Ha.o,G9.o];simp)
   have DW:Hd (fC X f gone a=cn+if lb then 1 else 0):=jd (by
    have h1:=Fy.o;have h2:=Hv.o;have h3:=WH.o
    rw[h2,h3,Kn.qF,<-h3,h1])
   have HRC:Hd (mO X f gone a=mO X f gone v+if lb then 0 else 1):=jd (by
    have h3:=WH.o;have h4:=Ha.o;have h5:=G9.o;rw[h3,Cg,<-h3,h4,h5]
    cases lb<;>simp)
   clear QQ;cases lb
   · obtain⟨_,d1,_,d3⟩:=ay HK.o.ws.DV
     go_wp2;go_roundw
     case rel=>
      refine⟨a+1,a,cn,by omega,by omega,by go_num,rfl,jd rfl,jd (by have:=DW.o;simp at this;omega),jd ?_⟩
      have h1:=(HK.o.ring (LV+1)).congr (g':=fq X f gone (a+1)) λx _=>Cv Fy.o x
      have h2:LV+1=L+(mO X f gone a:Nat):=by have h3:=HRC.o;have h4:=Wt.o;simp at h3;omega
      rw[<-h2];exact h1
     case measure=>simp[intOf];omega
   have n0:=HK.o.c2;have n1:=HK.o.vh.cell (i:=a) ham;have n2:=HK.o.vh.frozen a
   obtain⟨na,KG⟩:∃q,Hd (fq X f gone a a=q):=⟨_,jd rfl⟩
   simp only[bS,KG.o]at n1;go_wp2;go_roundw
   case rel=>
    refine⟨a+1,a,cn+1,by omega,by omega,by go_num,by go_num,jd rfl,jd (by have:=DW.o;simp at this;omega),jd ?_⟩
    have h1:=(HK.o.set a (cn+1)).congr (g':=fq X f gone (a+1)) λx _=>by
     rw[Qi ha1 Fy.o,DW.o];rfl
    have h2:LV=L+(mO X f gone a:Nat):=by have h3:=HRC.o;have h4:=Wt.o;simp at h3;omega
    rw[<-h2];exact h1
   case measure=>simp[intOf];omega
 obtain rfl:mm=a:=by omega
 have q0:=HK.o.ws.c1;obtain⟨d0,_,_,_⟩:=ay HK.o.ws.DV
 have HRT:Hd (∀q,q<nk->∀s,s<4->fq X f gone mm (f (aa Y (q,s)))=fC X f gone (f (aa Y (q,s)))):=jd (λq hq s hs=>by
  obtain⟨_,k2,k3⟩:=HYA.o q hq s hs
  obtain⟨_,hR⟩:∃E,M9 f E:=by rw[HFc.o,HN.o];exact HRP.o
  have h1:=hR.pos _ k3;have h2:=hR.le (aa Y (q,s))
  have h3:gh X f gone (f (aa Y (q,s)))=true:=by
   unfold gh;rw[hR.idem,jk rfl,Bool.true_and,<-CD HN.o];rw[<-HY.o,<-vN.o];exact⟨q,s,hs,.inl hq,rfl⟩
  unfold fq
  rw[if_pos ⟨h1,by omega,h3⟩])
 have HRN:Hd (LV=L+(Kn.IY X (CF X.length) gone:Nat)):=jd (by
  have h1:=Wt.o
  have h2:v=ag X:=by have h3:=WH.o;have h4:=vP.o;have h5:=HM.o;omega
  rw[h2]at h1;rw[<-HN.o,<-HFc.o]
  exact h1)
 have Hp:Hd (WT w wr rb cB rB dB mB mm nB qB f (fq X f gone mm) LV (.slice av nk cv) (kF (λx=>x.ren λa=>fC X f gone (f a)) Y 0) l):=jd (by rw[L9];exact HK.o);clear HK Wt Hv WH;go_wp2;clear q0 d0
 obtain⟨w8,rfl⟩:∃w8,w8=wr:=⟨_,rfl⟩
 go_loopw [168] (λi wr=>∃q:Nat,q<=nk/\i=.int .i64 q/\Hd (WT w wr rb cB rB dB mB mm nB qB f (fq X f gone mm) LV (.slice av nk cv) (kF (λx=>x.ren λa=>fC X f gone (f a)) Y q) l)) (λi _=>nk-(intOf i).toNat)
 case atStart=>exact⟨0,by omega,rfl,Hp⟩
 case round=>
 obtain⟨q,hq,rfl,HZ⟩:=hrel;by_cases Mo:q<nk;rotate_left
 · obtain rfl:nk=q:=by omega
   obtain⟨d0,d1,_,_⟩:=ay HZ.o.ws.DV;have hb1:=(bD HZ.o.ws.res (.slice av nk cv)).1;have hb2:=(bD hb1 (.int .i64 LV)).2;obtain⟨e0,_,z0,_⟩:=ay HZ.o.ws.res;obtain⟨_,e1,_,z1⟩:=ay hb1;obtain⟨m5,m6,_,_⟩:=ay hb2;have HGV:=jd HZ.o.gave;clear hb1 hb2;go_wp2
   refine bodyPost_ret (v:=.agg #[.slice av nk cv,.int .i64 LV]) (by simp[results,Tryz.results117,go_sem,m5,m6]) rfl ⟨_,by rw[HRN.o],?_,HGV.o.2⟩
   have h1:=HGV.o.1
   have h2:kF (λx=>x.ren λa=>fC X f gone (f a)) Y nk=Kn.kR X (CF X.length) gone:=by
    rw[vN.o,Qp];rw[Pw HN.o,<-HN.o,<-HFc.o,<-HY.o]
   rw[h2]at h1;exact h1
 have hqY:q<Y.length:=by have:=vN.o;omega
 obtain⟨gv,e0⟩:∃gv,av=some ⟨gv,0,none⟩:=by
  rcases HZ.o.ws.own.2 with⟨_,h0'⟩|⟨g,cap,cur,e,_⟩
  · rw[lC]at h0';have:=vN.o;omega
  injection e with e1 _ _;exact⟨g,e1⟩
 subst e0;obtain⟨xa,xb,xc,xd,xp,qV⟩:=Kn.uY Y q;obtain⟨na,KG⟩:=jb (aa Y (q,0));obtain⟨nb,HNB⟩:=jb (aa Y (q,1));obtain⟨nc,HNC⟩:=jb (aa Y (q,2));obtain⟨nd,Xp⟩:=jb (aa Y (q,3));obtain⟨ha1,bna,_⟩:=HYA.o q Mo 0 (by omega);obtain⟨hb1,bnb,_⟩:=HYA.o q Mo 1 (by omega);obtain⟨hc1,bnc,_⟩:=HYA.o q Mo 2 (by omega);obtain⟨K0,Zq,_⟩:=HYA.o q Mo 3 (by omega);rw[<-KG.o]at ha1 bna;rw[<-HNB.o]at hb1 bnb;rw[<-HNC.o]at hc1 bnc;rw[<-Xp.o]at K0 Zq;rw[qV.o]at ha1 hb1 hc1 K0
 have ha1:xa=(na:Nat):=ha1;have hb1:xb=(nb:Nat):=hb1;have hc1:xc=(nc:Nat):=hc1;have K0:xd=(nd:Nat):=K0;subst ha1 hb1 hc1 K0
 obtain⟨ea,HEa⟩:∃e,Hd (fq X f gone mm (f na)=e):=⟨_,jd rfl⟩
 obtain⟨eb,HEb⟩:∃e,Hd (fq X f gone mm (f nb)=e):=⟨_,jd rfl⟩
 obtain⟨ec,HEc⟩:∃e,Hd (fq X f gone mm (f nc)=e):=⟨_,jd rfl⟩
 obtain⟨ed,HEd⟩:∃e,Hd (fq X f gone mm (f nd)=e):=⟨_,jd rfl⟩
 have Wl:Hd ((cr Y q).ren (λa=>fC X f gone (f a))=⟨(ea:Nat),(eb:Nat),(ec:Nat),(ed:Nat),xp⟩):=jd (by
  rw[qV.o];unfold Kn.Cr.ren;simp only[Int.toNat_natCast];have h1:=HRT.o q Mo 0 (by omega);have h2:=HRT.o q Mo 1 (by omega);have h3:=HRT.o q Mo 2 (by omega);have h4:=HRT.o q Mo 3 (by omega);rw[<-KG.o,HEa.o]at h1;rw[<-HNB.o,HEb.o]at h2;rw[<-HNC.o,HEc.o]at h3;rw[<-Xp.o,HEd.o]at h4
  rw[<-h1,<-h2,<-h3,<-h4])
 have bfa:f na<mm:=Nat.lt_of_le_of_lt (U7.out na) bna;have bfb:f nb<mm:=Nat.lt_of_le_of_lt (U7.out nb) bnb;have bfc:f nc<mm:=Nat.lt_of_le_of_lt (U7.out nc) bnc;have bfd:f nd<mm:=Nat.lt_of_le_of_lt (U7.out nd) Zq
 have ZO:Hd (∀wz,WT w wz rb cB rB dB mB mm nB qB f (fq X f gone mm) LV (.slice (some ⟨gv,0,none⟩) nk cv) (kF (λx=>x.ren λa=>fC X f gone (f a)) Y q) l->Em wz gv (q*5) ⟨(na:Nat),(nb:Nat),(nc:Nat),(nd:Nat),xp⟩):=jd (λwz hz=>by
  have hown:=hz.ws.own;rw[lC,<-vN.o]at hown;have hx5:=Je hown (by rw[lC];exact vN.o) (j:=q) (by rw[lC];exact hqY);rw[Um hqY,qV.o]at hx5
  exact hx5)
 have HFZ:Hd (∀wz,WT w wz rb cB rB dB mB mm nB qB f (fq X f gone mm) LV (.slice (some ⟨gv,0,none⟩) nk cv) (kF (λx=>x.ren λa=>fC X f gone (f a)) Y q) l->∀j,wz.frozen? ⟨gv,j,none⟩=false):=jd (λwz hz j=>by
  have hown:=hz.ws.own;rw[lC,<-vN.o]at hown
  exact Jd hown j)
 obtain⟨x1,x2,x3,x4,x5⟩:=ZO.o _ HZ.o
 have i1:(0:Int)<=(q:Int):=by omega
 have i2:(q:Int)<(nk:Int):=by omega
 have Mv:gv<wr.heap.size:=by
  rcases HZ.o.ws.own.2 with⟨h0',_⟩|⟨g,cap,cur,e,_,h5,_⟩
  · cases h0'
  injection e with e1 _ _
  injection e1 with e1
  injection e1 with e1 _ _
  subst e1;exact(jf.1 h5).1
 go_wp2_with fail;clear x1 x2 x3 x4 x5;obtain⟨wo,Ky⟩:=jb (wr.alloc (.cells #[.int .i64 (na:Nat),.int .i64 (nb:Nat),.int .i64 (nc:Nat),.int .i64 (nd:Nat),.bool xp] 109));obtain⟨Bx,Bz⟩:=jb wr.heap.size;rw[<-Ky.o,<-Bz.o]
 have hBg:¬Bx=gv:=by have:=Bz.o;omega
 have HBo:Hd (wo.drew.heap[Bx]?=some (.cells #[.int .i64 (na:Nat),.int .i64 (nb:Nat),.int .i64 (nc:Nat),.int .i64 (nd:Nat),.bool xp] 109 (0,0))):=jd (by
  have h1:wo.heap[Bx]?=some (.cells #[.int .i64 (na:Nat),.int .i64 (nb:Nat),.int .i64 (nc:Nat),.int .i64 (nd:Nat),.bool xp] 109 (0,0)):=by rw[Ky.o,Bz.o];exact heap_alloc_new _ _
  exact h1)
 have HRo:Hd (WT w wo.drew rb cB rB dB mB mm nB qB f (fq X f gone mm) LV (.slice (some ⟨gv,0,none⟩) nk cv) (kF (λx=>x.ren λa=>fC X f gone (f a)) Y q) l):=jd (by
  have h1:New wr wo:=by rw[Ky.o];exact(refl _ wr).alloc _
  exact HZ.o.nw h1.drew)
 have Nf:Hd (∀wz (Z:List Cr),WT w wz rb cB rB dB mB mm nB qB f (fq X f gone mm) LV (.slice (some ⟨gv,0,none⟩) nk cv) Z l->wz.heap[Bx]?=some (.cells #[.int .i64 (na:Nat),.int .i64 (nb:Nat),.int .i64 (nc:Nat),.int .i64 (nd:Nat),.bool xp] 109 (0,0)) ->
  wz.cell? ⟨Bx,0,none⟩=some (.int .i64 (na:Nat))/\wz.cell? ⟨Bx,1,none⟩=some (.int .i64 (nb:Nat))/\wz.cell? ⟨Bx,2,none⟩=some (.int .i64 (nc:Nat))/\wz.cell? ⟨Bx,3,none⟩=some (.int .i64 (nd:Nat))/\wz.cell? ⟨Bx,4,none⟩=some (.bool xp) /\
  wz.cell? ⟨dB,0,none⟩=some (.slice (some ⟨gv,0,none⟩) nk cv)):=jd (λwz Z h1 h2=>by
  obtain⟨g1,g2,g3,g4,g5⟩:=pY h2
  exact⟨g1,g2,g3,g4,g5,(ay h1.ws.DV).1⟩)
 have kG:=Nf.o _ _ HRo.o HBo.o;clear Ky Bz Mv
 refine wp_region_held_drew (S:=λwz=>wz.cell? ⟨Bx,0,none⟩=some (.int .i64 (na:Nat))/\wz.cell? ⟨Bx,1,none⟩=some (.int .i64 (nb:Nat))/\wz.cell? ⟨Bx,2,none⟩=some (.int .i64 (nc:Nat))/\wz.cell? ⟨Bx,3,none⟩=some (.int .i64 (nd:Nat))/\wz.cell? ⟨Bx,4,none⟩=some (.bool xp) /\
  wz.cell? ⟨dB,0,none⟩=some (.slice (some ⟨gv,0,none⟩) nk cv)) (by kernel_rfl) kG (λhHeld=>?_)
 clear kG;generalize wo.drew=r0 at hHeld HRo HBo ⊢;have sY:=HRo;have oY:=HBo
 refine' sq 0 (h:=sq 1 (h:=sq 2 (h:=sq 3 (h:=sq 4 (h:=sq 5 (h:=sq 7 (h:=sq 8 (h:=sq 9 (h:=sq 11 (h:=sq 12 (h:=sq 13 (h:=sq 15 (h:=sq 16 (h:=sq 17 (h:=sq 19 (h:=sq 20 (h:=?_)))))))))))))))))
 refine dQ (i:=6) (λK hK=>?_);(try simp only[aR,aP,aO]);go_simp;refine(sY.o.clo bna bfa HEa.o).mono ?_;rintro e r1 ⟨rfl,hF⟩;have qh:=jd (sY.o.nw hF);have eU:=jd (hF.blk oY.o λx=>x);clear hF;go_wp2_with fail;refine hK.out _ _ (Nf.o _ _ qh.o eU.o) (λhHeld=>?_);clear hK K;(try simp only[Act.put,aR,aP,aO,bQ,bP,bO]);refine dQ (i:=10) (λK hK=>?_);(try simp only[aR,aP,aO]);go_simp;refine(qh.o.clo bnb bfb HEb.o).mono ?_;rintro e r2 ⟨rfl,hF⟩;have lO:=jd (qh.o.nw hF);have fD:=jd (hF.blk eU.o λx=>x)
 clear hF;go_wp2_with fail;refine hK.out _ _ (Nf.o _ _ lO.o fD.o) (λhHeld=>?_);clear hK K;(try simp only[Act.put,aR,aP,aO,bQ,bP,bO]);refine dQ (i:=14) (λK hK=>?_);(try simp only[aR,aP,aO]);go_simp;refine(lO.o.clo bnc bfc HEc.o).mono ?_;rintro e r3 ⟨rfl,hF⟩;have Fz:=jd (lO.o.nw hF);have kQ:=jd (hF.blk fD.o λx=>x);clear hF;go_wp2_with fail;refine hK.out _ _ (Nf.o _ _ Fz.o kQ.o) (λhHeld=>?_);clear hK K;(try simp only[Act.put,aR,aP,aO,bQ,bP,bO]);refine dQ (i:=18) (λK hK=>?_)
 (try simp only[aR,aP,aO]);go_simp;refine(Fz.o.clo Zq bfd HEd.o).mono ?_;rintro e r4 ⟨rfl,hF⟩;have Pk:=jd (Fz.o.nw hF);have u9:=jd (hF.blk kQ.o λx=>x);clear hF;go_wp2_with fail;refine hK.out _ _ (Nf.o _ _ Pk.o u9.o) (λhHeld=>?_);clear hK K;(try simp only[Act.put,aR,aP,aO,bQ,bP,bO])
 refine' sq 21 (h:=sq 22 (h:=?_))
 refine dQ (i:=23) (λK hK=>?_);(try simp only[aR,aP,aO]);obtain⟨x1,x2,x3,x4,x5⟩:=ZO.o _ Pk.o;have hfz:=HFZ.o _ Pk.o;go_simp;have HP:=jd (Pk.o.put (k:=q) (x:=⟨(ea:Nat),(eb:Nat),(ec:Nat),(ed:Nat),xp⟩) (by rw[lC];exact vN.o) (by rw[lC];exact hqY));have Ei:=jd ((OO r4 gv q (ea:Nat) (eb:Nat) (ec:Nat) (ed:Nat) xp).blk u9.o hBg);clear x1 x2 x3 x4 x5 hfz;refine hK.out _ _ (Nf.o _ _ HP.o Ei.o) (λhHeld=>?_);clear hK K;(try simp only[Act.put,aR,aP,aO,bQ,bP,bO])
 refine wpAnyH_done (by kernel_rfl) ?_ _
 have Kw:Hd (WT w (Te r4 gv q (ea:Nat) (eb:Nat) (ec:Nat) (ed:Nat) xp) rb cB rB dB mB mm nB qB f (fq X f gone mm) LV (.slice (some ⟨gv,0,none⟩) nk cv) (kF (λx=>x.ren λa=>fC X f gone (f a)) Y (q+1)) l):=jd (by
  have h1:=Ma (f:=λx=>x.ren λa=>fC X f gone (f a)) hqY;rw[<-h1]
  show WT _ _ _ _ _ _ _ _ _ _ _ _ _ _ ((kF _ Y q).set q ((cr Y q).ren λa=>fC X f gone (f a))) _
  rw[Wl.o]
  exact HP.o)
 go_wp2;go_roundw
 case rel=>exact⟨q+1,by omega,by go_num,Kw⟩
 case measure=>simp[intOf];omega
end Go.Proofs.YtfplmbmenjdlhaaGreatDoor
