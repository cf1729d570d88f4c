/- Walks: the ranks by degrees (ranks). -/
import Derived.Test.YtfplmbmenjdlhaaGreatDoorV16
set_option maxRecDepth 100000
set_option maxHeartbeats 16000000
namespace Go.Proofs.YtfplmbmenjdlhaaGreatDoor
open Go.RowKit Go.Shelf
open Act (put)
open AllReadyH (cons nil)
open Fr (refl)
open IntKind (i64)
open IntWalk (i64_in)
open Kn (Cr Bk zY eY)
open Go.Proofs.Tryz (prog)
abbrev OX(X:List Cr)(L:Nat)(p:Nat×Nat):Int×Int:=zB X L p.1 p.2
theorem aa5(X:List Cr)(L st mk:Nat)(h6:X.length<=6)(hL:L<=2):vZ (zB X L st mk):=by
 have h1:=vV 14 st;have h2:=vV 14 mk;have h3:=iE X st.testBit;have h4:=Kn.EJ X;unfold zB vZ eY
 simp only
 omega
theorem ac4:(prog.info? 82).map (λi=>(i.zero,i.size,i.bytes))=some (some (.agg #[.int .i64 0,.int .i64 0]),2,16):=by kernel_rfl
theorem Rg{w z:World}(_:New w z)(x y:Value)(t:TypeId):∀j u,[x,y][j]?=some u->(z.alloc (.cells #[x,y] t)).cell? ((⟨z.heap.size,0,none⟩:Addr).add j)=some u:=cell_two_new z x y t
theorem New.VQ{w z:World}(h:New w z){l:List Value}{a:Addr}(hc:∀j u,l[j]?=some u->w.cell? (a.add j)=some u):∀j u,l[j]?=some u->z.cell? (a.add j)=some u:=λj u e=>h.cell (hc j u e) λx=>x
def GN(w:World)(B gm nm:Nat)(X:List Cr)(L:Nat)(ls:List (Nat×Nat))(wr:World):Prop:=
 New w wr/\(∃f ks,FF B wr gm ls.length (OX X L) ls f ks)/\dx 82 mkM okM wr nm ls.length (D9 ls) ls
theorem PY(bc b sB:Nat)(X:List Cr)(L:Nat)(w:World)(h:qg w bc b sB X L)(hX:Kn.Ok X)(hp:Kn.aJ X=true)(h6:X.length<=6)(hL:L<=2):
 Calls prog 13 #[.pointer (some ⟨bc,0,none⟩)] w (aeW X L w):=by
 have Ai:=@run_makeMap prog;obtain⟨cS,hrow⟩:=h.row;have HH:=jd h;have HX:=jd hX;have Xk:=jd hp
 obtain⟨N,hN⟩:∃N,N=2 ^ X.length:=⟨_,rfl⟩
 rw[<-hN]at hrow
 have aia:N<=64:=by rw[hN];exact(jI (by omega) h6:2 ^ X.length<=2 ^ 6)
 have Sg:=jd hN;have H6:=jd h6;clear h hX hN hp h6
 have p1:=((refl (λ_=>False) w).alloc (.map #[] 0)).cell hrow λx=>x
 have p2:=(((refl (λ_=>False) w).alloc (.map #[] 0)).alloc (.map #[] 0)).cell hrow λx=>x
 obtain⟨i0,hi,hz0,hz1,hz2⟩:=info_parts ac4
 go_enter Tryz.func13,Tryz.ntmps13
 go_wp2_with fail;obtain⟨gm,HGM⟩:=jb w.heap.size;obtain⟨nm,HNM⟩:=jb (w.heap.size+1);obtain⟨B,HB⟩:=jb (w.heap.size+2);obtain⟨w2,AM⟩:=jb ((w.alloc (.map #[] 0)).alloc (.map #[] 0))
 have Po:Hd (GN w B gm nm X L (Bk X L 0 0) w2):=jd (by
  rw[AM.o,HGM.o,HNM.o,HB.o];refine⟨((refl _ _).alloc _).alloc _,⟨_,_,(FF.start (w.heap.size+2) w (OX X L)).nw ((refl _ _).alloc _)⟩,?_⟩;have:=dx.made (K:=82) (mk:=mkM) (ok:=okM) (w.alloc (.map #[] 0));rw[World.size_alloc]at this
  rw[show Bk X L 0 0=[]from rfl,UN];exact this)
 have HD:Hd (∀s m,s<N->m<16384->∀wz,New w wz->Calls prog 28 #[.pointer (some ⟨bc,0,none⟩),mV s m] wz (λe w'=>e=.returned (yI (OX X L (s,m)))/\New wz w')):=jd λs m hs hm wz hz=>Y8 bc b sB s m X L wz (HH.o.new hz) (by have:=Sg.o;omega) H6.o hL hm
 rw[<-AM.o,<-HNM.o,<-HGM.o];clear p1 p2 Ai
 go_loopw [27] (λi wr=>∃s:Nat,s<=N/\i=.int .i64 s/\Hd (GN w B gm nm X L (Bk X L s 0) wr)) (λi _=>N-(intOf i).toNat)
 case atStart=>exact⟨0,by omega,rfl,Po⟩
 case round=>
 obtain⟨s,hs,rfl,HI⟩:=hrel;by_cases hlt:s<N
 · have i1:(0:Int)<=(s:Int):=by omega
   have Bu:Hd (∀w',New w w'->Calls prog 27 #[.pointer (some ⟨bc,0,none⟩),.int .i64 (s:Nat)] w' (λe w''=>e=.returned (.int .i64 (eY X L s.testBit:Nat))/\New w' w'')):=jd λw' k=>IE bc b sB s X L w' (HH.o.new k) (by have:=Sg.o;omega) H6.o hL
   have hsz:eY X L s.testBit<=14:=jJ (BQ X L s.testBit) (by have:=H6.o;omega);obtain⟨sz,Wi⟩:=jb (eY X L s.testBit);rw[<-Wi.o]at Bu hsz;have hs1:=FY sz (by omega);obtain⟨M,HM⟩:=jb (2 ^ sz)
   have e64:wrap64 (2 ^ sz)=(M:Int):=by rw[HM.o];exact wT (by omega)
   have hM:M<=16384:=by rw[HM.o];exact(jI (by omega) hsz:2 ^ sz<=2 ^ 14)
   go_wp2_with (go_at_call 27;refine(Bu.o _ HI.o.1).mono ?_;rintro e w5 ⟨rfl,Vc⟩;have vO:=jd Vc;clear Vc)
   try rw[e64]
   clear e64 hs1
   have Ww:Hd (GN w B gm nm X L (Bk X L s 0) w5):=jd (by
    obtain⟨h1,⟨f,ks,h2⟩,h3⟩:=HI.o
    exact⟨h1.trans vO.o,⟨f,ks,h2.nw vO.o⟩,h3.fr vO.o λx=>x⟩)
   clear HI Bu
   go_loopw [34] (λi wr=>∃m:Nat,m<=M/\i=.int .i64 m/\Hd (GN w B gm nm X L (Bk X L s m) wr)) (λi _=>M-(intOf i).toNat)
   case atStart=>exact⟨0,by omega,rfl,Ww⟩
   case round=>
   obtain⟨m,hm,rfl,HI⟩:=hrel;by_cases YI:m<M;rotate_left
   · obtain rfl:M=m:=by omega
     have HIF:Hd (GN w B gm nm X L (Bk X L (s+1) 0) wr):=jd (by
      have h:=HI.o;rw[HM.o,Wi.o,Kn.J2]at h
      rw[Kn.J1];exact h)
     go_wp2;go_roundw
     case rel=>exact⟨s+1,by omega,by go_num,HIF⟩
     case measure=>simp[intOf];omega
   have i2:(0:Int)<=(m:Int):=by omega
   obtain⟨mB,uq⟩:=jb wr.heap.size;obtain⟨wa,Lc⟩:=jb (wr.alloc (.cells #[.int .i64 (s:Nat),.int .i64 (m:Nat)] 82));have Wq:Hd (New wr wa):=jd (by rw[Lc.o];exact(refl _ _).alloc _);have HBa:Hd (wa.heap[mB]?=some (.cells #[.int .i64 (s:Nat),.int .i64 (m:Nat)] 82 (0,0))):=jd (by rw[Lc.o,uq.o];exact heap_alloc_new _ _);obtain⟨ls,HLS⟩:=jb (Bk X L s m);obtain⟨ll,DY⟩:=jb ls.length
   have hll:ll<=1100000:=by
    have:=OW (X:=X) (L:=L) H6.o hL s m
    rw[DY.o,HLS.o];omega
   rw[<-HLS.o]at HI
   have adl:(s,m)∉ls:=by rw[HLS.o];exact Kn.Y2 X L s m
   have yK:=jd HI.o.1;have aev:=jd (HI.o.2.2.fr Wq.o λx=>x)
   have hlen:∀ty,(Builtin.len_ #[79] ty #[.map (some nm)]).run prog wa=.ok (.int .i64 (ll:Nat)) wa:=λty=>by rw[DY.o];exact aev.o.len Tryz.acI ty
   obtain⟨w6,hput,YB,vq⟩:=aev.o.put gkM (by rw[<-DY.o];unfold maxLen;omega) Tryz.acI (p:=(s,m)) ⟨by show s<1000000000;omega,by show m<1000000000;omega⟩ (.int .i64 (ll:Nat));rw[V8 adl,DY.o,QG adl]at YB;rw[<-DY.o]at YB;have ZR:=jd YB;have Nq:Hd (Fr (λk=>k=nm) wr w6):=jd ((Wq.o.mono λ_ x=>x.elim).trans vq)
   have Le:Hd (w6.heap[mB]?=some (.cells #[.int .i64 (s:Nat),.int .i64 (m:Nat)] 82 (0,0))):=jd (vq.blk HBa.o λe=>by
    have h1:=HI.o.2.2.lt;have h2:=uq.o
    omega)
   have KN:Hd (∃f ks,FF B w6 gm ll (OX X L) ls f ks/\∀d j,((f d).getD (.slice none 0 0)).ownBlock=some j->j<mB):=jd (by
    obtain⟨f,ks,hg⟩:=HI.o.2.1;rw[<-DY.o]at hg;refine⟨f,ks,hg.fr Nq.o λk e=>by have h1:=HNM.o;have h2:=HGM.o;have h3:=HB.o;exact⟨by omega,by omega⟩,λd j hj=>?_⟩;obtain⟨cs,hc⟩:=fG (hg.row d) j hj
    rw[uq.o];exact(jf.1 hc).1)
   have ajs:Hd (New w w6):=jd (yK.o.next Nq.o λi hi=>.inr (by rw[hi,HNM.o];omega))
   have HGB:Hd (B<=mB):=jd (by
    have h1:=HI.o.2.2.lt;have h2:=HNM.o;have h3:=uq.o;have h4:=HB.o
    omega)
   clear YB aev vq adl HI;have HDD:Hd (∀wz,New w wz->Calls prog 28 #[.pointer (some ⟨bc,0,none⟩),mV s m] wz (λe w'=>e=.returned (yI (OX X L (s,m)))/\New wz w')):=jd (HD.o s m hlt (by omega));obtain⟨d,HDE⟩:=jb (OX X L (s,m));rw[<-HDE.o]at HDD;go_upto_region 10 with fail;rw[<-Lc.o,<-uq.o];obtain⟨q1,q2,_,_⟩:=ay HBa.o;go_upto_region 11 with fail;clear q1 q2;obtain⟨f,ks,hg,ahM⟩:=KN.o;obtain⟨v0,DB⟩:=jb ((f d).getD (.slice none 0 0));obtain⟨gl,FD⟩:=jb ((sO (OX X L) ls d).length)
   obtain⟨gxs,HGX⟩:=jb (lz (sO (OX X L) ls d))
   have Mv:gl<=1100000:=by have:=hg.len d;rw[<-DY.o,<-FD.o]at this;omega
   have h0:=hg.row d;rw[<-DB.o,<-FD.o,<-HGX.o]at h0
   have KF:Hd (∀wz,New w6 wz->wz.ownsRow B 82 2 v0 gl gxs):=jd λwz hz=>hz.owns h0 λ_ _ x=>x
   have G9:Hd (∀j,v0.ownBlock=some j->B<=j/\j<mB):=jd λj hj=>⟨dR h0 j hj,ahM d j (by rw[<-DB.o];exact hj)⟩
   have Xr:Hd (gm<B/\nm<B/\gm≠nm/\w.heap.size<=gm):=jd (by have h1:=HNM.o;have h2:=HGM.o;have h3:=HB.o;exact⟨by omega,by omega,by omega,by omega⟩);have HBS:Hd (B<=w6.heap.size):=jd (by have h1:=(jf.1 Le.o).1;have:=HGB.o;omega)
   have HS:Hd (∀wz,Fr (λj=>v0.ownBlock=some j) w6 wz->wz.cell? ⟨mB,0,none⟩=some (.int .i64 (s:Nat))/\wz.cell? ⟨mB,1,none⟩=some (.int .i64 (m:Nat))):=jd λwz hz=>by
    obtain⟨h1,h2,_,_⟩:=ay (hz.blk Le.o λe=>by have:=G9.o _ e;omega);exact⟨h1,h2⟩
   have HS8:Hd (∀wz w8,Fr (λj=>v0.ownBlock=some j) w6 wz->Fr (λj=>j=gm) wz w8->w8.cell? ⟨mB,0,none⟩=some (.int .i64 (s:Nat))/\w8.cell? ⟨mB,1,none⟩=some (.int .i64 (m:Nat))):=jd λwz w8 hz h8=>by
    obtain⟨h1,h2,_,_⟩:=ay (h8.blk (hz.blk Le.o λe=>by have:=G9.o _ e;omega) λe=>by have:=Xr.o;have:=HGB.o;omega);exact⟨h1,h2⟩
   have DW:Hd (∀wz,Fr (λj=>v0.ownBlock=some j) w6 wz->New w wz):=jd λwz hz=>ajs.o.next hz λj hj=>.inr (by have:=G9.o j hj;have:=Xr.o;omega)
   have HLK:Hd (∀wz,New w6 wz->(Instr.lookup 78 (.map (some gm)) (yI d) false).run prog wz=.ok v0 wz):=jd λwz hz=>by
    rw[DB.o];exact(hg.map.fr hz λx=>x).look AF Tryz.Ub (Tryz.T9 wz) (by rw[HDE.o];exact aa5 X L s m H6.o hL)
   have HAP:Hd (∀wz g c,wz.ownsRow B 82 2 (.slice (some ⟨g,0,none⟩) (gl+1) c) (gl+1) (gxs++[.int .i64 (s:Nat),.int .i64 (m:Nat)])->Fr (λj=>v0.ownBlock=some j) w6 wz->(v0.ownBlock=some g\/w6.heap.size<=g)->∃w8,(Instr.mapUpdate 78 (.map (some gm)) (yI d) (.slice (some ⟨g,0,none⟩) (gl+1) c)).run prog wz=.ok () w8/\(∃f ks,FF B w8 gm (ll+1) (OX X L) (ls++[(s,m)]) f ks)/\Fr (λj=>j=gm) wz w8):=jd λwz g c q1 q2 q3=>by
    have e:d=OX X L (s,m):=HDE.o;rw[FD.o,HGX.o,e]at q1;rw[DB.o,e]at q2 q3;obtain⟨w8,k1,k2,k3⟩:=hg.app (s,m) q1 q2 q3 (by unfold maxLen;omega) (aa5 X L s m H6.o hL);refine⟨w8,?_,⟨_,_,k2⟩,k3⟩
    rw[FD.o,e];exact k1
   have HEN:Hd (∀wz w8,Fr (λj=>v0.ownBlock=some j) w6 wz->(∃f ks,FF B w8 gm (ll+1) (OX X L) (ls++[(s,m)]) f ks)->Fr (λj=>j=gm) wz w8->GN w B gm nm X L (Bk X L s (m+1)) w8):=jd λwz w8 hz hG h8=>by
    have hg8:=Xr.o
    have el:(ls++[(s,m)]).length=ll+1:=by rw[ju,DY.o];rfl
    rw[Kn.Vs,<-HLS.o];refine⟨(DW.o _ hz).next h8 λj hj=>.inr (by rw[hj];exact hg8.2.2.2),?_,?_⟩
    · rw[el];exact hG
    rw[el]
    exact(ZR.o.fr hz λe=>by have:=G9.o _ e;omega).fr h8 λe=>hg8.2.2.1 e.symm
   clear hg h0 ahM KN HD HH HLS DY HDE FD HGX DB
   refine wp_region_held_drew (S:=λwz=>wz.cell? ⟨mB,0,none⟩=some (.int .i64 (s:Nat))/\wz.cell? ⟨mB,1,none⟩=some (.int .i64 (m:Nat))) (by kernel_rfl) (HS.o _ (refl _ _).drew) (λhHeld=>?_)
   have HZ:Hd (New w6 w6.drew):=jd (refl _ _).drew;have HW:Hd (New w w6.drew):=jd (ajs.o.trans HZ.o);generalize w6.drew=z0 at hHeld HZ HW ⊢
   refine' sq 0 (h:=sq 1 (h:=sq 2 (h:=sq 4 (h:=sq 5 (h:=sq 6 (h:=sq 9 (h:=?_)))))))
   iterate 6
    all_goals
     first
      |refine dQ (i:=3) (hr:=by decide +kernel) (λK hK=>?_)
      |refine dQ (i:=7) (hr:=by decide +kernel) (λK hK=>?_)
      |refine dQ (i:=8) (hr:=by decide +kernel) (λK hK=>?_)
      |refine dQ (i:=10) (hr:=by decide +kernel) (λK hK=>?_)
      |refine dQ (i:=11) (hr:=by decide +kernel) (λK hK=>?_)
      |refine dQ (i:=12) (hr:=by decide +kernel) (λK hK=>?_)
      |(refine wpAnyH_ready (rs:=[3,10]) (by decide +kernel) (by simp) ?_;refine cons rfl (λK hK=>?_) (cons rfl (λK hK=>?_) nil))
      |(refine wpAnyH_ready (rs:=[7,10]) (by decide +kernel) (by simp) ?_;refine cons rfl (λK hK=>?_) (cons rfl (λK hK=>?_) nil))
      |(refine wpAnyH_ready (rs:=[8,10]) (by decide +kernel) (by simp) ?_;refine cons rfl (λK hK=>?_) (cons rfl (λK hK=>?_) nil))
    all_goals (try simp only[aR,aP,aO])
    all_goals
     first
     |(rw[if_pos (by rfl)]
       refine wp_append_lies _ _ _ 83 rfl B 82 i0 (.agg #[.int .i64 0,.int .i64 0]) 2 16 Tryz.underlying83 hi hz0 hz1 hz2 rfl (by decide) v0 gl gxs rfl (KF.o _ HZ.o) ⟨_,0,none⟩ 1 1 [.int .i64 (s:Nat),.int .i64 (m:Nat)] rfl rfl HBC.o (Ia _ _) (by omega) (by unfold maxLen;omega) (by omega) (jJ HBS.o HZ.o.size) _ rfl ?_
       intro g cap zn hown cN hloc _;have HOW:=jd hown;have HY:Hd (Fr (λj=>v0.ownBlock=some j) w6 zn):=jd ((HZ.o.mono λ_ x=>x.elim).grown cN λk e=>.inl e);have HLC:Hd (v0.ownBlock=some g\/w6.heap.size<=g):=jd (hloc.imp id λe=>by rw[e];exact HZ.o.size)
       replace HW:Hd (New w zn):=jd (DW.o _ HY.o)
       clear hown cN hloc HZ HBC
       refine hK.out _ _ (HS.o _ HY.o) (λhHeld=>?_))
     |(go_simp
       refine(HDD.o _ HW.o).mono ?_;rintro e zn ⟨rfl,hz⟩
       replace HW:=jd (HW.o.trans hz)
       replace HZ:=jd (HZ.o.trans hz)
       (try replace HBC:=jd (New.VQ hz HBC.o));clear hz;go_wp2_with fail
       refine hK.out _ _ (HS.o _ (HZ.o.mono λ_ x=>x.elim)) (λhHeld=>?_))
     |(have hlk:=HLK.o _ HZ.o
       go_simp;clear hlk
       refine hK.out _ _ hHeld (λhHeld=>?_))
     |(obtain⟨zn,hrun,hG,DU⟩:=HAP.o _ _ _ HOW.o HY.o HLC.o
       have apZ:=jd (HEN.o _ _ HY.o hG DU);have hS8:=HS8.o _ _ HY.o DU;go_simp;clear hrun hG DU
       refine hK.out _ _ hS8 (λhHeld=>?_))
     |(go_simp
       have HBC:=jd (Rg HZ.o (.int .i64 (s:Nat)) (.int .i64 (m:Nat)) 82)
       replace HW:=jd (HW.o.trans ((refl _ _).alloc (.cells #[.int .i64 (s:Nat),.int .i64 (m:Nat)] 82)))
       replace HZ:=jd (HZ.o.trans ((refl _ _).alloc (.cells #[.int .i64 (s:Nat),.int .i64 (m:Nat)] 82)))
       refine hK.out _ _ (HS.o _ (HZ.o.mono λ_ x=>x.elim)) (λhHeld=>?_))
    all_goals clear hK K
    all_goals (try simp only[put,bQ,bP,bO])
   all_goals
    refine wpAnyH_done (by kernel_rfl) ?_ _;go_wp2;go_roundw
    case rel=>exact⟨m+1,by omega,by go_num,apZ⟩
    case measure=>simp[intOf];omega
 obtain rfl:N=s:=by omega
 have Ai:=@run_makeMap prog;obtain⟨Bf,⟨f,ks,hG⟩,hNM⟩:=HI.o;obtain⟨E,HE⟩:=jb (Bk X L N 0);rw[<-HE.o]at hG hNM;have HEE:Hd (E=Kn.oV X L (2 ^ X.length)):=jd (by rw[HE.o,Kn.J1,Sg.o]);obtain⟨U,HU⟩:=jb E.length
 have hU:U<=1100000:=by
  have:=OW (X:=X) (L:=L) H6.o hL N 0
  rw[HU.o,HE.o];omega
 rw[<-HU.o]at hG hNM;obtain⟨om,HOM⟩:=jb wr.heap.size;obtain⟨wa,Lc⟩:=jb (wr.alloc (.map #[] 0));have Wq:Hd (New wr wa):=jd (by rw[Lc.o];exact(refl _ _).alloc _);have ZY:=jd (hG.nw Wq.o);have apy:=jd (hNM.fr Wq.o λx=>x);have aen:Hd (dx 50 yI vZ wa om 0 (λ_=>none) []):=jd (by rw[Lc.o,HOM.o];exact dx.made wr);have yK:Hd (New w wa):=jd (Bf.trans Wq.o);have HLE:Hd (w.heap.size<=om/\nm<om):=jd ⟨by rw[HOM.o];exact Bf.size,by rw[HOM.o];exact hNM.lt⟩;obtain⟨D,hown,hd⟩:=ZY.o.map;have HOW:=jd hown
 have HD:=jd hd;obtain⟨it,Sl⟩:=jb wa.heap.size;have HIL:Hd (om<it/\w.heap.size<=it):=jd ⟨by rw[Sl.o];exact aen.o.lt,by rw[Sl.o];exact yK.o.size⟩;clear Bf hG hNM hown hd HI Po;go_upto_region 15 with fail;rw[<-Lc.o,<-HOM.o];clear Ai
 go_wp2_with (first
  |(at_range;refine wpList_range_own _ rfl _ 78 rfl 50 83 AF.law Tryz.Ub hE gm U D rfl HOW.o ?_;intro w0 hrg0 hg0 hs0)
  |go_in)
 go_frame;rw[<-Sl.o]at hrg0 hs0 ⊢;have iu:Hd (New wa w0):=jd ((refl (λ_=>False) wa).grown hg0 λk ek=>by cases ek);have Ni:=jd hrg0;obtain⟨lF,ZV⟩:=jb (Yo X L E);obtain⟨rF,Wl⟩:=jb (RV X L E)
 have HBF:Hd (∀d,(0<=lF d/\lF d<=(U:Int))/\0<=rF d/\rF d<=(U:Int)):=jd λd=>by rw[ZV.o,Wl.o,HU.o];exact acq X L E d
 have apr:Hd (∃kk,dx 50 yI vZ w0 om (2*([]:List (Int×Int)).length) (nX lF rF []) kk):=jd ⟨[],by rw[TK];exact aen.o.fr iu.o λx=>x⟩;clear hg0 hs0 hrg0
 go_loopw [10] (λ_ wr=>∃(left:Lit->Bool) (cnt:Nat) (done:List (Int×Int)),Hd (Xv 50 wr gm it U D left cnt)/\Hd (mX 50 yI vZ D f ks left done)/\Hd (Fr (λj=>j=om\/j=it) w0 wr)/\Hd (∃kk,dx 50 yI vZ wr om (2*done.length) (nX lF rF done) kk)) (λ_ wr=>wr.rangeLeft gm it)
 case atStart=>exact⟨_,_,[],Ni,jd (mX.start HD.o),jd (refl _ _),apr⟩
 case round=>
 obtain⟨left,cnt,done,Ld,Sm,HF,Xl⟩:=hrel
 obtain⟨w3,rfl⟩:∃z:World,z=wr:=⟨_,rfl⟩
 go_wp2_with (first
  |(at_next;refine pR AF rfl _ rfl gm it U cnt rfl Ld.o Sm.o ?_ ?_)
  |go_in)
 · intro hl0
   have R8:=Sm.o.perm AF hl0;go_wp2;go_ret;refine⟨?_,om,2*done.length,nX lF rF done,?_⟩
   · exact(yK.o.trans iu.o).next HF.o λi hi=>.inr (by have:=HLE.o;have:=HIL.o;rcases hi with rfl|rfl<;>omega)
   obtain⟨kk,CU⟩:=Xl.o
   have hval:=λa=>abP HX.o Xk.o H6.o hL HEE.o (done:=done) (λd hd=>by
    rw[R8.mem_iff,HD.o.mem]
    cases e:f d with
    |none=>exact absurd (ZY.o.no d e) hd
    |some v=>rfl) a
   rw[<-ZV.o,<-Wl.o]at hval
   have QQ:done.length<=U:=by rw[R8.length_eq];exact dx.size_le ZY.o.map Tryz.Ub
   refine⟨kk,rfl,CU,by omega,λa e=>?_,λa v e=>?_,λa=>?_⟩
   · rw[<-hval a]
     unfold nX at e;unfold th;split at e
     · cases e
     next c=>rw[if_neg λh=>c (.inl h),if_neg λh=>c (.inr h)];rfl
   · rw[<-hval a]
     unfold nX at e;split at e
     · exact(Option.some.inj e).symm
     cases e
   rw[<-hval a];have:=FO HBF.o done a;omega
 intro d1 d2 v kl w8 cnt2 ZL HPV JF QM CV DU hen;obtain⟨G,HGG⟩:=jb (sO (OX X L) E (d1,d2));obtain⟨gl,FD⟩:=jb G.length;have hown:=ZY.o.has (d1,d2) v HPV.o;have hlen:=ZY.o.len (d1,d2);rw[<-HGG.o,<-FD.o]at hown hlen
 have Mv:gl<=1100000:=by rw[<-HU.o]at hlen;omega
 have hne:G≠[]:=by rw[HGG.o];exact ZY.o.ne (d1,d2) v HPV.o
 obtain⟨p0,hp0⟩:=List.exists_mem_of_ne_nil _ hne
 have hdd:OX X L p0=(d1,d2):=by rw[HGG.o]at hp0;exact jl (jC.1 hp0).2
 obtain⟨a5,c5,rfl,_⟩:=dr hown
 have an6:(-100<=d1/\d1<=100)/\-100<=d2/\d2<=100:=by
  have h1:=vV 14 p0.1;have h2:=vV 14 p0.2;have h3:=iE X p0.1.testBit;have h4:=Kn.EJ X;have h5:zB X L p0.1 p0.2=(d1,d2):=hdd;have h6:=H6.o;unfold zB eY at h5;have e1:=congrArg Prod.fst h5;have e2:=congrArg Prod.snd h5;simp only at e1 e2;omega
 obtain⟨⟨b1,b2⟩,b3,b4⟩:=an6;have Pp:Hd (Fr (λj=>j=om\/j=it) w0 w8):=jd (HF.o.trans (DU.mono λ_ e=>.inr e));have Sk:Hd (New w w8):=jd ((yK.o.trans iu.o).next Pp.o λi hi=>.inr (by have:=HLE.o;have:=HIL.o;rcases hi with rfl|rfl<;>omega))
 have apd:Hd (w8.ownsRow B 82 2 (.slice a5 gl c5) gl (lz G)):=jd (by
  refine Pp.o.owns (iu.o.owns hown λ_ _ x=>x) λj hj e=>?_
  obtain⟨cs,hc⟩:=fG hown j hj
  rcases e with rfl|rfl
  · obtain⟨es,ck,hb⟩:=aen.o.blk
    rw[hb]at hc;cases hc
  have h1:=(jf.1 hc).1
  rw[<-Sl.o]at h1;omega)
 have aju:Hd (dx 82 mkM okM w8 nm U (D9 E) E):=jd ((apy.o.fr iu.o λx=>x).fr Pp.o λe=>by have:=HLE.o;have:=HIL.o;omega);have ajq:Hd (∃kk,dx 50 yI vZ w8 om (2*done.length) (nX lF rF done) kk):=jd (by obtain⟨kk,CU⟩:=Xl.o;exact⟨kk,CU.fr DU λe=>by have:=HIL.o;omega⟩);have KE:=jd JF;have Nn:=jd CV;clear hown hlen hne hp0 hdd DU JF CV;obtain⟨dB,Xu⟩:=jb w8.heap.size;obtain⟨wd,HWD⟩:=jb (w8.alloc (.cells #[.int .i64 d1,.int .i64 d2] 50))
 have RI:Hd (New w8 wd):=jd (by rw[HWD.o];exact(refl _ _).alloc _);have HDd:Hd (wd.heap[dB]?=some (.cells #[.int .i64 d1,.int .i64 d2] 50 (0,0))):=jd (by rw[HWD.o,Xu.o];exact heap_alloc_new _ _)
 obtain⟨R,HR⟩:∃R:Nat->Nat->Bool,Hd (R=λi=>l9 E (wY X L (G.getD i (0,0)) X.length)):=⟨_,jd rfl⟩
 have apf:Hd (Rw wd wd U R (.slice none 0 0) [] 0):=jd (Rw.start wd U R);go_upto_region 19 with fail;rw[<-HWD.o,<-Xu.o];go_wp2_with fail
 go_loopw [11,68] (λv11 i wr=>∃(j:Nat) (bs:List Nat),j<=gl/\i=.int .i64 j/\Hd (Rw wd wr U R v11 bs j)) (λ_ i _=>gl-(intOf i).toNat)
 case atStart=>exact⟨0,[],by omega,rfl,apf⟩
 case round=>
 obtain⟨j,bs,hj,rfl,Pj⟩:=hrel
 obtain⟨w4,rfl⟩:∃z:World,z=wr:=⟨_,rfl⟩
 by_cases W6:j<gl
 · obtain⟨p1,FA⟩:=jb ((G.getD j (0,0)).1)
   obtain⟨p2,HP2⟩:=jb ((G.getD j (0,0)).2);have YL:New w8 w4:=RI.o.trans Pj.o.new;obtain⟨g5,rfl,c1,c2⟩:=Yg (YL.owns apd.o λ_ _ x=>x) FD.o W6;rw[<-FA.o]at c1;rw[<-HP2.o]at c2
   have hpE:(p1,p2)∈E:=by
    have e:(p1,p2)=G.getD j (0,0):=by rw[FA.o,HP2.o]
    rw[e,jc,je (by rw[<-FD.o];exact W6)];have hm:=jM (l:=G) (n:=j) (by rw[<-FD.o];exact W6)
    have GA:G[j]'(by rw[<-FD.o];exact W6)∈sO (OX X L) E (d1,d2):=by rw[<-HGG.o];exact hm
    exact(jC.1 GA).1
   have hpl:=hpE;rw[HEE.o,Kn.mY]at hpl;have HPE:Hd (p1<2 ^ X.length/\p2<2 ^ eY X L p1.testBit):=jd hpl;have hp1:p1<64:=Lz hpl.1 H6.o;have hp2:p2<16384:=jT hpl.2 (jI (by omega) (jJ (BQ X L p1.testBit) (by have:=H6.o;omega)):2 ^ eY X L p1.testBit<=2 ^ 14);obtain⟨pB,Bv⟩:=jb w4.heap.size;obtain⟨rb,sV⟩:=jb (pB+1);obtain⟨wm,Lb⟩:=jb ((w4.alloc (.cells #[.int .i64 (p1:Nat),.int .i64 (p2:Nat)] 82)).alloc (.map #[] 0))
   have HNm:Hd (New w4 wm):=jd (by rw[Lb.o];exact((refl _ _).alloc _).alloc _)
   have HPm:Hd (wm.heap[pB]?=some (.cells #[.int .i64 (p1:Nat),.int .i64 (p2:Nat)] 82 (0,0))):=jd (by
    rw[Lb.o,Bv.o];exact((refl (λ_=>False) _).alloc _).blk (heap_alloc_new w4 _) λx=>x)
   have HRm:Hd (eV U wm rb (l9 E (wY X L (p1,p2) 0))):=jd (by
    have h:=dx.made (K:=3) (mk:=KV) (ok:=Qf) (w4.alloc (.cells #[.int .i64 (p1:Nat),.int .i64 (p2:Nat)] 82));rw[World.size_alloc,<-Lb.o,<-Bv.o,<-sV.o]at h
    have e:l9 E (wY X L (p1,p2) 0)=λ_=>false:=rfl
    rw[e]
    have e2:(λ_=>none:Nat->Option Value)=vU λ_=>false:=rfl
    rw[e2]at h
    exact Ku.acj h λx hx=>by cases hx)
   have aer:Hd (New w wm):=jd (Sk.o.trans (YL.trans HNm.o));have ajt:=jd (aju.o.fr (YL.trans HNm.o) λx=>x)
   obtain⟨n,hn⟩:∃n,n=X.length:=⟨_,rfl⟩
   have aeu:=jd hn
   have YC:n<=6:=by rw[hn];exact H6.o
   obtain⟨xa1,xc1,hs0,_,_⟩:=(HH.o.new aer.o).sh.uh;rw[<-hn]at hs0;have Mp:=(HH.o.new aer.o).ptr
   have i0':(0:Int)<=(j:Int):=by omega
   have i1':(j:Int)<(gl:Int):=by omega
   have Ai:=@run_makeMap prog;clear hpE hpl hn YL;go_upto_region 23 with fail;rw[<-Lb.o,<-Bv.o,<-sV.o];go_wp2_with fail;clear Mp hs0 Ai c1 c2
   go_loopw [82] (λi wr=>∃k:Nat,k<=n/\i=.int .i64 k/\Hd (Fr (λb=>b=rb) wm wr)/\Hd (eV U wr rb (l9 E (wY X L (p1,p2) k)))) (λi _=>n-(intOf i).toNat)
   case atStart=>exact⟨0,by omega,rfl,jd (refl _ _),HRm⟩
   case round=>
   obtain⟨k,hk,rfl,HFk,HRk⟩:=hrel
   obtain⟨wk,rfl⟩:∃z:World,z=wr:=⟨_,rfl⟩
   have HPk:Hd (wk.heap[pB]?=some (.cells #[.int .i64 (p1:Nat),.int .i64 (p2:Nat)] 82 (0,0))):=jd (HFk.o.blk HPm.o λe=>by have:=Bv.o;have:=sV.o;omega);have HNk:Hd (New w wk):=jd (aer.o.next HFk.o λi hi=>.inr (by have h1:=Sk.o.size;have h2:=RI.o.size;have h3:=Pj.o.new.size;have h4:=sV.o;have h5:=Bv.o;omega));obtain⟨c1,c2,_,_⟩:=ay HPk.o;by_cases hkn:k<n;rotate_left
   · obtain rfl:n=k:=by omega
     obtain⟨i6,hi6,amX,amW,amV⟩:=info_parts ac3;have ajv:Hd (New w4 wk):=jd (HNm.o.next HFk.o λi hi=>.inr (by have:=sV.o;have:=Bv.o;omega));have KF:=jd (ajv.o.owns Pj.o.own λ_ _ x=>x);have hbase:wd.heap.size<=wk.heap.size:=jJ Pj.o.new.size ajv.o.size
     go_wp2_with (first
      |(at_builtin;refine wpList_append_own _ rfl _ _ 85 rfl wd.heap.size 86 i6 (.map none) 1 8 Tryz.underlying85 hi6 amX amW amV rfl (by decide) _ j (bs.map λb=>.map (some b)) rfl (World.ownsRow.alloc KF.o _) ⟨_,0,none⟩ 1 1 [.map (some rb)] rfl rfl (VS _ _ _) (TU _) (by unfold maxLen;omega) (by omega) (by rw[World.size_alloc];omega) ?_;intro v' w9 hown cN _)
      |go_in)
     have Ng:Hd (Rw wd w9 U R v' (bs++[rb]) (j+1)):=jd (by
      refine Pj.o.app (by have:=sV.o;have:=Bv.o;omega) HNm.o HFk.o ?_ hown cN
      have e:R j=l9 E (wY X L (p1,p2) n):=by
       rw[HR.o,aeu.o]
       show l9 E (wY X L (G.getD j (0,0)) X.length)=_
       have e2:(p1,p2)=G.getD j (0,0):=by rw[FA.o,HP2.o]
       rw[e2]
      rw[e];exact HRk.o)
     clear hown cN;go_wp2;go_roundw
     case rel=>exact⟨j+1,_,by omega,by go_num,Ng⟩
     case measure=>simp[intOf];omega
   have i2:(0:Int)<=(k:Int):=by omega
   have i3:(k:Int)<(n:Int):=by omega
   have hb:=VV p1 k (by omega);obtain⟨tb,HTB⟩:=jb (p1.testBit k);rw[<-HTB.o]at hb
   cases tb with
   |true=>
    simp only[if_true]at hb;go_wp2;go_roundw
    case rel=>
     have hr:=HRk.o
     have e:wY X L (p1,p2) (k+1)=wY X L (p1,p2) k:=by
      rw[Ih];unfold XH
      rw[if_pos HTB.o.symm,List.append_nil]
     rw[<-e]at hr;exact⟨k+1,by omega,by go_num,HFk,jd hr⟩
    case measure=>simp[intOf];omega
   |false=>
    simp only[jN,if_false]at hb;have UU:=SC bc b sB p1 p2 k X L wk (HH.o.new HNk.o) HX.o Xk.o HPE.o.1 H6.o hL HPE.o.2 (by have:=aeu.o;omega) HTB.o.symm;obtain⟨TL,RA⟩:=jb ((Kn.oZ X L p1.testBit k p2).map λm=>(p1 ||| 2 ^ k,m));rw[<-RA.o]at UU;have HTN:=jd UU;clear UU;go_wp2_with fail
    refine HTN.o.mono ?_
    rintro e wt ⟨ta,tn,tc,rfl,hNt,HTn,hTs⟩;have HNt:=jd hNt;have HTs:=jd hTs;clear hNt hTs HTN
    have HTL:Hd (TL=XH X L (p1,p2) k):=jd (by
     rw[RA.o];unfold XH
     rw[if_neg (by rw[<-HTB.o];simp)])
    have htn:tn<=2:=by rw[HTn.o,RA.o,jA];exact PB _ _ _ _ _
    have HIN:Hd (∀t∈TL,t∈E):=jd λt ht=>by
     rw[HTL.o]at ht
     rw[HEE.o];exact SK (by have:=aeu.o;omega) HPE.o.1 ht
    have HRt:Hd (eV U wt rb (l9 E (wY X L (p1,p2) k++TL.take 0))):=jd (by rw[List.take_zero,List.append_nil];exact HRk.o.fr HNt.o λx=>x)
    have HRC:Hd (∀o x,wt.cell? ⟨rb,o,none⟩≠some x):=jd λo x=>HRt.o.Oh
    have HNR:Hd (nm≠rb):=jd (by have h1:=ajt.o.lt;have h2:=sV.o;have h3:=Bv.o;have h4:=aju.o.lt;have h5:=RI.o.size;have h6:=Pj.o.new.size;omega);have apx:Hd (dx 82 mkM okM wt nm U (D9 E) E):=jd ((ajt.o.fr HFk.o HNR.o).fr HNt.o λx=>x);clear c1 c2 hb;go_wp2_with fail
    go_loopw [96] (λi wr=>∃q:Nat,q<=tn/\i=.int .i64 q/\Hd (Fr (λb=>b=rb) wt wr)/\Hd (eV U wr rb (l9 E (wY X L (p1,p2) k++TL.take q)))) (λi _=>tn-(intOf i).toNat)
    case atStart=>exact⟨0,by omega,rfl,jd (refl _ _),HRt⟩
    case round=>
    obtain⟨q,hq,rfl,HFq,HRq⟩:=hrel
    obtain⟨wq,rfl⟩:∃z:World,z=wr:=⟨_,rfl⟩
    by_cases Mo:q<tn;rotate_left
    · obtain rfl:tn=q:=by omega
      have HRN:Hd (eV U wq rb (l9 E (wY X L (p1,p2) (k+1)))):=jd (by
       have hr:=HRq.o;rw[List.take_of_length_le (by have:=HTn.o;omega),HTL.o,<-Ih]at hr
       exact hr)
      go_wp2;go_roundw
      case rel=>exact⟨k+1,by omega,by go_num,jd ((HFk.o.trans (HNt.o.mono λ_ x=>x.elim)).trans HFq.o),HRN⟩
      case measure=>simp[intOf];omega
    have Yy:q<TL.length:=by have:=HTn.o;omega
    obtain⟨bt,ot,rfl,t1,t2⟩:=HTs.o.at Yy
    have t1:=HFq.o.cell t1 fun(e:bt=rb)=>HRC.o _ _ (e ▸ t1)
    have t2:=HFq.o.cell t2 fun(e:bt=rb)=>HRC.o _ _ (e ▸ t2)
    obtain⟨y1,HY1⟩:=jb ((TL.getD q (0,0)).1);obtain⟨y2,HY2⟩:=jb ((TL.getD q (0,0)).2);rw[<-HY1.o]at t1;rw[<-HY2.o]at t2;have HYE:Hd ((y1,y2)=TL.getD q (0,0)):=jd (by rw[HY1.o,HY2.o])
    have hyE:(y1,y2)∈E:=by
     rw[HYE.o,jc,je Yy];exact HIN.o _ (jM Yy)
    have wO:okM (y1,y2):=by
     have h:=hyE;rw[HEE.o,Kn.mY]at h;have h1:=Lz h.1 H6.o;have h2:y2<2 ^ 14:=jT h.2 (jI (by omega) (jJ (BQ X L _) (by have:=H6.o;omega)));exact⟨by show y1<1000000000;simp only at h1;omega,by show y2<1000000000;omega⟩
    obtain⟨ix,HIX⟩:=jb (E.idxOf (y1,y2))
    have hix:ix<U:=by rw[HIX.o,HU.o];exact jr hyE
    obtain⟨cu,Pq⟩:=jb (l9 E (wY X L (p1,p2) k++TL.take q))
    have nM:Hd (l9 E (wY X L (p1,p2) k++TL.take (q+1))=λi=>if i=ix then !(cu i)else cu i):=jd (by
     rw[BJ TL (0,0) Yy,<-HYE.o,<-List.append_assoc,PU,<-HIX.o,<-Pq.o])
    rw[<-Pq.o]at HRq;obtain⟨wz,HWZ⟩:=jb (wq.alloc (.cells #[.int .i64 (y1:Nat),.int .i64 (y2:Nat)] 82));obtain⟨tB,ai5⟩:=jb wq.heap.size;have HNz:Hd (New wq wz):=jd (by rw[HWZ.o];exact(refl _ _).alloc _);have HTz:Hd (wz.heap[tB]?=some (.cells #[.int .i64 (y1:Nat),.int .i64 (y2:Nat)] 82 (0,0))):=jd (by rw[HWZ.o,ai5.o];exact heap_alloc_new _ _);have HRz:=jd (HRq.o.fr HNz.o λx=>x);have Xs:Hd (Fr (λb=>b=rb) wt wz):=jd (HFq.o.trans (HNz.o.mono λ_ x=>x.elim))
    have hlk:=(apx.o.fr Xs.o HNR.o).look gkM Tryz.acI (qi wz) wO
    have ahT:(D9 E (y1,y2)).getD (.int .i64 0)=.int .i64 (ix:Nat):=by
     unfold D9
     rw[if_pos hyE,HIX.o];rfl
    rw[ahT]at hlk;have adt:=HRz.o.get (x:=ix) (by omega);obtain⟨z1,z2,_,_⟩:=ay HTz.o;obtain⟨bv,HBV⟩:=jb (cu ix);rw[<-HBV.o]at adt;obtain⟨klp,uT⟩:=K7.key ix (show ix<1000000000 by omega)
    have i4:(0:Int)<=(q:Int):=by omega
    have i5:(q:Int)<(tn:Int):=by omega
    clear ahT hyE wO;go_upto_region 30 with fail;rw[<-HWZ.o,<-ai5.o];clear t1 t2;cases bv
    · obtain⟨w9,hrun,U3,hF9⟩:=HRz.o.put (by omega) hix
      have ZK:Hd (eV U w9 rb (l9 E (wY X L (p1,p2) k++TL.take (q+1)))):=jd (by
       rw[nM.o]
       have e:(λi=>if i=ix then !(cu i)else cu i)=(λi=>if i=ix then true else cu i):=funext λi=>by
        by_cases c:i=ix
        · rw[if_pos c,if_pos c,c,<-HBV.o];rfl
        rw[if_neg c,if_neg c]
       rw[e];exact U3)
      have Hu:=jd hF9;clear U3 hF9;go_wp2;go_roundw
      case rel=>exact⟨q+1,by omega,by go_num,jd (Xs.o.trans Hu.o),ZK⟩
      case measure=>simp[intOf];omega
    obtain⟨⟨ks3,D3,JH,hd3⟩,JJ⟩:=HRz.o;have Wo:=jd JH;have HD3:=jd hd3;have aex:=jd JJ;clear JH hd3 JJ
    go_wp2_with (first
     |(at_delete;refine wpList_delete_own _ rfl _ _ 86 3 rfl 4 K7.law Tryz.LS hE rb U D3 rfl Wo.o _ klp rfl uT ?_;intro w9 ho9 ht9)
     |go_in)
    have U3:=eV.del HD3.o (Wo.o.tidy K7.law) aex.o uT ho9;have Hu:=jd (Es ht9)
    have ZK:Hd (eV U w9 rb (l9 E (wY X L (p1,p2) k++TL.take (q+1)))):=jd (by
     rw[nM.o]
     have e:(λi=>if i=ix then !(cu i)else cu i)=(λi=>if i=ix then false else cu i):=funext λi=>by
      by_cases c:i=ix
      · rw[if_pos c,if_pos c,c,<-HBV.o];rfl
      rw[if_neg c,if_neg c]
     rw[e];exact U3)
    clear U3 ho9 ht9;(try go_frame);go_wp2;go_roundw
    case rel=>exact⟨q+1,by omega,by go_num,jd (Xs.o.trans Hu.o),ZK⟩
    case measure=>simp[intOf];omega
 obtain rfl:gl=j:=by omega
 obtain⟨ra,rc,rfl,ahF⟩:=Pj.o.mps;obtain⟨CP,hmap⟩:=Pj.o.rows;have E8:=Tr ra gl rc bs (λk=>R (bs.idxOf k)) U w4 ahF Pj.o.len.symm (by omega) (by omega) Pj.o.nd CP;have G9:Hd (∀b∈bs,wd.heap.size<=b):=jd Pj.o.lb;have HNV:Hd (New wd w4):=jd Pj.o.new;have aja:=jd E8;have HBL:Hd (bs.length=gl):=jd Pj.o.len;clear ahF CP E8;go_wp2_with fail
 refine aja.o.mono ?_
 rintro e w9 ⟨r,rfl,E8,hrl,hFr⟩;have DC:Hd (New wd w9):=jd (HNV.o.next hFr λi hi=>.inr (G9.o i hi))
 have hrg:r<=gl:=by rw[<-HBL.o];exact hrl
 have HRV:Hd (rF (d1,d2)=(r:Int)):=jd (by
  rw[hmap,HR.o,FD.o,Ci G (0,0) λp=>l9 E (wY X L p X.length),HGG.o]at E8;rw[Wl.o];unfold RV
  rw[Kn.Cc E8])
 have Wt:Hd (lF (d1,d2)=(gl:Int)):=jd (by
  rw[ZV.o,FD.o,HGG.o];rfl)
 have HDN:Hd ((d1,d2)∉done):=jd λh=>by
  have:=Nn.o.nd;exact(jU.1 this).2.2 _ h _ (by simp) rfl
 have HDL:Hd (done.length<=U):=jd (by
  have h1:=Kn.tN Sm.o.nd (m:=ks) Sm.o.mem
  exact jJ h1 (dx.size_le ZY.o.map Tryz.Ub))
 clear hmap E8 hrl hFr aja Pj;go_upto_region 39 with fail;have apq:Hd (∃kk,dx 50 yI vZ w9 om (2*done.length) (nX lF rF done) kk):=jd (by obtain⟨kk,CU⟩:=ajq.o;exact⟨kk,CU.fr (RI.o.trans DC.o) λx=>x⟩);have HD9:Hd (w9.heap[dB]?=some (.cells #[.int .i64 d1,.int .i64 d2] 50 (0,0))):=jd (DC.o.blk HDd.o λx=>x);have HDO:Hd (dB≠om):=jd (by obtain⟨kk,CU⟩:=ajq.o;have h1:=CU.lt;have h2:=Xu.o;omega)
 have j9:Hd (∀wz,Fr (λj=>j=om) w9 wz->wz.cell? ⟨dB,0,none⟩=some (.int .i64 d1)/\wz.cell? ⟨dB,1,none⟩=some (.int .i64 d2)):=jd λwz hz=>by
  obtain⟨h1,h2,_,_⟩:=ay (hz.blk HD9.o HDO.o);exact⟨h1,h2⟩
 have ok1:vZ (d1,d2):=by unfold vZ;simp only;omega
 have ok2:vZ (d1+1,d2):=by unfold vZ;simp only;omega
 obtain⟨x0,HX0⟩:=jb (th lF rF done (d1,d2));obtain⟨x1,HX1⟩:=jb (th lF rF done (d1+1,d2));have hx0:=FO HBF.o done (d1,d2);have hx1:=FO HBF.o done (d1+1,d2);rw[<-HX0.o]at hx0;rw[<-HX1.o]at hx1;obtain⟨e1,e2⟩:=hx0;obtain⟨e3,e4⟩:=hx1
 go_cut [8] (λs8 wx=>s8=.map (some om)/\Hd (Fr (λj=>j=om) w9 wx/\∃kk,dx 50 yI vZ wx om (2*done.length+1) (gD (nX lF rF done) (d1,d2) (some (.int .i64 (x0+((gl:Int)-(r:Int)))))) kk))
 case first=>
  obtain⟨z0,Hp⟩:=jb w9.drew;have Xs:Hd (Fr (λj=>j=om) w9 z0):=jd (by rw[Hp.o];exact(refl _ _).drew);obtain⟨kk,CU⟩:=apq.o
  have hkz:dx 50 yI vZ z0 om (2*done.length) (nX lF rF done) kk:=CU.fr (show New w9 z0 by rw[Hp.o];exact(refl _ _).drew) λx=>x
  have Eb:=hkz.look AF Tryz.Qm (qi z0) ok1;rw[xE,<-HX0.o]at Eb;obtain⟨v0,st,W1,W2,QL,Fb,Mt,hes,hk2,hF2⟩:=hkz.entry AF Tryz.Gh (by have:=HDL.o;unfold maxLen;omega) Tryz.Qm qi ok1 (.int .i64 (x0+((gl:Int)-(r:Int))));rw[xE,<-HX0.o]at Mt;have Wv:=jd Eb;have Wu:=jd Mt;have RL:=jd QL;have HES:=jd hes;have WB:=jd (Xs.o.trans Fb);have Wz:=jd (Xs.o.trans hF2)
  have HK2:Hd (∃kk,dx 50 yI vZ W2 om (2*done.length+1) (gD (nX lF rF done) (d1,d2) (some (.int .i64 (x0+((gl:Int)-(r:Int)))))) kk):=jd ⟨_,hk2⟩;clear hkz CU Eb Mt QL hes Fb hF2 hk2
  refine wp_region_held_drew (S:=λwz=>wz.cell? ⟨dB,0,none⟩=some (.int .i64 d1)/\wz.cell? ⟨dB,1,none⟩=some (.int .i64 d2)) (by kernel_rfl) (j9.o _ (refl _ _).drew) (λhHeld=>?_)
  rw[<-Hp.o]at hHeld ⊢
  refine' sq 0 (h:=sq 1 (h:=sq 3 (h:=sq 4 (h:=sq 5 (h:=sq 6 (h:=?_))))))
  refine wpAnyH_ready (rs:=[2,8]) (by kernel_rfl) (by simp) ?_
  refine cons rfl (λK hK=>?_) (cons rfl (λK hK=>?_) nil)
  focus
   skip;(try simp only[aR,aP,aO]);have heq:=Wv.o;go_simp;clear heq;refine hK.out _ _ hHeld (λhHeld=>?_);clear hK K;(try simp only[put,aR,aP,aO,bQ,bP,bO])
   refine' sq 7 (h:=?_)
   rw[show i64.wrap (x0+i64.wrap ((gl:Int)-(r:Int)))=x0+((gl:Int)-(r:Int))by rw[i64_in ((gl:Int)-(r:Int)) (by omega),i64_in _ (by omega)]];refine dQ (i:=8) (λK hK=>?_);(try simp only[aR,aP,aO]);have heq:=RL.o;go_simp;clear heq;refine hK.out _ _ (j9.o _ WB.o) (λhHeld=>?_);clear hK K;(try simp only[put,aR,aP,aO,bQ,bP,bO])
   refine' sq 9 (h:=?_)
  rotate_left
  focus
   skip;(try simp only[aR,aP,aO]);have heq:=RL.o;go_simp;clear heq;refine hK.out _ _ (j9.o _ WB.o) (λhHeld=>?_);clear hK K;(try simp only[put,aR,aP,aO,bQ,bP,bO])
   refine' sq 9 (h:=?_)
   refine dQ (i:=2) (λK hK=>?_);(try simp only[aR,aP,aO]);have heq:=Wu.o;go_simp;clear heq;refine hK.out _ _ hHeld (λhHeld=>?_);clear hK K;(try simp only[put,aR,aP,aO,bQ,bP,bO])
   refine' sq 7 (h:=?_)
   rw[show i64.wrap (x0+i64.wrap ((gl:Int)-(r:Int)))=x0+((gl:Int)-(r:Int))by rw[i64_in ((gl:Int)-(r:Int)) (by omega),i64_in _ (by omega)]]
  all_goals
   refine dQ (i:=10) (λK hK=>?_);(try simp only[aR,aP,aO]);have heq:=HES.o;go_simp;clear heq;refine hK.out _ _ (j9.o _ Wz.o) (λhHeld=>?_);clear hK K;(try simp only[put,aR,aP,aO,bQ,bP,bO]);refine wpAnyH_done (by kernel_rfl) ?_ _;go_wp2_with fail;go_meet;exact⟨rfl,jd ⟨Wz.o,HK2.o⟩⟩
 case rest=>
 obtain⟨rfl,HCT⟩:=hcut
 obtain⟨Sw,rfl⟩:∃z:World,z=wc:=⟨_,rfl⟩
 go_upto_region 40 with fail;obtain⟨z0,Hp⟩:=jb Sw.drew;have Xs:Hd (Fr (λj=>j=om) w9 z0):=jd (by rw[Hp.o];exact HCT.o.1.drew);obtain⟨kk,CU⟩:=HCT.o.2
 have hkz:dx 50 yI vZ z0 om (2*done.length+1) (gD (nX lF rF done) (d1,d2) (some (.int .i64 (x0+((gl:Int)-(r:Int)))))) kk:=CU.fr (show New Sw z0 by rw[Hp.o];exact(refl _ _).drew) λx=>x
 have hu:gD (nX lF rF done) (d1,d2) (some (.int .i64 (x0+((gl:Int)-(r:Int))))) (d1+1,d2)=nX lF rF done (d1+1,d2):=by
  unfold gD;rw[if_neg];intro e;have:=congrArg Prod.fst e;simp only at this;omega
 have Eb:=hkz.look AF Tryz.Qm (qi z0) ok2;rw[hu,xE,<-HX1.o]at Eb;obtain⟨v0,st,W1,W2,QL,Fb,Mt,hes,hk2,hF2⟩:=hkz.entry AF Tryz.Gh (by have:=HDL.o;unfold maxLen;omega) Tryz.Qm qi ok2 (.int .i64 (x1-(r:Int)));rw[hu,xE,<-HX1.o]at Mt;have Wv:=jd Eb;have Wu:=jd Mt;have RL:=jd QL;have HES:=jd hes;have WB:=jd (Xs.o.trans Fb);have Wz:=jd (Xs.o.trans hF2);have WC:Hd (Fr (λj=>j=om) w8 W2):=jd (((RI.o.trans DC.o).mono λ_ x=>x.elim).trans Wz.o)
 have Ng:Hd (Xv 50 W2 gm it U D (λz=>left z && !z.sameKey kl) cnt2):=jd (KE.o.fr WC.o (λe=>by obtain⟨_,_,hb⟩:=ZY.o.map.blk;have h1:=ZY.o.map.lt;have h2:=HIL.o;have h3:=HLE.o;have h4:=HGM.o;have h5:=HNM.o;omega) λe=>by have:=HIL.o;omega)
 have aph:Hd (∃(left:Lit->Bool) (cnt:Nat) (done:List (Int×Int)),Hd (Xv 50 W2 gm it U D left cnt)/\Hd (mX 50 yI vZ D f ks left done)/\Hd (Fr (λj=>j=om\/j=it) w0 W2)/\Hd (∃kk,dx 50 yI vZ W2 om (2*done.length) (nX lF rF done) kk)):=jd ⟨_,_,_,Ng,Nn,jd (Pp.o.trans (WC.o.mono λ_ e=>.inl e)),jd ⟨_,by
  have h:=hk2;have e:=P9 lF rF HDN.o;rw[Wt.o,HRV.o,<-HX0.o]at e;have e2:th lF rF done (zY (d1,d2))=x1:=HX1.o.symm;rw[e2]at e;have e3:(d1+1,d2)=zY (d1,d2):=rfl;rw[e3,e]at h;rw[ju,List.length_singleton]
  exact h⟩⟩
 have HMS:Hd (W2.rangeLeft gm it<w3.rangeLeft gm it):=jd (by rw[Ng.o.left_eq,Ld.o.left_eq];exact QM);have Hr:Hd (∀wz,Fr (λj=>j=om) w9 wz->wz.cell? ⟨dB,0,none⟩=some (.int .i64 d1)/\wz.cell? ⟨dB,1,none⟩=some (.int .i64 d2)):=j9;clear hkz CU Eb Mt QL hes Fb hF2 hk2 hu
 refine wp_region_held_drew (S:=λwz=>wz.cell? ⟨dB,0,none⟩=some (.int .i64 d1)/\wz.cell? ⟨dB,1,none⟩=some (.int .i64 d2)) (by kernel_rfl) (Hr.o _ (by rw[<-Hp.o];exact Xs.o)) (λhHeld=>?_)
 rw[<-Hp.o]at hHeld ⊢
 refine' sq 0 (h:=sq 1 (h:=sq 2 (h:=sq 3 (h:=sq 4 (h:=sq 5 (h:=?_))))))
 (try rw[show i64.wrap (d1+1)=d1+1 from i64_in _ (by omega)])
 refine' sq 6 (h:=sq 8 (h:=?_))
 skip
 refine wpAnyH_ready (rs:=[7,10]) (by kernel_rfl) (by simp) ?_
 refine cons rfl (λK hK=>?_) (cons rfl (λK hK=>?_) nil)
 focus
  skip;(try simp only[aR,aP,aO]);have heq:=Wv.o;go_simp;clear heq;refine hK.out _ _ hHeld (λhHeld=>?_);clear hK K;(try simp only[put,aR,aP,aO,bQ,bP,bO])
  refine' sq 9 (h:=?_)
  rw[show i64.wrap (x1-(r:Int))=x1-(r:Int)from i64_in _ (by omega)];refine dQ (i:=10) (λK hK=>?_);(try simp only[aR,aP,aO]);have heq:=RL.o;go_simp;clear heq;refine hK.out _ _ (Hr.o _ WB.o) (λhHeld=>?_);clear hK K;(try simp only[put,aR,aP,aO,bQ,bP,bO])
  refine' sq 11 (h:=?_)
 rotate_left
 focus
  skip;(try simp only[aR,aP,aO]);have heq:=RL.o;go_simp;clear heq;refine hK.out _ _ (Hr.o _ WB.o) (λhHeld=>?_);clear hK K;(try simp only[put,aR,aP,aO,bQ,bP,bO])
  refine' sq 11 (h:=?_)
  refine dQ (i:=7) (λK hK=>?_);(try simp only[aR,aP,aO]);have heq:=Wu.o;go_simp;clear heq;refine hK.out _ _ hHeld (λhHeld=>?_);clear hK K;(try simp only[put,aR,aP,aO,bQ,bP,bO])
  refine' sq 9 (h:=?_)
  rw[show i64.wrap (x1-(r:Int))=x1-(r:Int)from i64_in _ (by omega)]
 all_goals
  refine dQ (i:=12) (λK hK=>?_);(try simp only[aR,aP,aO]);have heq:=HES.o;go_simp;clear heq;refine hK.out _ _ (Hr.o _ Wz.o) (λhHeld=>?_);clear hK K;(try simp only[put,aR,aP,aO,bQ,bP,bO]);refine wpAnyH_done (by kernel_rfl) ?_ _;go_wp2;go_roundw
  case rel=>exact aph.o
  case measure=>exact HMS.o
end Go.Proofs.YtfplmbmenjdlhaaGreatDoor
