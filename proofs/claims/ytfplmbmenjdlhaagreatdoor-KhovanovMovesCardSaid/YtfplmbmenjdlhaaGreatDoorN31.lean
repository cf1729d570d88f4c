/- Walks: curl. -/
import Derived.Test.YtfplmbmenjdlhaaGreatDoorN30a
set_option maxRecDepth 100000
set_option maxHeartbeats 16000000
namespace Go.Proofs.YtfplmbmenjdlhaaGreatDoor
open Go.RowKit
open Act (put)
open AllReadyH (cons nil)
open Fr (refl)
open IntKind (i64)
open Kn (Cr mkC LW ag)
variable {L:Int} {X Z:List Cr} {fv v:Value}
structure D1(w:World)(B2 B7 B8:Nat)(mv:Array Value)(f0 f1 s0 s1:Int):Prop where
 b2:w.heap[B2]?=some (.cells mv 28 (0,0))
 b7:w.heap[B7]?=some (.cells #[.int .i64 f0,.int .i64 f1] 148 (0,0))
 b8:w.heap[B8]?=some (.cells #[.int .i64 s0,.int .i64 s1] 148 (0,0))
section
variable {w w':World} {B2 B7 B8:Nat} {mv:Array Value} {f0 f1 s0 s1:Int}
theorem D1.new(h:D1 w B2 B7 B8 mv f0 f1 s0 s1)(k:New w w'):D1 w' B2 B7 B8 mv f0 f1 s0 s1:=⟨k.blk h.b2 λx=>x,k.blk h.b7 λx=>x,k.blk h.b8 λx=>x⟩
theorem D1.kept{D b s:Nat}{bi bo:Nat}(h:D1 w B2 B7 B8 mv f0 f1 s0 s1)(k:BW D w b s fv v bi bo X Z L)(hF:Fr (λk=>k=s\/v.ownBlock=some k) w w'):D1 w' B2 B7 B8 mv f0 f1 s0 s1:=
 ⟨k.keep hF h.b2 (by decide) (by decide),k.keep hF h.b7 (by decide) (by decide),k.keep hF h.b8 (by decide) (by decide)⟩
theorem D1.set{s:Nat}{cs:Array Value}(h:D1 w B2 B7 B8 mv f0 f1 s0 s1)(k:w.heap[s]?=some (.cells cs 70 (0,0)))(u:Value)(j:Nat):D1 (w.setCell ⟨s,j,none⟩ u) B2 B7 B8 mv f0 f1 s0 s1:=by
 have hF:Fr (λk=>k=s) w (w.setCell ⟨s,j,none⟩ u):=(refl (λk=>k=s) w).setCell (.inl rfl) _;exact⟨hF.blk h.b2 (λe=>by have h1:=h.b2;rw[e,k]at h1;cases h1),hF.blk h.b7 (λe=>by have h1:=h.b7;rw[e,k]at h1;cases h1),hF.blk h.b8 (λe=>by have h1:=h.b8;rw[e,k]at h1;cases h1)⟩
theorem D1.swap(h:D1 w B2 B7 B8 mv f0 f1 s0 s1)(hne:¬B8=B7):D1 ((((w.setCell ⟨B7,0,none⟩ (.int .i64 s0)).setCell ⟨B7,1,none⟩ (.int .i64 s1)).setCell ⟨B8,0,none⟩ (.int .i64 f0)).setCell ⟨B8,1,none⟩ (.int .i64 f1)) B2 B7 B8 mv s0 s1 f0 f1 /\
 Fr (λk=>k=B7\/k=B8) w ((((w.setCell ⟨B7,0,none⟩ (.int .i64 s0)).setCell ⟨B7,1,none⟩ (.int .i64 s1)).setCell ⟨B8,0,none⟩ (.int .i64 f0)).setCell ⟨B8,1,none⟩ (.int .i64 f1)):=by
 have h7:=(bD (bD h.b7 (.int .i64 s0)).1 (.int .i64 s1)).2
 have Bg:Fr (λk=>k=B7) w ((w.setCell ⟨B7,0,none⟩ (.int .i64 s0)).setCell ⟨B7,1,none⟩ (.int .i64 s1)):=by refine Fr.setCell (Fr.setCell (refl _ w) ?_ _) ?_ _<;>exact .inl rfl
 have h8:=Bg.blk h.b8 hne;have h8':=(bD (bD h8 (.int .i64 f0)).1 (.int .i64 f1)).2
 have DU:Fr (λk=>k=B8) ((w.setCell ⟨B7,0,none⟩ (.int .i64 s0)).setCell ⟨B7,1,none⟩ (.int .i64 s1)) ((((w.setCell ⟨B7,0,none⟩ (.int .i64 s0)).setCell ⟨B7,1,none⟩ (.int .i64 s1)).setCell ⟨B8,0,none⟩ (.int .i64 f0)).setCell ⟨B8,1,none⟩ (.int .i64 f1)):=by refine Fr.setCell (Fr.setCell (refl _ _) ?_ _) ?_ _<;>exact .inl rfl
 have n27:¬B2=B7:=λe=>by have h1:=h.b2;rw[e,h.b7]at h1;cases h1
 have n28:¬B2=B8:=λe=>by have h1:=h.b2;rw[e,h.b8]at h1;cases h1
 exact⟨⟨DU.blk (Bg.blk h.b2 n27) n28,DU.blk h7 (λe=>hne e.symm),h8'⟩,(Bg.mono λ_ h=>.inl h).trans (DU.mono λ_ h=>.inr h)⟩
theorem Zr(b:Int)(h0:0<=b)(h3:b<=3):(bits BinOp.and i64 b 2 != 0)=decide (2<=b)/\(bits BinOp.and i64 b 1 != 0)=decide (b%2=1):=by
 have c:b=0\/b=1\/b=2\/b=3:=by omega
 rcases c with rfl|rfl|rfl|rfl<;>exact⟨by kernel_rfl,by kernel_rfl⟩
theorem BW.loops{D b s:Nat}{bi bo:Nat}(h:BW D w b s fv v bi bo X Z L)(L':Int):BW D (w.setCell ⟨s,1,none⟩ (.int .i64 L')) b s fv v bi bo X Z L':=by
 have hS:Fr (λk=>k=s) w (w.setCell ⟨s,1,none⟩ (.int .i64 L')):=(refl (λk=>k=s) w).setCell (.inl rfl) _;have h2:=h.FW
 have hnS:∀{B:Nat} {t:TypeId} {cs:Array Value},t≠70->w.heap[B]?=some (.cells cs t (0,0))->¬B=s:=λht hB e=>by
  subst e;rw[hB]at h2;cases h2;exact ht rfl
 refine⟨hS.blk h.blk (hnS (by decide) h.blk),?_,hS.owns h.own ?_,hS.row h.ri ?_,hS.row h.ro ?_,h.ne,h.lb,h.ls⟩
 · unfold World.setCell;simp[Array.getElem?_modify,h2]
 · exact λk hk e=>aU h2 h.own (by decide) (e ▸ hk)
 · obtain⟨cs,k1,_⟩:=h.ri;exact hnS (by decide) k1
 obtain⟨cs,k1,_⟩:=h.ro;exact hnS (by decide) k1
theorem BW.other{D b s:Nat}{bi bo:Nat}{S:Nat->Prop}(h:BW D w b s fv v bi bo X Z L)(hF:Fr S w w')(hs:∀k,S k->∃cs,w.heap[k]?=some (.cells cs 148 (0,0))):BW D w' b s fv v bi bo X Z L:=by
 have hn:∀{B:Nat} {t:TypeId} {cs:Array Value},t≠148->w.heap[B]?=some (.cells cs t (0,0))->¬S B:=λht hB hS=>by
  obtain⟨cs,h1⟩:=hs _ hS
  rw[hB]at h1;cases h1;exact ht rfl
 refine⟨hF.blk h.blk (hn (by decide) h.blk),hF.blk h.FW (hn (by decide) h.FW),hF.owns h.own (λk hk hS=>?_),hF.row h.ri ?_,hF.row h.ro ?_,h.ne,h.lb,h.ls⟩
 · obtain⟨cs,h1⟩:=hs _ hS
   exact aU h1 h.own (by decide) hk
 · obtain⟨cs,k1,_⟩:=h.ri;exact hn (by decide) k1
 obtain⟨cs,k1,_⟩:=h.ro;exact hn (by decide) k1
end
theorem b3(x y z:Bool):x=false\/x=true/\y=false\/x=true/\y=true/\z=false\/x=true/\y=true/\z=true:=by cases x<;>cases y<;>cases z<;>simp
theorem VD(D b s:Nat)(fv v:Value)(bi bo:Nat)(X:List Cr)(L k a uk u vv:Int)(ub vb ov:Bool)(w:World)(h:BW D w b s fv v bi bo X X L)(hX:Kn.Ok X)(hl:X.length<=16)(l1:0<=L)(l2:L<=16):
 Calls Tryz.prog 65 #[.pointer (some ⟨b,0,none⟩),Hl k a uk u vv ub vb ov] w (vQ D b s fv (sQ X L a uk) w):=by
 have HX:=jd hX
 obtain⟨O,HO⟩:∃O,Hd (sQ X L a uk=O):=⟨_,jd rfl⟩
 rw[HO.o]
 obtain⟨rA,Nk⟩:∃r,Hd (Kn.AG X a=r):=⟨_,jd rfl⟩
 obtain⟨lp,Xq⟩:∃r,Hd (Ad L a=r):=⟨_,jd rfl⟩
 obtain⟨c2,vw⟩:∃r,Hd (decide (0<=uk)=r):=⟨_,jd rfl⟩
 obtain⟨c3,AP⟩:∃r,Hd (decide (uk<=3)=r):=⟨_,jd rfl⟩
 obtain⟨w1,cU⟩:=jb (w.alloc (.cells #[.int .i64 k,.int .i64 a,.int .i64 uk,.int .i64 u,.bool ub,.int .i64 vv,.bool vb,.bool ov] 28));obtain⟨B2,fD⟩:=jb w.heap.size
 have hn:New w w1:=by rw[cU.o];exact(refl _ w).alloc _
 have HN:=jd hn
 have HZ:Hd (w1.heap[B2]?=some (.cells #[.int .i64 k,.int .i64 a,.int .i64 uk,.int .i64 u,.bool ub,.int .i64 vv,.bool vb,.bool ov] 28 (0,0))):=jd (by
  rw[cU.o,fD.o];exact heap_alloc_new _ _)
 have HB:=jd (h.new hn);obtain⟨b0,_,b2,_⟩:=(h.new hn).box;obtain⟨_,m1,m2,_⟩:=cH HZ.o
 have U8:∀r,r=w1.drew->Calls Tryz.prog 92 #[.pointer (some ⟨s,0,none⟩),.int .i64 a] r λe w'=>e=.returned (.bool rA)/\w'=r:=λr hr=>by
  rw[<-Nk.o];exact CK s a X L r (by rw[hr];exact((HB.o.new (refl _ w1).drew).at).sh) hl
 have Pq:=jd U8
 have j9:Hd (∀r,r=w1.drew->r.cell? ⟨b,0,none⟩=some (.pointer (some ⟨s,0,none⟩))/\r.cell? ⟨B2,1,none⟩=some (.int .i64 a)/\r.cell? ⟨B2,2,none⟩=some (.int .i64 uk)):=jd λr hr=>by
  subst hr;obtain⟨_,m1,m2,_⟩:=cH (show w1.drew.heap[B2]?=_ from HZ.o);exact⟨(ay HB.o.blk).1,m1,m2⟩
 have Xf:Hd (((rA||lp)&&(c2&&c3))=false->∀r,r=w1.drew->vQ D b s fv O w (.panicked (sZ 3)) r):=jd λh0 r hr=>by
  refine⟨by rw[hr];exact(HN.o.drew).mono λ_ h=>h.elim,?_⟩
  have e:Zm uk=(c2&&c3):=by unfold Zm;rw[vw.o,AP.o]
  rw[<-HO.o];unfold sQ
  rw[Nk.o,Xq.o,e,h0];rfl
 clear h hX hn U8;have hb2:decide (0<=uk)=c2:=vw.o;have hb3:decide (uk<=3)=c3:=AP.o
 obtain⟨sw,Kz⟩:∃r,Hd (decide (2<=uk)=r):=⟨_,jd rfl⟩
 obtain⟨Z8,Xk⟩:∃r,Hd (decide (uk%2=1)=r):=⟨_,jd rfl⟩
 have m1':=m1;rw[cU.o]at m1' b0 b2;by_cases h0:a=0
 focus
  subst h0
  have hra:rA=false:=by rw[<-Nk.o];rfl
  subst hra
  have hlp:decide (0<L)=lp:=by rw[<-Xq.o];unfold Ad;simp
 rotate_left
 focus
  have hlp:lp=false:=by rw[<-Xq.o];unfold Ad;simp[h0]
  subst hlp
  have ha:(a==0)=false:=by simpa using h0
 rotate_left
 all_goals
  go_enter Tryz.func65,Tryz.ntmps65
  go_wp2_with fail;rw[<-cU.o,<-fD.o];clear m1' b0 b2
 focus
  refine wp_region_held_drew (S:=λwz=>wz.cell? ⟨b,0,none⟩=some (.pointer (some ⟨s,0,none⟩))/\wz.cell? ⟨B2,1,none⟩=some (.int .i64 0)/\wz.cell? ⟨B2,2,none⟩=some (.int .i64 uk)) (by kernel_rfl) (j9.o _ rfl) (λhHeld=>?_)
  rcases b3 lp c2 c3 with rfl|⟨rfl,rfl⟩|⟨rfl,rfl,rfl⟩|⟨rfl,rfl,rfl⟩
 rotate_left 4
 focus
  refine wp_region_held_drew (S:=λwz=>wz.cell? ⟨b,0,none⟩=some (.pointer (some ⟨s,0,none⟩))/\wz.cell? ⟨B2,1,none⟩=some (.int .i64 a)/\wz.cell? ⟨B2,2,none⟩=some (.int .i64 uk)) (by kernel_rfl) (j9.o _ rfl) (λhHeld=>?_)
  rcases b3 rA c2 c3 with rfl|⟨rfl,rfl⟩|⟨rfl,rfl,rfl⟩|⟨rfl,rfl,rfl⟩
 rotate_left 4
 all_goals
  obtain⟨r0,sX⟩:=jb w1.drew;rw[<-sX.o]at hHeld ⊢
  refine' sq 0 (h:=sq 1 (h:=sq 2 (h:=sq 3 (h:=sq 4 (h:=sq 5 (h:=?_))))))
  refine dQ (i:=6) (λK hK=>?_);(try simp only[aR,aP,aO]);go_simp;refine(Pq.o r0 sX.o).mono ?_;rintro e r9 ⟨rfl,hw⟩;rw[hw];clear hw r9;go_wp2_with fail;refine hK.out _ _ (j9.o _ sX.o) (λhHeld=>?_);clear hK K;(try simp only[put,aR,aP,aO,bQ,bP,bO])
  refine' sq 7 (h:=?_)
  first|refine' sS (i:=8) ?_|refine' yG (i:=8) ?_
  (try simp only[put,aR,aP,aO,bQ,bP,bO])
  refine' sq 9 (h:=sq 10 (h:=?_))
  first|refine' sS (i:=11) ?_|refine' yG (i:=11) ?_
  (try simp only[put,aR,aP,aO,bQ,bP,bO])
  first|refine' sS (i:=12) ?_|refine' yG (i:=12) ?_
  (try simp only[put,aR,aP,aO,bQ,bP,bO])
  first|refine' sS (i:=13) ?_|refine' yG (i:=13) ?_
  (try simp only[put,aR,aP,aO,bQ,bP,bO])
  refine' sq 14 (h:=sq 15 (h:=?_))
  first|refine' sS (i:=16) ?_|refine' yG (i:=16) ?_
  (try simp only[put,aR,aP,aO,bQ,bP,bO])
  first|refine' sS (i:=17) ?_|refine' yG (i:=17) ?_
  (try simp only[put,aR,aP,aO,bQ,bP,bO])
  first|refine' sS (i:=18) ?_|refine' yG (i:=18) ?_
  (try simp only[put,aR,aP,aO,bQ,bP,bO])
  refine' sq 19 (h:=?_)
  refine dQ (i:=20) (λK hK=>?_);(try simp only[aR,aP,aO]);go_simp
  first
   |refine(eH 3 _).mono ?_
    rintro e r9 ⟨rfl,rfl⟩;go_wp2;exact⟨rfl,Xf.o (by rfl) _ sX.o⟩
   |skip
    refine(fP 3 _).mono ?_;rintro e r9 ⟨rfl,hw⟩;rw[hw];clear hw r9;go_wp2_with fail;refine hK.out _ _ (j9.o _ sX.o) (λhHeld=>?_);clear hK K;(try simp only[put,aR,aP,aO,bQ,bP,bO]);refine wpAnyH_done (by kernel_rfl) ?_ _;(try dsimp only)
 rotate_left
 focus
  obtain⟨an,rfl⟩:∃n:Nat,a=n:=⟨a.toNat,by have:=(kI.1 Nk.o).2;omega⟩
  have HAN:Hd (Kn.ah X an):=jd (kI.1 Nk.o).1
  have Mr:0<X.length:=by have h1:=HAN.o.1;have h2:=HAN.o.2;unfold ag at h2;omega
  obtain⟨g,cv,rfl,hDg⟩:=HB.o.sl Mr
 rotate_left
 focus
  obtain⟨av,cv,rfl,_⟩:=bV.gu HB.o.own
 all_goals
  clear Xf Pq j9;have gQ:Hd (New w r0):=jd (by rw[sX.o];exact HN.o.drew)
  have zt:New w1 r0:=by rw[sX.o];exact(refl _ _).drew
  have eU:=jd (HB.o.new zt);have Kw:=jd (zt.blk HZ.o λx=>x);clear hHeld zt sX HN HB HZ cU fD m1 m2 hb2 hb3;obtain⟨n,nM⟩:=jb X.length;rw[<-nM.o]at eU
  have vo:n<=16:=by have:=nM.o;omega
  obtain⟨p0,p1,p2,_,_⟩:=eU.o.box;by_cases ME:(n:Int)<16;rotate_left
  · have Sb:decide ((n:Int)<16)=false:=jm ME
    go_wp2_with fail;refine(eH 2 _).mono ?_;rintro e w4 ⟨rfl,rfl⟩;go_wp2;refine⟨rfl,gQ.o.mono λ_ h=>h.elim,?_⟩
    have e:Zm uk=true:=by unfold Zm;rw[vw.o,AP.o];rfl
    rw[<-HO.o];unfold sQ
    rw[Nk.o,Xq.o,e,if_pos (by rfl),if_neg (by have:=nM.o;omega)]
  have Sb:decide ((n:Int)<16)=true:=jk ME;go_wp2_with fail;refine(fP 2 _).mono ?_;rintro e w4 ⟨rfl,rfl⟩
  obtain⟨w2,rfl⟩:∃w2,w2=w4:=⟨_,rfl⟩
  obtain⟨m,RK⟩:=jb (ag X)
  have YE:m<=32:=by have:=RK.o;unfold ag at this;omega
  have HC:Hd (∀j,Calls Tryz.prog 46 #[.pointer (some ⟨s,0,none⟩)] (w2.drewN j) λe w'=>e=.returned (.int .i64 (m:Nat))/\w'=w2.drewN j):=jd λj=>by
   rw[RK.o]
   exact(u6 s X L _ (by have h1:=(eU.o.new ((refl _ w2).drewN j));rw[nM.o]at h1;exact h1.at.sh) hl).mono λe w' ⟨h1,h2⟩=>⟨h1,h2.symm⟩
  obtain⟨m1,nN⟩:=jb ((m:Int)+1);obtain⟨m2,nA⟩:=jb ((m:Int)+2);have Aj:(m:Int)+1=m1:=nN.o.symm;have GA:(m:Int)+2=m2:=nA.o.symm
  have Yt:i64.wrap m1=m1:=by rw[nN.o];exact IntWalk.i64_in _ (by omega)
  have adb:i64.wrap m2=m2:=by rw[nA.o];exact IntWalk.i64_in _ (by omega)
  go_wp2_with fail
  go_quiet (first|(go_at_call 46;refine Calls.quiet_of_same (HC.o _)))
  clear Sb HC Yt adb Aj GA;obtain⟨w3,Sd⟩:=jb (w2.drewN nq);rw[<-Sd.o]
  have YM:New w2 w3:=by rw[Sd.o];exact(refl _ _).drewN _
  have pO:=jd (gQ.o.trans YM);have kQ:=jd (eU.o.new YM);have Zw:=jd (YM.blk Kw.o λx=>x);clear YM gQ eU Kw p0 p1 p2 Sd
 focus
  obtain⟨p0,_,p2,_⟩:=kQ.o.box;obtain⟨_,_,_,_,_,p4,_,_⟩:=mI kQ.o.FW;obtain⟨_,_,q2,_⟩:=cH Zw.o
  have p4':∀o o',((w3.alloc o).alloc o').frozen? ⟨s,1,none⟩=false:=λo o'=>by
   obtain⟨_,_,_,_,_,p4,_,_⟩:=mI ((((refl (λ_=>False) w3).alloc o).alloc o').blk kQ.o.FW λx=>x);exact p4
  have p0':=λo o'=>aY (aY p0 o) o'
  have p2':=λo o'=>aY (aY p2 o) o'
  have q2':=λo o'=>aY (aY q2 o) o'
  go_upto_region 10 with fail;clear p0 p2 p4 q2 p0' p2' p4' q2';obtain⟨B7,DZ⟩:=jb w3.heap.size;obtain⟨B8,zS⟩:=jb (w3.heap.size+1);obtain⟨L',RM⟩:=jb (L-1);have G8:Hd (¬B8=B7):=jd (by have:=DZ.o;have:=zS.o;omega);have Xr:Hd (D<=B7/\D<=B8):=jd (by have:=DZ.o;have:=zS.o;have:=kQ.o.big;omega);have JO:New w3 ((w3.alloc (.cells #[.int .i64 m1,.int .i64 m2] 148)).alloc (.cells #[.int .i64 m2,.int .i64 m1] 148)):=((refl _ w3).alloc _).alloc _;have hBa:=kQ.o.new JO
  have hMa:D1 ((w3.alloc (.cells #[.int .i64 m1,.int .i64 m2] 148)).alloc (.cells #[.int .i64 m2,.int .i64 m1] 148)) B2 B7 B8 #[.int .i64 k,.int .i64 0,.int .i64 uk,.int .i64 u,.bool ub,.int .i64 vv,.bool vb,.bool ov] m1 m2 m2 m1:=
   ⟨JO.blk Zw.o λx=>x,by rw[DZ.o];exact((refl (λ_=>False) _).alloc _).blk (heap_alloc_new w3 _) λx=>x,by
    have h1:=heap_alloc_new (w3.alloc (.cells #[.int .i64 m1,.int .i64 m2] 148)) (.cells #[.int .i64 m2,.int .i64 m1] 148);rw[World.size_alloc]at h1
    rw[zS.o];exact h1⟩
  have oW:Hd (Fr (λk=>D<=k) w (((w3.alloc (.cells #[.int .i64 m1,.int .i64 m2] 148)).alloc (.cells #[.int .i64 m2,.int .i64 m1] 148)).setCell ⟨s,1,none⟩ (.int .i64 (L-1)))):=jd (Fr.setCell (a:=⟨s,1,none⟩) ((pO.o.trans JO).mono λ_ h=>h.elim) (.inl kQ.o.ls) _);have u9:=jd (hBa.loops (L-1));have yL:=jd (hMa.set hBa.FW (.int .i64 (L-1)) 1);rw[<-zS.o,<-DZ.o];generalize ((w3.alloc (.cells #[.int .i64 m1,.int .i64 m2] 148)).alloc (.cells #[.int .i64 m2,.int .i64 m1] 148)).setCell ⟨s,1,none⟩ (.int .i64 (L-1))=w4 at oW u9 yL ⊢
  rw[<-RM.o]at u9;clear JO hBa hMa pO kQ Zw DZ zS;obtain⟨v1,yC⟩:=jb (Value.slice av n cv);rw[<-yC.o]at u9;obtain⟨nz,Xn⟩:=jb X.length
  have hnz:nz<=16:=by have:=Xn.o;omega
  obtain⟨Z,Wd⟩:=jb X
  have HY:Hd (O=.ok (Z++[LW m1 m2 m2 m1 sw Z8]) L'):=jd (by
   have e:Zm uk=true:=by unfold Zm;rw[vw.o,AP.o];rfl
   rw[<-HO.o];unfold sQ
   rw[Nk.o,Xq.o,e,if_pos (by rfl),if_pos (by have:=nM.o;omega)];unfold O2 O1;rw[Xq.o,if_pos rfl,if_pos rfl,Kz.o,Xk.o,RM.o,Wd.o,nN.o,nA.o,RK.o]
   rfl)
  rw[<-Wd.o]at Xn;have RQ:Hd (BW D w4 b s fv v1 bi bo X Z L'):=jd (by rw[Wd.o];exact u9.o);clear u9;have u9:=RQ;clear RQ
  obtain⟨f0,sW⟩:∃z,z=m1:=⟨_,rfl⟩
  obtain⟨f1,k9⟩:∃z,z=m2:=⟨_,rfl⟩
  obtain⟨s0,Ph⟩:∃z,z=m2:=⟨_,rfl⟩
  obtain⟨s1,KA⟩:∃z,z=m1:=⟨_,rfl⟩
  have Ws:Hd (D1 w4 B2 B7 B8 #[.int .i64 k,.int .i64 0,.int .i64 uk,.int .i64 u,.bool ub,.int .i64 vv,.bool vb,.bool ov] f0 f1 s0 s1):=jd (by rw[sW,k9,Ph,KA];exact yL.o);have HYY:Hd (O=.ok (Z++[LW f0 f1 s0 s1 sw Z8]) L'):=jd (by rw[sW,k9,Ph,KA];exact HY.o);clear yL HY sW k9 Ph KA;have yL:=Ws;have HY:=HYY;clear Ws HYY
  obtain⟨aV,HM6⟩:∃aV,Hd (D1 w4 B2 B7 B8 #[.int .i64 k,aV,.int .i64 uk,.int .i64 u,.bool ub,.int .i64 vv,.bool vb,.bool ov] f0 f1 s0 s1):=⟨_,yL⟩
  clear yL
 rotate_left
 focus
  obtain⟨p0,_⟩:=kQ.o.box;obtain⟨_,q1,q2,_⟩:=cH Zw.o;obtain⟨ai,HAI⟩:=jb ((an:Int))
  have q1':=λo=>aY q1 o
  go_upto_region 9 with fail;clear p0 q1 q2 q1';obtain⟨B7,DZ⟩:=jb w3.heap.size;obtain⟨B8,zS⟩:=jb (w3.heap.size+1);have G8:Hd (¬B8=B7):=jd (by have:=DZ.o;have:=zS.o;omega);have Xr:Hd (D<=B7/\D<=B8):=jd (by have:=DZ.o;have:=zS.o;have:=kQ.o.big;omega);have JO:New w3 ((w3.alloc (.cells #[.int .i64 (an:Nat),.int .i64 m1] 148)).alloc (.cells #[.int .i64 m1,.int .i64 m2] 148)):=((refl _ w3).alloc _).alloc _
  have hMa:D1 ((w3.alloc (.cells #[.int .i64 (an:Nat),.int .i64 m1] 148)).alloc (.cells #[.int .i64 m1,.int .i64 m2] 148)) B2 B7 B8 #[.int .i64 k,.int .i64 (an:Nat),.int .i64 uk,.int .i64 u,.bool ub,.int .i64 vv,.bool vb,.bool ov] (an:Nat) m1 m1 m2:=
   ⟨JO.blk Zw.o λx=>x,by rw[DZ.o];exact((refl (λ_=>False) _).alloc _).blk (heap_alloc_new w3 _) λx=>x,by
    have h1:=heap_alloc_new (w3.alloc (.cells #[.int .i64 (an:Nat),.int .i64 m1] 148)) (.cells #[.int .i64 m1,.int .i64 m2] 148);rw[World.size_alloc]at h1
    rw[zS.o];exact h1⟩
  have vO:=jd (pO.o.trans JO);have Ei:=jd (kQ.o.new JO);have Nl:=jd hMa;rw[<-zS.o,<-DZ.o];generalize (w3.alloc (.cells #[.int .i64 (an:Nat),.int .i64 m1] 148)).alloc (.cells #[.int .i64 m1,.int .i64 m2] 148)=w5 at vO Ei Nl ⊢;clear JO hMa pO kQ Zw DZ zS;obtain⟨mm,vP⟩:=jb (bA X)
  obtain⟨⟨pc,ps⟩,HP⟩:∃p,Hd (Kn.oM X an=p):=⟨_,jd rfl⟩
  have OG:Kn.aq X (pc,ps):=by have:=HX.o.aD (io:=true) HAN.o;rw[<-HP.o];exact this
  have R9:pc<n:=by have:=OG.1;rw[<-nM.o]at this;exact this
  have KY:ps<4:=OG.2;clear OG
  have ham:an<mm:=by have:=HAN.o.2;have:=vP.o;unfold ag at *;unfold bA at this;omega
  have i1:(0:Int)<=(an:Int):=by omega
  have i2:(an:Int)<(mm:Int):=by omega
  have hB5:=Ei.o.new (refl (λ_=>False) w5).drew;obtain⟨f0,_,_,f2,_⟩:=hB5.box;rw[<-vP.o]at f2;have f4:=hB5.ri.cell (i:=an*2) (by rw[<-vP.o];omega);have f5:=hB5.ri.cell (i:=an*2+1) (by rw[<-vP.o];omega);rw[vY,HP.o]at f4;rw[vX,HP.o]at f5
  have f3:w5.drew.cell? ⟨B2,1,none⟩=some (.int .i64 (an:Nat)):=by obtain⟨_,k3,_⟩:=cH Nl.o.b2;exact k3
  clear hB5;go_wp2_with fail
  go_still_tail 13,(by kernel_rfl)
  change wpList _ _ _ _ _ w5.drew;clear f0 f2 f3 f4 f5 i1 i2;go_wp2_with fail;refine(AY D b s fv g cv bi bo n pc ps X X L m2 w5.drew (Ei.o.new (refl _ w5).drew) nM.o vo R9 KY).mono ?_;rintro e w4 ⟨rfl,hF,hB⟩;have Bh:Fr (λk=>k=g) w5 w4:=(((refl _ w5).drew).trans hF);have oW:Hd (Fr (λk=>D<=k) w w4):=jd ((vO.o.mono λ_ h=>h.elim).trans (Bh.mono λi hi=>by rw[hi];exact hDg));have RQ:=jd hB;have Ws:=jd (Nl.o.kept Ei.o (Bh.mono λk e=>.inr (by rw[e];rfl)));clear hF hB Bh Ei Nl vO
  obtain⟨v1,yC⟩:=jb (Value.slice (some ⟨g,0,none⟩) n cv);rw[<-yC.o]at RQ;obtain⟨Z,Wd⟩:=jb (Kn.oQ X (pc,ps) m2);obtain⟨nz,Xn⟩:=jb Z.length
  have hnz:nz<=16:=by have:=Xn.o;rw[Wd.o,Kn.iH]at this;omega
  obtain⟨L',RM⟩:=jb L
  obtain⟨f0,sW⟩:∃z:Int,z=(an:Int):=⟨_,rfl⟩
  obtain⟨f1,k9⟩:∃z,z=m1:=⟨_,rfl⟩
  obtain⟨s0,Ph⟩:∃z,z=m1:=⟨_,rfl⟩
  obtain⟨s1,KA⟩:∃z,z=m2:=⟨_,rfl⟩
  have yL:Hd (D1 w4 B2 B7 B8 #[.int .i64 k,.int .i64 (an:Nat),.int .i64 uk,.int .i64 u,.bool ub,.int .i64 vv,.bool vb,.bool ov] f0 f1 s0 s1):=jd (by rw[sW,k9,Ph,KA];exact Ws.o);have u9:Hd (BW D w4 b s fv v1 bi bo X Z L'):=jd (by rw[Wd.o,RM.o];exact RQ.o)
  have HY:Hd (O=.ok (Z++[LW f0 f1 s0 s1 sw Z8]) L'):=jd (by
   have e:Zm uk=true:=by unfold Zm;rw[vw.o,AP.o];rfl
   have e1:Kn.aF X true an=(pc,ps):=HP.o
   rw[<-HO.o];unfold sQ
   rw[Nk.o,Xq.o,e,if_pos (by rfl),if_pos (by have:=nM.o;omega)];unfold O2 O1;rw[Xq.o,if_neg (by simp),if_neg (by simp),Kz.o,Xk.o,RM.o,Wd.o,sW,k9,Ph,KA,nN.o,nA.o,RK.o];unfold Kn.J9
   rw[Int.toNat_natCast,e1])
  clear Ws RQ sW k9 Ph KA
  obtain⟨aV,HM6⟩:∃aV,Hd (D1 w4 B2 B7 B8 #[.int .i64 k,aV,.int .i64 uk,.int .i64 u,.bool ub,.int .i64 vv,.bool vb,.bool ov] f0 f1 s0 s1):=⟨_,yL⟩
  clear yL
 rotate_left
 all_goals
  have yL:=HM6;clear HM6;have aaY:=Zr uk (jl vw.o) (jl AP.o);rw[Kz.o,Xk.o]at aaY;obtain⟨hsw,hpl⟩:=aaY;obtain⟨_,_,q2,_⟩:=cH yL.o.b2;obtain⟨i5,hi5,ada,ac9,ac8⟩:=info_parts Tryz.Bd;cases sw
  focus
   go_upto_region 12 with fail
   obtain⟨w5,rfl⟩:∃w5,w5=w4:=⟨_,rfl⟩
   have Nl:=yL;have Ei:=u9;have vO:=oW;clear yL u9 oW q2
   obtain⟨e0,e1,t0,t1,HMX,HYX⟩:∃e0 e1 t0 t1,Hd (D1 w5 B2 B7 B8 #[.int .i64 k,aV,.int .i64 uk,.int .i64 u,.bool ub,.int .i64 vv,.bool vb,.bool ov] e0 e1 t0 t1)/\Hd (O=.ok (Z++[mkC e0 e1 t0 t1 Z8]) L'):=⟨f0,f1,s0,s1,Nl,HY⟩
  rotate_left
  focus
   obtain⟨x0,x1,x2,x3⟩:=ay yL.o.b7;obtain⟨y0,y1,y2,y3⟩:=ay yL.o.b8;have hk:=yL.o.swap G8.o
   have Bg:Fr (λk=>k=B7) w4 ((w4.setCell ⟨B7,0,none⟩ (.int .i64 s0)).setCell ⟨B7,1,none⟩ (.int .i64 s1)):=by refine Fr.setCell (Fr.setCell (refl _ w4) ?_ _) ?_ _<;>exact .inl rfl
   obtain⟨z0,z1,z2,z3⟩:=ay (Bg.blk yL.o.b8 G8.o);clear Bg;go_upto_region 12 with fail;have Nl:=jd hk.1
   have Ei:=jd (u9.o.other hk.2 λi hi=>by
    rcases hi with hi|hi
    · exact⟨_,by rw[hi];exact yL.o.b7⟩
    exact⟨_,by rw[hi];exact yL.o.b8⟩)
   have vO:Hd (Fr (λk=>D<=k) w _):=jd (oW.o.trans (hk.2.mono λi hi=>by
    rcases hi with hi|hi
    · rw[hi];exact Xr.o.1
    rw[hi];exact Xr.o.2))
   clear hk x0 x1 x2 x3 y0 y1 y2 y3 z0 z1 z2 z3 q2;generalize ((((w4.setCell ⟨B7,0,none⟩ (.int .i64 s0)).setCell ⟨B7,1,none⟩ (.int .i64 s1)).setCell ⟨B8,0,none⟩ (.int .i64 f0)).setCell ⟨B8,1,none⟩ (.int .i64 f1))=w5 at Nl Ei vO ⊢
   obtain⟨e0,e1,t0,t1,HMX,HYX⟩:∃e0 e1 t0 t1,Hd (D1 w5 B2 B7 B8 #[.int .i64 k,aV,.int .i64 uk,.int .i64 u,.bool ub,.int .i64 vv,.bool vb,.bool ov] e0 e1 t0 t1)/\Hd (O=.ok (Z++[mkC e0 e1 t0 t1 Z8]) L'):=⟨s0,s1,f0,f1,Nl,HY⟩
 all_goals
  clear Nl HY
  obtain⟨⟨xa,xb,xc,xd,xp⟩,qV⟩:∃x,Hd (mkC e0 e1 t0 t1 Z8=x):=⟨_,jd rfl⟩
  have CC:Hd (∀r,Calls Tryz.prog 94 #[.agg #[.int .i64 e0,.int .i64 e1],.agg #[.int .i64 t0,.int .i64 t1],.bool Z8] r (λe w'=>e=.returned (.agg #[.int .i64 xa,.int .i64 xb,.int .i64 xc,.int .i64 xd,.bool xp])/\New r w')):=jd λr=>(Un e0 e1 t0 t1 Z8 r).mono (by
   rintro e w' ⟨rfl,hN⟩
   rw[qV.o];exact⟨rfl,hN⟩)
  have FIN:Hd (∀v' w',BW D w' b s fv v' bi bo X (Z++[⟨xa,xb,xc,xd,xp⟩]) L'->Fr (λk=>D<=k) w w'->vQ D b s fv O w (.returned (.tuple #[])) w'):=jd λv' w' hB hF=>by
   rw[HYX.o,qV.o];exact hB.gave hF
  have j9:Hd (∀wz:World,wz.heap[b]?=some (.cells #[.pointer (some ⟨s,0,none⟩),fv] 103 (0,0))->D1 wz B2 B7 B8 #[.int .i64 k,aV,.int .i64 uk,.int .i64 u,.bool ub,.int .i64 vv,.bool vb,.bool ov] e0 e1 t0 t1->wz.cell? ⟨b,0,none⟩=some (.pointer (some ⟨s,0,none⟩))/\wz.cell? ⟨B7,0,none⟩=some (.int .i64 e0)/\wz.cell? ⟨B7,1,none⟩=some (.int .i64 e1)/\wz.cell? ⟨B8,0,none⟩=some (.int .i64 t0)/\wz.cell? ⟨B8,1,none⟩=some (.int .i64 t1)/\wz.cell? ⟨B2,2,none⟩=some (.int .i64 uk)):=jd λwz hbk hm=>by
   obtain⟨_,_,k2,_⟩:=cH hm.b2;obtain⟨k70,k71,_⟩:=ay hm.b7;obtain⟨k80,k81,_⟩:=ay hm.b8;exact⟨(ay hbk).1,k70,k71,k80,k81,k2⟩
  have iu:Hd (Fr (λk=>D<=k) w w5.drew):=jd vO.o.drew;have oY:Hd (BW D w5.drew b s fv v1 bi bo X Z L'):=jd (Ei.o.new (refl _ w5).drew);have DF:Hd (D1 w5.drew B2 B7 B8 #[.int .i64 k,aV,.int .i64 uk,.int .i64 u,.bool ub,.int .i64 vv,.bool vb,.bool ov] e0 e1 t0 t1):=jd (HMX.o.new (refl _ w5).drew);have kG:=j9.o w5.drew oY.o.blk DF.o
  refine wp_region_held_drew (S:=λwz=>wz.cell? ⟨b,0,none⟩=some (.pointer (some ⟨s,0,none⟩))/\wz.cell? ⟨B7,0,none⟩=some (.int .i64 e0)/\wz.cell? ⟨B7,1,none⟩=some (.int .i64 e1)/\wz.cell? ⟨B8,0,none⟩=some (.int .i64 t0)/\wz.cell? ⟨B8,1,none⟩=some (.int .i64 t1)/\wz.cell? ⟨B2,2,none⟩=some (.int .i64 uk)) (by kernel_rfl) kG (λhHeld=>?_)
  clear kG hsw;generalize w5.drew=r0 at hHeld iu oY DF ⊢
  refine' sq 0 (h:=sq 1 (h:=sq 2 (h:=sq 3 (h:=sq 4 (h:=sq 5 (h:=sq 6 (h:=sq 7 (h:=sq 8 (h:=sq 9 (h:=sq 10 (h:=sq 14 (h:=sq 15 (h:=sq 16 (h:=sq 17 (h:=sq 12 (h:=sq 13 (h:=?_)))))))))))))))))
  refine wpAnyH_ready (rs:=[11,18]) (by kernel_rfl) (by simp) ?_
  refine cons rfl (λK hK=>?_) (cons rfl (λK hK=>?_) nil)
  focus
   (try simp only[aR,aP,aO]);obtain⟨_,q0,_⟩:=oY.o.box;go_simp;clear q0;refine hK.out _ _ (j9.o _ oY.o.blk DF.o) (λhHeld=>?_);clear hK K;(try simp only[put,aR,aP,aO,bQ,bP,bO]);refine dQ (i:=18) (λK hK=>?_);(try simp only[aR,aP,aO]);go_simp;refine(CC.o _).mono ?_;rintro e r1 ⟨rfl,hN⟩;have gQ:=jd (iu.o.trans (hN.mono λ_ h=>h.elim));have eU:=jd (oY.o.new hN);have nN:=jd (DF.o.new hN);clear hN;go_wp2_with fail;refine hK.out _ _ (j9.o _ eU.o.blk nN.o) (λhHeld=>?_);clear hK K
   (try simp only[put,aR,aP,aO,bQ,bP,bO]);refine dQ (i:=19) (λK hK=>?_);(try simp only[aR,aP,aO]);go_simp;have nA:=jd (nN.o.new ((refl (λ_=>False) r1).alloc (.cells #[.int .i64 xa,.int .i64 xb,.int .i64 xc,.int .i64 xd,.bool xp] 109)));have fD:=jd (eU.o.new ((refl (λ_=>False) r1).alloc (.cells #[.int .i64 xa,.int .i64 xb,.int .i64 xc,.int .i64 xd,.bool xp] 109)));refine hK.out _ _ (j9.o _ fD.o.blk nA.o) (λhHeld=>?_);clear hK K;(try simp only[put,aR,aP,aO,bQ,bP,bO])
  rotate_left
  focus
   (try simp only[aR,aP,aO]);go_simp;refine(CC.o _).mono ?_;rintro e r1 ⟨rfl,hN⟩;have gQ:=jd (iu.o.trans (hN.mono λ_ h=>h.elim));have eU:=jd (oY.o.new hN);have nN:=jd (DF.o.new hN);clear hN;go_wp2_with fail;refine hK.out _ _ (j9.o _ eU.o.blk nN.o) (λhHeld=>?_);clear hK K;(try simp only[put,aR,aP,aO,bQ,bP,bO])
   refine wpAnyH_ready (rs:=[11,19]) (by kernel_rfl) (by simp) ?_
   refine cons rfl (λK hK=>?_) (cons rfl (λK hK=>?_) nil)
   focus
    (try simp only[aR,aP,aO]);obtain⟨_,q0,_⟩:=eU.o.box;go_simp;clear q0;refine hK.out _ _ (j9.o _ eU.o.blk nN.o) (λhHeld=>?_);clear hK K;(try simp only[put,aR,aP,aO,bQ,bP,bO]);refine dQ (i:=19) (λK hK=>?_);(try simp only[aR,aP,aO]);go_simp;have nA:=jd (nN.o.new ((refl (λ_=>False) r1).alloc (.cells #[.int .i64 xa,.int .i64 xb,.int .i64 xc,.int .i64 xd,.bool xp] 109)));have fD:=jd (eU.o.new ((refl (λ_=>False) r1).alloc (.cells #[.int .i64 xa,.int .i64 xb,.int .i64 xc,.int .i64 xd,.bool xp] 109)))
    refine hK.out _ _ (j9.o _ fD.o.blk nA.o) (λhHeld=>?_);clear hK K;(try simp only[put,aR,aP,aO,bQ,bP,bO])
   rotate_left
   focus
    (try simp only[aR,aP,aO]);go_simp;have nA:=jd (nN.o.new ((refl (λ_=>False) r1).alloc (.cells #[.int .i64 xa,.int .i64 xb,.int .i64 xc,.int .i64 xd,.bool xp] 109)));have fD:=jd (eU.o.new ((refl (λ_=>False) r1).alloc (.cells #[.int .i64 xa,.int .i64 xb,.int .i64 xc,.int .i64 xd,.bool xp] 109)));refine hK.out _ _ (j9.o _ fD.o.blk nA.o) (λhHeld=>?_);clear hK K;(try simp only[put,aR,aP,aO,bQ,bP,bO]);refine dQ (i:=11) (λK hK=>?_);(try simp only[aR,aP,aO]);obtain⟨_,q0,_⟩:=fD.o.box;go_simp;clear q0
    refine hK.out _ _ (j9.o _ fD.o.blk nA.o) (λhHeld=>?_);clear hK K;(try simp only[put,aR,aP,aO,bQ,bP,bO])
  all_goals
   refine dQ (i:=20) (λK hK=>?_);(try simp only[aR,aP,aO]);rw[if_pos (by rfl)];have KF:=jd eU.o.own;rw[<-Xn.o]at KF;have hdr:=eU.o.big
   refine wp_append_lies _ _ _ 22 rfl D 109 i5 (.agg #[.int .i64 0,.int .i64 0,.int .i64 0,.int .i64 0,.bool false]) 5 40 Tryz.underlying22 hi5 ada ac9 ac8 rfl (by decide) _ nz (bE Z) rfl (World.ownsRow.alloc KF.o _) ⟨r1.heap.size,0,none⟩ 1 1 [.int .i64 xa,.int .i64 xb,.int .i64 xc,.int .i64 xd,.bool xp] rfl rfl (wD rfl) (Cs _ _ _ _ _) (by omega) (by unfold maxLen;omega) (by omega) (by simp only[World.size_alloc];omega) _ rfl ?_
   intro g cap w9 hown cN _ _;obtain⟨hs9,hb9,hf9,Va⟩:=eU.o.app (x:=⟨xa,xb,xc,xd,xp⟩) Xn.o hown cN;have Hx:=jd hb9;have Hu:=jd hf9;have HS9:=jd hs9;have HM9:=jd (nN.o.kept eU.o (hf9.mono λ_ h=>.inr h));have aeP:=jd Va;have aeL:=jd ((refl (λk=>k=s\/v1.ownBlock=some k) w9).setCell (a:=⟨s,0,none⟩) (.inl (.inl rfl)) (.slice (some ⟨g,0,none⟩) (nz+1) cap));clear hown cN hb9 hf9 hs9 hdr Va;refine hK.out _ _ (j9.o _ aeP.o HM9.o) (λhHeld=>?_);clear hK K;(try simp only[put,bQ,bP,bO])
   refine' sq 21 (h:=sq 22 (h:=sq 23 (h:=?_)))
   refine dQ (i:=24) (λK hK=>?_);(try simp only[aR,aP,aO]);obtain⟨q0,_,_,_,q4,_,_,_⟩:=mI HS9.o;go_simp;clear q0 q4;refine hK.out _ _ (j9.o _ Hx.o.blk (HM9.o.set HS9.o _ 0)) (λhHeld=>?_);clear hK K;(try simp only[put,aR,aP,aO,bQ,bP,bO]);refine wpAnyH_done (by kernel_rfl) ?_ _;(try dsimp only);go_wp2_with fail;go_end0
   refine FIN.o _ _ Hx.o ?_
   refine(gQ.o.trans ((Hu.o.mono λ_ h=>Or.inr h).trans aeL.o |>.mono λi hi=>?_))
   rcases hi with hi|hi
   · rw[hi];exact eU.o.ls
   exact dR eU.o.own i hi
end Go.Proofs.YtfplmbmenjdlhaaGreatDoor
