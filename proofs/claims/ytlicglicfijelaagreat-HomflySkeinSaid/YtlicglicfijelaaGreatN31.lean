/- Walks: curl. -/
import Derived.Test.YtlicglicfijelaaGreatTK
import Derived.Test.YtlicglicfijelaaGreatN30a
namespace Go.Proofs.YtlicglicfijelaaGreat
open Go.RowKit

structure CuM(w:World)(B2 B7 B8:Nat)(mv:Array Value)(f0 f1 s0 s1:Int):Prop where
 b2:w.heap[B2]?=some (.cells mv 28 (0,0))
 b7:w.heap[B7]?=some (.cells #[.int .i64 f0,.int .i64 f1] 96 (0,0))
 b8:w.heap[B8]?=some (.cells #[.int .i64 s0,.int .i64 s1] 96 (0,0))
section
variable {w w':World} {B2 B7 B8:Nat} {mv:Array Value} {f0 f1 s0 s1:Int}
theorem CuM.new(h:CuM w B2 B7 B8 mv f0 f1 s0 s1)(k:New w w'):CuM w' B2 B7 B8 mv f0 f1 s0 s1:=⟨k.blk h.b2 fun x=>x,k.blk h.b7 fun x=>x,k.blk h.b8 fun x=>x⟩
theorem CuM.kept{D b s:Nat}{fv v:Value}{bi bo:Nat}{X Z:List Kn.Cr}{L:Int}(h:CuM w B2 B7 B8 mv f0 f1 s0 s1)(k:BW D w b s fv v bi bo X Z L)(hF:Fr (fun k=>k=s∨v.ownBlock=some k) w w'):CuM w' B2 B7 B8 mv f0 f1 s0 s1:=
 ⟨k.keep hF h.b2 (by decide) (by decide),k.keep hF h.b7 (by decide) (by decide),k.keep hF h.b8 (by decide) (by decide)⟩
theorem CuM.set{s:Nat}{cs:Array Value}(h:CuM w B2 B7 B8 mv f0 f1 s0 s1)(k:w.heap[s]?=some (.cells cs 52 (0,0)))(u:Value)(j:Nat):CuM (w.setCell ⟨s,j,none⟩ u) B2 B7 B8 mv f0 f1 s0 s1:=by
 have hF:Fr (fun k=>k=s) w (w.setCell ⟨s,j,none⟩ u):=(Fr.refl (fun k=>k=s) w).setCell (.inl rfl) _
 exact⟨hF.blk h.b2 (fun e=>by have h1:=h.b2;rw[e,k]at h1;cases h1),hF.blk h.b7 (fun e=>by have h1:=h.b7;rw[e,k]at h1;cases h1),hF.blk h.b8 (fun e=>by have h1:=h.b8;rw[e,k]at h1;cases h1)⟩
theorem CuM.swap(h:CuM w B2 B7 B8 mv f0 f1 s0 s1)(hne:¬B8=B7):CuM ((((w.setCell ⟨B7,0,none⟩ (.int .i64 s0)).setCell ⟨B7,1,none⟩ (.int .i64 s1)).setCell ⟨B8,0,none⟩ (.int .i64 f0)).setCell ⟨B8,1,none⟩ (.int .i64 f1)) B2 B7 B8 mv s0 s1 f0 f1 ∧
 Fr (fun k=>k=B7∨k=B8) w ((((w.setCell ⟨B7,0,none⟩ (.int .i64 s0)).setCell ⟨B7,1,none⟩ (.int .i64 s1)).setCell ⟨B8,0,none⟩ (.int .i64 f0)).setCell ⟨B8,1,none⟩ (.int .i64 f1)):=by
 have h7:=(box2_set (box2_set h.b7 (.int .i64 s0)).1 (.int .i64 s1)).2
 have hF7:Fr (fun k=>k=B7) w ((w.setCell ⟨B7,0,none⟩ (.int .i64 s0)).setCell ⟨B7,1,none⟩ (.int .i64 s1)):=by refine Fr.setCell (Fr.setCell (Fr.refl _ w) ?_ _) ?_ _<;>exact .inl rfl
 have h8:=hF7.blk h.b8 hne;have h8':=(box2_set (box2_set h8 (.int .i64 f0)).1 (.int .i64 f1)).2
 have hF8:Fr (fun k=>k=B8) ((w.setCell ⟨B7,0,none⟩ (.int .i64 s0)).setCell ⟨B7,1,none⟩ (.int .i64 s1)) ((((w.setCell ⟨B7,0,none⟩ (.int .i64 s0)).setCell ⟨B7,1,none⟩ (.int .i64 s1)).setCell ⟨B8,0,none⟩ (.int .i64 f0)).setCell ⟨B8,1,none⟩ (.int .i64 f1)):=by refine Fr.setCell (Fr.setCell (Fr.refl _ _) ?_ _) ?_ _<;>exact .inl rfl
 have n27:¬B2=B7:=fun e=>by have h1:=h.b2;rw[e,h.b7]at h1;cases h1
 have n28:¬B2=B8:=fun e=>by have h1:=h.b2;rw[e,h.b8]at h1;cases h1
 exact⟨⟨hF8.blk (hF7.blk h.b2 n27) n28,hF8.blk h7 (fun e=>hne e.symm),h8'⟩,(hF7.mono fun _ h=>.inl h).trans (hF8.mono fun _ h=>.inr h)⟩
theorem bits_of(b:Int)(h0:0≤b)(h3:b≤3):(bits BinOp.and IntKind.i64 b 2 != 0)=decide (2≤b)∧(bits BinOp.and IntKind.i64 b 1 != 0)=decide (b%2=1):=by
 have c:b=0∨b=1∨b=2∨b=3:=by omega
 rcases c with rfl|rfl|rfl|rfl<;>exact⟨by kernel_rfl,by kernel_rfl⟩
theorem BW.loops{D b s:Nat}{fv v:Value}{bi bo:Nat}{X Z:List Kn.Cr}{L:Int}(h:BW D w b s fv v bi bo X Z L)(L':Int):BW D (w.setCell ⟨s,1,none⟩ (.int .i64 L')) b s fv v bi bo X Z L':=by
 have hS:Fr (fun k=>k=s) w (w.setCell ⟨s,1,none⟩ (.int .i64 L')):=(Fr.refl (fun k=>k=s) w).setCell (.inl rfl) _;have h2:=h.shb
 have hnS:∀{B:Nat} {t:TypeId} {cs:Array Value},t≠52→w.heap[B]?=some (.cells cs t (0,0))→¬B=s:=fun ht hB e=>by
  subst e;rw[hB]at h2;cases h2;exact ht rfl
 refine⟨hS.blk h.blk (hnS (by decide) h.blk),?_,hS.owns h.own ?_,hS.row h.ri ?_,hS.row h.ro ?_,h.ne,h.lb,h.ls⟩
 · unfold World.setCell;simp[Array.getElem?_modify,h2]
 · exact fun k hk e=>blk_not_own h2 h.own (by decide) (e ▸ hk)
 · obtain⟨cs,k1,_⟩:=h.ri;exact hnS (by decide) k1
 · obtain⟨cs,k1,_⟩:=h.ro;exact hnS (by decide) k1
theorem BW.other{D b s:Nat}{fv v:Value}{bi bo:Nat}{X Z:List Kn.Cr}{L:Int}{S:Nat→Prop}(h:BW D w b s fv v bi bo X Z L)(hF:Fr S w w')(hs:∀k,S k→∃cs,w.heap[k]?=some (.cells cs 96 (0,0))):BW D w' b s fv v bi bo X Z L:=by
 have hn:∀{B:Nat} {t:TypeId} {cs:Array Value},t≠96→w.heap[B]?=some (.cells cs t (0,0))→¬S B:=fun ht hB hS=>by
  obtain⟨cs,h1⟩:=hs _ hS
  rw[hB]at h1;cases h1;exact ht rfl
 refine⟨hF.blk h.blk (hn (by decide) h.blk),hF.blk h.shb (hn (by decide) h.shb),hF.owns h.own (fun k hk hS=>?_),hF.row h.ri ?_,hF.row h.ro ?_,h.ne,h.lb,h.ls⟩
 · obtain⟨cs,h1⟩:=hs _ hS
   exact blk_not_own h1 h.own (by decide) hk
 · obtain⟨cs,k1,_⟩:=h.ri;exact hn (by decide) k1
 · obtain⟨cs,k1,_⟩:=h.ro;exact hn (by decide) k1
end
theorem b3(x y z:Bool):x=false∨x=true∧y=false∨x=true∧y=true∧z=false∨x=true∧y=true∧z=true:=by cases x<;>cases y<;>cases z<;>simp
set_option maxRecDepth 100000 in
set_option maxHeartbeats 8000000 in
theorem curl_any(D b s:Nat)(fv v:Value)(bi bo:Nat)(X:List Kn.Cr)(L k a by_ u vv:Int)(ub vb ov:Bool)(w:World)(h:BW D w b s fv v bi bo X X L)(hX:Kn.Ok X)(hl:X.length≤16)(l1:0≤L)(l2:L≤16):
 Calls Tryz.prog 49 #[.pointer (some ⟨b,0,none⟩),mvV k a by_ u vv ub vb ov] w (GaveP D b s fv (curlO X L a by_) w):=by
 have HX:=Lib.hid hX
 obtain⟨O,HO⟩:∃O,Hid (curlO X L a by_=O):=⟨_,Lib.hid rfl⟩
 rw[HO.out]
 obtain⟨rA,HRA⟩:∃r,Hid (Kn.arcB X a=r):=⟨_,Lib.hid rfl⟩
 obtain⟨lp,HLP⟩:∃r,Hid (loopB L a=r):=⟨_,Lib.hid rfl⟩
 obtain⟨c2,HC2⟩:∃r,Hid (decide (0≤by_)=r):=⟨_,Lib.hid rfl⟩
 obtain⟨c3,HC3⟩:∃r,Hid (decide (by_≤3)=r):=⟨_,Lib.hid rfl⟩
 obtain⟨w1,HW1⟩:∃w1,Hid (w1=w.alloc (.cells #[.int .i64 k,.int .i64 a,.int .i64 by_,.int .i64 u,.bool ub,.int .i64 vv,.bool vb,.bool ov] 28)):=⟨_,Lib.hid rfl⟩
 obtain⟨B2,HB2⟩:∃B,Hid (B=w.heap.size):=⟨_,Lib.hid rfl⟩
 have hn:New w w1:=by rw[HW1.out];exact(Fr.refl _ w).alloc _
 have HN:=Lib.hid hn
 have HZ:Hid (w1.heap[B2]?=some (.cells #[.int .i64 k,.int .i64 a,.int .i64 by_,.int .i64 u,.bool ub,.int .i64 vv,.bool vb,.bool ov] 28 (0,0))):=Lib.hid (by
  rw[HW1.out,HB2.out];exact heap_alloc_new _ _)
 have HB:=Lib.hid (h.new hn);obtain⟨b0,_,b2,_⟩:=(h.new hn).box;obtain⟨_,m1,m2,_⟩:=eight_c HZ.out
 have hcu:∀r,r=w1.drew→Calls Tryz.prog 74 #[.pointer (some ⟨s,0,none⟩),.int .i64 a] r fun e w'=>e=.returned (.bool rA)∧w'=r:=fun r hr=>by
  rw[←HRA.out];exact isArcB_any s a X L r (by rw[hr];exact((HB.out.new (Fr.refl _ w1).drew).at).sh) hl
 have HCU:=Lib.hid hcu
 have HSS:Hid (∀r,r=w1.drew→r.cell? ⟨b,0,none⟩=some (.pointer (some ⟨s,0,none⟩))∧r.cell? ⟨B2,1,none⟩=some (.int .i64 a)∧r.cell? ⟨B2,2,none⟩=some (.int .i64 by_)):=Lib.hid fun r hr=>by
  subst hr;obtain⟨_,m1,m2,_⟩:=eight_c (show w1.drew.heap[B2]?=_ from HZ.out)
  exact⟨(box2_c HB.out.blk).1,m1,m2⟩
 have NO3:Hid (((rA||lp)&&(c2&&c3))=false→∀r,r=w1.drew→GaveP D b s fv O w (.panicked (wrongP 3)) r):=Lib.hid fun h0 r hr=>by
  refine⟨by rw[hr];exact(HN.out.drew).mono fun _ h=>h.elim,?_⟩
  have e:byB by_=(c2&&c3):=by unfold byB;rw[HC2.out,HC3.out]
  rw[←HO.out];unfold curlO
  rw[HRA.out,HLP.out,e,h0];rfl
 clear h hX hn hcu;have hb2:decide (0≤by_)=c2:=HC2.out;have hb3:decide (by_≤3)=c3:=HC3.out
 obtain⟨sw,HSW⟩:∃r,Hid (decide (2≤by_)=r):=⟨_,Lib.hid rfl⟩
 obtain⟨xpl,HPL⟩:∃r,Hid (decide (by_%2=1)=r):=⟨_,Lib.hid rfl⟩
 have m1':=m1;rw[HW1.out]at m1' b0 b2
 by_cases h0:a=0
 focus
  subst h0
  have hra:rA=false:=by rw[←HRA.out];rfl
  subst hra
  have hlp:decide (0<L)=lp:=by rw[←HLP.out];unfold loopB;simp
 rotate_left
 focus
  have hlp:lp=false:=by rw[←HLP.out];unfold loopB;simp[h0]
  subst hlp
  have ha:(a==0)=false:=by simpa using h0
 rotate_left
 all_goals
  go_enter Tryz.func49,Tryz.ntmps49
  go_wp2_with fail;rw[←HW1.out,←HB2.out];clear m1' b0 b2
 focus
  refine wp_region_held_drew (S:=fun wz=>wz.cell? ⟨b,0,none⟩=some (.pointer (some ⟨s,0,none⟩))∧wz.cell? ⟨B2,1,none⟩=some (.int .i64 0)∧wz.cell? ⟨B2,2,none⟩=some (.int .i64 by_)) (by kernel_rfl) (HSS.out _ rfl) (fun hHeld=>?_)
  rcases b3 lp c2 c3 with rfl|⟨rfl,rfl⟩|⟨rfl,rfl,rfl⟩|⟨rfl,rfl,rfl⟩
 rotate_left 4
 focus
  refine wp_region_held_drew (S:=fun wz=>wz.cell? ⟨b,0,none⟩=some (.pointer (some ⟨s,0,none⟩))∧wz.cell? ⟨B2,1,none⟩=some (.int .i64 a)∧wz.cell? ⟨B2,2,none⟩=some (.int .i64 by_)) (by kernel_rfl) (HSS.out _ rfl) (fun hHeld=>?_)
  rcases b3 rA c2 c3 with rfl|⟨rfl,rfl⟩|⟨rfl,rfl,rfl⟩|⟨rfl,rfl,rfl⟩
 rotate_left 4
 all_goals
  obtain⟨r0,HE0⟩:∃r,Hid (r=w1.drew):=⟨_,Lib.hid rfl⟩
  rw[←HE0.out]at hHeld ⊢
  refine' sq 0 (h:=sq 1 (h:=sq 2 (h:=sq 3 (h:=sq 4 (h:=sq 5 (h:=?_))))))
  refine rdO (i:=6) (fun K hK=>?_);(try simp only[lq1,lq2,lq3]);go_simp;refine(HCU.out r0 HE0.out).mono ?_;rintro e r9 ⟨rfl,hw⟩;rw[hw];clear hw r9;go_wp2_with fail;refine hK.out _ _ (HSS.out _ HE0.out) (fun hHeld=>?_);clear hK K;(try simp only[Act.put,lq1,lq2,lq3,lq4,lq5,lq6])
  refine' sq 7 (h:=?_)
  first|refine' tkO (i:=8) ?_|refine' skO (i:=8) ?_
  (try simp only[Act.put,lq1,lq2,lq3,lq4,lq5,lq6])
  refine' sq 9 (h:=sq 10 (h:=?_))
  first|refine' tkO (i:=11) ?_|refine' skO (i:=11) ?_
  (try simp only[Act.put,lq1,lq2,lq3,lq4,lq5,lq6])
  first|refine' tkO (i:=12) ?_|refine' skO (i:=12) ?_
  (try simp only[Act.put,lq1,lq2,lq3,lq4,lq5,lq6])
  first|refine' tkO (i:=13) ?_|refine' skO (i:=13) ?_
  (try simp only[Act.put,lq1,lq2,lq3,lq4,lq5,lq6])
  refine' sq 14 (h:=sq 15 (h:=?_))
  first|refine' tkO (i:=16) ?_|refine' skO (i:=16) ?_
  (try simp only[Act.put,lq1,lq2,lq3,lq4,lq5,lq6])
  first|refine' tkO (i:=17) ?_|refine' skO (i:=17) ?_
  (try simp only[Act.put,lq1,lq2,lq3,lq4,lq5,lq6])
  first|refine' tkO (i:=18) ?_|refine' skO (i:=18) ?_
  (try simp only[Act.put,lq1,lq2,lq3,lq4,lq5,lq6])
  refine' sq 19 (h:=?_)
  refine rdO (i:=20) (fun K hK=>?_);(try simp only[lq1,lq2,lq3]);go_simp
  first
   |refine(need_no 3 _).mono ?_
    rintro e r9 ⟨rfl,rfl⟩;go_wp2
    exact⟨rfl,NO3.out (by rfl) _ HE0.out⟩
   |skip
    refine(need_yes 3 _).mono ?_;rintro e r9 ⟨rfl,hw⟩;rw[hw];clear hw r9;go_wp2_with fail;refine hK.out _ _ (HSS.out _ HE0.out) (fun hHeld=>?_);clear hK K;(try simp only[Act.put,lq1,lq2,lq3,lq4,lq5,lq6]);refine wpAnyH_done (by kernel_rfl) ?_ _;(try dsimp only)
 rotate_left
 focus
  obtain⟨an,rfl⟩:∃n:Nat,a=n:=⟨a.toNat,by have:=(arcB_iff.1 HRA.out).2;omega⟩
  have HAN:Hid (Kn.isArc X an):=Lib.hid (arcB_iff.1 HRA.out).1
  have hpos:0<X.length:=by have h1:=HAN.out.1;have h2:=HAN.out.2;unfold Kn.nArcs at h2;omega
  obtain⟨g,cv,rfl,hDg⟩:=HB.out.sl hpos
 rotate_left
 focus
  obtain⟨av,cv,rfl,_⟩:=CrsAt.of_owns HB.out.own
 all_goals
  clear NO3 HCU HSS;have HN1:Hid (New w r0):=Lib.hid (by rw[HE0.out];exact HN.out.drew)
  have hN01:New w1 r0:=by rw[HE0.out];exact(Fr.refl _ _).drew
  have HB1:=Lib.hid (HB.out.new hN01);have HZ1:=Lib.hid (hN01.blk HZ.out fun x=>x);clear hHeld hN01 HE0 HN HB HZ HW1 HB2 m1 m2 hb2 hb3
  obtain⟨n,HNX⟩:∃n,Hid (n=X.length):=⟨_,Lib.hid rfl⟩
  rw[←HNX.out]at HB1
  have hn16:n≤16:=by have:=HNX.out;omega
  obtain⟨p0,p1,p2,_,_⟩:=HB1.out.box
  by_cases h16:(n:Int)<16
  rotate_left
  · have hd2:decide ((n:Int)<16)=false:=decide_eq_false h16
    go_wp2_with fail;refine(need_no 2 _).mono ?_;rintro e w4 ⟨rfl,rfl⟩;go_wp2
    refine⟨rfl,HN1.out.mono fun _ h=>h.elim,?_⟩
    have e:byB by_=true:=by unfold byB;rw[HC2.out,HC3.out];rfl
    rw[←HO.out];unfold curlO
    rw[HRA.out,HLP.out,e,if_pos (by rfl),if_neg (by have:=HNX.out;omega)]
  have hd2:decide ((n:Int)<16)=true:=decide_eq_true h16;go_wp2_with fail;refine(need_yes 2 _).mono ?_;rintro e w4 ⟨rfl,rfl⟩
  obtain⟨w2,rfl⟩:∃w2,w2=w4:=⟨_,rfl⟩
  obtain⟨m,HMN⟩:∃m,Hid (m=Kn.nArcs X):=⟨_,Lib.hid rfl⟩
  have hm32:m≤32:=by have:=HMN.out;unfold Kn.nArcs at this;omega
  have HC:Hid (∀j,Calls Tryz.prog 35 #[.pointer (some ⟨s,0,none⟩)] (w2.drewN j) fun e w'=>e=.returned (.int .i64 (m:Nat))∧w'=w2.drewN j):=Lib.hid fun j=>by
   rw[HMN.out]
   exact(arcsN_any s X L _ (by have h1:=(HB1.out.new ((Fr.refl _ w2).drewN j));rw[HNX.out]at h1;exact h1.at.sh) hl).mono fun e w' ⟨h1,h2⟩=>⟨h1,h2.symm⟩
  obtain⟨m1,HM1⟩:∃z:Int,Hid (z=(m:Int)+1):=⟨_,Lib.hid rfl⟩
  obtain⟨m2,HM2⟩:∃z:Int,Hid (z=(m:Int)+2):=⟨_,Lib.hid rfl⟩
  have hm1:(m:Int)+1=m1:=HM1.out.symm;have hm2:(m:Int)+2=m2:=HM2.out.symm
  have hwm1:IntKind.i64.wrap m1=m1:=by rw[HM1.out];exact IntWalk.i64_in _ (by omega)
  have hwm2:IntKind.i64.wrap m2=m2:=by rw[HM2.out];exact IntWalk.i64_in _ (by omega)
  go_wp2_with fail
  go_quiet (first|(go_at_call 35;refine Calls.quiet_of_same (HC.out _)))
  clear hd2 HC hwm1 hwm2 hm1 hm2
  obtain⟨w3,HW3⟩:∃w3,Hid (w3=w2.drewN nq):=⟨_,Lib.hid rfl⟩
  rw[←HW3.out]
  have hN23:New w2 w3:=by rw[HW3.out];exact(Fr.refl _ _).drewN _
  have HN3:=Lib.hid (HN1.out.trans hN23);have HB3:=Lib.hid (HB1.out.new hN23);have HZ3:=Lib.hid (hN23.blk HZ1.out fun x=>x);clear hN23 HN1 HB1 HZ1 p0 p1 p2 HW3
 focus
  obtain⟨p0,_,p2,_⟩:=HB3.out.box;obtain⟨_,_,_,_,_,p4,_,_⟩:=four_c HB3.out.shb;obtain⟨_,_,q2,_⟩:=eight_c HZ3.out
  have p4':∀o o',((w3.alloc o).alloc o').frozen? ⟨s,1,none⟩=false:=fun o o'=>by
   obtain⟨_,_,_,_,_,p4,_,_⟩:=four_c ((((Fr.refl (fun _=>False) w3).alloc o).alloc o').blk HB3.out.shb fun x=>x)
   exact p4
  have p0':=fun o o'=>cell_alloc (cell_alloc p0 o) o'
  have p2':=fun o o'=>cell_alloc (cell_alloc p2 o) o'
  have q2':=fun o o'=>cell_alloc (cell_alloc q2 o) o'
  go_upto_region 10 with fail;clear p0 p2 p4 q2 p0' p2' p4' q2'
  obtain⟨B7,HB7⟩:∃B,Hid (B=w3.heap.size):=⟨_,Lib.hid rfl⟩
  obtain⟨B8,HB8⟩:∃B,Hid (B=w3.heap.size+1):=⟨_,Lib.hid rfl⟩
  obtain⟨L',HL'⟩:∃z:Int,Hid (z=L-1):=⟨_,Lib.hid rfl⟩
  have HNE:Hid (¬B8=B7):=Lib.hid (by have:=HB7.out;have:=HB8.out;omega);have HGE:Hid (D≤B7∧D≤B8):=Lib.hid (by have:=HB7.out;have:=HB8.out;have:=HB3.out.big;omega);have hNa:New w3 ((w3.alloc (.cells #[.int .i64 m1,.int .i64 m2] 96)).alloc (.cells #[.int .i64 m2,.int .i64 m1] 96)):=((Fr.refl _ w3).alloc _).alloc _;have hBa:=HB3.out.new hNa
  have hMa:CuM ((w3.alloc (.cells #[.int .i64 m1,.int .i64 m2] 96)).alloc (.cells #[.int .i64 m2,.int .i64 m1] 96)) B2 B7 B8 #[.int .i64 k,.int .i64 0,.int .i64 by_,.int .i64 u,.bool ub,.int .i64 vv,.bool vb,.bool ov] m1 m2 m2 m1:=
   ⟨hNa.blk HZ3.out fun x=>x,by rw[HB7.out];exact((Fr.refl (fun _=>False) _).alloc _).blk (heap_alloc_new w3 _) fun x=>x,by
    have h1:=heap_alloc_new (w3.alloc (.cells #[.int .i64 m1,.int .i64 m2] 96)) (.cells #[.int .i64 m2,.int .i64 m1] 96);rw[World.size_alloc]at h1
    rw[HB8.out];exact h1⟩
  have HN4:Hid (Fr (fun k=>D≤k) w (((w3.alloc (.cells #[.int .i64 m1,.int .i64 m2] 96)).alloc (.cells #[.int .i64 m2,.int .i64 m1] 96)).setCell ⟨s,1,none⟩ (.int .i64 (L-1)))):=Lib.hid (Fr.setCell (a:=⟨s,1,none⟩) ((HN3.out.trans hNa).mono fun _ h=>h.elim) (.inl HB3.out.ls) _);have HB4:=Lib.hid (hBa.loops (L-1));have HM4:=Lib.hid (hMa.set hBa.shb (.int .i64 (L-1)) 1);rw[←HB8.out,←HB7.out]
  generalize ((w3.alloc (.cells #[.int .i64 m1,.int .i64 m2] 96)).alloc (.cells #[.int .i64 m2,.int .i64 m1] 96)).setCell ⟨s,1,none⟩ (.int .i64 (L-1))=w4 at HN4 HB4 HM4 ⊢;rw[←HL'.out]at HB4;clear hNa hBa hMa HN3 HB3 HZ3 HB7 HB8
  obtain⟨v1,HV1⟩:∃z,Hid (z=Value.slice av n cv):=⟨_,Lib.hid rfl⟩
  rw[←HV1.out]at HB4
  obtain⟨nz,HNZ⟩:∃z,Hid (z=X.length):=⟨_,Lib.hid rfl⟩
  have hnz:nz≤16:=by have:=HNZ.out;omega
  obtain⟨Z,HZZ⟩:∃z,Hid (z=X):=⟨_,Lib.hid rfl⟩
  have HY:Hid (O=.ok (Z++[Kn.mkX m1 m2 m2 m1 sw xpl]) L'):=Lib.hid (by
   have e:byB by_=true:=by unfold byB;rw[HC2.out,HC3.out];rfl
   rw[←HO.out];unfold curlO
   rw[HRA.out,HLP.out,e,if_pos (by rfl),if_pos (by have:=HNX.out;omega)]
   unfold curlD curlN
   rw[HLP.out,if_pos rfl,if_pos rfl,HSW.out,HPL.out,HL'.out,HZZ.out,HM1.out,HM2.out,HMN.out]
   rfl)
  rw[←HZZ.out]at HNZ;have HB4':Hid (BW D w4 b s fv v1 bi bo X Z L'):=Lib.hid (by rw[HZZ.out];exact HB4.out);clear HB4;have HB4:=HB4';clear HB4'
  obtain⟨f0,HF0⟩:∃z,z=m1:=⟨_,rfl⟩
  obtain⟨f1,HF1⟩:∃z,z=m2:=⟨_,rfl⟩
  obtain⟨s0,HS0⟩:∃z,z=m2:=⟨_,rfl⟩
  obtain⟨s1,HS1⟩:∃z,z=m1:=⟨_,rfl⟩
  have HM4':Hid (CuM w4 B2 B7 B8 #[.int .i64 k,.int .i64 0,.int .i64 by_,.int .i64 u,.bool ub,.int .i64 vv,.bool vb,.bool ov] f0 f1 s0 s1):=Lib.hid (by rw[HF0,HF1,HS0,HS1];exact HM4.out);have HYY:Hid (O=.ok (Z++[Kn.mkX f0 f1 s0 s1 sw xpl]) L'):=Lib.hid (by rw[HF0,HF1,HS0,HS1];exact HY.out);clear HM4 HY HF0 HF1 HS0 HS1;have HM4:=HM4';have HY:=HYY;clear HM4' HYY
  obtain⟨aV,HM6⟩:∃aV,Hid (CuM w4 B2 B7 B8 #[.int .i64 k,aV,.int .i64 by_,.int .i64 u,.bool ub,.int .i64 vv,.bool vb,.bool ov] f0 f1 s0 s1):=⟨_,HM4⟩
  clear HM4
 rotate_left
 focus
  obtain⟨p0,_⟩:=HB3.out.box;obtain⟨_,q1,q2,_⟩:=eight_c HZ3.out
  obtain⟨ai,HAI⟩:∃z:Int,Hid (z=(an:Int)):=⟨_,Lib.hid rfl⟩
  have q1':=fun o=>cell_alloc q1 o
  go_upto_region 9 with fail;clear p0 q1 q2 q1'
  obtain⟨B7,HB7⟩:∃B,Hid (B=w3.heap.size):=⟨_,Lib.hid rfl⟩
  obtain⟨B8,HB8⟩:∃B,Hid (B=w3.heap.size+1):=⟨_,Lib.hid rfl⟩
  have HNE:Hid (¬B8=B7):=Lib.hid (by have:=HB7.out;have:=HB8.out;omega);have HGE:Hid (D≤B7∧D≤B8):=Lib.hid (by have:=HB7.out;have:=HB8.out;have:=HB3.out.big;omega);have hNa:New w3 ((w3.alloc (.cells #[.int .i64 (an:Nat),.int .i64 m1] 96)).alloc (.cells #[.int .i64 m1,.int .i64 m2] 96)):=((Fr.refl _ w3).alloc _).alloc _
  have hMa:CuM ((w3.alloc (.cells #[.int .i64 (an:Nat),.int .i64 m1] 96)).alloc (.cells #[.int .i64 m1,.int .i64 m2] 96)) B2 B7 B8 #[.int .i64 k,.int .i64 (an:Nat),.int .i64 by_,.int .i64 u,.bool ub,.int .i64 vv,.bool vb,.bool ov] (an:Nat) m1 m1 m2:=
   ⟨hNa.blk HZ3.out fun x=>x,by rw[HB7.out];exact((Fr.refl (fun _=>False) _).alloc _).blk (heap_alloc_new w3 _) fun x=>x,by
    have h1:=heap_alloc_new (w3.alloc (.cells #[.int .i64 (an:Nat),.int .i64 m1] 96)) (.cells #[.int .i64 m1,.int .i64 m2] 96);rw[World.size_alloc]at h1
    rw[HB8.out];exact h1⟩
  have HN5:=Lib.hid (HN3.out.trans hNa);have HB5:=Lib.hid (HB3.out.new hNa);have HM5:=Lib.hid hMa;rw[←HB8.out,←HB7.out];generalize (w3.alloc (.cells #[.int .i64 (an:Nat),.int .i64 m1] 96)).alloc (.cells #[.int .i64 m1,.int .i64 m2] 96)=w5 at HN5 HB5 HM5 ⊢;clear hNa hMa HN3 HB3 HZ3 HB7 HB8
  obtain⟨mm,HMM⟩:∃z,Hid (z=mArcs X):=⟨_,Lib.hid rfl⟩
  obtain⟨⟨pc,ps⟩,HP⟩:∃p,Hid (Kn.inP X an=p):=⟨_,Lib.hid rfl⟩
  have hpp:Kn.isPl X (pc,ps):=by have:=HX.out.isPl_end (io:=true) HAN.out;rw[←HP.out];exact this
  have hpc:pc<n:=by have:=hpp.1;rw[←HNX.out]at this;exact this
  have hps:ps<4:=hpp.2;clear hpp
  have ham:an<mm:=by have:=HAN.out.2;have:=HMM.out;unfold Kn.nArcs at *;unfold mArcs at this;omega
  have i1:(0:Int)≤(an:Int):=by omega
  have i2:(an:Int)<(mm:Int):=by omega
  have hB5:=HB5.out.new (Fr.refl (fun _=>False) w5).drew;obtain⟨f0,_,_,f2,_⟩:=hB5.box;rw[←HMM.out]at f2;have f4:=hB5.ri.cell (i:=an*2) (by rw[←HMM.out];omega);have f5:=hB5.ri.cell (i:=an*2+1) (by rw[←HMM.out];omega);rw[plFn_0,HP.out]at f4;rw[plFn_1,HP.out]at f5
  have f3:w5.drew.cell? ⟨B2,1,none⟩=some (.int .i64 (an:Nat)):=by obtain⟨_,k3,_⟩:=eight_c HM5.out.b2;exact k3
  clear hB5;go_wp2_with fail
  go_still_tail 13,(by kernel_rfl)
  change wpList _ _ _ _ _ w5.drew
  clear f0 f2 f3 f4 f5 i1 i2;go_wp2_with fail;refine(set_any D b s fv g cv bi bo n pc ps X X L m2 w5.drew (HB5.out.new (Fr.refl _ w5).drew) HNX.out hn16 hpc hps).mono ?_;rintro e w4 ⟨rfl,hF,hB⟩;have hF5:Fr (fun k=>k=g) w5 w4:=(((Fr.refl _ w5).drew).trans hF);have HN4:Hid (Fr (fun k=>D≤k) w w4):=Lib.hid ((HN5.out.mono fun _ h=>h.elim).trans (hF5.mono fun i hi=>by rw[hi];exact hDg));have HB4':=Lib.hid hB;have HM4':=Lib.hid (HM5.out.kept HB5.out (hF5.mono fun k e=>.inr (by rw[e];rfl)));clear hF hB hF5 HB5 HM5 HN5
  obtain⟨v1,HV1⟩:∃z,Hid (z=Value.slice (some ⟨g,0,none⟩) n cv):=⟨_,Lib.hid rfl⟩
  rw[←HV1.out]at HB4'
  obtain⟨Z,HZZ⟩:∃z,Hid (z=Kn.putA X (pc,ps) m2):=⟨_,Lib.hid rfl⟩
  obtain⟨nz,HNZ⟩:∃z,Hid (z=Z.length):=⟨_,Lib.hid rfl⟩
  have hnz:nz≤16:=by have:=HNZ.out;rw[HZZ.out,Kn.putA_len]at this;omega
  obtain⟨L',HL'⟩:∃z:Int,Hid (z=L):=⟨_,Lib.hid rfl⟩
  obtain⟨f0,HF0⟩:∃z:Int,z=(an:Int):=⟨_,rfl⟩
  obtain⟨f1,HF1⟩:∃z,z=m1:=⟨_,rfl⟩
  obtain⟨s0,HS0⟩:∃z,z=m1:=⟨_,rfl⟩
  obtain⟨s1,HS1⟩:∃z,z=m2:=⟨_,rfl⟩
  have HM4:Hid (CuM w4 B2 B7 B8 #[.int .i64 k,.int .i64 (an:Nat),.int .i64 by_,.int .i64 u,.bool ub,.int .i64 vv,.bool vb,.bool ov] f0 f1 s0 s1):=Lib.hid (by rw[HF0,HF1,HS0,HS1];exact HM4'.out);have HB4:Hid (BW D w4 b s fv v1 bi bo X Z L'):=Lib.hid (by rw[HZZ.out,HL'.out];exact HB4'.out)
  have HY:Hid (O=.ok (Z++[Kn.mkX f0 f1 s0 s1 sw xpl]) L'):=Lib.hid (by
   have e:byB by_=true:=by unfold byB;rw[HC2.out,HC3.out];rfl
   have e1:Kn.endP X true an=(pc,ps):=HP.out
   rw[←HO.out];unfold curlO
   rw[HRA.out,HLP.out,e,if_pos (by rfl),if_pos (by have:=HNX.out;omega)]
   unfold curlD curlN
   rw[HLP.out,if_neg (by simp),if_neg (by simp),HSW.out,HPL.out,HL'.out,HZZ.out,HF0,HF1,HS0,HS1,HM1.out,HM2.out,HMN.out]
   unfold Kn.curlA
   rw[Int.toNat_natCast,e1])
  clear HM4' HB4' HF0 HF1 HS0 HS1
  obtain⟨aV,HM6⟩:∃aV,Hid (CuM w4 B2 B7 B8 #[.int .i64 k,aV,.int .i64 by_,.int .i64 u,.bool ub,.int .i64 vv,.bool vb,.bool ov] f0 f1 s0 s1):=⟨_,HM4⟩
  clear HM4
 rotate_left
 all_goals
  have HM4:=HM6;clear HM6;have hbits:=bits_of by_ (of_decide_eq_true HC2.out) (of_decide_eq_true HC3.out);rw[HSW.out,HPL.out]at hbits;obtain⟨hsw,hpl⟩:=hbits;obtain⟨_,_,q2,_⟩:=eight_c HM4.out.b2;obtain⟨i5,hi5,hz50,hz51,hz52⟩:=info_parts Tryz.info41
  cases sw
  focus
   go_upto_region 12 with fail
   obtain⟨w5,rfl⟩:∃w5,w5=w4:=⟨_,rfl⟩
   have HM5:=HM4;have HB5:=HB4;have HN5:=HN4;clear HM4 HB4 HN4 q2
   obtain⟨e0,e1,t0,t1,HMX,HYX⟩:∃e0 e1 t0 t1,Hid (CuM w5 B2 B7 B8 #[.int .i64 k,aV,.int .i64 by_,.int .i64 u,.bool ub,.int .i64 vv,.bool vb,.bool ov] e0 e1 t0 t1)∧Hid (O=.ok (Z++[Kn.mkC e0 e1 t0 t1 xpl]) L'):=⟨f0,f1,s0,s1,HM5,HY⟩
  rotate_left
  focus
   obtain⟨x0,x1,x2,x3⟩:=box2_c HM4.out.b7;obtain⟨y0,y1,y2,y3⟩:=box2_c HM4.out.b8;have hk:=HM4.out.swap HNE.out
   have hF7:Fr (fun k=>k=B7) w4 ((w4.setCell ⟨B7,0,none⟩ (.int .i64 s0)).setCell ⟨B7,1,none⟩ (.int .i64 s1)):=by refine Fr.setCell (Fr.setCell (Fr.refl _ w4) ?_ _) ?_ _<;>exact .inl rfl
   obtain⟨z0,z1,z2,z3⟩:=box2_c (hF7.blk HM4.out.b8 HNE.out);clear hF7;go_upto_region 12 with fail;have HM5:=Lib.hid hk.1
   have HB5:=Lib.hid (HB4.out.other hk.2 fun i hi=>by
    rcases hi with hi|hi
    · exact⟨_,by rw[hi];exact HM4.out.b7⟩
    · exact⟨_,by rw[hi];exact HM4.out.b8⟩)
   have HN5:Hid (Fr (fun k=>D≤k) w _):=Lib.hid (HN4.out.trans (hk.2.mono fun i hi=>by
    rcases hi with hi|hi
    · rw[hi];exact HGE.out.1
    · rw[hi];exact HGE.out.2))
   clear hk x0 x1 x2 x3 y0 y1 y2 y3 z0 z1 z2 z3 q2;generalize ((((w4.setCell ⟨B7,0,none⟩ (.int .i64 s0)).setCell ⟨B7,1,none⟩ (.int .i64 s1)).setCell ⟨B8,0,none⟩ (.int .i64 f0)).setCell ⟨B8,1,none⟩ (.int .i64 f1))=w5 at HM5 HB5 HN5 ⊢
   obtain⟨e0,e1,t0,t1,HMX,HYX⟩:∃e0 e1 t0 t1,Hid (CuM w5 B2 B7 B8 #[.int .i64 k,aV,.int .i64 by_,.int .i64 u,.bool ub,.int .i64 vv,.bool vb,.bool ov] e0 e1 t0 t1)∧Hid (O=.ok (Z++[Kn.mkC e0 e1 t0 t1 xpl]) L'):=⟨s0,s1,f0,f1,HM5,HY⟩
 all_goals
  clear HM5 HY
  obtain⟨⟨xa,xb,xc,xd,xp⟩,HXC⟩:∃x,Hid (Kn.mkC e0 e1 t0 t1 xpl=x):=⟨_,Lib.hid rfl⟩
  have CC:Hid (∀r,Calls Tryz.prog 76 #[.agg #[.int .i64 e0,.int .i64 e1],.agg #[.int .i64 t0,.int .i64 t1],.bool xpl] r (fun e w'=>e=.returned (.agg #[.int .i64 xa,.int .i64 xb,.int .i64 xc,.int .i64 xd,.bool xp])∧New r w')):=Lib.hid fun r=>(make_any e0 e1 t0 t1 xpl r).mono (by
   rintro e w' ⟨rfl,hN⟩
   rw[HXC.out];exact⟨rfl,hN⟩)
  have FIN:Hid (∀v' w',BW D w' b s fv v' bi bo X (Z++[⟨xa,xb,xc,xd,xp⟩]) L'→Fr (fun k=>D≤k) w w'→GaveP D b s fv O w (.returned (.tuple #[])) w'):=Lib.hid fun v' w' hB hF=>by
   rw[HYX.out,HXC.out]
   exact hB.gave hF
  have HSS:Hid (∀wz:World,wz.heap[b]?=some (.cells #[.pointer (some ⟨s,0,none⟩),fv] 90 (0,0))→CuM wz B2 B7 B8 #[.int .i64 k,aV,.int .i64 by_,.int .i64 u,.bool ub,.int .i64 vv,.bool vb,.bool ov] e0 e1 t0 t1→wz.cell? ⟨b,0,none⟩=some (.pointer (some ⟨s,0,none⟩))∧wz.cell? ⟨B7,0,none⟩=some (.int .i64 e0)∧wz.cell? ⟨B7,1,none⟩=some (.int .i64 e1)∧wz.cell? ⟨B8,0,none⟩=some (.int .i64 t0)∧wz.cell? ⟨B8,1,none⟩=some (.int .i64 t1)∧wz.cell? ⟨B2,2,none⟩=some (.int .i64 by_)):=Lib.hid fun wz hbk hm=>by
   obtain⟨_,_,k2,_⟩:=eight_c hm.b2;obtain⟨k70,k71,_⟩:=box2_c hm.b7;obtain⟨k80,k81,_⟩:=box2_c hm.b8
   exact⟨(box2_c hbk).1,k70,k71,k80,k81,k2⟩
  have HN0:Hid (Fr (fun k=>D≤k) w w5.drew):=Lib.hid HN5.out.drew;have HB0:Hid (BW D w5.drew b s fv v1 bi bo X Z L'):=Lib.hid (HB5.out.new (Fr.refl _ w5).drew);have HM0:Hid (CuM w5.drew B2 B7 B8 #[.int .i64 k,aV,.int .i64 by_,.int .i64 u,.bool ub,.int .i64 vv,.bool vb,.bool ov] e0 e1 t0 t1):=Lib.hid (HMX.out.new (Fr.refl _ w5).drew);have hS0:=HSS.out w5.drew HB0.out.blk HM0.out
  refine wp_region_held_drew (S:=fun wz=>wz.cell? ⟨b,0,none⟩=some (.pointer (some ⟨s,0,none⟩))∧wz.cell? ⟨B7,0,none⟩=some (.int .i64 e0)∧wz.cell? ⟨B7,1,none⟩=some (.int .i64 e1)∧wz.cell? ⟨B8,0,none⟩=some (.int .i64 t0)∧wz.cell? ⟨B8,1,none⟩=some (.int .i64 t1)∧wz.cell? ⟨B2,2,none⟩=some (.int .i64 by_)) (by kernel_rfl) hS0 (fun hHeld=>?_)
  clear hS0 hsw;generalize w5.drew=r0 at hHeld HN0 HB0 HM0 ⊢
  refine' sq 0 (h:=sq 1 (h:=sq 2 (h:=sq 3 (h:=sq 4 (h:=sq 5 (h:=sq 6 (h:=sq 7 (h:=sq 8 (h:=sq 9 (h:=sq 10 (h:=sq 14 (h:=sq 15 (h:=sq 16 (h:=sq 17 (h:=sq 12 (h:=sq 13 (h:=?_)))))))))))))))))
  refine wpAnyH_ready (rs:=[11,18]) (by kernel_rfl) (by simp) ?_
  refine AllReadyH.cons rfl (fun K hK=>?_) (AllReadyH.cons rfl (fun K hK=>?_) AllReadyH.nil)
  focus
   (try simp only[lq1,lq2,lq3]);obtain⟨_,q0,_⟩:=HB0.out.box;go_simp;clear q0;refine hK.out _ _ (HSS.out _ HB0.out.blk HM0.out) (fun hHeld=>?_);clear hK K;(try simp only[Act.put,lq1,lq2,lq3,lq4,lq5,lq6]);refine rdO (i:=18) (fun K hK=>?_);(try simp only[lq1,lq2,lq3]);go_simp;refine(CC.out _).mono ?_;rintro e r1 ⟨rfl,hN⟩;have HN1:=Lib.hid (HN0.out.trans (hN.mono fun _ h=>h.elim));have HB1:=Lib.hid (HB0.out.new hN);have HM1:=Lib.hid (HM0.out.new hN);clear hN;go_wp2_with fail;refine hK.out _ _ (HSS.out _ HB1.out.blk HM1.out) (fun hHeld=>?_)
   clear hK K;(try simp only[Act.put,lq1,lq2,lq3,lq4,lq5,lq6]);refine rdO (i:=19) (fun K hK=>?_);(try simp only[lq1,lq2,lq3]);go_simp;have HM2:=Lib.hid (HM1.out.new ((Fr.refl (fun _=>False) r1).alloc (.cells #[.int .i64 xa,.int .i64 xb,.int .i64 xc,.int .i64 xd,.bool xp] 41)));have HB2:=Lib.hid (HB1.out.new ((Fr.refl (fun _=>False) r1).alloc (.cells #[.int .i64 xa,.int .i64 xb,.int .i64 xc,.int .i64 xd,.bool xp] 41)));refine hK.out _ _ (HSS.out _ HB2.out.blk HM2.out) (fun hHeld=>?_);clear hK K;(try simp only[Act.put,lq1,lq2,lq3,lq4,lq5,lq6])
  rotate_left
  focus
   (try simp only[lq1,lq2,lq3]);go_simp;refine(CC.out _).mono ?_;rintro e r1 ⟨rfl,hN⟩;have HN1:=Lib.hid (HN0.out.trans (hN.mono fun _ h=>h.elim));have HB1:=Lib.hid (HB0.out.new hN);have HM1:=Lib.hid (HM0.out.new hN);clear hN;go_wp2_with fail;refine hK.out _ _ (HSS.out _ HB1.out.blk HM1.out) (fun hHeld=>?_);clear hK K;(try simp only[Act.put,lq1,lq2,lq3,lq4,lq5,lq6])
   refine wpAnyH_ready (rs:=[11,19]) (by kernel_rfl) (by simp) ?_
   refine AllReadyH.cons rfl (fun K hK=>?_) (AllReadyH.cons rfl (fun K hK=>?_) AllReadyH.nil)
   focus
    (try simp only[lq1,lq2,lq3]);obtain⟨_,q0,_⟩:=HB1.out.box;go_simp;clear q0;refine hK.out _ _ (HSS.out _ HB1.out.blk HM1.out) (fun hHeld=>?_);clear hK K;(try simp only[Act.put,lq1,lq2,lq3,lq4,lq5,lq6]);refine rdO (i:=19) (fun K hK=>?_);(try simp only[lq1,lq2,lq3]);go_simp;have HM2:=Lib.hid (HM1.out.new ((Fr.refl (fun _=>False) r1).alloc (.cells #[.int .i64 xa,.int .i64 xb,.int .i64 xc,.int .i64 xd,.bool xp] 41)))
    have HB2:=Lib.hid (HB1.out.new ((Fr.refl (fun _=>False) r1).alloc (.cells #[.int .i64 xa,.int .i64 xb,.int .i64 xc,.int .i64 xd,.bool xp] 41)));refine hK.out _ _ (HSS.out _ HB2.out.blk HM2.out) (fun hHeld=>?_);clear hK K;(try simp only[Act.put,lq1,lq2,lq3,lq4,lq5,lq6])
   rotate_left
   focus
    (try simp only[lq1,lq2,lq3]);go_simp;have HM2:=Lib.hid (HM1.out.new ((Fr.refl (fun _=>False) r1).alloc (.cells #[.int .i64 xa,.int .i64 xb,.int .i64 xc,.int .i64 xd,.bool xp] 41)));have HB2:=Lib.hid (HB1.out.new ((Fr.refl (fun _=>False) r1).alloc (.cells #[.int .i64 xa,.int .i64 xb,.int .i64 xc,.int .i64 xd,.bool xp] 41)));refine hK.out _ _ (HSS.out _ HB2.out.blk HM2.out) (fun hHeld=>?_);clear hK K;(try simp only[Act.put,lq1,lq2,lq3,lq4,lq5,lq6]);refine rdO (i:=11) (fun K hK=>?_);(try simp only[lq1,lq2,lq3]);obtain⟨_,q0,_⟩:=HB2.out.box
    go_simp;clear q0;refine hK.out _ _ (HSS.out _ HB2.out.blk HM2.out) (fun hHeld=>?_);clear hK K;(try simp only[Act.put,lq1,lq2,lq3,lq4,lq5,lq6])
  all_goals
   refine rdO (i:=20) (fun K hK=>?_);(try simp only[lq1,lq2,lq3]);rw[if_pos (by rfl)];have HOV:=Lib.hid HB1.out.own;rw[←HNZ.out]at HOV;have hdr:=HB1.out.big
   refine wp_append_lies _ _ _ 22 rfl D 41 i5 (.agg #[.int .i64 0,.int .i64 0,.int .i64 0,.int .i64 0,.bool false]) 5 40 Tryz.underlying22 hi5 hz50 hz51 hz52 rfl (by decide) _ nz (crCells Z) rfl (World.ownsRow.alloc HOV.out _) ⟨r1.heap.size,0,none⟩ 1 1 [.int .i64 xa,.int .i64 xb,.int .i64 xc,.int .i64 xd,.bool xp] rfl rfl (five_cells rfl) (one_five _ _ _ _ _) (by omega) (by unfold maxLen;omega) (by omega) (by simp only[World.size_alloc];omega) _ rfl ?_
   intro g cap w9 hown hgrow _ _
   obtain⟨hs9,hb9,hf9,hbk9⟩:=HB1.out.app (x:=⟨xa,xb,xc,xd,xp⟩) HNZ.out hown hgrow;have HB9:=Lib.hid hb9;have HF9:=Lib.hid hf9;have HS9:=Lib.hid hs9;have HM9:=Lib.hid (HM1.out.kept HB1.out (hf9.mono fun _ h=>.inr h));have HBK9:=Lib.hid hbk9;have HF10:=Lib.hid ((Fr.refl (fun k=>k=s∨v1.ownBlock=some k) w9).setCell (a:=⟨s,0,none⟩) (.inl (.inl rfl)) (.slice (some ⟨g,0,none⟩) (nz+1) cap));clear hown hgrow hb9 hf9 hs9 hdr hbk9;refine hK.out _ _ (HSS.out _ HBK9.out HM9.out) (fun hHeld=>?_);clear hK K
   (try simp only[Act.put,lq1,lq2,lq3,lq4,lq5,lq6])
   refine' sq 21 (h:=sq 22 (h:=sq 23 (h:=?_)))
   refine rdO (i:=24) (fun K hK=>?_);(try simp only[lq1,lq2,lq3]);obtain⟨q0,_,_,_,q4,_,_,_⟩:=four_c HS9.out;go_simp;clear q0 q4;refine hK.out _ _ (HSS.out _ HB9.out.blk (HM9.out.set HS9.out _ 0)) (fun hHeld=>?_);clear hK K;(try simp only[Act.put,lq1,lq2,lq3,lq4,lq5,lq6]);refine wpAnyH_done (by kernel_rfl) ?_ _;(try dsimp only);go_wp2_with fail;go_end0
   refine FIN.out _ _ HB9.out ?_
   refine(HN1.out.trans ((HF9.out.mono fun _ h=>Or.inr h).trans HF10.out |>.mono fun i hi=>?_))
   rcases hi with hi|hi
   · rw[hi];exact HB1.out.ls
   · exact own_lb HB1.out.own i hi
end Go.Proofs.YtlicglicfijelaaGreat
