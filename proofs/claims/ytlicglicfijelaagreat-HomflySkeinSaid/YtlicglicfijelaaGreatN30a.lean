/- Walks: push's second inner function: a crossing more. -/
import Derived.Test.YtlicglicfijelaaGreatTK
import Derived.Test.YtlicglicfijelaaGreatN28
import Derived.Test.YtlicglicfijelaaGreatN8a
import Derived.Test.YtlicglicfijelaaGreatN17m
import Derived.Test.YtlicglicfijelaaGreatH9
/- Walks: push's second inner function: a crossing more. -/
namespace Go.Proofs.YtlicglicfijelaaGreat
open Go.RowKit

theorem BW.app{D:Nat}{w w7:World}{b s:Nat}{fv v:Value}{bi bo:Nat}{X Z:List Kn.Cr}{L:Int}{o:Obj}{g c n:Nat}{x:Kn.Cr}(h:BW D w b s fv v bi bo X Z L)(hn:n=Z.length)
 (hown:w7.ownsRow D 41 5 (.slice (some ⟨g,0,none⟩) (n+1) c) (n+1) (crCells Z++[.int .i64 x.a,.int .i64 x.b,.int .i64 x.c,.int .i64 x.d,.bool x.p])) (hg:(w.alloc o).grownBy w7 v.ownBlock):
 w7.heap[s]?=some (.cells #[v,.int .i64 L,.slice (some ⟨bi,0,none⟩) (mArcs X) (mArcs X),.slice (some ⟨bo,0,none⟩) (mArcs X) (mArcs X)] 52 (0,0)) ∧
 BW D (w7.setCell ⟨s,0,none⟩ (.slice (some ⟨g,0,none⟩) (n+1) c)) b s fv (.slice (some ⟨g,0,none⟩) (n+1) c) bi bo X (Z++[x]) L∧Fr (fun k=>v.ownBlock=some k) w w7∧w7.heap[b]?=some (.cells #[.pointer (some ⟨s,0,none⟩),fv] 90 (0,0)):=by
 subst hn
 have hF:Fr (fun k=>v.ownBlock=some k) w w7:=((Fr.refl _ w).alloc o).grown hg fun k e=>.inl e
 have ho:w7.ownsRow D 41 5 (.slice (some ⟨g,0,none⟩) (Z.length+1) c) (Z++[x]).length (crCells (Z++[x])):=by
  rw[crCells_snoc,List.length_append,List.length_singleton];exact hown
 have h1:=hF.blk h.blk (blk_not_own h.blk h.own (by decide));have h2:=hF.blk h.shb (blk_not_own h.shb h.own (by decide));have h3:=hF.row h.ri (fun e=>own_ne h.own h.ri (by decide) _ e rfl);have h4:=hF.row h.ro (fun e=>own_ne h.own h.ro (by decide) _ e rfl);have hS:Fr (fun k=>k=s) w7 (w7.setCell ⟨s,0,none⟩ (.slice (some ⟨g,0,none⟩) (Z.length+1) c)):=(Fr.refl (fun k=>k=s) w7).setCell (.inl rfl) _
 have hnS:∀{B:Nat} {t:TypeId} {cs:Array Value},t≠52→w7.heap[B]?=some (.cells cs t (0,0))→¬B=s:=fun ht hB e=>by
  subst e;rw[hB]at h2;cases h2;exact ht rfl
 refine⟨h2,⟨hS.blk h1 (hnS (by decide) h1),?_,hS.owns ho ?_,hS.row h3 ?_,hS.row h4 ?_,h.ne,h.lb,h.ls⟩,hF,h1⟩
 · unfold World.setCell;simp[Array.getElem?_modify,h2]
 · exact fun k hk e=>blk_not_own h2 ho (by decide) (e ▸ hk)
 · obtain⟨cs,k1,_⟩:=h3;exact hnS (by decide) k1
 · obtain⟨cs,k1,_⟩:=h4;exact hnS (by decide) k1
structure PM(w:World)(B0 B4 b:Nat)(ra rb rc rd:Int):Prop where
 b0:w.heap[B0]?=some (.cells #[.pointer (some ⟨b,0,none⟩)] 79 (0,0))
 b4:w.heap[B4]?=some (.cells #[.int .i64 ra,.int .i64 rb,.int .i64 rc,.int .i64 rd] 116 (0,0))
section
variable {w w':World} {B0 B4 b:Nat} {ra rb rc rd:Int}
theorem PM.new(h:PM w B0 B4 b ra rb rc rd)(k:New w w'):PM w' B0 B4 b ra rb rc rd:=⟨k.blk h.b0 fun x=>x,k.blk h.b4 fun x=>x⟩
theorem BW.keep{D s:Nat}{fv v:Value}{bi bo:Nat}{X Z:List Kn.Cr}{L:Int}(h:BW D w b s fv v bi bo X Z L)(hF:Fr (fun k=>k=s∨v.ownBlock=some k) w w'){B t:Nat}{cs:Array Value}(hb:w.heap[B]?=some (.cells cs t (0,0)))(h1:t≠52)(h2:41≠t):w'.heap[B]?=some (.cells cs t (0,0)):=by
 refine hF.blk hb fun e=>?_
 rcases e with e|e
 · rw[e,h.shb]at hb;cases hb;exact h1 rfl
 · exact blk_not_own hb h.own h2 e
theorem PM.kept{D s:Nat}{fv v:Value}{bi bo:Nat}{X Z:List Kn.Cr}{L:Int}(h:PM w B0 B4 b ra rb rc rd)(k:BW D w b s fv v bi bo X Z L)(hF:Fr (fun k=>k=s∨v.ownBlock=some k) w w'):PM w' B0 B4 b ra rb rc rd:=
 ⟨k.keep hF h.b0 (by decide) (by decide),k.keep hF h.b4 (by decide) (by decide)⟩
theorem PM.set{s:Nat}{cs:Array Value}(h:PM w B0 B4 b ra rb rc rd)(k:w.heap[s]?=some (.cells cs 52 (0,0)))(u:Value):PM (w.setCell ⟨s,0,none⟩ u) B0 B4 b ra rb rc rd:=by
 have hF:Fr (fun k=>k=s) w (w.setCell ⟨s,0,none⟩ u):=(Fr.refl (fun k=>k=s) w).setCell (.inl rfl) _
 exact⟨hF.blk h.b0 (fun e=>by have h1:=h.b0;rw[e,k]at h1;cases h1),hF.blk h.b4 (fun e=>by have h1:=h.b4;rw[e,k]at h1;cases h1)⟩
theorem BW.big{D s:Nat}{fv v:Value}{bi bo:Nat}{X Z:List Kn.Cr}{L:Int}(h:BW D w b s fv v bi bo X Z L):D≤w.heap.size:=by
 have:=(Array.getElem?_eq_some_iff.1 h.blk).1;have:=h.lb
 omega
end
set_option maxRecDepth 100000 in
set_option maxHeartbeats 8000000 in
theorem push2_any(D B0 B2 b s:Nat)(fv v:Value)(bi bo:Nat)(X Z:List Kn.Cr)(L k x y u vv ra rb rc rd:Int)(ub vb ov:Bool)(nui:Nat)(w:World)(h:BW D w b s fv v bi bo X Z L)(hz:Z.length≤20)(hui:nui<4)
 (hb0:w.heap[B0]?=some (.cells #[.pointer (some ⟨b,0,none⟩)] 79 (0,0))) (hb2:w.heap[B2]?=some (.cells #[.int .i64 k,.int .i64 x,.int .i64 y,.int .i64 u,.bool ub,.int .i64 vv,.bool vb,.bool ov] 28 (0,0))):
 Calls Tryz.prog 83 #[.agg #[.int .i64 ra,.int .i64 rb,.int .i64 rc,.int .i64 rd],.int .i64 (nui:Nat),.pointer (some ⟨B2,0,none⟩),.pointer (some ⟨B0,0,none⟩)] w (fun e w'=>∃v',e=.returned (.tuple #[])∧BW D w' b s fv v' bi bo X (Z++[Kn.pushC (Kn.four ra rb rc rd) (if vb then 2 else 0) nui ov]) L∧Fr (fun k=>k=s∨v.ownBlock=some k) w w'):=by
 obtain⟨nvi,HVI⟩:∃n:Nat,Hid (n=if vb then 2 else 0):=⟨_,Lib.hid rfl⟩
 have hvi:nvi<4:=by have:=HVI.out;split at this<;>omega
 have hvI:(if vb=true then(2:Int)else 0)=(nvi:Int):=by rw[HVI.out];split<;>rfl
 rw[←HVI.out]
 obtain⟨nz,HNZ⟩:∃n,Hid (n=Z.length):=⟨_,Lib.hid rfl⟩
 have hnz:nz≤20:=by have:=HNZ.out;omega
 obtain⟨i5,hi5,hz50,hz51,hz52⟩:=info_parts Tryz.info41
 obtain⟨B4,HB4⟩:∃B,Hid (B=w.heap.size):=⟨_,Lib.hid rfl⟩
 obtain⟨w1,HW1⟩:∃w1,Hid (w1=w.alloc (.cells #[.int .i64 ra,.int .i64 rb,.int .i64 rc,.int .i64 rd] 116)):=⟨_,Lib.hid rfl⟩
 have hN:New w w1:=by rw[HW1.out];exact(Fr.refl _ w).alloc _
 have HN:=Lib.hid hN;have HB:=Lib.hid (h.new hN);have HM:Hid (PM w1 B0 B4 b ra rb rc rd):=Lib.hid ⟨hN.blk hb0 fun x=>x,by rw[HW1.out,HB4.out];exact heap_alloc_new _ _⟩
 have hb2':=hN.blk hb2 fun x=>x
 obtain⟨_,_,_,_,_,_,m6,m7⟩:=eight_c hb2'
 have HSS:Hid (∀wz:World,wz.heap[b]?=some (.cells #[.pointer (some ⟨s,0,none⟩),fv] 90 (0,0))→PM wz B0 B4 b ra rb rc rd→wz.cell? ⟨B0,0,none⟩=some (.pointer (some ⟨b,0,none⟩))∧wz.cell? ⟨b,0,none⟩=some (.pointer (some ⟨s,0,none⟩))∧wz.cell? ⟨B4,0,none⟩=some (.int .i64 ra)∧wz.cell? ⟨B4,1,none⟩=some (.int .i64 rb)∧wz.cell? ⟨B4,2,none⟩=some (.int .i64 rc)∧wz.cell? ⟨B4,3,none⟩=some (.int .i64 rd)):=Lib.hid fun wz hbk hm=>by
  obtain⟨c0,c1,c2,c3,_⟩:=four_c hm.b4
  exact⟨(one_c hm.b0).1,(box2_c hbk).1,c0,c1,c2,c3⟩
 clear h hb0 hb2 hN hz hb2';have m6':=m6;rw[HW1.out]at m6'
 go_enter Tryz.func83,Tryz.ntmps83
 go_wp2_with fail;clear m6';rw[←HW1.out,←HB4.out];refine(either_any vb 0 2 _).mono ?_;rintro e w2 ⟨rfl,hw2⟩;rw[hvI];rw[←hw2]at HN HB HM m6 m7;clear hw2
 cases ov
 focus
  obtain⟨⟨xa,xb,xc,xd,xp⟩,HXC⟩:∃x,Hid (Kn.rayC (Kn.four ra rb rc rd) nui nvi=x):=⟨_,Lib.hid rfl⟩
  have HYtlicglicfijelaaGreat:Hid (Kn.pushC (Kn.four ra rb rc rd) nvi nui false=⟨xa,xb,xc,xd,xp⟩):=Lib.hid (by rw[←HXC.out];rfl)
  have CC:Hid (∀r,Calls Tryz.prog 85 #[.agg #[.int .i64 ra,.int .i64 rb,.int .i64 rc,.int .i64 rd],.int .i64 (nui:Nat),.int .i64 (nvi:Nat)] r (fun e w'=>e=.returned (.agg #[.int .i64 xa,.int .i64 xb,.int .i64 xc,.int .i64 xd,.bool xp])∧New r w')):=Lib.hid fun r=>(crossing_any ra rb rc rd nui nvi r hui hvi).mono (by
   rintro e w' ⟨rfl,hN⟩
   rw[HXC.out];exact⟨rfl,hN⟩)
 rotate_left
 focus
  obtain⟨⟨xa,xb,xc,xd,xp⟩,HXC⟩:∃x,Hid (Kn.rayC (Kn.four ra rb rc rd) nvi nui=x):=⟨_,Lib.hid rfl⟩
  have HYtlicglicfijelaaGreat:Hid (Kn.pushC (Kn.four ra rb rc rd) nvi nui true=⟨xa,xb,xc,xd,xp⟩):=Lib.hid (by rw[←HXC.out];rfl)
  have CC:Hid (∀r,Calls Tryz.prog 85 #[.agg #[.int .i64 ra,.int .i64 rb,.int .i64 rc,.int .i64 rd],.int .i64 (nvi:Nat),.int .i64 (nui:Nat)] r (fun e w'=>e=.returned (.agg #[.int .i64 xa,.int .i64 xb,.int .i64 xc,.int .i64 xd,.bool xp])∧New r w')):=Lib.hid fun r=>(crossing_any ra rb rc rd nvi nui r hvi hui).mono (by
   rintro e w' ⟨rfl,hN⟩
   rw[HXC.out];exact⟨rfl,hN⟩)
 all_goals
  go_wp2_with fail
  refine wp_only ?_
  have hS0:=HSS.out w2.drew HB.out.blk (HM.out.new (Fr.refl _ w2).drew)
  refine wp_region_held_drew (S:=fun wz=>wz.cell? ⟨B0,0,none⟩=some (.pointer (some ⟨b,0,none⟩))∧wz.cell? ⟨b,0,none⟩=some (.pointer (some ⟨s,0,none⟩))∧wz.cell? ⟨B4,0,none⟩=some (.int .i64 ra)∧wz.cell? ⟨B4,1,none⟩=some (.int .i64 rb)∧wz.cell? ⟨B4,2,none⟩=some (.int .i64 rc)∧wz.cell? ⟨B4,3,none⟩=some (.int .i64 rd)) (by kernel_rfl) hS0 (fun hHeld=>?_)
  clear hS0;have HN0:Hid (New w w2.drew):=Lib.hid HN.out.drew;have HB0:Hid (BW D w2.drew b s fv v bi bo X Z L):=Lib.hid (HB.out.new (Fr.refl _ w2).drew);have HM0:Hid (PM w2.drew B0 B4 b ra rb rc rd):=Lib.hid (HM.out.new (Fr.refl _ w2).drew);generalize w2.drew=r0 at hHeld HN0 HB0 HM0 ⊢
  refine' sq 0 (h:=sq 1 (h:=sq 2 (h:=sq 3 (h:=sq 4 (h:=sq 5 (h:=sq 6 (h:=sq 7 (h:=sq 8 (h:=sq 9 (h:=sq 10 (h:=sq 12 (h:=sq 13 (h:=sq 14 (h:=?_))))))))))))))
  refine wpAnyH_ready (rs:=[11,15]) (by kernel_rfl) (by simp) ?_
  refine AllReadyH.cons rfl (fun K hK=>?_) (AllReadyH.cons rfl (fun K hK=>?_) AllReadyH.nil)
  focus
   skip
   (try simp only[lq1,lq2,lq3]);obtain⟨_,q0,_⟩:=HB0.out.box;go_simp;clear q0;refine hK.out _ _ (HSS.out _ HB0.out.blk HM0.out) (fun hHeld=>?_);clear hK K;(try simp only[Act.put,lq1,lq2,lq3,lq4,lq5,lq6]);refine rdO (i:=15) (fun K hK=>?_);(try simp only[lq1,lq2,lq3]);go_simp;refine(CC.out _).mono ?_;rintro e r1 ⟨rfl,hN⟩;have HN1:=Lib.hid (HN0.out.trans hN);have HB1:=Lib.hid (HB0.out.new hN);have HM1:=Lib.hid (HM0.out.new hN);clear hN;go_wp2_with fail;refine hK.out _ _ (HSS.out _ HB1.out.blk HM1.out) (fun hHeld=>?_);clear hK K
   (try simp only[Act.put,lq1,lq2,lq3,lq4,lq5,lq6]);refine rdO (i:=16) (fun K hK=>?_);(try simp only[lq1,lq2,lq3]);go_simp;have HB2:=Lib.hid (HB1.out.new ((Fr.refl (fun _=>False) r1).alloc (.cells #[.int .i64 xa,.int .i64 xb,.int .i64 xc,.int .i64 xd,.bool xp] 41)));have HM2:=Lib.hid (HM1.out.new ((Fr.refl (fun _=>False) r1).alloc (.cells #[.int .i64 xa,.int .i64 xb,.int .i64 xc,.int .i64 xd,.bool xp] 41)))
  rotate_left
  focus
   skip
   (try simp only[lq1,lq2,lq3]);go_simp;refine(CC.out _).mono ?_;rintro e r1 ⟨rfl,hN⟩;have HN1:=Lib.hid (HN0.out.trans hN);have HB1:=Lib.hid (HB0.out.new hN);have HM1:=Lib.hid (HM0.out.new hN);clear hN;go_wp2_with fail;refine hK.out _ _ (HSS.out _ HB1.out.blk HM1.out) (fun hHeld=>?_);clear hK K;(try simp only[Act.put,lq1,lq2,lq3,lq4,lq5,lq6])
   refine wpAnyH_ready (rs:=[11,16]) (by kernel_rfl) (by simp) ?_
   refine AllReadyH.cons rfl (fun K hK=>?_) (AllReadyH.cons rfl (fun K hK=>?_) AllReadyH.nil)
   focus
    skip
    (try simp only[lq1,lq2,lq3]);obtain⟨_,q0,_⟩:=HB1.out.box;go_simp;clear q0;refine hK.out _ _ (HSS.out _ HB1.out.blk HM1.out) (fun hHeld=>?_);clear hK K;(try simp only[Act.put,lq1,lq2,lq3,lq4,lq5,lq6]);refine rdO (i:=16) (fun K hK=>?_);(try simp only[lq1,lq2,lq3]);go_simp;have HB2:=Lib.hid (HB1.out.new ((Fr.refl (fun _=>False) r1).alloc (.cells #[.int .i64 xa,.int .i64 xb,.int .i64 xc,.int .i64 xd,.bool xp] 41)))
    have HM2:=Lib.hid (HM1.out.new ((Fr.refl (fun _=>False) r1).alloc (.cells #[.int .i64 xa,.int .i64 xb,.int .i64 xc,.int .i64 xd,.bool xp] 41)))
   rotate_left
   focus
    skip
    (try simp only[lq1,lq2,lq3]);go_simp;have HB2:=Lib.hid (HB1.out.new ((Fr.refl (fun _=>False) r1).alloc (.cells #[.int .i64 xa,.int .i64 xb,.int .i64 xc,.int .i64 xd,.bool xp] 41)));have HM2:=Lib.hid (HM1.out.new ((Fr.refl (fun _=>False) r1).alloc (.cells #[.int .i64 xa,.int .i64 xb,.int .i64 xc,.int .i64 xd,.bool xp] 41)));refine hK.out _ _ (HSS.out _ HB2.out.blk HM2.out) (fun hHeld=>?_);clear hK K;(try simp only[Act.put,lq1,lq2,lq3,lq4,lq5,lq6]);refine rdO (i:=11) (fun K hK=>?_);(try simp only[lq1,lq2,lq3]);obtain⟨_,q0,_⟩:=HB2.out.box
    go_simp;clear q0
  all_goals
   refine hK.out _ _ (HSS.out _ HB2.out.blk HM2.out) (fun hHeld=>?_);clear hK K;(try simp only[Act.put,lq1,lq2,lq3,lq4,lq5,lq6]);refine rdO (i:=17) (fun K hK=>?_);(try simp only[lq1,lq2,lq3]);rw[if_pos (by rfl)];have HOV:=Lib.hid HB1.out.own;rw[←HNZ.out]at HOV;have hdr:=HB1.out.big
   refine wp_append_lies _ _ _ 22 rfl D 41 i5 (.agg #[.int .i64 0,.int .i64 0,.int .i64 0,.int .i64 0,.bool false]) 5 40 Tryz.underlying22 hi5 hz50 hz51 hz52 rfl (by decide) _ nz (crCells Z) rfl (World.ownsRow.alloc HOV.out _) ⟨r1.heap.size,0,none⟩ 1 1 [.int .i64 xa,.int .i64 xb,.int .i64 xc,.int .i64 xd,.bool xp] rfl rfl (five_cells rfl) (one_five _ _ _ _ _) (by omega) (by unfold maxLen;omega) (by omega) (by simp only[World.size_alloc];omega) _ rfl ?_
   intro g cap w9 hown hgrow _ _
   obtain⟨hs9,hb9,hf9,hbk9⟩:=HB1.out.app (x:=⟨xa,xb,xc,xd,xp⟩) HNZ.out hown hgrow;have HB9:=Lib.hid hb9;have HF9:=Lib.hid hf9;have HS9:=Lib.hid hs9;have HM9:=Lib.hid (HM1.out.kept HB1.out (hf9.mono fun _ h=>.inr h));have HBK9:=Lib.hid hbk9;have HF10:=Lib.hid ((Fr.refl (fun k=>k=s∨v.ownBlock=some k) w9).setCell (a:=⟨s,0,none⟩) (.inl (.inl rfl)) (.slice (some ⟨g,0,none⟩) (nz+1) cap));clear hown hgrow hb9 hf9 hs9 hdr hbk9;refine hK.out _ _ (HSS.out _ HBK9.out HM9.out) (fun hHeld=>?_);clear hK K
   (try simp only[Act.put,lq1,lq2,lq3,lq4,lq5,lq6])
   refine' sq 18 (h:=sq 19 (h:=sq 20 (h:=?_)))
   refine rdO (i:=21) (fun K hK=>?_);(try simp only[lq1,lq2,lq3]);obtain⟨q0,_,_,_,q4,_,_,_⟩:=four_c HS9.out;go_simp;clear q0 q4;refine hK.out _ _ (HSS.out _ HB9.out.blk (HM9.out.set HS9.out _)) (fun hHeld=>?_);clear hK K;(try simp only[Act.put,lq1,lq2,lq3,lq4,lq5,lq6]);refine wpAnyH_done (by kernel_rfl) ?_ _
   dsimp only
   go_wp2_with fail;go_end0
   refine⟨.slice (some ⟨g,0,none⟩) (nz+1) cap,rfl,?_,?_⟩
   · rw[HYtlicglicfijelaaGreat.out];exact HB9.out
   · exact((HN1.out.mono fun _ h=>h.elim).trans (HF9.out.mono fun _ h=>.inr h)).trans HF10.out
end Go.Proofs.YtlicglicfijelaaGreat

/- Walks: words for what a move leaves. -/
namespace Go.Proofs.YtlicglicfijelaaGreat
open Go.RowKit

def GaveP(D b s:Nat)(fv:Value)(o:Out)(w:World)(e:Ending)(w':World):Prop:=
 Fr (fun k=>D≤k) w w'∧match o with
  |.no x=>e=.panicked (wrongP x)
  |.ok Y L=>e=.returned (.tuple #[])∧w'.heap[b]?=some (.cells #[.pointer (some ⟨s,0,none⟩),fv] 90 (0,0))∧∃a c,w'.cell? ⟨s,0,none⟩=some (.slice a Y.length c)∧w'.cell? ⟨s,1,none⟩=some (.int .i64 L)∧CrsAt w' a Y∧∀ad,a=some ad→D≤ad.block
theorem BW.gave{D:Nat}{w w':World}{b s:Nat}{fv v:Value}{bi bo:Nat}{X Y:List Kn.Cr}{L:Int}(h:BW D w' b s fv v bi bo X Y L)(hF:Fr (fun k=>D≤k) w w'):GaveP D b s fv (.ok Y L) w (.returned (.tuple #[])) w':=by
 obtain⟨_,s0,s1,_⟩:=h.box;obtain⟨a,c,rfl,hc⟩:=CrsAt.of_owns h.own
 exact⟨hF,rfl,h.blk,a,c,s0,s1,hc,fun ad e=>own_lb h.own ad.block (by rw[e];rfl)⟩
end Go.Proofs.YtlicglicfijelaaGreat
