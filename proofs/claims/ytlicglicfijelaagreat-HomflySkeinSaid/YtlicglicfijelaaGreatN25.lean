/- Walks: words for a bench at work; set; open once more. -/
import Derived.Test.YtlicglicfijelaaGreatN8
import Derived.Test.YtlicglicfijelaaGreatN11
import Derived.Test.YtlicglicfijelaaGreatMAll
import Derived.BigRegion
import Derived.StillTailTactics
/- Walks: words for a bench at work; set; open once more. -/
namespace Go.Proofs.YtlicglicfijelaaGreat
open Go.RowKit

theorem crCells_setA{Y:List Kn.Cr}{k s:Nat}(hk:k<Y.length)(hs:s<4)(a:Int):(crCells Y).set (k*5+s) (.int .i64 a)=crCells (Y.set k (Kn.setA (Kn.cr Y k) s a)):=by
 apply List.ext_getElem?
 intro j
 by_cases c:j<Y.length*5
 · rw[crCells_at (X:=Y.set k (Kn.setA (Kn.cr Y k) s a)) (by rw[List.length_set];exact c),List.getElem?_set,crCells_length]
   have hcr:Kn.cr (Y.set k (Kn.setA (Kn.cr Y k) s a)) (j / 5)=if j / 5=k then Kn.setA (Kn.cr Y k) s a else Kn.cr Y (j / 5):=by
    unfold Kn.cr
    rw[List.getD_eq_getElem?_getD,List.getD_eq_getElem?_getD,List.getElem?_set]
    by_cases e:k=j / 5
    · subst e;simp[hk]
    · rw[if_neg e,if_neg (fun h=>e h.symm),List.getD_eq_getElem?_getD]
   have hcells:=crCells_at c
   unfold crFn at hcells ⊢
   rw[hcr]
   by_cases e:j / 5=k
   · rw[if_pos e]
     obtain⟨r,hr,rfl⟩:∃r,r<5∧j=k*5+r:=⟨j-k*5,by omega,by omega⟩
     rw[hcells,show (k*5+r)%5=r by omega,show (k*5+r) / 5=k by omega]
     unfold Kn.setA
     match s,hs,r,hr with
     |0,_,0,_=>simp;omega
     |0,_,1,_=>simp
     |0,_,2,_=>simp
     |0,_,3,_=>simp
     |0,_,4,_=>simp
     |1,_,0,_=>simp
     |1,_,1,_=>simp;omega
     |1,_,2,_=>simp
     |1,_,3,_=>simp
     |1,_,4,_=>simp
     |2,_,0,_=>simp
     |2,_,1,_=>simp
     |2,_,2,_=>simp;omega
     |2,_,3,_=>simp
     |2,_,4,_=>simp
     |3,_,0,_=>simp
     |3,_,1,_=>simp
     |3,_,2,_=>simp
     |3,_,3,_=>simp;omega
     |3,_,4,_=>simp
   · rw[if_neg e,if_neg (by omega),hcells]
 · rw[List.getElem?_eq_none (by simp[crCells_length];omega),List.getElem?_eq_none (by simp[crCells_length];omega)]
structure BW(D:Nat)(w:World)(b s:Nat)(fv v:Value)(bi bo:Nat)(X Z:List Kn.Cr)(L:Int):Prop where
 blk:w.heap[b]?=some (.cells #[.pointer (some ⟨s,0,none⟩),fv] 90 (0,0))
 shb:w.heap[s]?=some (.cells #[v,.int .i64 L,.slice (some ⟨bi,0,none⟩) (mArcs X) (mArcs X),.slice (some ⟨bo,0,none⟩) (mArcs X) (mArcs X)] 52 (0,0))
 own:w.ownsRow D 41 5 v Z.length (crCells Z)
 ri:w.rowIs bi 104 (mArcs X*2) (plFn (Kn.inP X))
 ro:w.rowIs bo 104 (mArcs X*2) (plFn (Kn.outP X))
 ne:bi≠bo
 lb:D≤b
 ls:D≤s
section
variable {D:Nat} {w w':World} {b s:Nat} {fv v:Value} {bi bo:Nat} {X Z:List Kn.Cr} {L:Int}
theorem BW.at(h:BW D w b s fv v bi bo X X L):BeAt w b s fv X L:=⟨h.blk,v,bi,bo,D,h.shb,h.own,h.ri,h.ro,h.ne⟩
theorem BW.new(h:BW D w b s fv v bi bo X Z L)(k:New w w'):BW D w' b s fv v bi bo X Z L:=
 ⟨k.blk h.blk fun x=>x,k.blk h.shb fun x=>x,k.owns h.own fun _ _ x=>x,k.row h.ri fun x=>x,k.row h.ro fun x=>x,h.ne,h.lb,h.ls⟩
theorem BW.box(h:BW D w b s fv v bi bo X Z L):w.cell? ⟨b,0,none⟩=some (.pointer (some ⟨s,0,none⟩))∧w.cell? ⟨s,0,none⟩=some v∧w.cell? ⟨s,1,none⟩=some (.int .i64 L)∧w.cell? ⟨s,2,none⟩=some (.slice (some ⟨bi,0,none⟩) (mArcs X) (mArcs X))∧w.cell? ⟨s,3,none⟩=some (.slice (some ⟨bo,0,none⟩) (mArcs X) (mArcs X)):=by
 obtain⟨h0,_⟩:=box2_c h.blk;obtain⟨s0,s1,s2,s3,_⟩:=four_c h.shb
 exact⟨h0,s0,s1,s2,s3⟩
theorem BW.sne(h:BW D w b s fv v bi bo X Z L):¬b=s:=fun e=>by
 have h1:=h.blk;rw[e,h.shb]at h1;cases h1
theorem BW.put{g n c:Nat}(h:BW D w b s fv (.slice (some ⟨g,0,none⟩) n c) bi bo X Z L)(hn:n=Z.length){p:Kn.Pl}(hp:Kn.isPl Z p)(a:Int):
 BW D (w.setCell ⟨g,p.1*5+p.2,none⟩ (.int .i64 a)) b s fv (.slice (some ⟨g,0,none⟩) n c) bi bo X (Kn.putA Z p a) L:=by
 subst hn;have hF:Fr (fun k=>(Value.slice (some ⟨g,0,none⟩) Z.length c).ownBlock=some k) w (w.setCell ⟨g,p.1*5+p.2,none⟩ (.int .i64 a)):=Fr.setCell (a:=⟨g,p.1*5+p.2,none⟩) (Fr.refl (fun k=>(Value.slice (some ⟨g,0,none⟩) Z.length c).ownBlock=some k) w) (.inl rfl) _;have ho:=own_set h.own (p.1*5+p.2) (.int .i64 a);rw[crCells_setA hp.1 hp.2 a]at ho
 have ho':(w.setCell ⟨g,p.1*5+p.2,none⟩ (.int .i64 a)).ownsRow D 41 5 (.slice (some ⟨g,0,none⟩) Z.length c) (Kn.putA Z p a).length (crCells (Kn.putA Z p a)):=by rw[Kn.putA_len];exact ho
 exact⟨hF.blk h.blk (blk_not_own h.blk h.own (by decide)),hF.blk h.shb (blk_not_own h.shb h.own (by decide)),ho',
  hF.row h.ri (fun e=>own_ne h.own h.ri (by decide) _ e rfl),hF.row h.ro (fun e=>own_ne h.own h.ro (by decide) _ e rfl),h.ne,h.lb,h.ls⟩
theorem BW.sl(h:BW D w b s fv v bi bo X Z L)(hn:0<Z.length):∃g c,v=.slice (some ⟨g,0,none⟩) Z.length c∧D≤g:=by
 rcases h.own.2 with⟨_,h0⟩|⟨g,cap,cur,rfl,hb,_⟩
 · omega
 · exact⟨g,cap,rfl,hb⟩
end
set_option maxRecDepth 100000 in
set_option maxHeartbeats 4000000 in
theorem set_any(D:Nat)(b s:Nat)(fv:Value)(g c bi bo n pc ps:Nat)(X Z:List Kn.Cr)(L a:Int)(w:World)(h:BW D w b s fv (.slice (some ⟨g,0,none⟩) n c) bi bo X Z L)(hn:n=Z.length)(hl:n≤16)(hc:pc<n)(hs:ps<4):
 Calls Tryz.prog 75 #[.pointer (some ⟨b,0,none⟩),.agg #[.int .i64 (pc:Nat),.int .i64 (ps:Nat)],.int .i64 a] w (fun e w'=>e=.returned (.tuple #[])∧Fr (fun k=>k=g) w w'∧BW D w' b s fv (.slice (some ⟨g,0,none⟩) n c) bi bo X (Kn.putA Z (pc,ps) a) L):=by
 have HN:=Lib.hid hn
 obtain⟨q,HQ⟩:∃q:Int,Hid (q=((ps:Nat):Int)):=⟨_,Lib.hid rfl⟩
 rw[←HQ.out]
 have hidx:∀(o:Nat) (w:World),(Instr.index 167 (.agg #[.pointer (some ⟨g,o,none⟩),.pointer (some ⟨g,o+1,none⟩),.pointer (some ⟨g,o+2,none⟩),.pointer (some ⟨g,o+3,none⟩)]) (.int .i64 q)).run Tryz.prog w=.ok (.pointer (some ⟨g,o+ps,none⟩)) w:=fun o w=>by
  have e:=HQ.out
  have c:ps=0∨ps=1∨ps=2∨ps=3:=by omega
  have hi:∀(p0 p1 p2 p3:Option Addr) (w:World),(Instr.index 167 (.agg #[.pointer p0,.pointer p1,.pointer p2,.pointer p3]) (.int .i64 0)).run Tryz.prog w=.ok (.pointer p0) w∧(Instr.index 167 (.agg #[.pointer p0,.pointer p1,.pointer p2,.pointer p3]) (.int .i64 1)).run Tryz.prog w=.ok (.pointer p1) w ∧
   (Instr.index 167 (.agg #[.pointer p0,.pointer p1,.pointer p2,.pointer p3]) (.int .i64 2)).run Tryz.prog w=.ok (.pointer p2) w∧(Instr.index 167 (.agg #[.pointer p0,.pointer p1,.pointer p2,.pointer p3]) (.int .i64 3)).run Tryz.prog w=.ok (.pointer p3) w:=fun p0 p1 p2 p3 w=>⟨by kernel_rfl,by kernel_rfl,by kernel_rfl,by kernel_rfl⟩
  rcases c with rfl|rfl|rfl|rfl
  · rw[show q=0 by omega];exact(hi _ _ _ _ w).1
  · rw[show q=1 by omega];exact(hi _ _ _ _ w).2.1
  · rw[show q=2 by omega];exact(hi _ _ _ _ w).2.2.1
  · rw[show q=3 by omega];exact(hi _ _ _ _ w).2.2.2
 have hpl:Kn.isPl Z (pc,ps):=⟨by omega,hs⟩;have HPL:=Lib.hid hpl;have hN0:New w (w.alloc (.cells #[.int .i64 (pc:Nat),.int .i64 q] 104)):=(Fr.refl _ w).alloc _;have hz:=heap_alloc_new w (.cells #[.int .i64 (pc:Nat),.int .i64 q] 104);have hB1:=h.new hN0
 obtain⟨w1,HW1⟩:∃w1,Hid (w1=w.alloc (.cells #[.int .i64 (pc:Nat),.int .i64 q] 104)):=⟨_,Lib.hid rfl⟩
 obtain⟨B1,HB1⟩:∃B1,Hid (B1=w.heap.size):=⟨_,Lib.hid rfl⟩
 rw[←HW1.out]at hN0 hz hB1;rw[←HB1.out]at hz;have HN0:=Lib.hid hN0;have HBW:=Lib.hid hB1;obtain⟨z0,z1,_⟩:=box2_c hz;obtain⟨b0,s0,_⟩:=hB1.box
 have hcell:=World.ownsRow.cells hB1.own (g:=g) rfl (pc*5+ps) (.int .i64 (Kn.at_ Z (pc,ps))) (by
  rw[crCells_at (by omega)]
  unfold crFn
  rw[show (pc*5+ps) / 5=pc by omega,show (pc*5+ps)%5=ps by omega]
  match ps,hs with
  |0,_=>rfl
  |1,_=>rfl
  |2,_=>rfl
  |3,_=>rfl)
 rw[addr_add,Nat.zero_add]at hcell;have hfr:=own_free (hn ▸ hB1.own) (pc*5+ps)
 have i1:(0:Int)≤(pc:Int):=by omega
 have i2:(pc:Int)<(n:Int):=by omega
 have f0:w1.drew.cell? ⟨b,0,none⟩=some (.pointer (some ⟨s,0,none⟩)):=b0;have f1:w1.drew.cell? ⟨s,0,none⟩=some (.slice (some ⟨g,0,none⟩) n c):=s0;have f2:w1.drew.cell? ⟨B1,0,none⟩=some (.int .i64 (pc:Nat)):=z0;have f3:w1.drew.cell? ⟨B1,1,none⟩=some (.int .i64 q):=z1;have f4:w1.drew.cell? ⟨g,pc*5+ps,none⟩=some (.int .i64 (Kn.at_ Z (pc,ps))):=hcell;have f5:w1.drew.frozen? ⟨g,pc*5+ps,none⟩=false:=hfr;clear hz h hn hpl hN0 hB1
 go_enter Tryz.func75,Tryz.ntmps75
 go_wp2_with fail;rw[←HW1.out,←HB1.out]
 go_quiet (fail)
 obtain⟨w2,HW2⟩:∃w2,Hid (w2=w1.drewN nq):=⟨_,Lib.hid rfl⟩
 rw[←HW2.out]
 have g2:w2.drew.cell? ⟨B1,1,none⟩=some (.int .i64 q):=by rw[HW2.out];exact z1
 have g4:w2.drew.cell? ⟨g,pc*5+ps,none⟩=some (.int .i64 (Kn.at_ Z (pc,ps))):=by rw[HW2.out];exact hcell
 have g5:w2.drew.frozen? ⟨g,pc*5+ps,none⟩=false:=by rw[HW2.out];exact hfr
 clear f0 f1 f2 f3 f4 f5 hcell hfr z0 z1 b0 s0;go_wp2_with fail
 go_region
 go_end0
 have hF1:New w1 w2:=by rw[HW2.out];exact(Fr.refl _ _).drewN _
 refine⟨rfl,(Fr.setCell (S:=fun k=>k=g) ((HN0.out.trans hF1).mono fun _ h=>h.elim) (a:=⟨g,pc*5+ps,none⟩) (.inl rfl) _).drew,((HBW.out.new hF1).put HN.out HPL.out a).new (Fr.refl _ _).drew⟩
end Go.Proofs.YtlicglicfijelaaGreat

/- Walks: IsArc, either, crossing$1, crossing; darts: Index, Contains. -/
namespace Go.Proofs.YtlicglicfijelaaGreat
open Go.RowKit

theorem isArcB_any(b:Nat)(x:Int)(X:List Kn.Cr)(L:Int)(w:World)(h:ShAt w b X L)(hl:X.length≤16):
 Calls Tryz.prog 74 #[.pointer (some ⟨b,0,none⟩),.int .i64 x] w fun e w'=>e=.returned (.bool (Kn.arcB X x))∧w'=w:=by
 have H:=Lib.hid h;clear h
 obtain⟨m,HM⟩:∃m:Nat,Hid (m=Kn.nArcs X):=⟨_,Lib.hid rfl⟩
 have hm:m≤32:=by have:=HM.out;unfold Kn.nArcs at this;omega
 unfold Kn.arcB
 rw[←HM.out]
 go_enter Tryz.func74,Tryz.ntmps74
 by_cases c:1≤x
 · have hb:decide (1≤x)=true:=decide_eq_true c
   obtain⟨r,HR⟩:∃r,Hid (decide (x≤(m:Int))=r):=⟨_,Lib.hid rfl⟩
   go_wp2_with (go_at_call 35;refine(arcsN_any b X L _ H.out hl).mono ?_;rintro e w' ⟨rfl,rfl⟩;rw[←HM.out])
   go_ret
   simp[c]
 · have hb:decide (1≤x)=false:=decide_eq_false c
   go_wp2;go_ret
   simp[c]
theorem either_any(back:Bool)(x y:Int)(w:World):Calls Tryz.prog 84 #[.bool back,.int .i64 x,.int .i64 y] w fun e w'=>e=.returned (.int .i64 (if back then y else x))∧w'=w:=by
 cases back
 · go_enter Tryz.func84,Tryz.ntmps84
   go_wp2;go_ret
   exact⟨rfl,rfl⟩
 · go_enter Tryz.func84,Tryz.ntmps84
   go_wp2;go_ret
   exact⟨rfl,rfl⟩
theorem ray_any(B1 B2:Nat)(e n v s:Int)(bl i:Nat)(w:World)(h1:w.heap[B1]?=some (.cells #[.int .i64 e,.int .i64 n,.int .i64 v,.int .i64 s] 116 (0,0)))(h2:w.cell? ⟨B2,0,none⟩=some (.int .i64 (bl:Nat)))(hb:bl<4)(hi:i<4):
 Calls Tryz.prog 105 #[.int .i64 (i:Nat),.pointer (some ⟨B1,0,none⟩),.pointer (some ⟨B2,0,none⟩)] w fun r w'=>r=.returned (.int .i64 (Kn.four e n v s ((bl+i)%4)))∧w'=w:=by
 obtain⟨c0,c1,c2,c3,_⟩:=four_c h1
 obtain⟨j,HJ⟩:∃j,Hid (j=(bl+i)%4):=⟨_,Lib.hid rfl⟩
 have hj:j<4:=by have:=HJ.out;omega
 have hr:((bl:Int)+(i:Int))%4=(j:Int):=by have:=HJ.out;omega
 have hw:IntKind.i64.wrap ((bl:Int)+(i:Int))=(bl:Int)+(i:Int):=IntWalk.i64_in _ (by omega);rw[←HJ.out];clear h1
 match j,hj with
 |0,_=>
  go_enter Tryz.func105,Tryz.ntmps105
  go_wp2;go_ret
  exact⟨rfl,rfl⟩
 |1,_=>
  go_enter Tryz.func105,Tryz.ntmps105
  go_wp2;go_ret
  exact⟨rfl,rfl⟩
 |2,_=>
  go_enter Tryz.func105,Tryz.ntmps105
  go_wp2;go_ret
  exact⟨rfl,rfl⟩
 |3,_=>
  go_enter Tryz.func105,Tryz.ntmps105
  go_wp2;go_ret
  exact⟨rfl,rfl⟩
end Go.Proofs.YtlicglicfijelaaGreat

/- Walks: Make. -/
namespace Go.Proofs.YtlicglicfijelaaGreat
open Go.RowKit
theorem mk5_c{W:World}{B t:Nat}{a b c d e:Value}(h:W.heap[B]?=some (.cells #[a,b,c,d,e] t (0,0))):
 W.cell? ⟨B,0,none⟩=some a∧W.cell? ⟨B,1,none⟩=some b∧W.cell? ⟨B,2,none⟩=some c∧W.cell? ⟨B,3,none⟩=some d∧W.cell? ⟨B,4,none⟩=some e ∧
 W.frozen? ⟨B,0,none⟩=false∧W.frozen? ⟨B,1,none⟩=false∧W.frozen? ⟨B,2,none⟩=false∧W.frozen? ⟨B,3,none⟩=false∧W.frozen? ⟨B,4,none⟩=false:=by
 refine⟨cell_of_row _ _ 0 _ t (0,0) h,cell_of_row _ _ 1 _ t (0,0) h,cell_of_row _ _ 2 _ t (0,0) h,cell_of_row _ _ 3 _ t (0,0) h,cell_of_row _ _ 4 _ t (0,0) h,?_,?_,?_,?_,?_⟩<;>simp[World.frozen?,h]
theorem mk5_set1{W:World}{B t:Nat}{a b c d e:Value}(h:W.heap[B]?=some (.cells #[a,b,c,d,e] t (0,0)))(v:Value):(W.setCell ⟨B,1,none⟩ v).heap[B]?=some (.cells #[a,v,c,d,e] t (0,0)):=by
 unfold World.setCell;simp[Array.getElem?_modify,h]
theorem mk5_set3{W:World}{B t:Nat}{a b c d e:Value}(h:W.heap[B]?=some (.cells #[a,b,c,d,e] t (0,0)))(v:Value):(W.setCell ⟨B,3,none⟩ v).heap[B]?=some (.cells #[a,b,c,v,e] t (0,0)):=by
 unfold World.setCell;simp[Array.getElem?_modify,h]
theorem mk5_set{W:World}{B t:Nat}{a b c d e:Value}(h:W.heap[B]?=some (.cells #[a,b,c,d,e] t (0,0)))(a' b' c' d' e':Value):
 (((((W.setCell ⟨B,0,none⟩ a').setCell ⟨B,1,none⟩ b').setCell ⟨B,2,none⟩ c').setCell ⟨B,3,none⟩ d').setCell ⟨B,4,none⟩ e').heap[B]?=some (.cells #[a',b',c',d',e'] t (0,0)):=by
 unfold World.setCell;simp[Array.getElem?_modify,h]
theorem mk5_fr(W:World)(B:Nat)(a b c d e:Value):Fr (fun k=>k=B) W (((((W.setCell ⟨B,0,none⟩ a).setCell ⟨B,1,none⟩ b).setCell ⟨B,2,none⟩ c).setCell ⟨B,3,none⟩ d).setCell ⟨B,4,none⟩ e):=
 (((((Fr.refl (fun k=>k=B) W).setCell (a:=⟨B,0,none⟩) (.inl rfl) _).setCell (a:=⟨B,1,none⟩) (.inl rfl) _).setCell (a:=⟨B,2,none⟩) (.inl rfl) _).setCell (a:=⟨B,3,none⟩) (.inl rfl) _).setCell (a:=⟨B,4,none⟩) (.inl rfl) _
def GaveCr(x:Kn.Cr)(w:World)(e:Ending)(w':World):Prop:=e=.returned (crV x)∧New w w'
set_option maxRecDepth 100000 in
set_option maxHeartbeats 2000000 in
theorem make_any(b0 b1 a0 a1:Int)(p:Bool)(w:World):
 Calls Tryz.prog 76 #[.agg #[.int .i64 b0,.int .i64 b1],.agg #[.int .i64 a0,.int .i64 a1],.bool p] w (GaveCr (Kn.mkC b0 b1 a0 a1 p) w):=by
 cases p
 · go_enter Tryz.func76,Tryz.ntmps76
   go_wp2;have HN:=Lib.hid ((((Fr.refl (fun _=>False) w).alloc (.cells #[.int .i64 b0,.int .i64 b1] 96)).alloc (.cells #[.int .i64 a0,.int .i64 a1] 96)).alloc (.cells #[.int .i64 b0,.int .i64 a0,.int .i64 b1,.int .i64 a1,.bool false] 41) |>.alloc (.cells #[.int .i64 b0,.int .i64 a0,.int .i64 b1,.int .i64 a1,.bool false] 41));have hz:=heap_alloc_new ((w.alloc (.cells #[.int .i64 b0,.int .i64 b1] 96)).alloc (.cells #[.int .i64 a0,.int .i64 a1] 96)) (.cells #[.int .i64 b0,.int .i64 a0,.int .i64 b1,.int .i64 a1,.bool false] 41);rw[World.size_alloc,World.size_alloc]at hz
   have hz2:=((Fr.refl (fun _=>False) _).alloc (.cells #[.int .i64 b0,.int .i64 a0,.int .i64 b1,.int .i64 a1,.bool false] 41)).blk hz fun x=>x
   obtain⟨c1,c2,c3,c4,c5,_⟩:=mk5_c hz2
   exact bodyPost_ret (v:=.agg #[.int .i64 b0,.int .i64 a0,.int .i64 b1,.int .i64 a1,.bool false]) (by simp[results,Tryz.results76,go_sem,c1,c2,c3,c4,c5]) rfl ⟨rfl,HN.out⟩
 · go_enter Tryz.func76,Tryz.ntmps76
   go_wp2;have HN:=Lib.hid ((((Fr.refl (fun _=>False) w).alloc (.cells #[.int .i64 b0,.int .i64 b1] 96)).alloc (.cells #[.int .i64 a0,.int .i64 a1] 96)).alloc (.cells #[.int .i64 0,.int .i64 0,.int .i64 0,.int .i64 0,.bool false] 41) |>.alloc (.cells #[.int .i64 b0,.int .i64 a0,.int .i64 b1,.int .i64 a1,.bool true] 41));have hz:=heap_alloc_new ((w.alloc (.cells #[.int .i64 b0,.int .i64 b1] 96)).alloc (.cells #[.int .i64 a0,.int .i64 a1] 96)) (.cells #[.int .i64 0,.int .i64 0,.int .i64 0,.int .i64 0,.bool false] 41);rw[World.size_alloc,World.size_alloc]at hz
   have hz2:=((Fr.refl (fun _=>False) _).alloc (.cells #[.int .i64 b0,.int .i64 a0,.int .i64 b1,.int .i64 a1,.bool true] 41)).blk hz fun x=>x
   have hy:=heap_alloc_new (w.alloc (.cells #[.int .i64 b0,.int .i64 b1] 96)) (.cells #[.int .i64 a0,.int .i64 a1] 96);rw[World.size_alloc]at hy
   have hy2:=(((Fr.refl (fun _=>False) _).alloc (.cells #[.int .i64 0,.int .i64 0,.int .i64 0,.int .i64 0,.bool false] 41)).alloc (.cells #[.int .i64 b0,.int .i64 a0,.int .i64 b1,.int .i64 a1,.bool true] 41)).blk hy fun x=>x
   have hd:=heap_alloc_new (((w.alloc (.cells #[.int .i64 b0,.int .i64 b1] 96)).alloc (.cells #[.int .i64 a0,.int .i64 a1] 96)).alloc (.cells #[.int .i64 0,.int .i64 0,.int .i64 0,.int .i64 0,.bool false] 41)) (.cells #[.int .i64 b0,.int .i64 a0,.int .i64 b1,.int .i64 a1,.bool true] 41);rw[World.size_alloc,World.size_alloc,World.size_alloc]at hd;clear hz hy
   obtain⟨w3,hw3⟩:∃w3,w3=(((w.alloc (.cells #[.int .i64 b0,.int .i64 b1] 96)).alloc (.cells #[.int .i64 a0,.int .i64 a1] 96)).alloc (.cells #[.int .i64 0,.int .i64 0,.int .i64 0,.int .i64 0,.bool false] 41)).alloc (.cells #[.int .i64 b0,.int .i64 a0,.int .i64 b1,.int .i64 a1,.bool true] 41):=⟨_,rfl⟩
   rw[←hw3]at HN hz2 hy2 hd ⊢;clear hw3
   obtain⟨B1,hB1⟩:∃B,B=w.heap.size+1:=⟨_,rfl⟩
   obtain⟨B2,hB2⟩:∃B,B=w.heap.size+1+1:=⟨_,rfl⟩
   obtain⟨B3,hB3⟩:∃B,B=w.heap.size+1+1+1:=⟨_,rfl⟩
   have n13:¬B1=B3:=by omega
   have n23:¬B2=B3:=by omega
   have HL:=Lib.hid (show w.heap.size≤B2∧w.heap.size≤B3 by omega);rw[←hB3]at hd ⊢;rw[←hB2]at hz2 ⊢;rw[←hB1]at hy2 ⊢;clear hB1 hB2 hB3;obtain⟨f0,f1,_,_⟩:=box2_c hy2
   have HF1:=fun v=>(Fr.refl (fun k=>k=B3) w3).setCell (a:=⟨B3,1,none⟩) (.inl rfl) v
   have f3:=fun v=>(HF1 v).cell f0 n13
   obtain⟨_,d1,_,d3,_,_,r1,_,r3,_⟩:=mk5_c hd;obtain⟨_,_,_,e3,_,_,_,_,q3,_⟩:=mk5_c (mk5_set1 hd (.int .i64 a1));have HD:=Lib.hid (mk5_set3 (mk5_set1 hd (.int .i64 a1)) (.int .i64 a0));have HZ:=Lib.hid (((HF1 (.int .i64 a1)).setCell (a:=⟨B3,3,none⟩) (.inl rfl) (.int .i64 a0)).blk hz2 n23);have HF2:=Lib.hid (HN.out.next ((HF1 (.int .i64 a1)).setCell (a:=⟨B3,3,none⟩) (.inl rfl) (.int .i64 a0)) fun i hi=>.inr (by rw[hi];exact HL.out.2));clear HF1 hy2 hz2 hd
   go_region
   clear f0 f1 f3 d1 d3 r1 r3 e3 q3;have HD4:Hid ((((w3.setCell ⟨B3,1,none⟩ (.int .i64 a1)).setCell ⟨B3,3,none⟩ (.int .i64 a0)).drew).heap[B3]?=some (.cells #[.int .i64 b0,.int .i64 a1,.int .i64 b1,.int .i64 a0,.bool true] 41 (0,0))):=HD;have HZ4:Hid ((((w3.setCell ⟨B3,1,none⟩ (.int .i64 a1)).setCell ⟨B3,3,none⟩ (.int .i64 a0)).drew).heap[B2]?=some (.cells #[.int .i64 0,.int .i64 0,.int .i64 0,.int .i64 0,.bool false] 41 (0,0))):=HZ;have HF4:=Lib.hid (Fr.drew HF2.out)
   obtain⟨w4,HW4⟩:∃w4,w4=((w3.setCell ⟨B3,1,none⟩ (.int .i64 a1)).setCell ⟨B3,3,none⟩ (.int .i64 a0)).drew:=⟨_,rfl⟩
   rw[←HW4]at HD4 HZ4 HF4 ⊢;clear HD HZ HF2 HN HW4;obtain⟨x1,x2,x3,x4,x5,_⟩:=mk5_c HD4.out;obtain⟨q1,q2,q3,q4,q5,q6,q7,q8,q9,q10⟩:=mk5_c HZ4.out;go_wp2;have he:=mk5_set HZ4.out (.int .i64 b0) (.int .i64 a1) (.int .i64 b1) (.int .i64 a0) (.bool true);have HFE:=Lib.hid (HF4.out.next (mk5_fr w4 B2 (.int .i64 b0) (.int .i64 a1) (.int .i64 b1) (.int .i64 a0) (.bool true)) fun i hi=>.inr (by rw[hi];exact HL.out.1));obtain⟨y1,y2,y3,y4,y5,_⟩:=mk5_c he
   exact bodyPost_ret (v:=.agg #[.int .i64 b0,.int .i64 a1,.int .i64 b1,.int .i64 a0,.bool true]) (by simp[results,Tryz.results76,go_sem,y1,y2,y3,y4,y5]) rfl ⟨rfl,HFE.out⟩
end Go.Proofs.YtlicglicfijelaaGreat

/- Walks: crossing. -/
namespace Go.Proofs.YtlicglicfijelaaGreat
open Go.RowKit
set_option maxRecDepth 100000 in
set_option maxHeartbeats 4000000 in
theorem crossing_any(e n v s:Int)(bl ab:Nat)(w:World)(hb:bl<4)(ha:ab<4):
 Calls Tryz.prog 85 #[.agg #[.int .i64 e,.int .i64 n,.int .i64 v,.int .i64 s],.int .i64 (bl:Nat),.int .i64 (ab:Nat)] w (GaveCr (Kn.rayC (Kn.four e n v s) bl ab) w):=by
 obtain⟨w1,HW1⟩:∃w1,Hid (w1=((w.alloc (.cells #[.int .i64 e,.int .i64 n,.int .i64 v,.int .i64 s] 116)).alloc (.cells #[.int .i64 (bl:Nat)] 3)).alloc (.cells #[.int .i64 0,.int .i64 0,.int .i64 0,.int .i64 0,.bool false] 41)):=⟨_,Lib.hid rfl⟩
 obtain⟨B1,HB1⟩:∃B,Hid (B=w.heap.size):=⟨_,Lib.hid rfl⟩
 obtain⟨B2,HB2⟩:∃B,Hid (B=w.heap.size+1):=⟨_,Lib.hid rfl⟩
 obtain⟨B3,HB3⟩:∃B,Hid (B=w.heap.size+1+1):=⟨_,Lib.hid rfl⟩
 have HN1:Hid (New w w1):=Lib.hid (by rw[HW1.out];exact(((Fr.refl _ w).alloc _).alloc _).alloc _)
 have HC1:Hid (w1.heap[B1]?=some (.cells #[.int .i64 e,.int .i64 n,.int .i64 v,.int .i64 s] 116 (0,0))):=Lib.hid (by
  have h:=heap_alloc_new w (.cells #[.int .i64 e,.int .i64 n,.int .i64 v,.int .i64 s] 116);rw[HW1.out,HB1.out]
  exact(((Fr.refl (fun _=>False) _).alloc _).alloc _).blk h fun x=>x)
 have HC2:Hid (w1.heap[B2]?=some (.cells #[.int .i64 (bl:Nat)] 3 (0,0))):=Lib.hid (by
  have h:=heap_alloc_new (w.alloc (.cells #[.int .i64 e,.int .i64 n,.int .i64 v,.int .i64 s] 116)) (.cells #[.int .i64 (bl:Nat)] 3);rw[World.size_alloc]at h;rw[HW1.out,HB2.out]
  exact((Fr.refl (fun _=>False) _).alloc _).blk h fun x=>x)
 have HC3:Hid (w1.heap[B3]?=some (.cells #[.int .i64 0,.int .i64 0,.int .i64 0,.int .i64 0,.bool false] 41 (0,0))):=Lib.hid (by
  have h:=heap_alloc_new ((w.alloc (.cells #[.int .i64 e,.int .i64 n,.int .i64 v,.int .i64 s] 116)).alloc (.cells #[.int .i64 (bl:Nat)] 3)) (.cells #[.int .i64 0,.int .i64 0,.int .i64 0,.int .i64 0,.bool false] 41);rw[World.size_alloc,World.size_alloc]at h;rw[HW1.out,HB3.out]
  exact h)
 have hb2:w1.drew.cell? ⟨B2,0,none⟩=some (.int .i64 (bl:Nat)):=cell_of_row _ _ 0 _ 3 (0,0) HC2.out
 have HR:Hid (∀i,i<4→Calls Tryz.prog 105 #[.int .i64 (i:Nat),.pointer (some ⟨B1,0,none⟩),.pointer (some ⟨B2,0,none⟩)] w1.drew fun r w'=>r=.returned (.int .i64 (Kn.four e n v s ((bl+i)%4)))∧w'=w1.drew):=Lib.hid fun i hi=>ray_any B1 B2 e n v s bl i w1.drew HC1.out hb2 hb hi
 obtain⟨xa,HXA⟩:∃x,Hid (x=Kn.four e n v s bl):=⟨_,Lib.hid rfl⟩
 obtain⟨xb,HXB⟩:∃x,Hid (x=Kn.four e n v s ((bl+1)%4)):=⟨_,Lib.hid rfl⟩
 obtain⟨xc,HXC⟩:∃x,Hid (x=Kn.four e n v s ((bl+2)%4)):=⟨_,Lib.hid rfl⟩
 obtain⟨xd,HXD⟩:∃x,Hid (x=Kn.four e n v s ((bl+3)%4)):=⟨_,Lib.hid rfl⟩
 have r0:=HR.out 0 (by omega);have r1:=HR.out 1 (by omega);have r2:=HR.out 2 (by omega);have r3:=HR.out 3 (by omega);rw[show (bl+0)%4=bl by omega,←HXA.out]at r0;rw[←HXB.out]at r1;rw[←HXC.out]at r2;rw[←HXD.out]at r3;have R0:=Lib.hid r0;have R1:=Lib.hid r1;have R2:=Lib.hid r2;have R3:=Lib.hid r3;clear r0 r1 r2 r3
 obtain⟨p,HP⟩:∃p,Hid (p=decide (ab=(bl+3)%4)):=⟨_,Lib.hid rfl⟩
 have hw:IntKind.i64.wrap ((bl:Int)+3)=(bl:Int)+3:=IntWalk.i64_in _ (by omega)
 have hp:((ab:Int)==((bl:Int)+3).tmod 4)=p:=by
  rw[HP.out,Bool.eq_iff_iff,beq_iff_eq,decide_eq_true_eq,Int.tmod_eq_emod_of_nonneg (by omega)];omega
 have HX:Hid (Kn.rayC (Kn.four e n v s) bl ab=⟨xa,xb,xc,xd,p⟩):=Lib.hid (by
  unfold Kn.rayC
  rw[HXA.out,HXB.out,HXC.out,HXD.out,HP.out])
 rw[HX.out];clear hb ha
 go_enter Tryz.func85,Tryz.ntmps85
 go_wp2_with fail;rw[←HW1.out,←HB3.out,←HB2.out,←HB1.out]
 refine wp_region_still_tail 14 (by kernel_rfl) (by kernel_rfl) ?_
 simp only[List.take_succ_cons,List.take_zero,List.drop_succ_cons,List.drop_zero]
 still_step
 still_call R0.out
 still_step
 still_call R1.out
 still_step
 still_call R2.out
 still_step
 still_call R3.out
 repeat still_step
 refine wpStill_nil ?_
 change wpList _ _ _ _ _ w1.drew
 obtain⟨w2,HW2⟩:∃w2,Hid (w2=w1.drew):=⟨_,Lib.hid rfl⟩
 rw[←HW2.out];have HN2:Hid (New w w2):=Lib.hid (by rw[HW2.out];exact HN1.out.drew);have HC4:Hid (w2.heap[B3]?=some (.cells #[.int .i64 0,.int .i64 0,.int .i64 0,.int .i64 0,.bool false] 41 (0,0))):=Lib.hid (by rw[HW2.out];exact HC3.out)
 have hB3:w.heap.size≤B3:=by have:=HB3.out;omega
 clear hb2 hw hp R0 R1 R2 R3 HR;obtain⟨x1,x2,x3,x4,x5,q6,q7,q8,q9,q10⟩:=mk5_c HC4.out;have hset:=mk5_set HC4.out (.int .i64 xa) (.int .i64 xb) (.int .i64 xc) (.int .i64 xd) (.bool p);obtain⟨y1,y2,y3,y4,y5,_⟩:=mk5_c hset;obtain⟨_,k2,_,_,_,_,k7,_⟩:=mk5_c (show (w2.setCell ⟨B3,0,none⟩ (.int .i64 xa)).heap[B3]?=some (.cells #[.int .i64 xa,.int .i64 0,.int .i64 0,.int .i64 0,.bool false] 41 (0,0))by unfold World.setCell;simp[Array.getElem?_modify,HC4.out]);go_wp2
 exact bodyPost_ret (v:=.agg #[.int .i64 xa,.int .i64 xb,.int .i64 xc,.int .i64 xd,.bool p]) (by simp[results,Tryz.results85,go_sem,y1,y2,y3,y4,y5]) rfl ⟨rfl,HN2.out.next (mk5_fr w2 B3 (.int .i64 xa) (.int .i64 xb) (.int .i64 xc) (.int .i64 xd) (.bool p)) fun i hi=>.inr (by rw[hi];exact hB3)⟩
end Go.Proofs.YtlicglicfijelaaGreat
