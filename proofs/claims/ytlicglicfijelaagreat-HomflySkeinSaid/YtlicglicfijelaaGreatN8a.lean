/- Walks: Below, Above, Through. -/
import Derived.Test.YtlicglicfijelaaGreatTK
import Derived.Test.YtlicglicfijelaaGreatW12
import Derived.Test.YtlicglicfijelaaGreatMAll
import Derived.BigRegion
import Derived.Deep.AppendLies
import Derived.Test.YtlicglicfijelaaGreatW14
/- Walks: Below, Above, Through. -/
namespace Go.Proofs.YtlicglicfijelaaGreat
open Go.RowKit

abbrev twoV(a b:Int):Value:=.agg #[.int .i64 a,.int .i64 b]
theorem two_c{W:World}{B t:Nat}{a b:Value}(h:W.heap[B]?=some (.cells #[a,b] t (0,0))):W.cell? ⟨B,0,none⟩=some a∧W.cell? ⟨B,1,none⟩=some b∧W.frozen? ⟨B,0,none⟩=false∧W.frozen? ⟨B,1,none⟩=false:=by
 refine⟨cell_of_row _ _ 0 _ t (0,0) h,cell_of_row _ _ 1 _ t (0,0) h,?_,?_⟩<;>simp[World.frozen?,h]
theorem four_c{W:World}{B t:Nat}{a b c d:Value}(h:W.heap[B]?=some (.cells #[a,b,c,d] t (0,0))):
 W.cell? ⟨B,0,none⟩=some a∧W.cell? ⟨B,1,none⟩=some b∧W.cell? ⟨B,2,none⟩=some c∧W.cell? ⟨B,3,none⟩=some d ∧
 W.frozen? ⟨B,0,none⟩=false∧W.frozen? ⟨B,1,none⟩=false∧W.frozen? ⟨B,2,none⟩=false∧W.frozen? ⟨B,3,none⟩=false:=by
 refine⟨cell_of_row _ _ 0 _ t (0,0) h,cell_of_row _ _ 1 _ t (0,0) h,cell_of_row _ _ 2 _ t (0,0) h,cell_of_row _ _ 3 _ t (0,0) h,?_,?_,?_,?_⟩<;>simp[World.frozen?,h]
theorem five_c{W:World}{B t:Nat}{a b c d e:Value}(h:W.heap[B]?=some (.cells #[a,b,c,d,e] t (0,0))):
 W.cell? ⟨B,0,none⟩=some a∧W.cell? ⟨B,1,none⟩=some b∧W.cell? ⟨B,2,none⟩=some c∧W.cell? ⟨B,3,none⟩=some d∧W.cell? ⟨B,4,none⟩=some e:=by
 refine⟨cell_of_row _ _ 0 _ t (0,0) h,cell_of_row _ _ 1 _ t (0,0) h,cell_of_row _ _ 2 _ t (0,0) h,cell_of_row _ _ 3 _ t (0,0) h,cell_of_row _ _ 4 _ t (0,0) h⟩
theorem four_set{W:World}{B t:Nat}{a b c d:Value}(h:W.heap[B]?=some (.cells #[a,b,c,d] t (0,0)))(a' b' c' d':Value):
 ((((W.setCell ⟨B,0,none⟩ a').setCell ⟨B,1,none⟩ b').setCell ⟨B,2,none⟩ c').setCell ⟨B,3,none⟩ d').heap[B]?=some (.cells #[a',b',c',d'] t (0,0)):=by
 unfold World.setCell;simp[Array.getElem?_modify,h]
theorem four_fr(W:World)(B:Nat)(a b c d:Value):Fr (fun k=>k=B) W ((((W.setCell ⟨B,0,none⟩ a).setCell ⟨B,1,none⟩ b).setCell ⟨B,2,none⟩ c).setCell ⟨B,3,none⟩ d):=
 ((((Fr.refl (fun k=>k=B) W).setCell (a:=⟨B,0,none⟩) (.inl rfl) _).setCell (a:=⟨B,1,none⟩) (.inl rfl) _).setCell (a:=⟨B,2,none⟩) (.inl rfl) _).setCell (a:=⟨B,3,none⟩) (.inl rfl) _
theorem below_any(x:Kn.Cr)(w:World):Calls Tryz.prog 39 #[crV x] w (fun e w'=>e=.returned (twoV x.a x.c)∧New w w'):=by
 obtain⟨a,b,c,d,p⟩:=x
 go_enter Tryz.func39,Tryz.ntmps39
 go_wp2;have HN:=Lib.hid (((Fr.refl (fun _=>False) w).alloc (.cells #[.int .i64 a,.int .i64 b,.int .i64 c,.int .i64 d,.bool p] 41)).alloc (.cells #[.int .i64 a,.int .i64 c] 96));have hz:=heap_alloc_new (w.alloc (.cells #[.int .i64 a,.int .i64 b,.int .i64 c,.int .i64 d,.bool p] 41)) (.cells #[.int .i64 a,.int .i64 c] 96);rw[World.size_alloc]at hz;obtain⟨c1,c2,_⟩:=two_c hz
 exact bodyPost_ret (v:=twoV a c) (by simp[results,Tryz.results39,go_sem,c1,c2]) rfl ⟨rfl,HN.out⟩
def upA(x:Kn.Cr):Int:=if x.p then x.d else x.b
def upB(x:Kn.Cr):Int:=if x.p then x.b else x.d
theorem above_any(x:Kn.Cr)(w:World):Calls Tryz.prog 40 #[crV x] w (fun e w'=>e=.returned (twoV (upA x) (upB x))∧New w w'):=by
 obtain⟨a,b,c,d,p⟩:=x
 go_enter Tryz.func40,Tryz.ntmps40
 cases p
 · go_wp2
   have HN:=Lib.hid (((Fr.refl (fun _=>False) w).alloc (.cells #[.int .i64 a,.int .i64 b,.int .i64 c,.int .i64 d,.bool false] 41)).alloc (.cells #[.int .i64 b,.int .i64 d] 96));have hz:=heap_alloc_new (w.alloc (.cells #[.int .i64 a,.int .i64 b,.int .i64 c,.int .i64 d,.bool false] 41)) (.cells #[.int .i64 b,.int .i64 d] 96);rw[World.size_alloc]at hz;obtain⟨c1,c2,_⟩:=two_c hz
   exact bodyPost_ret (v:=twoV b d) (by simp[results,Tryz.results40,go_sem,c1,c2]) rfl ⟨rfl,HN.out⟩
 · go_wp2
   have HN:=Lib.hid (((Fr.refl (fun _=>False) w).alloc (.cells #[.int .i64 a,.int .i64 b,.int .i64 c,.int .i64 d,.bool true] 41)).alloc (.cells #[.int .i64 d,.int .i64 b] 96));have hz:=heap_alloc_new (w.alloc (.cells #[.int .i64 a,.int .i64 b,.int .i64 c,.int .i64 d,.bool true] 41)) (.cells #[.int .i64 d,.int .i64 b] 96);rw[World.size_alloc]at hz;obtain⟨c1,c2,_⟩:=two_c hz
   exact bodyPost_ret (v:=twoV d b) (by simp[results,Tryz.results40,go_sem,c1,c2]) rfl ⟨rfl,HN.out⟩
abbrev tieV(x:Kn.Cr):Value:=.agg #[.int .i64 x.a,.int .i64 x.c,.int .i64 (upA x),.int .i64 (upB x)]
set_option maxRecDepth 100000 in
set_option maxHeartbeats 2000000 in
theorem through_any(x:Kn.Cr)(w:World):Calls Tryz.prog 101 #[crV x] w (fun e w'=>e=.returned (tieV x)∧New w w'):=by
 obtain⟨a,b,c,d,p⟩:=x
 obtain⟨ua,HUA⟩:∃ua,Hid (upA ⟨a,b,c,d,p⟩=ua):=⟨_,Lib.hid rfl⟩
 obtain⟨ub,HUB⟩:∃ub,Hid (upB ⟨a,b,c,d,p⟩=ub):=⟨_,Lib.hid rfl⟩
 go_enter Tryz.func101,Tryz.ntmps101
 go_wp2
 obtain⟨w1,HW1⟩:∃w1,Hid (w1=(w.alloc (.cells #[.int .i64 a,.int .i64 b,.int .i64 c,.int .i64 d,.bool p] 41)).alloc (.cells #[.int .i64 0,.int .i64 0,.int .i64 0,.int .i64 0] 97)):=⟨_,Lib.hid rfl⟩
 rw[←HW1.out]
 have hN1:New w w1:=by rw[HW1.out];exact((Fr.refl _ w).alloc _).alloc _
 have hb1:w1.heap[w.heap.size]?=some (.cells #[.int .i64 a,.int .i64 b,.int .i64 c,.int .i64 d,.bool p] 41 (0,0)):=by
  rw[HW1.out];exact((Fr.refl (fun _=>False) _).alloc _).blk (heap_alloc_new w _) fun x=>x
 have hb2:w1.heap[w.heap.size+1]?=some (.cells #[.int .i64 0,.int .i64 0,.int .i64 0,.int .i64 0] 97 (0,0)):=by
  have h2:=heap_alloc_new (w.alloc (.cells #[.int .i64 a,.int .i64 b,.int .i64 c,.int .i64 d,.bool p] 41)) (.cells #[.int .i64 0,.int .i64 0,.int .i64 0,.int .i64 0] 97);rw[World.size_alloc]at h2
  rw[HW1.out];exact h2
 have hS0:(fun w':World=>w'.cell? ⟨w.heap.size,0,none⟩=some (.int .i64 a)∧w'.cell? ⟨w.heap.size,1,none⟩=some (.int .i64 b)∧w'.cell? ⟨w.heap.size,2,none⟩=some (.int .i64 c)∧w'.cell? ⟨w.heap.size,3,none⟩=some (.int .i64 d)∧w'.cell? ⟨w.heap.size,4,none⟩=some (.bool p)) w1.drew:=five_c (W:=w1.drew) hb1;have HR0:Hid (w1.drew.heap[w.heap.size+1]?=some (.cells #[.int .i64 0,.int .i64 0,.int .i64 0,.int .i64 0] 97 (0,0))):=Lib.hid hb2;have HN0:Hid (New w w1.drew):=Lib.hid hN1.drew
 have HB0:Hid (w1.drew.heap[w.heap.size]?=some (.cells #[.int .i64 a,.int .i64 b,.int .i64 c,.int .i64 d,.bool p] 41 (0,0))):=Lib.hid hb1;clear hb1 hb2 hN1
 refine wp_region_held_drew (S:=fun w'=>w'.cell? ⟨w.heap.size,0,none⟩=some (.int .i64 a)∧w'.cell? ⟨w.heap.size,1,none⟩=some (.int .i64 b)∧w'.cell? ⟨w.heap.size,2,none⟩=some (.int .i64 c)∧w'.cell? ⟨w.heap.size,3,none⟩=some (.int .i64 d)∧w'.cell? ⟨w.heap.size,4,none⟩=some (.bool p)) (by kernel_rfl) hS0 (fun hHeld=>?_)
 clear hS0;generalize w1.drew=r0 at hHeld HR0 HN0 HB0 ⊢
 refine' sq 0 (h:=sq 2 (h:=?_))
 refine rdO (i:=1) (fun K hK=>?_);(try simp only[lq1,lq2,lq3]);go_simp;refine(below_any ⟨a,b,c,d,p⟩ _).mono ?_;rintro e r1 ⟨rfl,hF⟩;have HB1:=Lib.hid (hF.blk HB0.out fun x=>x);have HR1:=Lib.hid (hF.blk HR0.out fun x=>x);have HN1:=Lib.hid (HN0.out.trans hF);clear hF;go_wp2_with fail;refine hK.out _ _ (five_c HB1.out) (fun hHeld=>?_);clear hK K;(try simp only[Act.put,lq1,lq2,lq3,lq4,lq5,lq6]);refine rdO (i:=3) (fun K hK=>?_);(try simp only[lq1,lq2,lq3]);go_simp;refine(above_any ⟨a,b,c,d,p⟩ _).mono ?_;rintro e r2 ⟨rfl,hF⟩
 rw[HUA.out,HUB.out];have HB2:=Lib.hid (hF.blk HB1.out fun x=>x);have HR2:=Lib.hid (hF.blk HR1.out fun x=>x);have HN2:=Lib.hid (HN1.out.trans hF);clear hF;go_wp2_with fail;refine hK.out _ _ (five_c HB2.out) (fun hHeld=>?_);clear hK K;(try simp only[Act.put,lq1,lq2,lq3,lq4,lq5,lq6])
 refine' sq 4 (h:=?_)
 refine rdO (i:=5) (fun K hK=>?_);(try simp only[lq1,lq2,lq3]);obtain⟨q1,q2,q3,q4,q5,q6,q7,q8⟩:=four_c HR2.out;go_simp;have HE:=Lib.hid (four_set HR2.out (.int .i64 a) (.int .i64 c) (.int .i64 ua) (.int .i64 ub));have HF:=Lib.hid (four_fr r2 (w.heap.size+1) (.int .i64 a) (.int .i64 c) (.int .i64 ua) (.int .i64 ub));clear q1 q2 q3 q4 q5 q6 q7 q8;refine hK.out _ _ (five_c (HF.out.blk HB2.out (by omega))) (fun hHeld=>?_);clear hK K;(try simp only[Act.put,lq1,lq2,lq3,lq4,lq5,lq6]);refine wpAnyH_done (by kernel_rfl) ?_ _
 obtain⟨q1,q2,q3,q4,_⟩:=four_c HE.out;have HN5:Hid (New w _):=Lib.hid (HN2.out.next HF.out fun i hi=>.inr (by omega));go_wp2
 exact bodyPost_ret (v:=.agg #[.int .i64 a,.int .i64 c,.int .i64 ua,.int .i64 ub]) (by simp[results,Tryz.results101,go_sem,q1,q2,q3,q4]) rfl ⟨by rw[←HUA.out,←HUB.out],HN5.out⟩
end Go.Proofs.YtlicglicfijelaaGreat

/- Walks: Index, Contains of numbers. -/
namespace Go.Proofs.YtlicglicfijelaaGreat
open Go.RowKit

def IntsAt(w:World)(g:Nat)(gs:List Int):Prop:=∀i,i<gs.length→w.cell? ⟨g,i,none⟩=some (.int .i64 (gs.getD i 0))
theorem IntsAt.new{w w':World}{g:Nat}{gs:List Int}(h:IntsAt w g gs)(k:New w w'):IntsAt w' g gs:=fun i hi=>k.cell (h i hi) fun x=>x
set_option maxHeartbeats 1000000 in
theorem index_any(g n c:Nat)(gs:List Int)(v:Int)(w:World)(h:IntsAt w g gs)(hn:n=gs.length)(hl:n≤16):
 Calls Tryz.prog 56 #[.slice (some ⟨g,0,none⟩) n c,.int .i64 v] w (fun e w'=>(∃r,e=.returned (.int .i64 r)∧(0≤r↔v∈gs))∧w'=w):=by
 have HN:=Lib.hid hn;have H:=Lib.hid h;clear hn h
 go_enter Tryz.func56,Tryz.ntmps56
 go_wp2
 go_loop [8] (fun i=>∃k:Nat,k≤n∧i=.int .i64 k∧Hid (∀j,j<k→gs.getD j 0≠v)) (fun i=>n-(intOf i).toNat)
 case atStart=>exact⟨0,by omega,rfl,Lib.hid fun j hj=>by omega⟩
 case round=>
  obtain⟨k,hk,rfl,HQ⟩:=hrel
  by_cases hkn:k<n
  · have hc:=H.out k (by have:=HN.out;omega)
    have i1:(0:Int)≤(k:Int):=by omega
    have i2:(k:Int)<(n:Int):=by omega
    obtain⟨u,HU⟩:∃u,Hid (gs.getD k 0=u):=⟨_,Lib.hid rfl⟩
    rw[HU.out]at hc
    by_cases huv:v=u
    · have hb:(v==u)=true:=by simpa using huv
      go_wp2;go_ret
      refine⟨⟨_,rfl,?_⟩,rfl⟩
      constructor
      · intro _
        first|rw[←HU.out]|rw[huv,←HU.out]
        have hkg:k<gs.length:=by have:=HN.out;omega
        rw[List.getD_eq_getElem?_getD,List.getElem?_eq_getElem hkg]
        exact List.getElem_mem hkg
      · intro _;omega
    · have hb:(v==u)=false:=by simpa using huv
      go_wp2
      go_round
      case rel=>
       refine⟨k+1,by omega,by go_num,Lib.hid fun j hj=>?_⟩
       by_cases e:j=k
       · rw[e,HU.out];exact fun k=>huv k.symm
       · exact HQ.out j (by omega)
      case measure=>simp[intOf];omega
  · obtain rfl:k=n:=by omega
    go_wp2;go_ret
    refine⟨⟨_,rfl,?_⟩,rfl⟩
    constructor
    · intro h;omega
    · intro h
      obtain⟨i,hi,e⟩:=List.mem_iff_getElem.1 h
      exact absurd (by rw[List.getD_eq_getElem?_getD,List.getElem?_eq_getElem hi];exact e) (HQ.out i (by have:=HN.out;omega))
set_option maxRecDepth 100000 in
set_option maxHeartbeats 1000000 in
theorem contains_any(g n c:Nat)(gs:List Int)(v:Int)(w:World)(h:IntsAt w g gs)(hn:n=gs.length)(hl:n≤16):
 Calls Tryz.prog 36 #[.slice (some ⟨g,0,none⟩) n c,.int .i64 v] w (fun e w'=>e=.returned (.bool (decide (v∈gs)))∧w'=w):=by
 have HN:=Lib.hid hn;have H:=Lib.hid h;clear hn h
 obtain⟨r,HR⟩:∃r,Hid (decide (v∈gs)=r):=⟨_,Lib.hid rfl⟩
 rw[HR.out]
 go_enter Tryz.func36,Tryz.ntmps36
 go_wp2_with fail;refine(index_any g n c gs v _ H.out HN.out hl).mono ?_;rintro e w' ⟨⟨x,rfl,hx⟩,rfl⟩;have HX:Hid (decide (0≤x)=r):=Lib.hid (by rw[←HR.out,Bool.eq_iff_iff,decide_eq_true_eq,decide_eq_true_eq];exact hx);clear hx;go_wp2;go_ret
 exact⟨ret_bool HX.out,rfl⟩
end Go.Proofs.YtlicglicfijelaaGreat

/- Walks: Without's inner function. -/
namespace Go.Proofs.YtlicglicfijelaaGreat
open Go.RowKit

set_option maxRecDepth 100000 in
set_option maxHeartbeats 1000000 in
theorem with1_any(Bn Bc rn rc m a u v:Nat)(w:World)(hn:w.cell? ⟨Bn,0,none⟩=some (.slice (some ⟨rn,0,none⟩) m m))(hc:w.cell? ⟨Bc,0,none⟩=some (.slice (some ⟨rc,0,none⟩) m m))
 (hu:w.cell? ⟨rc,a,none⟩=some (.int .i64 u)) (hv:w.cell? ⟨rn,u,none⟩=some (.int .i64 v)) (ha:a<m) (hum:u<m):
 Calls Tryz.prog 38 #[.int .i64 a,.pointer (some ⟨Bn,0,none⟩),.pointer (some ⟨Bc,0,none⟩)] w (fun e w'=>e=.returned (.int .i64 v)∧New w w'):=by
 have i1:(0:Int)≤(a:Int):=by omega
 have i2:(a:Int)<(m:Int):=by omega
 have i3:(0:Int)≤(u:Int):=by omega
 have i4:(u:Int)<(m:Int):=by omega
 go_enter Tryz.func38,Tryz.ntmps38
 go_wp2_with fail
 go_quiet (fail)
 go_wp2;go_ret
 exact⟨rfl,(Fr.refl _ _).drewN _⟩
end Go.Proofs.YtlicglicfijelaaGreat

/- Words for walks: rows of crossings, boxes. -/
namespace Go.Proofs.YtlicglicfijelaaGreat
open Go.RowKit

theorem crCells_snoc(X:List Kn.Cr)(x:Kn.Cr):crCells (X++[x])=crCells X++[.int .i64 x.a,.int .i64 x.b,.int .i64 x.c,.int .i64 x.d,.bool x.p]:=by
 apply List.ext_getElem?
 intro j
 by_cases c:j<X.length*5
 · rw[crCells_at (by simp;omega),List.getElem?_append_left (by rw[crCells_length];exact c),crCells_at c]
   have:Kn.cr (X++[x]) (j / 5)=Kn.cr X (j / 5):=by
    unfold Kn.cr
    rw[List.getD_eq_getElem?_getD,List.getD_eq_getElem?_getD,List.getElem?_append_left (by omega)]
   unfold crFn
   rw[this]
 · by_cases c':j<X.length*5+5
   · rw[crCells_at (by simp;omega),List.getElem?_append_right (by rw[crCells_length];omega),crCells_length]
     have e1:j / 5=X.length:=by omega
     have:Kn.cr (X++[x]) (j / 5)=x:=by
      unfold Kn.cr
      rw[List.getD_eq_getElem?_getD,e1]
      simp
     unfold crFn
     rw[this]
     obtain⟨k,hk,rfl⟩:∃k,k<5∧j=X.length*5+k:=⟨j-X.length*5,by omega,by omega⟩
     rw[show (X.length*5+k)%5=k by omega,show X.length*5+k-X.length*5=k by omega]
     match k,hk with
     |0,_=>rfl
     |1,_=>rfl
     |2,_=>rfl
     |3,_=>rfl
     |4,_=>rfl
   · rw[List.getElem?_eq_none (by rw[crCells_length];simp;omega),List.getElem?_eq_none (by simp[crCells_length];omega)]
theorem ShAt.loops{w:World}{b:Nat}{X:List Kn.Cr}{L:Int}(h:ShAt w b X L):w.cell? ⟨b,1,none⟩=some (.int .i64 L):=by
 obtain⟨v,bi,bo,base,s⟩:=h
 exact s.c2.2.1
theorem ShAt.crs{w:World}{b:Nat}{X:List Kn.Cr}{L:Int}(h:ShAt w b X L):∃a c,w.cell? ⟨b,0,none⟩=some (.slice a X.length c)∧w.cell? ⟨b,1,none⟩=some (.int .i64 L)∧CrsAt w a X:=by
 obtain⟨v,bi,bo,base,s⟩:=h;obtain⟨a,c,rfl,hc⟩:=CrsAt.of_owns s.own
 exact⟨a,c,s.c2.1,s.c2.2.1,hc⟩
theorem arc_nat{X:List Kn.Cr}(hX:Kn.Ok X){c:Nat}(hc:c<X.length):(Kn.cr X c).a=(Kn.arcN X (c,0):Nat)∧(Kn.cr X c).b=(Kn.arcN X (c,1):Nat)∧(Kn.cr X c).c=(Kn.arcN X (c,2):Nat)∧(Kn.cr X c).d=(Kn.arcN X (c,3):Nat)∧∀s,s<4→Kn.arcN X (c,s)≤2*X.length:=by
 have h:∀s,s<4→Kn.at_ X (c,s)=(Kn.arcN X (c,s):Nat)∧Kn.arcN X (c,s)≤2*X.length:=fun s hs=>by
  have h1:=hX.isArc (X:=X) (p:=(c,s)) ⟨hc,hs⟩
  unfold Kn.isArc Kn.nArcs at h1
  refine⟨?_,h1.2⟩
  have h2:=h1.1
  unfold Kn.arcN at h2 ⊢
  omega
 exact⟨(h 0 (by omega)).1,(h 1 (by omega)).1,(h 2 (by omega)).1,(h 3 (by omega)).1,fun s hs=>(h s hs).2⟩
theorem five_cells{w:World}{a b c d e:Value}{t:TypeId}{B:Nat}(hB:B=w.heap.size):∀(j:Nat) (u:Value),[a,b,c,d,e][j]?=some u→(w.alloc (.cells #[a,b,c,d,e] t)).cell? ((⟨B,0,none⟩:Addr).add j)=some u:=by
 subst hB;have h:=heap_alloc_new w (.cells #[a,b,c,d,e] t)
 intro j u hj
 rw[addr_add,Nat.zero_add]
 match j,hj with
 |0,hj=>cases hj;exact cell_of_row _ _ 0 _ t (0,0) h
 |1,hj=>cases hj;exact cell_of_row _ _ 1 _ t (0,0) h
 |2,hj=>cases hj;exact cell_of_row _ _ 2 _ t (0,0) h
 |3,hj=>cases hj;exact cell_of_row _ _ 3 _ t (0,0) h
 |4,hj=>cases hj;exact cell_of_row _ _ 4 _ t (0,0) h
theorem one_five(a b c d:Int)(p:Bool):∀u∈[Value.int .i64 a,.int .i64 b,.int .i64 c,.int .i64 d,.bool p],u.oneCell'=true:=by
 intro u hu
 simp only[List.mem_cons,List.not_mem_nil,or_false]at hu
 rcases hu with rfl|rfl|rfl|rfl|rfl<;>rfl
theorem box2_set{W:World}{B t:Nat}{a b:Value}(hb:W.heap[B]?=some (.cells #[a,b] t (0,0)))(v:Value):(W.setCell ⟨B,0,none⟩ v).heap[B]?=some (.cells #[v,b] t (0,0))∧(W.setCell ⟨B,1,none⟩ v).heap[B]?=some (.cells #[a,v] t (0,0)):=by
 constructor<;>(unfold World.setCell;simp[Array.getElem?_modify,hb])
theorem box2_c{W:World}{B t:Nat}{a b:Value}(h:W.heap[B]?=some (.cells #[a,b] t (0,0))):W.cell? ⟨B,0,none⟩=some a∧W.cell? ⟨B,1,none⟩=some b∧W.frozen? ⟨B,0,none⟩=false∧W.frozen? ⟨B,1,none⟩=false:=
 ⟨cell_of_row _ _ 0 _ t (0,0) h,cell_of_row _ _ 1 _ t (0,0) h,by simp[World.frozen?,h],by simp[World.frozen?,h]⟩
end Go.Proofs.YtlicglicfijelaaGreat

/- Words for rows of crossings that are written in place. -/
namespace Go.Proofs.YtlicglicfijelaaGreat
open Go.RowKit

theorem own_set{w:World}{base e sz g c n:Nat}{xs:List Value}(h:w.ownsRow base e sz (.slice (some ⟨g,0,none⟩) n c) n xs)(j:Nat)(v:Value):
 (w.setCell ⟨g,j,none⟩ v).ownsRow base e sz (.slice (some ⟨g,0,none⟩) n c) n (xs.set j v):=by
 rcases h.2 with⟨he,hn⟩|⟨g',cap,cur,he,hb,hg,h1,h2,h3,h4⟩
 · cases he
 · injection he with e1 e2 e3
   injection e1 with e1
   injection e1 with e1 _ _
   subst e1;subst e3
   refine⟨by rw[List.length_set];exact h.1,.inr ⟨g,c,cur.setIfInBounds j v,rfl,hb,?_,h1,h2,by simpa using h3,?_⟩⟩
   · simp[World.setCell,Array.getElem?_modify,hg]
   · rw[Array.toList_setIfInBounds,←h4,List.take_set]
theorem own_free{w:World}{base e sz g c n:Nat}{xs:List Value}(h:w.ownsRow base e sz (.slice (some ⟨g,0,none⟩) n c) n xs)(j:Nat):w.frozen? ⟨g,j,none⟩=false:=by
 rcases h.2 with⟨he,hn⟩|⟨g',cap,cur,he,hb,hg,_⟩
 · cases he
 · injection he with e1 e2 e3
   injection e1 with e1
   injection e1 with e1 _ _
   subst e1
   simp[World.frozen?,hg]
theorem crCells_set{Y:List Kn.Cr}{k:Nat}(hk:k<Y.length)(x:Kn.Cr):
 (((((crCells Y).set (k*5) (.int .i64 x.a)).set (k*5+1) (.int .i64 x.b)).set (k*5+2) (.int .i64 x.c)).set (k*5+3) (.int .i64 x.d)).set (k*5+4) (.bool x.p)=crCells (Y.set k x):=by
 apply List.ext_getElem?
 intro j
 by_cases c:j<Y.length*5
 · rw[crCells_at (X:=Y.set k x) (by rw[List.length_set];exact c)]
   have hcr:∀i,Kn.cr (Y.set k x) i=if i=k then x else Kn.cr Y i:=fun i=>by
    unfold Kn.cr
    rw[List.getD_eq_getElem?_getD,List.getD_eq_getElem?_getD,List.getElem?_set]
    by_cases e:k=i
    · subst e;simp[hk]
    · rw[if_neg e,if_neg (fun h=>e h.symm)]
   have hcells:=crCells_at c
   unfold crFn
   rw[hcr];simp only[List.getElem?_set,List.length_set,crCells_length]
   by_cases e:j / 5=k
   · rw[if_pos e]
     obtain⟨s,hs,rfl⟩:∃s,s<5∧j=k*5+s:=⟨j-k*5,by omega,by omega⟩
     rw[show (k*5+s)%5=s by omega]
     match s,hs with
     |0,_=>simp;omega
     |1,_=>simp;omega
     |2,_=>simp;omega
     |3,_=>simp;omega
     |4,_=>simp;omega
   · rw[if_neg e,if_neg (by omega),if_neg (by omega),if_neg (by omega),if_neg (by omega),if_neg (by omega),hcells]
     rfl
 · rw[List.getElem?_eq_none (by simp[crCells_length];omega),List.getElem?_eq_none (by simp[crCells_length];omega)]
theorem Kn.cr_parts'(X:List Kn.Cr)(k:Nat):∃a b c d p,Hid (Kn.cr X k=⟨a,b,c,d,p⟩):=⟨_,_,_,_,_,Lib.hid rfl⟩
abbrev set5(w:World)(g j:Nat)(a b c d:Int)(p:Bool):World:=((((w.setCell ⟨g,j*5,none⟩ (.int .i64 a)).setCell ⟨g,j*5+1,none⟩ (.int .i64 b)).setCell ⟨g,j*5+2,none⟩ (.int .i64 c)).setCell ⟨g,j*5+3,none⟩ (.int .i64 d)).setCell ⟨g,j*5+4,none⟩ (.bool p)
theorem own_set5{w:World}{base g c n j:Nat}{Y:List Kn.Cr}(h:w.ownsRow base 41 5 (.slice (some ⟨g,0,none⟩) n c) n (crCells Y))(hj:j<Y.length)(x:Kn.Cr):
 (set5 w g j x.a x.b x.c x.d x.p).ownsRow base 41 5 (.slice (some ⟨g,0,none⟩) n c) n (crCells (Y.set j x)):=by
 rw[←crCells_set hj x]
 exact own_set (own_set (own_set (own_set (own_set h _ _) _ _) _ _) _ _) _ _
theorem fr_set5(w:World)(g j:Nat)(a b c d:Int)(p:Bool):Fr (fun k=>k=g) w (set5 w g j a b c d p):=
 (((((Fr.refl (fun k=>k=g) w).setCell (a:=⟨g,j*5,none⟩) (.inl rfl) _).setCell (a:=⟨g,j*5+1,none⟩) (.inl rfl) _).setCell (a:=⟨g,j*5+2,none⟩) (.inl rfl) _).setCell (a:=⟨g,j*5+3,none⟩) (.inl rfl) _).setCell (a:=⟨g,j*5+4,none⟩) (.inl rfl) _
theorem own_five{w:World}{base g c n:Nat}{Y:List Kn.Cr}(h:w.ownsRow base 41 5 (.slice (some ⟨g,0,none⟩) n c) n (crCells Y))(hn:n=Y.length){j:Nat}(hj:j<Y.length):CrAt w g (j*5) (Kn.cr Y j):=by
 subst hn;obtain⟨a,c',e,hc⟩:=CrsAt.of_owns h
 cases e
 obtain⟨b,o,e,hx⟩:=hc.at hj
 cases e
 rwa [Nat.zero_add]at hx
end Go.Proofs.YtlicglicfijelaaGreat
