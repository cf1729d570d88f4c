/- Walks: Homfly. -/
import Derived.BigRegion
import Derived.Test.YtlicglicfijelaaGreatK4
import Derived.Laws.AppendOwnNone
import Derived.Test.YtlicglicfijelaaGreatK2
/- Walks: Homfly. -/
namespace Go.Proofs.YtlicglicfijelaaGreat
open Go.RowKit
open Kn (E2 L2 cf szL exB ofL)

def tcells(l:L2):List Value:=l.flatMap fun t=>[.int .i64 t.1.1,.int .i64 t.1.2,.int .i64 t.2]
theorem tcells_snoc(l:L2)(t:E2×Int):tcells (l++[t])=tcells l++[.int .i64 t.1.1,.int .i64 t.1.2,.int .i64 t.2]:=by simp[tcells]
theorem tcells_length(l:L2):(tcells l).length=l.length*3:=by
 unfold tcells
 induction l with
 |nil=>rfl
 |cons t l ih=>simp only[List.flatMap_cons,List.length_append,ih,List.length_cons,List.length_nil];omega
def outL(W:L2)(ys:List E2):L2:=(ys.filter fun p=>decide (cf W p≠0)).map fun p=>(p,cf W p)
theorem outL_snoc(W:L2)(ys:List E2)(p:E2):outL W (ys++[p])=if cf W p=0 then outL W ys else outL W ys++[(p,cf W p)]:=by
 unfold outL
 rw[List.filter_append,List.map_append]
 by_cases c:cf W p=0
 · rw[if_pos c];simp[c]
 · rw[if_neg c];simp[c]
theorem outL_F2{W:L2}{ys:List E2}(h:KeyS W ys)(hp:ys.Pairwise fun a b=>cmpP a b≤0):Kn.F2 (outL W ys):=by
 refine⟨?_,fun t ht=>?_⟩
 · unfold outL
   rw[List.pairwise_map]
   refine List.Pairwise.filter _ ?_
   have hn:=h.nd;rw[List.nodup_iff_pairwise_ne]at hn;refine(hp.and hn).imp ?_;rintro a b ⟨h1,h2⟩;rw[cmpP_le]at h1
   rcases Kn.lt2_tri a b with h3|h3|h3
   · exact h3
   · exact absurd h3 h2
   · exact absurd h3 h1
 · unfold outL at ht
   obtain⟨p,hp,rfl⟩:=List.mem_map.1 ht;have:=(List.mem_filter.1 hp).2
   simpa using this
theorem outL_cf{W:L2}{ys:List E2}(h:KeyS W ys)(a:E2):cf (outL W ys) a=cf W a:=by
 by_cases c:cf W a=0
 · rw[c]
   refine Kn.cf_out fun t ht e=>?_
   unfold outL at ht
   obtain⟨p,hp,rfl⟩:=List.mem_map.1 ht;have:=(List.mem_filter.1 hp).2;simp only at e;rw[e]at this
   simp[c]at this
 · have hm:(a,cf W a)∈outL W ys:=List.mem_map.2 ⟨a,List.mem_filter.2 ⟨h.all a c,by simpa using c⟩,rfl⟩
   refine cf_one ?_ hm
   unfold outL
   rw[List.map_map];have:((fun x:E2×Int=>x.1)∘fun p=>(p,cf W p))=id:=rfl;rw[this,List.map_id]
   exact h.nd.filter _
theorem prow_cell{w:World}{base g m c:Nat}{ys:List E2}(h:w.ownsRow base 56 2 (.slice (some ⟨g,0,none⟩) m c) m (pcells ys))(hm:m=ys.length){q:Nat}(hq:q<ys.length):w.cell? ⟨g,q*2,none⟩=some (.int .i64 ys[q].1)∧w.cell? ⟨g,q*2+1,none⟩=some (.int .i64 ys[q].2):=by
 have hk:∀x:E2,(pcell x).length=2:=fun _=>rfl
 have he:pcells ys=ys.flatMap pcell:=rfl;rw[he]at h;have h0:=World.ownsRow.cells h (g:=g) rfl (q*2) (.int .i64 ys[q].1) (by rw[flat_get pcell hk ys (q*2) (by omega)];simp[pcell])
 have h1:=World.ownsRow.cells h (g:=g) rfl (q*2+1) (.int .i64 ys[q].2) (by
  rw[flat_get pcell hk ys (q*2+1) (by omega)]
  have e:(q*2+1) / 2=q:=by omega
  have e2:(q*2+1)%2=1:=by omega
  simp[pcell,e,e2])
 rw[addr_add,Nat.zero_add]at h0 h1
 exact⟨h0,h1⟩
theorem three_cells{w:World}{a b c:Value}{t:TypeId}{B:Nat}(hB:B=w.heap.size):∀(j:Nat) (u:Value),[a,b,c][j]?=some u→(w.alloc (.cells #[a,b,c] t)).cell? ((⟨B,0,none⟩:Addr).add j)=some u:=by
 subst hB;have h:=heap_alloc_new w (.cells #[a,b,c] t)
 intro j u hj
 rw[addr_add,Nat.zero_add]
 match j,hj with
 |0,hj=>cases hj;exact cell_of_row _ _ 0 _ t (0,0) h
 |1,hj=>cases hj;exact cell_of_row _ _ 1 _ t (0,0) h
 |2,hj=>cases hj;exact cell_of_row _ _ 2 _ t (0,0) h
theorem one_three(x y z:Int):∀u∈[Value.int .i64 x,.int .i64 y,.int .i64 z],u.oneCell'=true:=by
 intro u hu
 simp only[List.mem_cons,List.not_mem_nil,or_false]at hu
 rcases hu with rfl|rfl|rfl<;>rfl
theorem ne_no{a:Int}(h:a=0):(a != 0)=false:=by rw[h];rfl
theorem ne_yes{a:Int}(h:a≠0):(a != 0)=true:=by rw[bne_iff_ne];exact h
theorem Tryz.info63:(Tryz.prog.info? 63).map (fun i=>(i.zero,i.size,i.bytes))=some (some (.agg #[.int .i64 0,.int .i64 0,.int .i64 0]),3,24):=by kernel_rfl
def GaveT(X:List Kn.Cr)(L:Int)(w:World)(e:Ending)(w':World):Prop:=
 New w w'∧((hoC X L=0∧∃v l,e=.returned (.tuple #[v,.int .i64 0])∧Hid (w'.ownsRow w.heap.size 63 3 v l.length (tcells l))∧Hid (Kn.F2 l∧∀a,cf l a=cf (ofL 100 X L.toNat) a)∧l.length≤1000000)∨(hoC X L≠0∧e=.returned (.tuple #[.slice none 0 0,.int .i64 (hoC X L)])))
theorem hoC_ok{X:List Kn.Cr}{L:Int}(h:hoC X L=0):Kn.Ok X∧X.length≤8∧0≤L∧L≤16∧(X.length=0→L≠0)∧Kn.planarB X=true:=by
 unfold hoC at h
 split at h
 · next c=>
   split at h
   · cases h
   · next c2=>
     unfold opC at c
     split at c
     · next c3=>
       split at c
       · next c4=>
         have hok:=(mayB_ok c3).1
         unfold Kn.mayB at c3
         simp only[Bool.and_eq_true,decide_eq_true_eq,Bool.not_eq_true',Bool.and_eq_false_iff,decide_eq_false_iff_not]at c3
         exact⟨hok,by omega,by omega,by omega,fun h0=>by omega,c4⟩
       · cases c
     · cases c
 · next c=>exact absurd h c
set_option maxRecDepth 100000 in
set_option maxHeartbeats 4000000 in
theorem homfly_any(a:Option Addr)(n c:Nat)(X:List Kn.Cr)(L:Int)(w:World)(hx:CrsAt w a X)(hn:n=X.length)(lx:n≤9223372036854775807)(l1:-9223372036854775808≤L)(l2:L≤9223372036854775807):
 Calls Tryz.prog 4 #[.agg #[.slice a n c,.int .i64 L]] w (GaveT X L w):=by
 have HN:=Lib.hid hn;have HX:=Lib.hid hx;clear hx hn
 go_enter Tryz.func4,Tryz.ntmps4
 go_wp2_with fail;have hNa:New w (w.alloc (.cells #[.slice a n c,.int .i64 L] 24)):=(Fr.refl _ _).alloc _;refine(hopen_any a n c X L _ (New.crs hNa HX.out) HN.out lx l1 l2).mono ?_;rintro e w1 ⟨hF,h5⟩;have HF:Hid (New w w1):=Lib.hid (hNa.trans hF);clear hNa hF
 rcases h5 with⟨hc,b,rfl,hs⟩|⟨hc,rfl⟩
 · obtain⟨hok,h8,hL0,hL16,hne,_⟩:=hoC_ok hc
   obtain⟨Ln,rfl⟩:∃Ln:Nat,L=(Ln:Int):=⟨L.toNat,by omega⟩
   obtain⟨a1,c1,s0,s1,hcr⟩:=hs.crs;rw[←HN.out]at s0 h8;have HC:=Lib.hid hc;have HCR:=Lib.hid hcr;have HOK:=Lib.hid hok;obtain⟨hst1,hst2⟩:=strands_few hok;have hb1:=hok.bX_le
   have hX2:(Kn.strandsL X).length+Ln+X.length≤40:=by have:=HN.out;omega
   have hX3:1≤(Kn.strandsL X).length+Ln:=by
    by_cases c0:X.length=0
    · have:=hne c0;omega
    · have:=hst2 (by omega);omega
   have hX4:X.length*X.length+Kn.bX X+1≤100:=by
    have h9:X.length*X.length≤8*8:=Nat.mul_le_mul (by have:=HN.out;omega) (by have:=HN.out;omega);have:=HN.out
    omega
   have HX2:=Lib.hid hX2;have HX3:=Lib.hid hX3;have HX4:=Lib.hid hX4;clear hs hc hcr hok hst1 hst2 hb1 hX2 hX3 hX4 hne;go_wp2_with fail;refine(of_any 100 a1 n c1 X Ln w1 HCR.out HOK.out HN.out h8 HX2.out HX3.out HX4.out (by omega)).mono ?_;rintro e w2 ⟨mb,rfl,hP,hF⟩
   obtain⟨W,HW⟩:∃z,Hid (z=ofL 100 X Ln):=⟨_,Lib.hid rfl⟩
   have hbd:=ofL_bd (f:=100) HOK.out (L:=Ln) (by have:=HN.out;omega) HX2.out (by omega)
   have hex:exB 282 W:=by rw[HW.out];exact(Kn.ofL_sz 100 HOK.out Ln).2.mono (by have:=HX2.out;omega)
   rw[←HW.out]at hP hbd;have HP2:=hP;have HBD:=Lib.hid hbd;have HEX:=Lib.hid hex;have HN2:Hid (New w w2):=Lib.hid (HF.out.trans hF);clear hP hF s0 s1 hbd hex;go_wp2_with fail;refine(keys_any mb w2).mono ?_;rintro e w3 ⟨rfl,hw3⟩
   have hF3:New w2 w3:=by rw[hw3];exact(Fr.refl _ _).alloc _
   have hB3:w3.heap[w2.heap.size]?=some (.cells #[.map (some mb)] 48 (0,0)):=by rw[hw3];exact heap_alloc_new w2 _
   have HP3:=Lib.hid (HP2.out.fr hF3 fun x=>x);have HN3:Hid (New w w3):=Lib.hid (HN2.out.trans hF3);obtain⟨D,hown,hd⟩:=HP3.out;have hsd:=PD.few hown hd HEX.out
   have hpw:∀t∈W,isPw t.1:=fun t ht=>by have:=HEX.out t ht;unfold isPw;omega
   have HSRT:=Lib.hid (sorted_any w2.heap.size mb _ D W w3 (Array.getElem?_eq_some_iff.1 hB3).1 (box_c hB3).1 hown hd hpw (by omega) fun xs hk=>by have:=hk.few HEX.out;omega);have HPW:=Lib.hid hpw;clear hw3 hF3 hB3 hown hd hsd hpw;go_wp2_with fail
   refine HSRT.out.mono ?_
   rintro e w4 ⟨v,ys,rfl,hk,hpr,ho,hF⟩;obtain⟨a5,c5,rfl,_⟩:=own_shape2 ho
   obtain⟨ny,HNY⟩:∃z,Hid (z=ys.length):=⟨_,Lib.hid rfl⟩
   have hny:ny≤320000:=by rw[HNY.out];have:=hk.few HEX.out;omega
   rw[←HNY.out]at ho ⊢;have HK:=Lib.hid hk;have HPR:=Lib.hid hpr;have HO:=Lib.hid ho;have HN4:Hid (New w w4):=Lib.hid (HN3.out.trans hF);have HP4:=Lib.hid (HP3.out.fr hF fun x=>x);clear hk hpr ho hF;go_wp2_with fail;have HO0:Hid (w4.ownsRow w4.heap.size 63 3 (.slice none 0 0) (outL W (ys.take 0)).length (tcells (outL W (ys.take 0)))):=Lib.hid ⟨rfl,.inl ⟨rfl,rfl⟩⟩
   go_loopw [7,27] (fun ov i wr=>∃(k:Nat) (lo:L2),k≤ny∧i=.int .i64 k∧lo.length≤k∧Hid (lo=outL W (ys.take k))∧Hid (wr.ownsRow w4.heap.size 63 3 ov lo.length (tcells lo))∧Hid (New w4 wr)) (fun _ i _=>ny-(intOf i).toNat)
   case atStart=>exact⟨0,_,by omega,rfl,by rw[List.take_zero];exact Nat.le_refl _,Lib.hid rfl,HO0,Lib.hid (Fr.refl _ _)⟩
   case round=>
    obtain⟨k,lo,hk,rfl,hlk,HL,HOW,HFr⟩:=hrel;obtain⟨a7,c7,rfl,_⟩:=own_shape2 HOW.out
    by_cases hlt:k<ny
    · have hky:k<ys.length:=by have:=HNY.out;omega
      obtain⟨g5,rfl⟩:∃g,a5=some ⟨g,0,none⟩:=by
       rcases HO.out.2 with⟨e,h0⟩|⟨g,cap,cur,e,_⟩
       · exact absurd h0 (by omega)
       · injection e with e1 _ _;exact⟨g,e1⟩
      obtain⟨d1,d2⟩:=prow_cell (HFr.out.owns HO.out fun _ _ x=>x) HNY.out hky
      obtain⟨p1,HP1⟩:∃z,Hid (z=ys[k].1):=⟨_,Lib.hid rfl⟩
      obtain⟨p2,HP2'⟩:∃z,Hid (z=ys[k].2):=⟨_,Lib.hid rfl⟩
      rw[←HP1.out]at d1;rw[←HP2'.out]at d2
      obtain⟨q,HQ⟩:∃z,Hid (z=cf W (p1,p2)):=⟨_,Lib.hid rfl⟩
      have hyk:ys[k]=(p1,p2):=by rw[HP1.out,HP2'.out]
      have hpw:isPw (p1,p2):=by
       obtain⟨t,ht,e⟩:=HK.out.mem ys[k] (List.getElem_mem hky)
       rw[←hyk,←e];exact HPW.out t ht
      have hstep:outL W (ys.take (k+1))=if q=0 then lo else lo++[((p1,p2),q)]:=by
       rw[List.take_succ_eq_append_getElem hky,hyk,outL_snoc,←HQ.out,←HL.out]
      have HST:=Lib.hid hstep;have HPWW:=Lib.hid hpw
      have i1:(0:Int)≤(k:Int):=by omega
      have i2:(k:Int)<(ny:Int):=by omega
      obtain⟨B,HB⟩:∃z,Hid (z=wr.heap.size):=⟨_,Lib.hid rfl⟩
      obtain⟨wb,HWB⟩:∃z,Hid (z=wr.alloc (.cells #[.int .i64 p1,.int .i64 p2] 56)):=⟨_,Lib.hid rfl⟩
      have hFb:New wr wb:=by rw[HWB.out];exact(Fr.refl _ _).alloc _
      have hlook:(Instr.lookup 48 (.map (some mb)) (.agg #[.int .i64 p1,.int .i64 p2]) false).run Tryz.prog wb=.ok (.int .i64 q) wb:=by
       rw[HQ.out];exact(HP4.out.fr (HFr.out.trans hFb) fun x=>x).look hpw
      have HFb:=Lib.hid hFb;have HBb:Hid (wb.heap[B]?=some (.cells #[.int .i64 p1,.int .i64 p2] 56 (0,0))):=Lib.hid (by rw[HWB.out,HB.out];exact heap_alloc_new wr _);have HLK:=Lib.hid hlook;have HOB:=Lib.hid (HFb.out.owns HOW.out fun _ _ x=>x);rw[HWB.out]at hlook;clear hFb hstep hpw hyk
      by_cases hq:q=0
      · have hqn:(q != 0)=false:=ne_no hq
        go_wp2
        go_roundw
        case rel=>exact⟨k+1,lo,by omega,by go_num,by omega,Lib.hid (by rw[HST.out,if_pos hq]),by rw[←HWB.out];exact HOB,Lib.hid (by rw[←HWB.out];exact HFr.out.trans HFb.out)⟩
        case measure=>simp[intOf];omega
      · have hqn:(q != 0)=true:=ne_yes hq
        obtain⟨ll,HLL⟩:∃z,Hid (z=lo.length):=⟨_,Lib.hid rfl⟩
        go_upto_region 10 with fail;rw[←HWB.out,←HB.out];have hSS:wb.drew.cell? ⟨B,0,none⟩=some (.int .i64 p1)∧wb.drew.cell? ⟨B,1,none⟩=some (.int .i64 p2)∧(Instr.lookup 48 (.map (some mb)) (.agg #[.int .i64 p1,.int .i64 p2]) false).run Tryz.prog wb.drew=.ok (.int .i64 q) wb.drew:=⟨(two_cc HBb.out).1,(two_cc HBb.out).2,by rw[HQ.out];exact(HP4.out.fr ((HFr.out.trans HFb.out).drew) fun x=>x).look HPWW.out⟩
        refine wp_region_held_drew (S:=fun wz=>wz.cell? ⟨B,0,none⟩=some (.int .i64 p1)∧wz.cell? ⟨B,1,none⟩=some (.int .i64 p2)∧(Instr.lookup 48 (.map (some mb)) (.agg #[.int .i64 p1,.int .i64 p2]) false).run Tryz.prog wz=.ok (.int .i64 q) wz) (by kernel_rfl) hSS (fun hHeld=>?_)
        clear hSS
        obtain⟨y0,HY0⟩:∃z,Hid (z=wb.drew):=⟨_,Lib.hid rfl⟩
        have HFy:Hid (New wr y0):=Lib.hid (by rw[HY0.out];exact HFb.out.drew);have HBy:Hid (y0.heap[B]?=some (.cells #[.int .i64 p1,.int .i64 p2] 56 (0,0))):=Lib.hid (by rw[HY0.out];exact HBb.out);have HOy:Hid (y0.ownsRow w4.heap.size 63 3 (.slice a7 lo.length c7) lo.length (tcells lo)):=Lib.hid (by rw[HY0.out];exact HOB.out);rw[←HY0.out]at hHeld ⊢
        refine' sq 0 (h:=sq 1 (h:=sq 2 (h:=sq 3 (h:=sq 4 (h:=sq 5 (h:=sq 6 (h:=sq 7 (h:=sq 8 (h:=?_)))))))))
        refine rdO (i:=9) (fun K hK=>?_);(try simp only[lq1,lq2,lq3]);go_simp
        obtain⟨y1,HY1⟩:∃z,Hid (z=y0.alloc (.cells #[.int .i64 p1,.int .i64 p2,.int .i64 q] 63)):=⟨_,Lib.hid rfl⟩
        obtain⟨B2,HB2⟩:∃z,Hid (z=y0.heap.size):=⟨_,Lib.hid rfl⟩
        have hcells:=three_cells (w:=y0) (a:=.int .i64 p1) (b:=.int .i64 p2) (c:=.int .i64 q) (t:=63) HB2.out;rw[←HY1.out]at hcells;rw[←HY1.out,←HB2.out];have HF1:Hid (New wr y1):=Lib.hid (by rw[HY1.out];exact HFy.out.alloc _);have HB1:Hid (y1.heap[B]?=some (.cells #[.int .i64 p1,.int .i64 p2] 56 (0,0))):=Lib.hid (by rw[HY1.out];exact((Fr.refl (fun _=>False) y0).alloc _).blk HBy.out fun x=>x);have HO1:Hid (y1.ownsRow w4.heap.size 63 3 (.slice a7 lo.length c7) lo.length (tcells lo)):=Lib.hid (by rw[HY1.out];exact World.ownsRow.alloc HOy.out _)
        have HCL:=Lib.hid hcells;have hH2:=And.intro (two_cc HB1.out).1 (And.intro (two_cc HB1.out).2 (show (Instr.lookup 48 (.map (some mb)) (.agg #[.int .i64 p1,.int .i64 p2]) false).run Tryz.prog y1=.ok (.int .i64 q) y1 by rw[HQ.out];exact(HP4.out.fr (HFr.out.trans HF1.out) fun x=>x).look HPWW.out));clear hcells hHeld;refine hK.out _ _ hH2 (fun hHeld=>?_);clear hK K hH2;(try simp only[Act.put,lq1,lq2,lq3,lq4,lq5,lq6]);refine rdO (i:=10) (fun K hK=>?_);(try simp only[lq1,lq2,lq3]);obtain⟨i0,hi,hz0,hz1,hz2⟩:=info_parts Tryz.info63
        rw[if_pos (by rfl)];have hsz:w4.heap.size≤y1.heap.size:=(HFr.out.trans HF1.out).size
        refine wp_append_lies _ _ _ 29 rfl w4.heap.size 63 i0 (.agg #[.int .i64 0,.int .i64 0,.int .i64 0]) 3 24 Tryz.underlying29 hi hz0 hz1 hz2 rfl (by decide) _ lo.length (tcells lo) rfl HO1.out ⟨B2,0,none⟩ 1 1 [.int .i64 p1,.int .i64 p2,.int .i64 q] rfl rfl HCL.out (one_three _ _ _) (by omega) (by unfold maxLen;omega) (by omega) hsz _ rfl ?_
        intro g7 c8 w7 hown7 hg7 _ _
        have hF7:Fr (fun i=>(Value.slice a7 lo.length c7).ownBlock=some i) y1 w7:=fr_grown hg7 |>.mono fun i e=>e
        have HN7:Hid (New w4 w7):=Lib.hid ((HFr.out.trans HF1.out).next hF7 fun i e=>.inr (own_lb HO1.out i e));have hb7:=hF7.blk HB1.out (blk_not_own HB1.out HO1.out (by decide));have HO7:=Lib.hid hown7;have hH2:=And.intro (two_cc hb7).1 (And.intro (two_cc hb7).2 (show (Instr.lookup 48 (.map (some mb)) (.agg #[.int .i64 p1,.int .i64 p2]) false).run Tryz.prog w7=.ok (.int .i64 q) w7 by rw[HQ.out];exact(HP4.out.fr HN7.out fun x=>x).look HPWW.out));clear hown7 hg7 hF7 hb7 hHeld;refine hK.out _ _ hH2 (fun hHeld=>?_);clear hK K hH2
        (try simp only[Act.put,lq1,lq2,lq3,lq4,lq5,lq6])
        refine' sq 11 (h:=?_)
        refine wpAnyH_done (by kernel_rfl) ?_ _;go_wp2
        go_roundw
        case rel=>
         refine⟨k+1,lo++[((p1,p2),q)],by omega,by go_num,by rw[List.length_append,List.length_singleton];omega,Lib.hid (by rw[HST.out,if_neg hq]),Lib.hid ?_,HN7⟩
         rw[tcells_snoc,List.length_append,List.length_singleton]
         exact HO7.out
        case measure=>simp[intOf];omega
    · obtain rfl:k=ny:=by omega
      have HLE:Hid (lo=outL W ys):=Lib.hid (by rw[HL.out,List.take_of_length_le (by have:=HNY.out;omega)]);go_wp2;go_ret2
      refine⟨HN4.out.trans HFr.out,.inl ⟨HC.out,_,lo,rfl,Lib.hid (own_base HOW.out HN4.out.size),Lib.hid ⟨by rw[HLE.out];exact outL_F2 HK.out HPR.out,fun a=>by rw[HLE.out,outL_cf HK.out,HW.out];rfl⟩,by omega⟩⟩
 · have HC:=Lib.hid hc
   obtain⟨q,HQ⟩:∃q,Hid (q=hoC X L):=⟨_,Lib.hid rfl⟩
   rw[←HQ.out]at hc
   have hq:((q:Int)==0)=false:=by simp;exact hc
   clear hc;rw[←HQ.out];go_wp2;go_ret2
   exact⟨HF.out,.inr ⟨HC.out,by rw[HQ.out];rfl⟩⟩
end Go.Proofs.YtlicglicfijelaaGreat

/- Words for sumTwo: terms put behind a row. -/
namespace Go.Proofs.YtlicglicfijelaaGreat
open Go.RowKit
open Kn (E2 L2)

theorem one_terms(l:L2):∀u∈tcells l,u.oneCell'=true:=by
 intro u hu
 unfold tcells at hu
 obtain⟨t,_,h⟩:=List.mem_flatMap.1 hu
 exact one_three _ _ _ u h
theorem tcells_app(l m:L2):tcells (l++m)=tcells l++tcells m:=by unfold tcells;rw[List.flatMap_append]
theorem wpList_append_terms{ops:Array Oper}{rest:List Oper}{o:Oper}{a:Act}{Q:Exit→Act→World→Prop}(w:World)(hgd:o.guard=none)(s x:Operand)
 (ho:o.op=.call { callee:=.builtin .append,args:=#[s,x],argTypes:=#[29,29] }) (base n:Nat) (v:Value) (lo:L2) (hs:a.eval s=v) (hown:w.ownsRow base 63 3 v n (tcells lo)) (hn:n=lo.length)
 (ao:Option Addr) (m c:Nat) (ls:L2) (hx:a.eval x=.slice ao m c) (hm:m=ls.length) (hnone:ao=none→c=0∧ls=[]) (hcells:∀ad,ao=some ad→∀j u,(tcells ls)[j]?=some u→w.cell? (ad.add j)=some u) (hb:n+m≤3000000) (hbase:base≤w.heap.size)
 (h:∀a3 c3 w',w'.ownsRow base 63 3 (.slice a3 (n+m) c3) (n+m) (tcells (lo++ls))→w.grownBy w' v.ownBlock→wpList Tryz.prog ops Q rest (a.put o.dst (.slice a3 (n+m) c3)) w'):wpList Tryz.prog ops Q (o :: rest) a w:=by
 obtain⟨i0,hi,hz0,hz1,hz2⟩:=info_parts Tryz.info63
 cases ao with
 |none=>
  obtain⟨rfl,rfl⟩:=hnone rfl;obtain rfl:m=0:=hm
  refine wpList_append_own_none hgd s x 29 ho base 63 i0 3 Tryz.underlying29 hi v n (tcells lo) hs hown hx ?_
  obtain⟨a3,c3,rfl,_⟩:=own_shape2 hown
  exact h a3 c3 w (by rw[List.append_nil];exact hown) ⟨rfl,rfl,rfl,Nat.le_refl _,fun _ _ _=>rfl⟩
 |some ad=>
  refine wpList_append_own w hgd s x 29 ho base 63 i0 (.agg #[.int .i64 0,.int .i64 0,.int .i64 0]) 3 24 Tryz.underlying29 hi hz0 hz1 hz2 rfl (by decide) v n (tcells lo) hs hown ad m c (tcells ls) hx (by rw[tcells_length,hm]) (hcells ad rfl) (one_terms ls) (by unfold maxLen;omega) (by omega) hbase ?_
  intro v' w' h1 h2 _
  obtain⟨a3,c3,rfl,_⟩:=own_shape2 h1
  exact h a3 c3 w' (by rw[tcells_app];exact h1) h2
end Go.Proofs.YtlicglicfijelaaGreat

/- Words for sumTwo: parts of a row of terms. -/
namespace Go.Proofs.YtlicglicfijelaaGreat
open Go.RowKit
open Kn (E2 L2)

theorem trow_nil{w:World}{base n c:Nat}{a:Option Addr}{lo:L2}(h:w.ownsRow base 63 3 (.slice a n c) n (tcells lo))(hn:n=lo.length):a=none→c=0∧lo=[]:=by
 rintro rfl
 rcases h.2 with⟨e,h0⟩|⟨g,cap,cur,e,_⟩
 · injection e with _ e2 e3
   refine⟨e3,List.eq_nil_of_length_eq_zero (by omega)⟩
 · cases e
theorem trow_part{w:World}{base n c k:Nat}{a:Option Addr}{lo ls r:L2}(h:w.ownsRow base 63 3 (.slice a n c) n (tcells lo))(hk:k*3=(tcells r).length)(he:∃s,lo=r++ls++s):
 ∀ad,a=some ad→∀j u,(tcells ls)[j]?=some u→w.cell? (ad.add (k*3+j))=some u:=by
 rintro ad rfl j u hj;obtain⟨s,rfl⟩:=he
 rcases h.2 with⟨e,_⟩|⟨g,cap,cur,e,_⟩
 · cases e
 · injection e with e1 _ _
   injection e1 with e1
   subst e1
   refine World.ownsRow.cells h (g:=g) rfl (k*3+j) u ?_
   have hl:=(List.getElem?_eq_some_iff.1 hj).1;rw[tcells_app,tcells_app,List.append_assoc,List.getElem?_append_right (by omega),show k*3+j-(tcells r).length=j by omega,List.getElem?_append_left hl]
   exact hj
theorem trow_take{w:World}{base n c:Nat}{a:Option Addr}{lo:L2}(h:w.ownsRow base 63 3 (.slice a n c) n (tcells lo))(k:Nat):
 ∀ad,a=some ad→∀j u,(tcells (lo.take k))[j]?=some u→w.cell? (ad.add j)=some u:=fun ad ea j u hj=>by
 have:=trow_part (k:=0) (r:=[]) (ls:=lo.take k) h rfl ⟨lo.drop k,by rw[List.nil_append,List.take_append_drop]⟩ ad ea j u hj
 rwa [Nat.zero_mul,Nat.zero_add]at this
theorem trow_drop{w:World}{base n c k:Nat}{a:Option Addr}{lo:L2}(h:w.ownsRow base 63 3 (.slice a n c) n (tcells lo))(hk:k≤lo.length):
 ∀ad,a=some ad→∀j u,(tcells (lo.drop k))[j]?=some u→w.cell? (ad.add (k*3+j))=some u:=
 trow_part (r:=lo.take k) h (by rw[tcells_length,List.length_take];congr 1;omega) ⟨[],by rw[List.append_nil,List.take_append_drop]⟩
end Go.Proofs.YtlicglicfijelaaGreat
