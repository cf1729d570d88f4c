/- Walks: Darts and its iterator. -/
import Derived.RangeFuncNested
import Derived.RangeFuncBound
import Derived.RangeFuncCalls
import Derived.RangeFuncLeaves
import Derived.Shelf.Abstract
import Derived.Shelf.RegionOpen
import Derived.OwnWalkIn
import Derived.TacticsInMore
import Derived.LoopNIn
import Derived.LoopIn
import Derived.Maps.OwnIn
import Derived.Test.YtlicglicfijelaaGreatW9
import Derived.Maps.Ext
import Derived.DeepKeys4
/- Walks: Darts and its iterator. -/
namespace Go.Proofs.YtlicglicfijelaaGreat
open Go.RowKit Go.Shelf
attribute [local go_sem] Oper.semAt_some

abbrev DX(X:List Kn.Cr):={ d:Kn.Dt // Kn.isArc X d.1 }
abbrev encD{X:List Kn.Cr}(x:DX X):Array Value:=#[.agg #[.int .i64 (x.1.1:Nat),.bool x.1.2]]
def KpB(Bn b:Nat)(W W':World):Prop:=(∀v,W.cell? ⟨Bn,0,none⟩=some v→W'.cell? ⟨Bn,0,none⟩=some v)∧(∀v,W.cell? ⟨b,0,none⟩=some v→W'.cell? ⟨b,0,none⟩=some v)
theorem kpB_t{Bn b:Nat}{A B C:World}(h:KpB Bn b A B)(k:KpB Bn b B C):KpB Bn b A C:=⟨fun v x=>k.1 v (h.1 v x),fun v x=>k.2 v (h.2 v x)⟩
theorem kpB_b{Bn b:Nat}(W:World)(l:Nat)(o o':Obj)(h:W.heap[l]?=some o)(ho:o.isCells=false):KpB Bn b W (W.putObj l o'):=
 ⟨fun _ hv=>cell_kept hv (grownBy_putObj' W l o') (fun r e=>by cases e;exact⟨o,h,ho⟩),fun _ hv=>cell_kept hv (grownBy_putObj' W l o') (fun r e=>by cases e;exact⟨o,h,ho⟩)⟩
theorem kpB_fr{Bn b:Nat}{S:Nat→Prop}{W W':World}(h:Fr S W W')(h1:¬S Bn)(h2:¬S b):KpB Bn b W W':=⟨fun _ hv=>h.cell hv h1,fun _ hv=>h.cell hv h2⟩
theorem wideD{n:Nat}:Fence.wide.depth.isSome=true→1≤n:=fun h=>by cases h
theorem arcsC(b m n cc:Nat)(a:Option Addr)(w:World)(h:w.cell? ⟨b,0,none⟩=some (.slice a n cc))(hn:n≤16)(hm:m=2*n):
 Calls Tryz.prog 35 #[.pointer (some ⟨b,0,none⟩)] w fun e w'=>e=.returned (.int .i64 (m:Nat))∧w=w':=by
 have HM:=Lib.hid hm;clear hm
 go_enter Tryz.func35,Tryz.ntmps35
 go_wp2;go_ret
 exact⟨ret_int (by rw[HM.out];omega),rfl⟩
theorem dart_at(k j:Nat)(hk:1≤k)(hj:j<2):Kn.dart (2*(k-1)+j)=(k,decide (j=1)):=by
 unfold Kn.dart
 rw[show (2*(k-1)+j) / 2+1=k by omega,show (2*(k-1)+j)%2=j by omega]
theorem darts_take(X:List Kn.Cr){q:Nat}(h:q<4*X.length):(Kn.darts X).take (q+1)=(Kn.darts X).take q++[Kn.dart q]:=by
 rw[List.take_succ_eq_append_getElem (by rw[Kn.darts_length];exact h)]
 simp[Kn.darts]

set_option maxRecDepth 100000 in
set_option maxHeartbeats 4000000 in
theorem darts1_in(nn l Bn b n cc:Nat)(a:Option Addr)(X:List Kn.Cr)(J Jx:List (DX X)→World→Prop)
 (hY:∀pre x W,J pre W→pre.length<4*X.length→YieldAt Fence.wide (nn-1) Tryz.prog l (encD x) W fun e W'=>(e=.returned (.bool true)∧J (pre++[x]) W'∧KpB Bn b W W')∨(e=.returned (.bool false)∧Jx (pre++[x]) W'))
 (W:World) (hBn:W.cell? ⟨Bn,0,none⟩=some (.pointer (some ⟨b,0,none⟩))) (hc:W.cell? ⟨b,0,none⟩=some (.slice a n cc)) (hn:n=X.length) (hl:n≤16) (h0:J [] W):
 CallsIn Fence.wide nn Tryz.prog 100 #[.func (.yield l) #[] #[],.pointer (some ⟨Bn,0,none⟩)] W fun e W'=>(∃v,e=.returned v)∧((∃ys:List (DX X),ys.map (·.1)=Kn.darts X∧J ys W')∨(∃pre,True∧Jx pre W')):=by
 have hi0:∀w,(Instr.index 165 (.agg #[.bool false,.bool true]) (.int .i64 0)).run Tryz.prog w=.ok (.bool false) w:=fun _=>by kernel_rfl
 have hi1:∀w,(Instr.index 165 (.agg #[.bool false,.bool true]) (.int .i64 1)).run Tryz.prog w=.ok (.bool true) w:=fun _=>by kernel_rfl
 obtain⟨m,hm⟩:∃m,m=2*n:=⟨_,rfl⟩
 have hm32:m≤32:=by omega
 have HM:=Lib.hid hm;have HN:=Lib.hid hn;have HY:=Lib.hid hY;clear hm hn hY
 refine callsIn_of_wp Tryz.func100 rfl trivial ?_ rfl
 simp only[Tryz.ntmps100,List.size_toArray,List.length_cons,List.length_nil,Nat.reduceAdd,Nat.reduceSub,Array.replicate_succ,Array.replicate_zero,List.push_toArray,List.append_toArray,List.nil_append,List.cons_append]
 gi_wp2
 gi_loopw [3] (fun p wr=>∃(k:Nat) (pre:List (DX X)),1≤k∧k≤m+1∧p=.int .i64 k∧Hid (pre.map (·.1)=(Kn.darts X).take (2*(k-1)))∧Hid (J pre wr)∧wr.cell? ⟨Bn,0,none⟩=some (.pointer (some ⟨b,0,none⟩))∧wr.cell? ⟨b,0,none⟩=some (.slice a n cc)) (fun p _=>(m+1)-(intOf p).toNat)
 case atStart=>exact⟨1,[],by omega,by omega,rfl,Lib.hid (by simp),Lib.hid h0,hBn,hc⟩
 case round=>
  obtain⟨k,pre,hk1,hk2,rfl,HP,HJ,c1,c2⟩:=hrel
  by_cases hkm:k≤m
  · have k2:(k:Int)≤(m:Int):=by omega
    gi_wp2_with (refine⟨trivial,wideD,?_⟩;gi_at_call 35;refine(callsIn_wide.2 (arcsC b m n cc a _ c2 hl HM.out)).mono ?_;rintro e w' ⟨rfl,rfl⟩)
    gi_loopw [13] (fun p wr=>∃(j:Nat) (pre:List (DX X)),j≤2∧p=.int .i64 j∧Hid (pre.map (·.1)=(Kn.darts X).take (2*(k-1)+j))∧Hid (J pre wr)∧wr.cell? ⟨Bn,0,none⟩=some (.pointer (some ⟨b,0,none⟩))∧wr.cell? ⟨b,0,none⟩=some (.slice a n cc)) (fun p _=>2-(intOf p).toNat)
    case atStart=>exact⟨0,pre,by omega,rfl,HP,HJ,c1,c2⟩
    case round=>
     obtain⟨j,pre,hj,rfl,HP,HJ,c1,c2⟩:=hrel
     by_cases hj2:j<2
     · have hlt:2*(k-1)+j<4*X.length:=by have:=HM.out;have:=HN.out;omega
       have hpl:pre.length<4*X.length:=by
        have:=congrArg List.length HP.out
        rw[List.length_map,List.length_take,Kn.darts_length]at this;omega
       have hka:Kn.isArc X k:=⟨hk1,by unfold Kn.nArcs;have:=HM.out;have:=HN.out;omega⟩;have hext:=darts_take X hlt;rw[dart_at k j hk1 hj2,←HP.out]at hext;have HEXT:=Lib.hid hext;clear hext
       rcases (show j=0∨j=1 by omega)with rfl|rfl
       · obtain⟨fn,tmps,assign,body,hy,hR⟩:=HY.out pre ⟨(k,false),hka⟩ wr HJ.out hpl
         simp only[encD]at hy
         gi_wp2
         refine⟨wideD,hR.mono ?_⟩
         rintro e W3 (⟨rfl,hJ3,hk3⟩|⟨rfl,hJx3⟩)
         · have d1:W3.cell? ⟨Bn,0,none⟩=some (.pointer (some ⟨b,0,none⟩)):=hk3.1 _ c1
           have d2:W3.cell? ⟨b,0,none⟩=some (.slice a n cc):=hk3.2 _ c2;have HJ3:=Lib.hid hJ3;clear hJ3 hk3 hy hR
           gi_wp2
           go_roundw
           case rel=>exact⟨1,pre++[⟨(k,false),hka⟩],by omega,by go_num,Lib.hid (by rw[List.map_append];exact HEXT.out.symm),HJ3,d1,d2⟩
           case measure=>simp[intOf]
         · gi_wp2
           refine bodyPost_ret (results_none rfl _ _ _) rfl ?_
           exact⟨⟨_,rfl⟩,.inr ⟨pre++[⟨(k,false),hka⟩],trivial,hJx3⟩⟩
       · obtain⟨fn,tmps,assign,body,hy,hR⟩:=HY.out pre ⟨(k,true),hka⟩ wr HJ.out hpl
         simp only[encD]at hy
         gi_wp2
         refine⟨wideD,hR.mono ?_⟩
         rintro e W3 (⟨rfl,hJ3,hk3⟩|⟨rfl,hJx3⟩)
         · have d1:W3.cell? ⟨Bn,0,none⟩=some (.pointer (some ⟨b,0,none⟩)):=hk3.1 _ c1
           have d2:W3.cell? ⟨b,0,none⟩=some (.slice a n cc):=hk3.2 _ c2;have HJ3:=Lib.hid hJ3;clear hJ3 hk3 hy hR
           gi_wp2
           go_roundw
           case rel=>exact⟨2,pre++[⟨(k,true),hka⟩],by omega,by go_num,Lib.hid (by rw[List.map_append];exact HEXT.out.symm),HJ3,d1,d2⟩
           case measure=>simp[intOf]
         · gi_wp2
           refine bodyPost_ret (results_none rfl _ _ _) rfl ?_
           exact⟨⟨_,rfl⟩,.inr ⟨pre++[⟨(k,true),hka⟩],trivial,hJx3⟩⟩
     · obtain rfl:j=2:=by omega
       gi_wp2
       go_roundw
       case rel=>exact⟨k+1,pre,by omega,by omega,by go_num,by rw[show 2*(k+1-1)=2*(k-1)+2 by omega];exact HP,HJ,c1,c2⟩
       case measure=>simp[intOf];omega
  · obtain rfl:k=m+1:=by omega
    gi_wp2_with (refine⟨trivial,wideD,?_⟩;gi_at_call 35;refine(callsIn_wide.2 (arcsC b m n cc a _ c2 hl HM.out)).mono ?_;rintro e w' ⟨rfl,rfl⟩)
    go_end0
    refine⟨⟨_,rfl⟩,.inl ⟨pre,?_,HJ.out⟩⟩
    rw[HP.out,List.take_of_length_le]
    rw[Kn.darts_length];have:=HM.out;have:=HN.out;omega

set_option maxHeartbeats 1000000 in
theorem darts_in(nn b:Nat)(w:World):
 CallsIn Fence.wide nn Tryz.prog 71 #[.pointer (some ⟨b,0,none⟩)] w fun e w'=>e=.returned (.func (.func 100) #[] #[.pointer (some ⟨w.heap.size,0,none⟩)])∧w'=w.alloc (.cells #[.pointer (some ⟨b,0,none⟩)] 44):=by
 refine callsIn_of_wp Tryz.func71 rfl trivial ?_ rfl
 simp only[Tryz.ntmps71,List.size_toArray,List.length_cons,List.length_nil,Nat.reduceAdd,Nat.reduceSub,Array.replicate_succ,Array.replicate_zero,List.push_toArray,List.append_toArray,List.nil_append,List.cons_append]
 gi_wp2
 go_ret
 exact⟨rfl,rfl⟩
theorem darts_stops(nn Bn b n cc:Nat)(a:Option Addr)(X:List Kn.Cr)(w:World)(hB:Bn<w.heap.size)(hBn:w.cell? ⟨Bn,0,none⟩=some (.pointer (some ⟨b,0,none⟩)))(hc:w.cell? ⟨b,0,none⟩=some (.slice a n cc))(hn:n=X.length)(hl:n≤16):
 SeqStopsK Fence.wide nn Tryz.prog 100 #[.pointer (some ⟨Bn,0,none⟩)] (encD (X:=X)) (KpB Bn b) (fun ys=>ys.map (·.1)=Kn.darts X) (fun _=>True) (4*X.length) w:=fun l J Jx W hW _ _ hY h0=>
 darts1_in nn l Bn b n cc a X J Jx hY W ((hW.cell (p:=⟨Bn,0,none⟩) hB).trans hBn) ((hW.cell (p:=⟨b,0,none⟩) (World.block_lt_of_cell? w _ hc)).trans hc) hn hl h0
end Go.Proofs.YtlicglicfijelaaGreat

/- Words for darts in rows and in a map. -/
namespace Go.Proofs.YtlicglicfijelaaGreat
open Go.RowKit Go.Shelf

theorem Tryz.info26:(Tryz.prog.info? 26).map (fun i=>(i.zero,i.size,i.bytes))=some (some (.agg #[.int .i64 0,.bool false]),2,16):=by kernel_rfl
theorem Tryz.laidOut:laidOutB Tryz.prog=true:=by kernel_rfl
theorem Tryz.row26:(26:TypeId)<Tryz.prog.types.size:=of_decide_eq_true (by kernel_rfl)
theorem Tryz.wide42:(match Tryz.prog.underlying 26 with|some (.array _ _)|some (.struct _)=>true|_=>false)=true:=by kernel_rfl
theorem Tryz.key26:Tryz.prog.keyTypeAt 2 26=true:=by kernel_rfl
set_option maxRecDepth 10000 in
theorem Tryz.law26:Maps.Keyed Tryz.prog 26:=Maps.Keyed.of_law (deep_law_laid Tryz.laidOut (m:=2) (by omega) Tryz.row26 Tryz.key26 Tryz.wide42)
theorem Tryz.ul133:Tryz.prog.underlying 133=some (.map 26 4):=by kernel_rfl
theorem Tryz.ul4:Tryz.prog.underlying 4=some .bool:=by kernel_rfl
theorem Tryz.zero4(w:World):(zeroValue 4).run Tryz.prog w=.ok (.bool false) w:=by kernel_rfl
abbrev dv(d:Kn.Dt):Value:=.agg #[.int .i64 (d.1:Nat),.bool d.2]
theorem keys_all:((List.range 40).all fun a=>(keyOf Tryz.prog 26 (dv (a,true))).isSome&&(keyOf Tryz.prog 26 (dv (a,false))).isSome)=true:=by kernel_rfl
theorem key_of(d:Kn.Dt)(h:d.1<40):∃l,keyOf Tryz.prog 26 (dv d)=some l:=by
 have:=List.all_eq_true.1 keys_all d.1 (List.mem_range.2 h);rw[Bool.and_eq_true]at this;obtain⟨a,b⟩:=d
 cases b
 · exact Option.isSome_iff_exists.1 this.2
 · exact Option.isSome_iff_exists.1 this.1
theorem dv_inj{d e:Kn.Dt}(h:dv d=dv e):d=e:=by
 obtain⟨a,b⟩:=d;obtain⟨c,f⟩:=e;simp only[dv,Value.agg.injEq,Array.mk.injEq,List.cons.injEq,Value.int.injEq,true_and,Value.bool.injEq,and_true,Int.ofNat_inj]at h;rw[h.1,h.2]

def SeenMap(W:World)(mb:Nat)(seen:List Kn.Dt):Prop:=
 ∃D:DataW Unit,W.ownsMap Tryz.prog 26 (plainElem Tryz.prog 4) mb seen.length D∧Maps.IsMap D∧∀d:Kn.Dt,∀l,keyOf Tryz.prog 26 (dv d)=some l→D.atKey l (.lit (.bool false))=.lit (.bool (decide (d∈seen)))
theorem SeenMap.made(w:World):SeenMap (w.alloc (.map #[] 0)) w.heap.size []:=⟨_,World.ownsMap_made _ _ _ _,Maps.isMap_empty,fun d l _=>by rw[decide_eq_false (by simp)];rfl⟩
theorem SeenMap.fr{S:Nat→Prop}{W W':World}{mb:Nat}{seen:List Kn.Dt}(h:SeenMap W mb seen)(hf:Fr S W W')(hs:¬S mb):SeenMap W' mb seen:=by
 obtain⟨D,⟨es,ck,hb,r⟩,h1,h2⟩:=h
 exact⟨D,⟨es,ck,(hf.block mb (Array.getElem?_eq_some_iff.1 hb).1 hs).trans hb,r⟩,h1,h2⟩
theorem SeenMap.look{W:World}{mb:Nat}{seen:List Kn.Dt}(h:SeenMap W mb seen)(d:Kn.Dt)(hd:d.1<40):(Instr.lookup 133 (.map (some mb)) (dv d) false).run Tryz.prog W=.ok (.bool (decide (d∈seen))) W:=by
 obtain⟨D,ho,_,h2⟩:=h;obtain⟨l,hl⟩:=key_of d hd;obtain⟨v,ps,hrun,hv⟩:=ho.lookup Tryz.law26 Tryz.ul133 (Tryz.zero4 W) (plainElem_bool Tryz.ul4 false) hl;rw[h2 d l hl]at hv
 have hv':v=.bool (decide (d∈seen)):=by
  unfold plainElem at hv
  rw[Tryz.ul4]at hv
  cases v<;>simp at hv
  rw[hv.1]
 rw[hrun,hv']
theorem SeenMap.block{W:World}{mb:Nat}{seen:List Kn.Dt}(h:SeenMap W mb seen):∃es ck,W.heap[mb]?=some (.map es ck):=by
 obtain⟨D,⟨es,ck,hb,_⟩,_⟩:=h
 exact⟨es,ck,hb⟩
theorem SeenMap.put{W':World}{mb:Nat}{seen:List Kn.Dt}{D:DataW Unit}{d:Kn.Dt}{l:Lit}(h1:Maps.IsMap D)(h2:∀d:Kn.Dt,∀l,keyOf Tryz.prog 26 (dv d)=some l→D.atKey l (.lit (.bool false))=.lit (.bool (decide (d∈seen))))
 (hl:keyOf Tryz.prog 26 (dv d)=some l) (ho:W'.ownsMap Tryz.prog 26 (plainElem Tryz.prog 4) mb (seen.length+1) (D.put l (.lit (.bool true)))):SeenMap W' mb (seen++[d]):=by
 refine⟨_,by rw[List.length_append];exact ho,h1.put _ _,fun e k hk=>?_⟩
 by_cases c:e=d
 · subst c
   rw[hl]at hk
   cases hk
   rw[Maps.atKey_put_same h1 (Tryz.law26.key hl)];simp
 · have hne:k≠l:=fun x=>c (dv_inj (Tryz.law26.inj (x ▸ hk) hl))
   rw[Maps.atKey_put_other hne,h2 e k hk];simp[c]
def dcells(l:List Kn.Dt):List Value:=l.flatMap fun d=>[.int .i64 (d.1:Nat),.bool d.2]
theorem dcells_snoc(l:List Kn.Dt)(d:Kn.Dt):dcells (l++[d])=dcells l++[.int .i64 (d.1:Nat),.bool d.2]:=by simp[dcells]
def OwnD(w:World)(v:Value)(l:List Kn.Dt):Prop:=w.ownsRow 0 26 2 v l.length (dcells l)
theorem own_shape2{base e sz n:Nat}{w:World}{v:Value}{ys:List Value}(h:w.ownsRow base e sz v n ys):∃a c,v=.slice a n c∧n≤c:=by
 rcases h.2 with⟨rfl,rfl⟩|⟨g,cap,cur,rfl,hb,hg,h1,h2,h3,h4⟩
 · exact⟨none,0,rfl,Nat.le_refl _⟩
 · exact⟨_,cap,rfl,h1⟩
end Go.Proofs.YtlicglicfijelaaGreat
