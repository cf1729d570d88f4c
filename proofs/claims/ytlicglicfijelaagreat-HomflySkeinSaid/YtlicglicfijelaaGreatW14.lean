/- Walks: slices.Sort of numbers, Pieces. -/
import Derived.Sort.OwnSortedInts
import Derived.Test.YtlicglicfijelaaGreatW12
import Derived.Test.YtlicglicfijelaaGreatShelf
import Derived.Maps.OwnOps
/- Walks: slices.Sort of numbers, Pieces. -/
namespace Go.Proofs.YtlicglicfijelaaGreat
open Go.RowKit

theorem nums_eq(l:List Nat):nums l=(l.map fun n:Nat=>(n:Int)).map (Value.int .i64):=by simp[nums]
theorem sort_eq(l:List Nat):((l.map fun n:Nat=>(n:Int)).mergeSort fun x y=>decide (x≤y))=(Kn.isort l).map fun n:Nat=>(n:Int):=by
 refine List.Perm.eq_of_pairwise (le:=fun a b:Int=>a≤b) (fun a b _ _ h1 h2=>Int.le_antisymm h1 h2) ?_ ?_ ((List.mergeSort_perm _ _).trans ((Kn.isort_perm l).map _).symm)
 · have:=List.pairwise_mergeSort (le:=fun x y:Int=>decide (x≤y)) (fun a b c h1 h2=>by simp at *;omega) (fun a b=>by simp;omega) (l.map fun n:Nat=>(n:Int))
   exact this.imp fun h=>by simpa using h
 · rw[List.pairwise_map]
   exact(Kn.isort_sorted l).imp fun h=>by omega
theorem isort_len(l:List Nat):(Kn.isort l).length=l.length:=(Kn.isort_perm l).length_eq
theorem sort_own(base:Nat)(v:Value)(l:List Nat)(w:World)(ho:w.ownsRow base 3 1 v l.length (nums l))(hl:l.length≤1000):
 Calls Tryz.prog 94 #[v] w fun e w'=>e=.returned (.tuple #[])∧w'.ownsRow base 3 1 v l.length (nums (Kn.isort l))∧w.grownBy w' v.ownBlock:=by
 rcases ho.2 with⟨rfl,h0⟩|⟨g,cap,cur,rfl,hb,hg,h1,h2,h3,h4⟩
 · refine(Tryz.slices_Sort_int_none none 0 w).mono ?_
   rintro e w' ⟨rfl,rfl⟩;have hl0:l=[]:=List.eq_nil_of_length_eq_zero h0;subst hl0
   exact⟨rfl,ho,⟨rfl,rfl,rfl,Nat.le_refl _,fun _ _ _=>rfl⟩⟩
 · have hH:Go.Sort.Holds (Value.int .i64) w g 0 (l.map fun n:Nat=>(n:Int)).toArray:=holds_of_blockI hg (by rw[List.length_map,←nums_eq,←h4,Nat.mul_one])
   have hc:=Tryz.slices_Sort_int g 0 cap (l.map fun n:Nat=>(n:Int)) w hH (Array.getElem?_eq_some_iff.1 hg).1 (by simp;omega);rw[List.length_map]at hc
   refine hc.mono ?_
   rintro e w' ⟨rfl,nn,os,rfl⟩;rw[sort_eq]
   refine⟨rfl,?_,grownBy_sortedI _⟩
   have:=ownsRow_sortedI (w:=w) (n:=nn) (os:=os) (ss:=l.map fun n:Nat=>(n:Int)) (ts:=(Kn.isort l).map fun n:Nat=>(n:Int)) (cap:=cap) (by simp[isort_len]) hb hg (by simpa using h1) h2 h3;rw[List.length_map]at this;rw[nums_eq]
   exact this

structure PInv(w wr:World)(sb n:Nat)(X:List Kn.Cr)(c:Nat)(seen:List Nat)(rs:List (List Nat))(o:Value):Prop where
 new:New w wr
 lb:w.heap.size≤sb
 row:wr.rowIs sb 4 n (boolFn fun j=>decide (j∈seen))
 out:Rows OwnN w.heap.size 78 wr o rs
 nd:seen.Nodup
 lt:∀x∈seen,x<n
 few:rs.length≤c
 eq:rs++Kn.piecesFrom X seen ((List.range X.length).drop c)=Kn.piecesL X
structure PQ(wo wr:World)(sb n:Nat)(seen l:List Nat)(s:Value):Prop where
 fr:Fr (fun k=>k=sb) wo wr
 row:wr.rowIs sb 4 n (boolFn fun j=>decide (j∈seen++l))
 own:wr.ownsRow wo.heap.size 3 1 s l.length (nums l)
 nd:(seen++l).Nodup
 lt:∀x∈seen++l,x<n
theorem PQ.len{wo wr:World}{sb n:Nat}{seen l:List Nat}{s:Value}(h:PQ wo wr sb n seen l s):l.length≤n:=by
 have:=Kn.nodup_le h.nd (m:=List.range n) (fun x hx=>List.mem_range.2 (h.lt x hx))
 simp at this
 omega
theorem PQ.cell{wo wr:World}{sb n:Nat}{seen l:List Nat}{s:Value}(h:PQ wo wr sb n seen l s){i:Nat}(hi:i<l.length):∃g c,s=.slice (some ⟨g,0,none⟩) l.length c∧wr.cell? ⟨g,i,none⟩=some (.int .i64 (l.getD i 0:Nat)):=by
 obtain⟨a,c,rfl,_,h1⟩:=own_shape h.own;obtain⟨g,rfl,_,h2⟩:=h1 (by omega)
 refine⟨g,c,rfl,?_⟩
 rw[h2 i (by rw[nums_length];exact hi),List.getD_eq_getElem?_getD,List.getElem?_eq_getElem hi]
 simp[nums]
theorem PQ.new{wo wr w':World}{sb n:Nat}{seen l:List Nat}{s:Value}(h:PQ wo wr sb n seen l s)(hf:New wr w'):PQ wo w' sb n seen l s:=
 ⟨h.fr.trans (hf.mono fun _ x=>x.elim),hf.row h.row fun x=>x,hf.owns h.own fun _ _ x=>x,h.nd,h.lt⟩
theorem PQ.push{wo wr w7:World}{sb n p m:Nat}{seen l:List Nat}{s v':Value}{o:Obj}(h:PQ wo wr sb n seen l s)(hm:m=l.length)(hp:p∉seen++l)(hpn:p<n)(hown:w7.ownsRow wo.heap.size 3 1 v' (m+1) (nums l++[.int .i64 (p:Nat)]))(hg:((wr.setCell ⟨sb,p,none⟩ (.bool true)).alloc o).grownBy w7 s.ownBlock):
 PQ wo w7 sb n seen (l++[p]) v':=by
 have h1:Fr (fun k=>k=sb) wr (wr.setCell ⟨sb,p,none⟩ (.bool true)):=(Fr.refl (fun k=>k=sb) wr).setCell (.inl rfl) _;have ho:=h1.owns h.own (own_ne h.own h.row (by decide))
 refine⟨((h.fr.trans h1).alloc o).grown hg fun k ek=>.inr (own_lb ho k ek),?_,?_,?_,fun x hx=>?_⟩
 · rw[←List.append_assoc];exact marks_app (marks_set h.row p) ho hg
 · rw[nums_snoc,List.length_append,←hm];exact hown
 · rw[←List.append_assoc];exact Kn.nodup_snoc h.nd hp
 · rw[←List.append_assoc,List.mem_append,List.mem_singleton]at hx
   rcases hx with hx|rfl
   · exact h.lt x hx
   · exact hpn
theorem range_drop{n c:Nat}(h:c<n):(List.range n).drop c=c :: (List.range n).drop (c+1):=by
 rw[List.drop_eq_getElem_cons (by simpa using h)];simp
theorem addN_snoc(seen:List Nat):∀(ks l:List Nat) (k:Nat),Kn.addN seen l (ks++[k])=if k∈seen∨k∈Kn.addN seen l ks then Kn.addN seen l ks else Kn.addN seen l ks++[k]
 |[],l,k=>by rw[List.nil_append,Kn.addN,Kn.addN,Kn.addN]
 |a :: ks,l,k=>by rw[List.cons_append,Kn.addN,Kn.addN,addN_snoc seen ks]
theorem nbs_take(X:List Kn.Cr)(c j:Nat)(hj:j<4):(Kn.nbs X c).take (j+1)=(Kn.nbs X c).take j++[(Kn.other X (c,j)).1]:=by
 match j,hj with
 |0,_=>rfl
 |1,_=>rfl
 |2,_=>rfl
 |3,_=>rfl
theorem own_lit(w:World)(x:Int):(w.alloc (.cells #[.int .i64 x] 3)).ownsRow w.heap.size 3 1 (.slice (some ⟨w.heap.size,0,none⟩) 1 1) 1 [.int .i64 x]:=
 ⟨rfl,.inr ⟨w.heap.size,1,#[.int .i64 x],rfl,Nat.le_refl _,heap_alloc_new _ _,Nat.le_refl _,by unfold maxLen;omega,rfl,rfl⟩⟩

set_option maxRecDepth 100000 in
set_option maxHeartbeats 8000000 in
theorem pieces_any(b:Nat)(X:List Kn.Cr)(L:Int)(w:World)(h:ShAt w b X L)(hX:Kn.Ok X)(hl:X.length≤16):
 Calls Tryz.prog 57 #[.pointer (some ⟨b,0,none⟩)] w (GaveRows (Kn.piecesL X) w):=by
 obtain⟨n,cc,a,hn,hc0⟩:∃n cc a,n=X.length∧w.cell? ⟨b,0,none⟩=some (.slice a n cc):=by
  obtain⟨v,bi,bo,base,s⟩:=h;obtain⟨a,c,rfl,_⟩:=CrsAt.of_owns s.own
  exact⟨_,_,_,rfl,s.c2.1⟩
 have hn16:n≤16:=by omega
 have HN:=Lib.hid hn;have HS:=Lib.hid h;have HX:=Lib.hid hX;clear h hX hn
 have hmk:∀w,(Instr.makeSlice 156 (.int .i64 (n:Int)) (.int .i64 (n:Int))).run Tryz.prog w=.ok (.slice (some ⟨w.heap.size,0,none⟩) n n) (w.alloc (.cells (madeCells #[.bool false] n) 4)):=fun w=>
  run_make_row' (P:=Tryz.prog) 156 4 (.bool false) 1 Tryz.underlying156 Tryz.info4 rfl .i64 .i64 n (by omega) (by omega) w
 have hc1:=cell_alloc hc0 (.cells (madeCells #[.bool false] n) 4);obtain⟨i0,hi,hz0,hz1,hz2⟩:=info_parts Tryz.info3;obtain⟨i1,hi1,hz10,hz11,hz12⟩:=info_parts Tryz.info78
 have H0:Hid (PInv w (w.alloc (.cells (madeCells #[.bool false] n) 4)) w.heap.size n X 0 [] [] (.slice none 0 0)):=Lib.hid
  ⟨(Fr.refl _ _).alloc _,Nat.le_refl _,marks_made w n,Rows.nil,by simp,(fun x hx=>by cases hx),Nat.le_refl _,by rw[List.drop_zero];rfl⟩
 have hfld:∀(x y:Int) (w:World),(Instr.field 104 (.agg #[.int .i64 x,.int .i64 y]) 0).run Tryz.prog w=.ok (.int .i64 x) w:=fun x y w=>by kernel_rfl
 go_enter Tryz.func57,Tryz.ntmps57
 go_wp2;clear hc0 hc1
 go_loopw [4,23] (fun o i wr=>∃(c:Nat) (seen:List Nat) (rs:List (List Nat)),c≤n∧i=.int .i64 c∧Hid (PInv w wr w.heap.size n X c seen rs o)) (fun _ i _=>n-(intOf i).toNat)
 case atStart=>exact⟨0,[],[],by omega,rfl,H0⟩
 case round=>
  obtain⟨c,seen,rs,hcn,rfl,HI⟩:=hrel
  by_cases hlt:c<n
  · have hcell:=HI.out.row.cell (i:=c) hlt
    simp only[boolFn]at hcell;have hfz:=HI.out.row.frozen c
    have k1:(0:Int)≤(c:Int):=by omega
    have k2:(c:Int)<(n:Int):=by omega
    by_cases hsk:c∈seen
    · rw[decide_eq_true hsk]at hcell
      have HSK:=Lib.hid hsk;clear hsk;go_wp2
      go_roundw
      case rel=>
       refine⟨c+1,seen,rs,by omega,by go_num,Lib.hid ⟨HI.out.new,HI.out.lb,HI.out.row,HI.out.out,HI.out.nd,HI.out.lt,Nat.le_succ_of_le HI.out.few,?_⟩⟩
       have:=HI.out.eq;rw[range_drop (by have:=HN.out;omega),Kn.piecesFrom_seen HSK.out]at this
       exact this
      case measure=>simp[intOf];omega
    · rw[decide_eq_false hsk]at hcell
      have HSK:=Lib.hid hsk;clear hsk;go_wp2
      obtain⟨wo,rfl⟩:∃wo,wo=wr:=⟨_,rfl⟩
      have HQ0:Hid (PQ wo ((wo.setCell ⟨w.heap.size,c,none⟩ (.bool true)).alloc (.cells #[.int .i64 (c:Int)] 3)) w.heap.size n seen [c] (.slice (some ⟨wo.heap.size,0,none⟩) 1 1)):=Lib.hid
       ⟨((Fr.refl (fun k=>k=w.heap.size) wo).setCell (.inl rfl) _).alloc _,(marks_set HI.out.row c).alloc _,by have:=own_lit (wo.setCell ⟨w.heap.size,c,none⟩ (.bool true)) c;rw[size_set]at this;exact this,Kn.nodup_snoc HI.out.nd HSK.out,fun x hx=>by
        rw[List.mem_append,List.mem_singleton]at hx
        rcases hx with hx|rfl
        · exact HI.out.lt x hx
        · exact hlt⟩
      clear hcell hfz
      go_loopw [6,7] (fun s i wr=>∃(q:Nat) (l:List Nat),q≤l.length∧i=.int .i64 q∧Hid (PQ wo wr w.heap.size n seen l s)∧Hid (∃k,k+q=n+1∧Kn.grow (Kn.nbs X) seen k q l=Kn.pieceOf X seen c)) (fun _ i _=>n-(intOf i).toNat)
      case atStart=>exact⟨0,[c],by simp,rfl,HQ0,Lib.hid ⟨n+1,rfl,by rw[HN.out];rfl⟩⟩
      case round=>
       obtain⟨q,l,hql,rfl,HQ,HE⟩:=hrel;have hln:=HQ.out.len
       obtain⟨ll,HLL⟩:∃ll,Hid (ll=l.length):=⟨_,Lib.hid rfl⟩
       rw[←HLL.out]at hql hln;obtain⟨a8,c8,rfl,_,_⟩:=own_shape HQ.out.own;rw[←HLL.out]
       by_cases hlq:q<ll
       · obtain⟨y,HY⟩:∃y,Hid (y=l.getD q 0):=⟨_,Lib.hid rfl⟩
         have hyn:y<n:=by rw[HY.out];exact HQ.out.lt _ (List.mem_append.2 (.inr (Kn.getD_mem (by have:=HLL.out;omega))))
         go_wp2
         obtain⟨wp,rfl⟩:∃wp,wp=wr:=⟨_,rfl⟩
         go_loopw [6,41] (fun s j wr=>∃(jj:Nat) (lj:List Nat),jj≤4∧j=.int .i64 jj∧Hid (PQ wo wr w.heap.size n seen lj s)∧Hid (lj=Kn.addN seen l ((Kn.nbs X y).take jj))∧Hid (l <+: lj)) (fun _ j _=>4-(intOf j).toNat)
         case atStart=>exact⟨0,l,by omega,rfl,by rw[HLL.out];exact HQ,Lib.hid (by rw[List.take_zero,Kn.addN]),Lib.hid (List.prefix_refl _)⟩
         case round=>
          obtain⟨j,lj,hj,rfl,HQj,HLJ,HPJ⟩:=hrel
          by_cases hj4:j<4
          · have hlen:=HPJ.out.length_le
            obtain⟨g,c9,rfl,hcy⟩:=HQj.out.cell (i:=q) (by have:=HLL.out;omega)
            have hgy:lj.getD q 0=y:=by
             obtain⟨t,ht⟩:=HPJ.out;rw[HY.out,←ht,List.getD_eq_getElem?_getD,List.getElem?_append_left (by have:=HLL.out;omega),List.getD_eq_getElem?_getD]
            rw[hgy]at hcy
            obtain⟨m,HM⟩:∃m,Hid (m=lj.length):=⟨_,Lib.hid rfl⟩
            rw[←HM.out]
            have hqm:q<m:=by have:=HLL.out;have:=HM.out;omega
            have hm16:m≤n:=by have:=HQj.out.len;have:=HM.out;omega
            obtain⟨pc,ps,hp⟩:∃pc ps,Kn.other X (y,j)=(pc,ps):=⟨_,_,rfl⟩
            have hpn:pc<n:=by
             have:=(HX.out.isPl_other (p:=(y,j)) ⟨by have:=HN.out;omega,hj4⟩).1;rw[hp]at this;have:=HN.out;simp only at *
             omega
            have HP:=Lib.hid hp;have hrow:=HQj.out.row.cell (i:=pc) hpn;simp only[boolFn]at hrow
            have hyX:y<X.length:=by have:=HN.out;omega
            have HNw:Hid (New w wr):=Lib.hid (HI.out.new.next HQj.out.fr fun i hi=>.inr (by rw[hi];exact Nat.le_refl _))
            have i1:(0:Int)≤(q:Int):=by omega
            have i2:(q:Int)<(m:Int):=by omega
            have i3:(0:Int)≤(pc:Int):=by omega
            have i4:(pc:Int)<(n:Int):=by omega
            clear hgy hlen hp;have HLN:Hid (Kn.addN seen l ((Kn.nbs X y).take (j+1))=if pc∈seen∨pc∈lj then lj else lj++[pc]):=Lib.hid (by rw[nbs_take X y j hj4,addN_snoc,←HLJ.out,HP.out])
            by_cases hps:pc∈seen++lj
            · rw[decide_eq_true hps]at hrow
              have HPS:=Lib.hid hps;clear hps
              go_wp2_with (go_at_call 93;refine(other_any b y j X L _ (New.shAt HNw.out HS.out) HX.out hl hyX hj4).mono ?_;rintro e w5 ⟨rfl,hE⟩;rw[HP.out];have hr5:=hE.cell hrow fun x=>x;have HE5:=Lib.hid hE;clear hE)
              go_roundw
              case rel=>exact⟨j+1,lj,by omega,by go_num,Lib.hid (by rw[HM.out];exact HQj.out.new HE5.out),Lib.hid (by rw[HLN.out,if_pos (List.mem_append.1 HPS.out)]),HPJ⟩
              case measure=>simp[intOf];omega
            · rw[decide_eq_false hps]at hrow
              have HPS:=Lib.hid hps
              have hm1:m+1≤n:=by
               have:=Kn.nodup_le (Kn.nodup_snoc HQj.out.nd hps) (m:=List.range n) (fun x hx=>by
                rw[List.mem_append,List.mem_singleton]at hx
                rcases hx with hx|rfl
                · exact List.mem_range.2 (HQj.out.lt x hx)
                · exact List.mem_range.2 hpn)
               simp at this
               have:=HM.out
               omega
              clear hps
              go_wp2_with (first
               |(go_at_call 93;refine(other_any b y j X L _ (New.shAt HNw.out HS.out) HX.out hl hyX hj4).mono ?_;rintro e w5 ⟨rfl,hE⟩;rw[HP.out];have hr5:=hE.cell hrow fun x=>x;have HQ5:Hid (PQ wo w5 w.heap.size n seen lj (.slice (some ⟨g,0,none⟩) m c9)):=Lib.hid (by rw[HM.out];exact HQj.out.new hE);have hf5:=HQ5.out.row.frozen pc;have HR5:Hid ((w5.setCell ⟨w.heap.size,pc,none⟩ (.bool true)).ownsRow wo.heap.size 3 1 (.slice (some ⟨g,0,none⟩) m c9) m (nums lj)):=Lib.hid (by have:=((Fr.refl (fun k=>k=w.heap.size) w5).setCell (a:=⟨w.heap.size,pc,none⟩) (.inl rfl) (.bool true)).owns HQ5.out.own (own_ne HQ5.out.own HQ5.out.row (by decide));rw[←HM.out]at this;exact this);have HSZ:Hid (wo.heap.size≤w5.heap.size):=Lib.hid HQ5.out.fr.size;clear hE)
               |(at_builtin;refine wpList_append_own _ rfl _ _ 78 rfl wo.heap.size 3 i0 (.int .i64 0) 1 8 Tryz.underlying78 hi hz0 hz1 hz2 rfl (by decide) _ m (nums lj) rfl (World.ownsRow.alloc HR5.out _) ⟨w5.heap.size,0,none⟩ 1 1 [.int .i64 (pc:Int)] rfl rfl (cell_one' (size_set _ _ _).symm) (one_int _) (by unfold maxLen;omega) (by omega) (by have:=HSZ.out;rw[World.size_alloc,size_set];omega) ?_;intro v' w7 hown hgrow _;obtain⟨a9,c10,rfl,_⟩:=own_shape2 hown;have HOW:=Lib.hid hown;have HGR:=Lib.hid hgrow;clear hown hgrow))
              go_roundw
              case rel=>exact⟨j+1,lj++[pc],by omega,by go_num,Lib.hid (PQ.push HQ5.out HM.out HPS.out hpn HOW.out HGR.out),Lib.hid (by rw[HLN.out,if_neg (fun h=>HPS.out (List.mem_append.2 h))]),Lib.hid (HPJ.out.trans (List.prefix_append _ _))⟩
              case measure=>simp[intOf];omega
          · obtain rfl:j=4:=by omega
            obtain⟨a9,c10,rfl,_⟩:=own_shape2 HQj.out.own;go_wp2
            go_roundw
            case rel=>
             refine⟨q+1,lj,by have:=HPJ.out.length_le;have:=HLL.out;omega,by go_num,HQj,Lib.hid ?_⟩
             obtain⟨k,hk,he⟩:=HE.out
             obtain⟨k',rfl⟩:∃k',k=k'+1:=⟨k-1,by omega⟩
             refine⟨k',by omega,?_⟩
             rw[Kn.grow,if_pos (by have:=HLL.out;omega),←HY.out]at he;rw[HLJ.out,List.take_of_length_le (by simp[Kn.nbs])]
             exact he
            case measure=>simp[intOf];omega
       · obtain rfl:q=ll:=by omega
         have hpc:l=Kn.pieceOf X seen c:=by
          obtain⟨k,hk,he⟩:=HE.out;rw[←he]
          cases k with
          |zero=>rw[Kn.grow]
          |succ k=>rw[Kn.grow,if_neg (by have:=HLL.out;omega)]
         have HPC:=Lib.hid hpc;obtain⟨vs,hv1,hv2⟩:=HI.out.out;have hfew:=HI.out.few
         have hvl0:vs.length≤c:=by rw[hv2.len];exact hfew
         obtain⟨vl,HVL⟩:∃vl,Hid (vl=vs.length):=⟨_,Lib.hid rfl⟩
         have hvl:vl≤16:=by have:=HVL.out;omega
         have HV1:=Lib.hid hv1;have HV2:=Lib.hid hv2
         have hos:wr.ownsRow wo.heap.size 3 1 (.slice a8 q c8) l.length (nums l):=by have:=HQ.out.own;rw[←HLL.out]at this ⊢;exact this
         have HSO:=Lib.hid (sort_own wo.heap.size (.slice a8 q c8) l wr hos (by have:=HLL.out;omega));have HOS:=Lib.hid hos;clear hpc hv1 hv2 hos hfew hvl0
         go_wp2_with (first
          |(go_at_call 94;refine HSO.out.mono ?_;rintro e w6 ⟨rfl,ho6,hg6⟩;have HF6:Hid (Fr (fun k=>k=w.heap.size) wo w6):=Lib.hid (HQ.out.fr.grown hg6 fun k ek=>.inr (own_lb HOS.out k ek));have HR6:Hid (w6.rowIs w.heap.size 4 n (boolFn fun j=>decide (j∈seen++l))):=Lib.hid (HQ.out.row.of_block (hg6.block _ HQ.out.row.lt fun ek=>own_ne HOS.out HQ.out.row (by decide) _ ek.symm rfl));have HO6:=Lib.hid ho6;have HOUT:Hid (w6.ownsRow w.heap.size 78 1 _ vl vs):=Lib.hid (by rw[HVL.out];exact HF6.out.owns HV1.out (own_ne HV1.out HI.out.row (by decide)));clear ho6 hg6)
          |(at_builtin;refine wpList_append_own _ rfl _ _ 105 rfl w.heap.size 78 i1 (.slice none 0 0) 1 24 Tryz.underlying105 hi1 hz10 hz11 hz12 rfl (by decide) _ vl vs rfl (World.ownsRow.alloc HOUT.out _) ⟨_,0,none⟩ 1 1 [.slice a8 q c8] rfl rfl (cell_one_new _ _ _) (one_sl _ _ _) (by unfold maxLen;omega) (by omega) (by have:=HI.out.new.size;have:=HF6.out.size;simp;omega) ?_;intro v' w7 hown hgrow _;have HOW:=Lib.hid hown;have HGR:=Lib.hid hgrow;clear hown hgrow))
         go_roundw
         case rel=>
          refine⟨c+1,seen++l,rs++[Kn.isort l],by omega,by go_num,Lib.hid ⟨?_,HI.out.lb,?_,?_,HQ.out.nd,HQ.out.lt,by simp;exact HI.out.few,?_⟩⟩
          · have h1:New w w6:=HI.out.new.next HF6.out fun i hi=>.inr (by rw[hi];exact Nat.le_refl _)
            exact(h1.alloc _).grown HGR.out fun k ek=>.inr (own_lb HOUT.out k ek)
          · exact marks_app HR6.out HOUT.out HGR.out
          · rw[HVL.out]at HOW
            refine⟨vs++[_],by rw[List.length_append];exact HOW.out,Els.snoc (Els.mono (Els.mono HV2.out fun v l hn=>HF6.out.owns hn (own_ne hn HI.out.row (by decide))) fun v l hn=>own_app hn HOUT.out (by decide) HGR.out) ?_⟩
            rw[isort_len]
            exact own_app (own0 HO6.out) HOUT.out (by decide) HGR.out
          · have:=HI.out.eq
            rw[range_drop (by have:=HN.out;omega),Kn.piecesFrom_new HSK.out,←HPC.out]at this;rw[List.append_assoc]
            exact this
         case measure=>simp[intOf];omega
  · obtain rfl:c=n:=by omega
    go_wp2;go_ret
    refine⟨_,rfl,?_,HI.out.new⟩
    have:=HI.out.eq;rw[List.drop_eq_nil_of_le (by simp;have:=HN.out;omega),Kn.piecesFrom_nil,List.append_nil]at this;rw[←this]
    exact HI.out.out
end Go.Proofs.YtlicglicfijelaaGreat

/- Walks: Planar. -/
namespace Go.Proofs.YtlicglicfijelaaGreat
open Go.RowKit

theorem Tryz.law3:Maps.Keyed Tryz.prog 3:=Maps.int_keyed Tryz.underlying3
theorem Tryz.ul117:Tryz.prog.underlying 117=some (.map 3 3):=by kernel_rfl
theorem Tryz.zero3(w:World):(zeroValue 3).run Tryz.prog w=.ok (.int .i64 0) w:=by kernel_rfl
theorem wf64{a:Int}(h:-9223372036854775808≤a∧a≤9223372036854775807):(Lit.int .i64 a).wf=true:=WalkArith.wf_i64 h
theorem wfN{x:Nat}(h:x≤1000):(Lit.int .i64 (x:Nat)).wf=true:=wf64 (by omega)
def NumMap(W:World)(mb cnt:Nat)(done:List Nat)(f:Nat→Nat):Prop:=
 ∃D:DataW Unit,W.ownsMap Tryz.prog 3 (plainElem Tryz.prog 3) mb cnt D∧Maps.IsMap D∧∀x∈done,D.atKey (.int .i64 (x:Nat)) (.lit (.int .i64 0))=.lit (.int .i64 (f x:Nat))
theorem NumMap.made(w:World)(f:Nat→Nat):NumMap (w.alloc (.map #[] 0)) w.heap.size 0 [] f:=⟨_,World.ownsMap_made _ _ _ _,Maps.isMap_empty,fun x hx=>by cases hx⟩
theorem NumMap.fr{S:Nat→Prop}{W W':World}{mb cnt:Nat}{done:List Nat}{f:Nat→Nat}(h:NumMap W mb cnt done f)(hf:Fr S W W')(hs:¬S mb):NumMap W' mb cnt done f:=by
 obtain⟨D,⟨es,ck,hb,r⟩,h1,h2⟩:=h
 exact⟨D,⟨es,ck,(hf.block mb (Array.getElem?_eq_some_iff.1 hb).1 hs).trans hb,r⟩,h1,h2⟩
theorem NumMap.block{W:World}{mb cnt:Nat}{done:List Nat}{f:Nat→Nat}(h:NumMap W mb cnt done f):∃es ck,W.heap[mb]?=some (.map es ck):=by
 obtain⟨D,⟨es,ck,hb,_⟩,_⟩:=h
 exact⟨es,ck,hb⟩
set_option maxRecDepth 100000 in
theorem NumMap.look{W:World}{mb cnt:Nat}{done:List Nat}{f:Nat→Nat}(h:NumMap W mb cnt done f){x:Nat}(hx:x∈done)(hx2:x≤1000):(Instr.lookup 117 (.map (some mb)) (.int .i64 (x:Nat)) false).run Tryz.prog W=.ok (.int .i64 (f x:Nat)) W:=by
 obtain⟨D,ho,_,h2⟩:=h;obtain⟨c,hrun,hat,_⟩:=ho.lookup_int Tryz.law3 Tryz.ul117 Tryz.underlying3 (Tryz.zero3 W) (Maps.keyOf_int_mk Tryz.underlying3 (wfN hx2));rw[h2 x hx]at hat
 injection hat with hat
 injection hat with _ hat
 subst hat
 exact hrun
theorem NumMap.put{W':World}{mb cnt:Nat}{done:List Nat}{f:Nat→Nat}{D:DataW Unit}{x:Nat}(h1:Maps.IsMap D)(h2:∀x∈done,D.atKey (.int .i64 (x:Nat)) (.lit (.int .i64 0))=.lit (.int .i64 (f x:Nat)))
 (ho:W'.ownsMap Tryz.prog 3 (plainElem Tryz.prog 3) mb (cnt+1) (D.put (.int .i64 (x:Nat)) (.lit (.int .i64 (f x:Nat))))):NumMap W' mb (cnt+1) (done++[x]) f:=by
 refine⟨_,ho,h1.put _ _,fun y hy=>?_⟩
 by_cases c:y=x
 · subst c
   exact Maps.atKey_put_same h1 (k:=.int .i64 (y:Nat)) trivial _ _
 · have hne:(Lit.int .i64 (y:Nat))≠.int .i64 (x:Nat):=fun e=>c (by injection e with _ e;omega)
   rw[Maps.atKey_put_other hne];rw[List.mem_append,List.mem_singleton]at hy
   exact h2 y (hy.resolve_right c)
theorem Rows.at{α:Type}{R:World→Value→α→Prop}{base e:Nat}{w:World}{v:Value}{ll:List α}(h:Rows R base e w v ll){i:Nat}(hi:i<ll.length):
 ∃g c u,v=.slice (some ⟨g,0,none⟩) ll.length c∧w.cell? ⟨g,i,none⟩=some u∧R w u ll[i]:=by
 obtain⟨vs,h1,h2⟩:=h;have hl:=h2.len;obtain⟨a,c,rfl,_,h3⟩:=own_shape h1;obtain⟨g,rfl,_,h4⟩:=h3 (by omega)
 exact⟨g,c,vs[i]'(by omega),by rw[hl],h4 i (by omega),h2.at_ i (by omega) hi⟩
theorem Rows.sl{α:Type}{R:World→Value→α→Prop}{base e:Nat}{w:World}{v:Value}{ll:List α}(h:Rows R base e w v ll):∃a c,v=.slice a ll.length c:=by
 obtain⟨vs,h1,h2⟩:=h;obtain⟨a,c,rfl,_,_⟩:=own_shape h1
 exact⟨a,c,by rw[h2.len]⟩
theorem Rows.new{α:Type}{R:World→Value→α→Prop}{base e:Nat}{w w':World}{v:Value}{ll:List α}(h:Rows R base e w v ll)(hf:New w w')(hR:∀v x,R w v x→R w' v x):Rows R base e w' v ll:=by
 obtain⟨vs,h1,h2⟩:=h
 exact⟨vs,hf.owns h1 fun _ _ x=>x,h2.mono hR⟩
theorem OwnN.at{w:World}{v:Value}{l:List Nat}(h:OwnN w v l){i:Nat}(hi:i<l.length):∃g c,v=.slice (some ⟨g,0,none⟩) l.length c∧w.cell? ⟨g,i,none⟩=some (.int .i64 (l[i]:Nat)):=by
 obtain⟨a,c,rfl,_,h3⟩:=own_shape (show w.ownsRow 0 3 1 v l.length (nums l)from h);obtain⟨g,rfl,_,h4⟩:=h3 (by omega)
 refine⟨g,c,rfl,?_⟩
 rw[h4 i (by rw[nums_length];exact hi)]
 simp[nums]
theorem OwnN.sl{w:World}{v:Value}{l:List Nat}(h:OwnN w v l):∃a c,v=.slice a l.length c:=by
 obtain⟨a,c,rfl,_,_⟩:=own_shape (show w.ownsRow 0 3 1 v l.length (nums l)from h)
 exact⟨a,c,rfl⟩
theorem OwnD.first{w:World}{v:Value}{d:Kn.Dt}{l:List Kn.Dt}(h:OwnD w v (d :: l)):∃g c,v=.slice (some ⟨g,0,none⟩) (l.length+1) c∧w.cell? ⟨g,0,none⟩=some (.int .i64 (d.1:Nat))∧w.cell? ⟨g,1,none⟩=some (.bool d.2):=by
 rcases h.2 with⟨rfl,h0⟩|⟨g,cap,cur,rfl,hb,hg,h1,h2,h3,h4⟩
 · simp at h0
 · refine⟨g,cap,rfl,?_,?_⟩
   · have:=World.ownsRow.cells h (g:=g) rfl 0 (.int .i64 (d.1:Nat)) rfl
     rwa [addr_add]at this
   · have:=World.ownsRow.cells h (g:=g) rfl 1 (.bool d.2) rfl
     rwa [addr_add]at this
theorem pieceAt_eq{X:List Kn.Cr}(hX:Kn.Ok X){i:Nat}(hi:i<(Kn.piecesL X).length){x:Nat}(hx:x∈(Kn.piecesL X)[i]):Kn.pieceAt X x=i:=by
 have hnd:(Kn.piecesL X).flatten.Nodup:=hX.pieces_perm.nodup_iff.2 List.nodup_range
 unfold Kn.pieceAt
 rw[List.findIdx_eq hi]
 refine⟨by simpa using hx,fun j hj=>?_⟩
 rw[Bool.eq_false_iff]
 intro hc
 have hxj:x∈(Kn.piecesL X)[j]:=by simpa using hc
 have hp:=(List.pairwise_flatten.1 hnd).2;have:=List.pairwise_iff_getElem.1 hp j i (by omega) hi hj
 exact this x hxj x hx rfl
theorem piece_lt{X:List Kn.Cr}(hX:Kn.Ok X){i:Nat}(hi:i<(Kn.piecesL X).length){x:Nat}(hx:x∈(Kn.piecesL X)[i]):x<X.length:=
 List.mem_range.1 (hX.pieces_perm.mem_iff.1 (List.mem_flatten.2 ⟨_,List.getElem_mem hi,hx⟩))
theorem pieces_few(X:List Kn.Cr)(hX:Kn.Ok X):(Kn.piecesL X).length≤X.length:=by
 have h1:=hX.pieces_perm.length_eq;rw[List.length_range,List.length_flatten]at h1
 have h2:∀(L:List (List Nat)),(∀l∈L,l≠[])→L.length≤(L.map List.length).sum:=by
  intro L
  induction L with
  |nil=>intro _;exact Nat.le_refl _
  |cons l L ih=>
   intro h
   have:=List.length_pos_iff.2 (h l (by simp))
   have:=ih fun x hx=>h x (by simp[hx])
   simp only[List.length_cons,List.map_cons,List.sum_cons]
   omega
 have:=h2 _ fun l hl=>(hX.pieces_is l hl).ne
 omega
end Go.Proofs.YtlicglicfijelaaGreat
