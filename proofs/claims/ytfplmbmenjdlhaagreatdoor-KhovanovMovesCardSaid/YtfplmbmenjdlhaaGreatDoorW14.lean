/- Walks: slices.Sort of numbers, Pieces. -/
import Derived.Sort.OwnSortedInts
import Derived.Test.YtfplmbmenjdlhaaGreatDoorW12
import Derived.Test.YtfplmbmenjdlhaaGreatDoorShelf
set_option maxRecDepth 100000
set_option maxHeartbeats 16000000
namespace Go.Proofs.YtfplmbmenjdlhaaGreatDoor
open Go.RowKit
open Kn (Cr Dt mL ou KU aC)
open List (append_assoc range)
open Go.Proofs.Tryz (prog underlying3)
open World (ownsRow)
variable {X:List Cr} {l:List Nat} {e i n x:Nat} {f:Nat->Nat} {s v:Value} {W w wo wr:World}
theorem A3(l:List Nat):j7 l=(l.map λn:Nat=>(n:Int)).map (Value.int .i64):=by simp[j7]
theorem XM(l:List Nat):((l.map λn:Nat=>(n:Int)).mergeSort λx y=>decide (x<=y))=(ou l).map λn:Nat=>(n:Int):=by
 refine List.Perm.eq_of_pairwise (le:=λa b:Int=>a<=b) (λa b _ _ h1 h2=>Int.le_antisymm h1 h2) ?_ ?_ ((List.mergeSort_perm _ _).trans ((Kn.lG l).map _).symm)
 · have:=List.pairwise_mergeSort (le:=λx y:Int=>decide (x<=y)) (λa b c h1 h2=>by simp at *;omega) (λa b=>by simp;omega) (l.map λn:Nat=>(n:Int))
   exact this.imp λh=>by simpa using h
 rw[List.pairwise_map]
 exact(Kn.xR l).imp λh=>by omega
theorem E6(l:List Nat):(ou l).length=l.length:=(Kn.lG l).length_eq
theorem S7(base:Nat)(v:Value)(l:List Nat)(w:World)(ho:w.ownsRow base 3 1 v l.length (j7 l))(hl:l.length<=1000):
 Calls prog 70 #[v] w λe w'=>e=.returned (.tuple #[])/\w'.ownsRow base 3 1 v l.length (j7 (ou l))/\w.grownBy w' v.ownBlock:=by
 rcases ho.2 with⟨rfl,h0⟩|⟨g,cap,cur,rfl,hb,hg,h1,h2,h3,h4⟩
 · refine(Tryz.slices_Sort_int_none none 0 w).mono ?_
   rintro e w' ⟨rfl,rfl⟩;have hl0:l=[]:=List.eq_nil_of_length_eq_zero h0;subst hl0;exact⟨rfl,ho,⟨rfl,rfl,rfl,jH _,λ_ _ _=>rfl⟩⟩
 have hH:Go.Sort.Holds (Value.int .i64) w g 0 (l.map λn:Nat=>(n:Int)).toArray:=holds_of_blockI hg (by rw[jA,<-A3,<-h4,Nat.mul_one]);have hc:=Tryz.slices_Sort_int g 0 cap (l.map λn:Nat=>(n:Int)) w hH (jf.1 hg).1 (by simp;omega);rw[jA]at hc
 refine hc.mono ?_
 rintro e w' ⟨rfl,nn,os,rfl⟩;rw[XM];refine⟨rfl,?_,grownBy_sortedI _⟩;have:=ownsRow_sortedI (w:=w) (n:=nn) (os:=os) (ss:=l.map λn:Nat=>(n:Int)) (ts:=(ou l).map λn:Nat=>(n:Int)) (cap:=cap) (by simp[E6]) hb hg (by simpa using h1) h2 h3;rw[jA]at this;rw[A3];exact this
structure aiQ(w wr:World)(sb n:Nat)(X:List Cr)(c:Nat)(seen:List Nat)(rs:List (List Nat))(o:Value):Prop where
 new:New w wr
 lb:w.heap.size<=sb
 row:wr.rowIs sb 4 n (oG λj=>decide (j∈seen))
 out:Rows AK w.heap.size 74 wr o rs
 nd:seen.Nodup
 lt:∀x∈seen,x<n
 few:rs.length<=c
 eq:rs++Kn.cG X seen ((range X.length).drop c)=aC X
structure PQ(wo wr:World)(sb n:Nat)(seen l:List Nat)(s:Value):Prop where
 fr:Fr (λk=>k=sb) wo wr
 row:wr.rowIs sb 4 n (oG λj=>decide (j∈seen++l))
 own:wr.ownsRow wo.heap.size 3 1 s l.length (j7 l)
 nd:(seen++l).Nodup
 lt:∀x∈seen++l,x<n
theorem PQ.len{sb:Nat}{seen:List Nat}(h:PQ wo wr sb n seen l s):l.length<=n:=by
 have:=Kn.ft h.nd (m:=range n) (λx hx=>jw.2 (h.lt x hx));simp at this;omega
theorem PQ.cell{wo wr:World}{sb n:Nat}{seen l:List Nat}{s:Value}(h:PQ wo wr sb n seen l s){i:Nat}(hi:i<l.length):∃g c,s=.slice (some ⟨g,0,none⟩) l.length c/\wr.cell? ⟨g,i,none⟩=some (.int .i64 (l.getD i 0:Nat)):=by
 obtain⟨a,c,rfl,_,h1⟩:=jZ h.own;obtain⟨g,rfl,_,h2⟩:=h1 (by omega);refine⟨g,c,rfl,?_⟩;rw[h2 i (by rw[Ab];exact hi),jc,je hi];simp[j7]
theorem PQ.new{w':World}{sb:Nat}{seen:List Nat}(h:PQ wo wr sb n seen l s)(hf:New wr w'):PQ wo w' sb n seen l s:=
 ⟨h.fr.trans (hf.mono λ_ x=>x.elim),hf.row h.row λx=>x,hf.owns h.own λ_ _ x=>x,h.nd,h.lt⟩
theorem PQ.push{w7:World}{sb p m:Nat}{seen:List Nat}{v':Value}{o:Obj}(h:PQ wo wr sb n seen l s)(hm:m=l.length)(hp:p∉seen++l)(hpn:p<n)(hown:w7.ownsRow wo.heap.size 3 1 v' (m+1) (j7 l++[.int .i64 (p:Nat)]))(hg:((wr.setCell ⟨sb,p,none⟩ (.bool true)).alloc o).grownBy w7 s.ownBlock):
 PQ wo w7 sb n seen (l++[p]) v':=by
 have h1:Fr (λk=>k=sb) wr (wr.setCell ⟨sb,p,none⟩ (.bool true)):=(Fr.refl (λk=>k=sb) wr).setCell (.inl rfl) _;have ho:=h1.owns h.own (eE h.own h.row (by decide));refine⟨((h.fr.trans h1).alloc o).grown hg λk ek=>.inr (dR ho k ek),?_,?_,?_,λx hx=>?_⟩
 · rw[<-append_assoc];exact EY (EX h.row p) ho hg
 · rw[Qh,ju,<-hm];exact hown
 · rw[<-append_assoc];exact Kn.gK h.nd hp
 rw[<-append_assoc,jx,jB]at hx
 rcases hx with hx|rfl
 · exact h.lt x hx
 exact hpn
theorem Cj{n c:Nat}(h:c<n):(range n).drop c=c :: (range n).drop (c+1):=by
 rw[List.drop_eq_getElem_cons (by simpa using h)];simp
theorem Fx(seen:List Nat):∀(ks l:List Nat) (k:Nat),mL seen l (ks++[k])=if k∈seen\/k∈mL seen l ks then mL seen l ks else mL seen l ks++[k]
 |[],l,k=>by rw[List.nil_append,mL,mL,mL]
 |a :: ks,l,k=>by rw[List.cons_append,mL,mL,Fx seen ks]
theorem T7(X:List Cr)(c j:Nat)(hj:j<4):(KU X c).take (j+1)=(KU X c).take j++[(Kn.other X (c,j)).1]:=by
 match j,hj with
 |0,_=>rfl
 |1,_=>rfl
 |2,_=>rfl
 |3,_=>rfl
theorem X5(w:World)(x:Int):(w.alloc (.cells #[.int .i64 x] 3)).ownsRow w.heap.size 3 1 (.slice (some ⟨w.heap.size,0,none⟩) 1 1) 1 [.int .i64 x]:=
 ⟨rfl,.inr ⟨w.heap.size,1,#[.int .i64 x],rfl,jH _,heap_alloc_new _ _,jH _,by unfold maxLen;omega,rfl,rfl⟩⟩
theorem LB(b:Nat)(X:List Cr)(L:Int)(w:World)(h:fS w b X L)(hX:Kn.Ok X)(hl:X.length<=16):
 Calls prog 80 #[.pointer (some ⟨b,0,none⟩)] w (WK (aC X) w):=by
 obtain⟨n,cc,a,hn,hc0⟩:∃n cc a,n=X.length/\w.cell? ⟨b,0,none⟩=some (.slice a n cc):=by
  obtain⟨v,bi,bo,base,s⟩:=h;obtain⟨a,c,rfl,_⟩:=bV.gu s.own;exact⟨_,_,_,rfl,s.c2.1⟩
 have vo:n<=16:=by omega
 have HN:=jd hn;have HS:=jd h;have HX:=jd hX;clear h hX hn
 have OH:∀w,(Instr.makeSlice 194 (.int .i64 (n:Int)) (.int .i64 (n:Int))).run prog w=.ok (.slice (some ⟨w.heap.size,0,none⟩) n n) (w.alloc (.cells (madeCells #[.bool false] n) 4)):=λw=>
  run_make_row' (P:=prog) 194 4 (.bool false) 1 Tryz.underlying194 Tryz.ahf rfl .i64 .i64 n (by omega) (by omega) w
 have hc1:=aY hc0 (.cells (madeCells #[.bool false] n) 4);obtain⟨i0,hi,hz0,hz1,hz2⟩:=info_parts Tryz.xX;obtain⟨i1,Sa,UR,UQ,UO⟩:=info_parts Tryz.ac5
 have H0:Hd (aiQ w (w.alloc (.cells (madeCells #[.bool false] n) 4)) w.heap.size n X 0 [] [] (.slice none 0 0)):=jd
  ⟨(Fr.refl _ _).alloc _,jH _,LY w n,Rows.nil,by simp,(λx hx=>by cases hx),jH _,by rw[List.drop_zero];rfl⟩
 have YK:∀(x y:Int) (w:World),(Instr.field 158 (.agg #[.int .i64 x,.int .i64 y]) 0).run prog w=.ok (.int .i64 x) w:=λx y w=>by kernel_rfl
 go_enter Tryz.func80,Tryz.ntmps80
 go_wp2;clear hc0 hc1
 go_loopw [4,23] (λo i wr=>∃(c:Nat) (seen:List Nat) (rs:List (List Nat)),c<=n/\i=.int .i64 c/\Hd (aiQ w wr w.heap.size n X c seen rs o)) (λ_ i _=>n-(intOf i).toNat)
 case atStart=>exact⟨0,[],[],by omega,rfl,H0⟩
 case round=>
 obtain⟨c,seen,rs,U9,rfl,HI⟩:=hrel;by_cases hlt:c<n;rotate_left
 · obtain rfl:c=n:=by omega
   go_wp2;go_ret;refine⟨_,rfl,?_,HI.o.new⟩;have:=HI.o.eq;rw[List.drop_eq_nil_of_le (by simp;have:=HN.o;omega),Kn.tK,List.append_nil]at this;rw[<-this];exact HI.o.out
 have hcell:=HI.o.row.cell (i:=c) hlt;simp only[oG]at hcell;have hfz:=HI.o.row.frozen c
 have k1:(0:Int)<=(c:Int):=by omega
 have k2:(c:Int)<(n:Int):=by omega
 by_cases hsk:c∈seen
 · rw[jk hsk]at hcell
   have Nf:=jd hsk;clear hsk;go_wp2;go_roundw
   case rel=>
    refine⟨c+1,seen,rs,by omega,by go_num,jd ⟨HI.o.new,HI.o.lb,HI.o.row,HI.o.out,HI.o.nd,HI.o.lt,Nat.le_succ_of_le HI.o.few,?_⟩⟩;have:=HI.o.eq;rw[Cj (by have:=HN.o;omega),Kn.sG Nf.o]at this;exact this
   case measure=>simp[intOf];omega
 rw[jm hsk]at hcell;have Nf:=jd hsk;clear hsk;go_wp2
 obtain⟨wo,rfl⟩:∃wo,wo=wr:=⟨_,rfl⟩
 have HQ0:Hd (PQ wo ((wo.setCell ⟨w.heap.size,c,none⟩ (.bool true)).alloc (.cells #[.int .i64 (c:Int)] 3)) w.heap.size n seen [c] (.slice (some ⟨wo.heap.size,0,none⟩) 1 1)):=jd
  ⟨((Fr.refl (λk=>k=w.heap.size) wo).setCell (.inl rfl) _).alloc _,(EX HI.o.row c).alloc _,by have:=X5 (wo.setCell ⟨w.heap.size,c,none⟩ (.bool true)) c;rw[size_set]at this;exact this,Kn.gK HI.o.nd Nf.o,λx hx=>by
   rw[jx,jB]at hx
   rcases hx with hx|rfl
   · exact HI.o.lt x hx
   exact hlt⟩
 clear hcell hfz
 go_loopw [6,7] (λs i wr=>∃(q:Nat) (l:List Nat),q<=l.length/\i=.int .i64 q/\Hd (PQ wo wr w.heap.size n seen l s)/\Hd (∃k,k+q=n+1/\Kn.grow (KU X) seen k q l=Kn.eo X seen c)) (λ_ i _=>n-(intOf i).toNat)
 case atStart=>exact⟨0,[c],by simp,rfl,HQ0,jd ⟨n+1,rfl,by rw[HN.o];rfl⟩⟩
 case round=>
 obtain⟨q,l,Yy,rfl,HQ,HE⟩:=hrel;have hln:=HQ.o.len;obtain⟨ll,DY⟩:=jb l.length;rw[<-DY.o]at Yy hln;obtain⟨a8,c8,rfl,_,_⟩:=jZ HQ.o.own;rw[<-DY.o];by_cases hlq:q<ll;rotate_left
 · obtain rfl:q=ll:=by omega
   have R9:l=Kn.eo X seen c:=by
    obtain⟨k,hk,he⟩:=HE.o;rw[<-he]
    cases k with
    |zero=>rw[Kn.grow]
    |succ k=>rw[Kn.grow,if_neg (by have:=DY.o;omega)]
   have HPC:=jd R9;obtain⟨vs,hv1,hv2⟩:=HI.o.out;have ahX:=HI.o.few
   have am4:vs.length<=c:=by rw[hv2.len];exact ahX
   obtain⟨vl,HVL⟩:=jb vs.length
   have hvl:vl<=16:=by have:=HVL.o;omega
   have yC:=jd hv1;have Hq:=jd hv2
   have hos:wr.ownsRow wo.heap.size 3 1 (.slice a8 q c8) l.length (j7 l):=by have:=HQ.o.own;rw[<-DY.o]at this ⊢;exact this
   have HSO:=jd (S7 wo.heap.size (.slice a8 q c8) l wr hos (by have:=DY.o;omega));have HOS:=jd hos;clear R9 hv1 hv2 hos ahX am4
   go_wp2_with (first
    |(go_at_call 70;refine HSO.o.mono ?_;rintro e w6 ⟨rfl,ho6,Mw⟩;have Nq:Hd (Fr (λk=>k=w.heap.size) wo w6):=jd (HQ.o.fr.grown Mw λk ek=>.inr (dR HOS.o k ek));have Wm:Hd (w6.rowIs w.heap.size 4 n (oG λj=>decide (j∈seen++l))):=jd (HQ.o.row.of_block (Mw.block _ HQ.o.row.lt λek=>eE HOS.o HQ.o.row (by decide) _ ek.symm rfl));have HO6:=jd ho6;have G7:Hd (w6.ownsRow w.heap.size 74 1 _ vl vs):=jd (by rw[HVL.o];exact Nq.o.owns yC.o (eE yC.o HI.o.row (by decide)));clear ho6 Mw)
    |(at_builtin;refine wpList_append_own _ rfl _ _ 154 rfl w.heap.size 74 i1 (.slice none 0 0) 1 24 Tryz.underlying154 Sa UR UQ UO rfl (by decide) _ vl vs rfl (ownsRow.alloc G7.o _) ⟨_,0,none⟩ 1 1 [.slice a8 q c8] rfl rfl (cell_one_new _ _ _) (TT _ _ _) (by unfold maxLen;omega) (by omega) (by have:=HI.o.new.size;have:=Nq.o.size;simp;omega) ?_;intro v' w7 hown cN _;have HOW:=jd hown;have KN:=jd cN;clear hown cN))
   go_roundw
   case rel=>
    refine⟨c+1,seen++l,rs++[ou l],by omega,by go_num,jd ⟨?_,HI.o.lb,?_,?_,HQ.o.nd,HQ.o.lt,by simp;exact HI.o.few,?_⟩⟩
    · have h1:New w w6:=HI.o.new.next Nq.o λi hi=>.inr (by rw[hi];exact jH _)
      exact(h1.alloc _).grown KN.o λk ek=>.inr (dR G7.o k ek)
    · exact EY Wm.o G7.o KN.o
    · rw[HVL.o]at HOW
      refine⟨vs++[_],by rw[ju];exact HOW.o,KS.snoc (KS.mono (KS.mono Hq.o λv l hn=>Nq.o.owns hn (eE hn HI.o.row (by decide))) λv l hn=>N9 hn G7.o (by decide) KN.o) ?_⟩;rw[E6];exact N9 (P5 HO6.o) G7.o (by decide) KN.o
    have:=HI.o.eq;rw[Cj (by have:=HN.o;omega),Kn.tL Nf.o,<-HPC.o]at this;rw[append_assoc];exact this
   case measure=>simp[intOf];omega
 obtain⟨y,HY⟩:=jb (l.getD q 0)
 have hyn:y<n:=by rw[HY.o];exact HQ.o.lt _ (jx.2 (.inr (Kn.tY (by have:=DY.o;omega))))
 go_wp2
 obtain⟨wp,rfl⟩:∃wp,wp=wr:=⟨_,rfl⟩
 go_loopw [6,41] (λs j wr=>∃(jj:Nat) (lj:List Nat),jj<=4/\j=.int .i64 jj/\Hd (PQ wo wr w.heap.size n seen lj s)/\Hd (lj=mL seen l ((KU X y).take jj))/\Hd (l <+: lj)) (λ_ j _=>4-(intOf j).toNat)
 case atStart=>exact⟨0,l,by omega,rfl,by rw[DY.o];exact HQ,jd (by rw[List.take_zero,mL]),jd (List.prefix_refl _)⟩
 case round=>
 obtain⟨j,lj,hj,rfl,Xj,HLJ,HPJ⟩:=hrel;by_cases hj4:j<4;rotate_left
 · obtain rfl:j=4:=by omega
   obtain⟨a9,c10,rfl,_⟩:=dr Xj.o.own;go_wp2;go_roundw
   case rel=>
    refine⟨q+1,lj,by have:=HPJ.o.length_le;have:=DY.o;omega,by go_num,Xj,jd ?_⟩;obtain⟨k,hk,he⟩:=HE.o
    obtain⟨k',rfl⟩:∃k',k=k'+1:=⟨k-1,by omega⟩
    refine⟨k',by omega,?_⟩;rw[Kn.grow,if_pos (by have:=DY.o;omega),<-HY.o]at he;rw[HLJ.o,List.take_of_length_le (by simp[KU])];exact he
   case measure=>simp[intOf];omega
 have hlen:=HPJ.o.length_le;obtain⟨g,c9,rfl,hcy⟩:=Xj.o.cell (i:=q) (by have:=DY.o;omega)
 have hgy:lj.getD q 0=y:=by
  obtain⟨t,ht⟩:=HPJ.o;rw[HY.o,<-ht,jc,List.getElem?_append_left (by have:=DY.o;omega),jc]
 rw[hgy]at hcy;obtain⟨m,HM⟩:=jb lj.length;rw[<-HM.o]
 have hqm:q<m:=by have:=DY.o;have:=HM.o;omega
 have ahK:m<=n:=by have:=Xj.o.len;have:=HM.o;omega
 obtain⟨pc,ps,hp⟩:∃pc ps,Kn.other X (y,j)=(pc,ps):=⟨_,_,rfl⟩
 have hpn:pc<n:=by
  have:=(HX.o.aM (p:=(y,j)) ⟨by have:=HN.o;omega,hj4⟩).1;rw[hp]at this;have:=HN.o;simp only at *;omega
 have HP:=jd hp;have hrow:=Xj.o.row.cell (i:=pc) hpn;simp only[oG]at hrow
 have hyX:y<X.length:=by have:=HN.o;omega
 have HNw:Hd (New w wr):=jd (HI.o.new.next Xj.o.fr λi hi=>.inr (by rw[hi];exact jH _))
 have i1:(0:Int)<=(q:Int):=by omega
 have i2:(q:Int)<(m:Int):=by omega
 have i3:(0:Int)<=(pc:Int):=by omega
 have i4:(pc:Int)<(n:Int):=by omega
 clear hgy hlen hp;have HLN:Hd (mL seen l ((KU X y).take (j+1))=if pc∈seen\/pc∈lj then lj else lj++[pc]):=jd (by rw[T7 X y j hj4,Fx,<-HLJ.o,HP.o]);by_cases KY:pc∈seen++lj
 · rw[jk KY]at hrow
   have HPS:=jd KY;clear KY
   go_wp2_with (go_at_call 114;refine(EM b y j X L _ (New.kM HNw.o HS.o) HX.o hl hyX hj4).mono ?_;rintro e w5 ⟨rfl,hE⟩;rw[HP.o];have hr5:=hE.cell hrow λx=>x;have HE5:=jd hE;clear hE)
   go_roundw
   case rel=>exact⟨j+1,lj,by omega,by go_num,jd (by rw[HM.o];exact Xj.o.new HE5.o),jd (by rw[HLN.o,if_pos (jx.1 HPS.o)]),HPJ⟩
   case measure=>simp[intOf];omega
 rw[jm KY]at hrow;have HPS:=jd KY
 have Aj:m+1<=n:=by
  have:=Kn.ft (Kn.gK Xj.o.nd KY) (m:=range n) (λx hx=>by
   rw[jx,jB]at hx
   rcases hx with hx|rfl
   · exact jw.2 (Xj.o.lt x hx)
   exact jw.2 hpn)
  simp at this;have:=HM.o;omega
 clear KY
 go_wp2_with (first
  |(go_at_call 114;refine(EM b y j X L _ (New.kM HNw.o HS.o) HX.o hl hyX hj4).mono ?_;rintro e w5 ⟨rfl,hE⟩;rw[HP.o];have hr5:=hE.cell hrow λx=>x;have HQ5:Hd (PQ wo w5 w.heap.size n seen lj (.slice (some ⟨g,0,none⟩) m c9)):=jd (by rw[HM.o];exact Xj.o.new hE);have hf5:=HQ5.o.row.frozen pc;have HR5:Hd ((w5.setCell ⟨w.heap.size,pc,none⟩ (.bool true)).ownsRow wo.heap.size 3 1 (.slice (some ⟨g,0,none⟩) m c9) m (j7 lj)):=jd (by have:=((Fr.refl (λk=>k=w.heap.size) w5).setCell (a:=⟨w.heap.size,pc,none⟩) (.inl rfl) (.bool true)).owns HQ5.o.own (eE HQ5.o.own HQ5.o.row (by decide));rw[<-HM.o]at this;exact this);have Bu:Hd (wo.heap.size<=w5.heap.size):=jd HQ5.o.fr.size;clear hE)
  |(at_builtin;refine wpList_append_own _ rfl _ _ 74 rfl wo.heap.size 3 i0 (.int .i64 0) 1 8 Tryz.underlying74 hi hz0 hz1 hz2 rfl (by decide) _ m (j7 lj) rfl (ownsRow.alloc HR5.o _) ⟨w5.heap.size,0,none⟩ 1 1 [.int .i64 (pc:Int)] rfl rfl (zH (size_set _ _ _).symm) (Od _) (by unfold maxLen;omega) (by omega) (by have:=Bu.o;rw[World.size_alloc,size_set];omega) ?_;intro v' w7 hown cN _;obtain⟨a9,c10,rfl,_⟩:=dr hown;have HOW:=jd hown;have KN:=jd cN;clear hown cN))
 go_roundw
 case rel=>exact⟨j+1,lj++[pc],by omega,by go_num,jd (PQ.push HQ5.o HM.o HPS.o hpn HOW.o KN.o),jd (by rw[HLN.o,if_neg (λh=>HPS.o (jx.2 h))]),jd (HPJ.o.trans (List.prefix_append _ _))⟩
 case measure=>simp[intOf];omega
open Go.RowKit
theorem Tryz.iW:Maps.Keyed prog 3:=Maps.int_keyed underlying3
theorem Tryz.agb:prog.underlying 58=some (.map 3 3):=by kernel_rfl
theorem Tryz.qi(w:World):(zeroValue 3).run prog w=.ok (.int .i64 0) w:=by kernel_rfl
theorem lg{a:Int}(h:-9223372036854775808<=a/\a<=9223372036854775807):(Lit.int .i64 a).wf=true:=WalkArith.wf_i64 h
theorem WR(h:x<=1000):(Lit.int .i64 (x:Nat)).wf=true:=lg (by omega)
def kJ(W:World)(mb cnt:Nat)(done:List Nat)(f:Nat->Nat):Prop:=
 ∃D:DataW Unit,W.ownsMap prog 3 (plainElem prog 3) mb cnt D/\Maps.IsMap D/\∀x∈done,D.atKey (.int .i64 (x:Nat)) (.lit (.int .i64 0))=.lit (.int .i64 (f x:Nat))
theorem kJ.made(w:World)(f:Nat->Nat):kJ (w.alloc (.map #[] 0)) w.heap.size 0 [] f:=⟨_,World.ownsMap_made _ _ _ _,Maps.isMap_empty,λx hx=>by cases hx⟩
theorem kJ.fr{S:Nat->Prop}{W':World}{mb cnt:Nat}{done:List Nat}(h:kJ W mb cnt done f)(hf:Fr S W W')(hs:¬S mb):kJ W' mb cnt done f:=by
 obtain⟨D,⟨es,ck,hb,r⟩,h1,h2⟩:=h;exact⟨D,⟨es,ck,(hf.block mb (jf.1 hb).1 hs).trans hb,r⟩,h1,h2⟩
theorem kJ.block{mb cnt:Nat}{done:List Nat}(h:kJ W mb cnt done f):∃es ck,W.heap[mb]?=some (.map es ck):=by
 obtain⟨D,⟨es,ck,hb,_⟩,_⟩:=h;exact⟨es,ck,hb⟩
theorem kJ.look{mb cnt:Nat}{done:List Nat}(h:kJ W mb cnt done f)(hx:x∈done)(hx2:x<=1000):(Instr.lookup 58 (.map (some mb)) (.int .i64 (x:Nat)) false).run prog W=.ok (.int .i64 (f x:Nat)) W:=by
 obtain⟨D,ho,_,h2⟩:=h;obtain⟨c,hrun,hat,_⟩:=ho.lookup_int Tryz.iW Tryz.agb underlying3 (Tryz.qi W) (Maps.keyOf_int_mk underlying3 (WR hx2));rw[h2 x hx]at hat
 injection hat with hat
 injection hat with _ hat
 subst hat;exact hrun
theorem kJ.put{W':World}{mb cnt:Nat}{done:List Nat}{f:Nat->Nat}{D:DataW Unit}{x:Nat}(h1:Maps.IsMap D)(h2:∀x∈done,D.atKey (.int .i64 (x:Nat)) (.lit (.int .i64 0))=.lit (.int .i64 (f x:Nat)))
 (ho:W'.ownsMap prog 3 (plainElem prog 3) mb (cnt+1) (D.put (.int .i64 (x:Nat)) (.lit (.int .i64 (f x:Nat))))):kJ W' mb (cnt+1) (done++[x]) f:=by
 refine⟨_,ho,h1.put _ _,λy hy=>?_⟩;by_cases c:y=x
 · subst c
   exact Maps.atKey_put_same h1 (k:=.int .i64 (y:Nat)) trivial _ _
 have hne:(Lit.int .i64 (y:Nat))≠.int .i64 (x:Nat):=λe=>c (by injection e with _ e;omega)
 rw[Maps.atKey_put_other hne];rw[jx,jB]at hy;exact h2 y (hy.resolve_right c)
theorem Rows.at{α:Type}{R:World->Value->α->Prop}{base:Nat}{ll:List α}(h:Rows R base e w v ll)(hi:i<ll.length):
 ∃g c u,v=.slice (some ⟨g,0,none⟩) ll.length c/\w.cell? ⟨g,i,none⟩=some u/\R w u ll[i]:=by
 obtain⟨vs,h1,h2⟩:=h;have hl:=h2.len;obtain⟨a,c,rfl,_,h3⟩:=jZ h1;obtain⟨g,rfl,_,h4⟩:=h3 (by omega);exact⟨g,c,vs[i]'(by omega),by rw[hl],h4 i (by omega),h2.at_ i (by omega) hi⟩
theorem Rows.sl{α:Type}{R:World->Value->α->Prop}{base:Nat}{ll:List α}(h:Rows R base e w v ll):∃a c,v=.slice a ll.length c:=by
 obtain⟨vs,h1,h2⟩:=h;obtain⟨a,c,rfl,_,_⟩:=jZ h1;exact⟨a,c,by rw[h2.len]⟩
theorem Rows.new{α:Type}{R:World->Value->α->Prop}{base:Nat}{w':World}{ll:List α}(h:Rows R base e w v ll)(hf:New w w')(hR:∀v x,R w v x->R w' v x):Rows R base e w' v ll:=by
 obtain⟨vs,h1,h2⟩:=h;exact⟨vs,hf.owns h1 λ_ _ x=>x,h2.mono hR⟩
theorem AK.at(h:AK w v l)(hi:i<l.length):∃g c,v=.slice (some ⟨g,0,none⟩) l.length c/\w.cell? ⟨g,i,none⟩=some (.int .i64 (l[i]:Nat)):=by
 obtain⟨a,c,rfl,_,h3⟩:=jZ (show w.ownsRow 0 3 1 v l.length (j7 l)from h);obtain⟨g,rfl,_,h4⟩:=h3 (by omega);refine⟨g,c,rfl,?_⟩;rw[h4 i (by rw[Ab];exact hi)];simp[j7]
theorem AK.sl(h:AK w v l):∃a c,v=.slice a l.length c:=by
 obtain⟨a,c,rfl,_,_⟩:=jZ (show w.ownsRow 0 3 1 v l.length (j7 l)from h);exact⟨a,c,rfl⟩
theorem kN.first{d:Dt}{l:List Dt}(h:kN w v (d :: l)):∃g c,v=.slice (some ⟨g,0,none⟩) (l.length+1) c/\w.cell? ⟨g,0,none⟩=some (.int .i64 (d.1:Nat))/\w.cell? ⟨g,1,none⟩=some (.bool d.2):=by
 rcases h.2 with⟨rfl,h0⟩|⟨g,cap,cur,rfl,hb,hg,h1,h2,h3,h4⟩
 · simp at h0
 refine⟨g,cap,rfl,?_,?_⟩
 · have:=ownsRow.cells h (g:=g) rfl 0 (.int .i64 (d.1:Nat)) rfl
   rwa [dN]at this
 have:=ownsRow.cells h (g:=g) rfl 1 (.bool d.2) rfl
 rwa [dN]at this
theorem LC(hX:Kn.Ok X)(hi:i<(aC X).length)(hx:x∈(aC X)[i]):Kn.er X x=i:=by
 have Gy:(aC X).flatten.Nodup:=hX.eG.nodup_iff.2 jK;unfold Kn.er;rw[List.findIdx_eq hi];refine⟨by simpa using hx,λj hj=>?_⟩;rw[Bool.eq_false_iff];intro hc
 have hxj:x∈(aC X)[j]:=by simpa using hc
 have hp:=(List.pairwise_flatten.1 Gy).2;have:=List.pairwise_iff_getElem.1 hp j i (by omega) hi hj;exact this x hxj x hx rfl
theorem TF(hX:Kn.Ok X)(hi:i<(aC X).length)(hx:x∈(aC X)[i]):x<X.length:=
 jw.1 (hX.eG.mem_iff.1 (List.mem_flatten.2 ⟨_,jM hi,hx⟩))
theorem Cm(X:List Cr)(hX:Kn.Ok X):(aC X).length<=X.length:=by
 have h1:=hX.eG.length_eq;rw[jS,List.length_flatten]at h1
 have h2:∀(L:List (List Nat)),(∀l∈L,l≠[])->L.length<=(L.map List.length).sum:=by
  intro L
  induction L with
  |nil=>intro _;exact jH _
  |cons l L ih=>
   intro h;have:=List.length_pos_iff.2 (h l (by simp))
   have:=ih λx hx=>h x (by simp[hx])
   simp only[jE,List.map_cons,List.sum_cons];omega
 have:=h2 _ λl hl=>(hX.nE l hl).ne
 omega
end Go.Proofs.YtfplmbmenjdlhaaGreatDoor
