/- Walks: sumTwo. -/
import Derived.BigQuiet
import Derived.BigRegion
import Derived.Deep.CutBlock
import Derived.Test.YtlicglicfijelaaGreatS2c
namespace Go.Proofs.YtlicglicfijelaaGreat
open Go.RowKit
open Kn (E2 L2 cf szL exB lt2 insT sumT)

theorem trow_cell{w:World}{base g m c:Nat}{l:L2}(h:w.ownsRow base 63 3 (.slice (some ⟨g,0,none⟩) m c) m (tcells l)){k:Nat}(hk:k<l.length):
 w.cell? ⟨g,k*3,none⟩=some (.int .i64 (tmG l k).1.1)∧w.cell? ⟨g,k*3+1,none⟩=some (.int .i64 (tmG l k).1.2)∧w.cell? ⟨g,k*3+2,none⟩=some (.int .i64 (tmG l k).2):=by
 have gen:∀(l:L2) (k:Nat),k<l.length→(tcells l)[k*3]?=some (.int .i64 (tmG l k).1.1)∧(tcells l)[k*3+1]?=some (.int .i64 (tmG l k).1.2)∧(tcells l)[k*3+2]?=some (.int .i64 (tmG l k).2):=by
  intro l
  induction l with
  |nil=>intro k hk;simp at hk
  |cons t l ih=>
   intro k hk
   cases k with
   |zero=>exact⟨rfl,rfl,rfl⟩
   |succ k=>
    have:=ih k (by simpa using hk);have e:tcells (t :: l)=[.int .i64 t.1.1,.int .i64 t.1.2,.int .i64 t.2]++tcells l:=rfl;rw[e,List.getElem?_append_right (by simp;omega),List.getElem?_append_right (by simp;omega),List.getElem?_append_right (by simp;omega)];simp only[List.length_cons,List.length_nil];rw[show (k+1)*3-(0+1+1+1)=k*3 by omega,show (k+1)*3+1-(0+1+1+1)=k*3+1 by omega,show (k+1)*3+2-(0+1+1+1)=k*3+2 by omega]
    exact this
 obtain⟨g1,g2,g3⟩:=gen l k hk;have h0:=World.ownsRow.cells h (g:=g) rfl _ _ g1;have h1:=World.ownsRow.cells h (g:=g) rfl _ _ g2;have h2:=World.ownsRow.cells h (g:=g) rfl _ _ g3;rw[addr_add,Nat.zero_add]at h0 h1 h2
 exact⟨h0,h1,h2⟩
theorem tri_c{W:World}{B t:Nat}{a b c:Value}(h:W.heap[B]?=some (.cells #[a,b,c] t (0,0))):W.cell? ⟨B,0,none⟩=some a∧W.cell? ⟨B,1,none⟩=some b∧W.cell? ⟨B,2,none⟩=some c∧W.frozen? ⟨B,0,none⟩=false∧W.frozen? ⟨B,1,none⟩=false∧W.frozen? ⟨B,2,none⟩=false:=by
 refine⟨cell_of_row _ _ 0 _ t (0,0) h,cell_of_row _ _ 1 _ t (0,0) h,cell_of_row _ _ 2 _ t (0,0) h,?_,?_,?_⟩<;>simp[World.frozen?,h]
theorem three_set{W:World}{B t:Nat}{a b c:Value}(h:W.heap[B]?=some (.cells #[a,b,c] t (0,0)))(a' b' c':Value):
 (((W.setCell ⟨B,0,none⟩ a').setCell ⟨B,1,none⟩ b').setCell ⟨B,2,none⟩ c').heap[B]?=some (.cells #[a',b',c'] t (0,0)):=by
 unfold World.setCell;simp[Array.getElem?_modify,h]
theorem own_ub{w:World}{base t k n:Nat}{v:Value}{cs:List Value}(h:w.ownsRow base t k v n cs){i:Nat}(e:v.ownBlock=some i):i<w.heap.size:=by
 rcases h.2 with⟨rfl,_⟩|⟨g,cap,cur,rfl,_,h5,_⟩
 · cases e
 · obtain rfl:g=i:=Option.some.inj e
   exact(Array.getElem?_eq_some_iff.1 h5).1
theorem addr_two(a:Addr)(i j:Nat):(a.add i).add j=a.add (i+j):=by
 unfold Addr.add
 by_cases h1:j=0
 · subst h1;by_cases h2:i=0<;>simp[h2]
 · by_cases h2:i=0
   · subst h2;simp[h1]
   · have h3:¬(i+j=0):=by omega
     simp[h1,h2,Nat.add_assoc]
theorem three_fr(W:World)(B:Nat)(a b c:Value):Fr (fun k=>k=B) W (((W.setCell ⟨B,0,none⟩ a).setCell ⟨B,1,none⟩ b).setCell ⟨B,2,none⟩ c):=
 (((Fr.refl (fun k=>k=B) W).setCell (a:=⟨B,0,none⟩) (.inl rfl) _).setCell (a:=⟨B,1,none⟩) (.inl rfl) _).setCell (a:=⟨B,2,none⟩) (.inl rfl) _
theorem tri_set2{W:World}{B t:Nat}{a b c:Value}(h:W.heap[B]?=some (.cells #[a,b,c] t (0,0)))(c':Value):((W.setCell ⟨B,2,none⟩ c').drew).heap[B]?=some (.cells #[a,b,c'] t (0,0)):=by
 show (W.setCell ⟨B,2,none⟩ c').heap[B]?=_
 unfold World.setCell;simp[Array.getElem?_modify,h]
set_option maxRecDepth 100000 in
set_option maxHeartbeats 4000000 in
theorem sumtwo_any(v:Value)(B n0:Nat)(l more:L2)(a':Option Addr)(n' c':Nat)(d1 d2 c:Int)(w:World)(ho:w.ownsRow B 63 3 v n0 (tcells l))(hB:B≤w.heap.size)(hn0:n0=l.length)(hm:T2At w a' more)(hn':n'=more.length)
 (hl:n0+n'≤2900000) (he:exB 1000000000 more) (hd1:-1000000000≤d1∧d1≤1000000000) (hd2:-1000000000≤d2∧d2≤1000000000) (hs:szL l+c.natAbs*szL more≤4000000000000000000):
 Calls Tryz.prog 11 #[v,.slice a' n' c',.int .i64 d1,.int .i64 d2,.int .i64 c] w fun e w'=>∃v',e=.returned v'∧Hid (w'.ownsRow B 63 3 v' (sumT l more (d1,d2) c).length (tcells (sumT l more (d1,d2) c)))∧New w w':=by
 have HN0:=Lib.hid hn0;have HN':=Lib.hid hn';have HM:=Lib.hid hm;have HE:=Lib.hid he;have HS:=Lib.hid hs;have HO0:Hid (w.ownsRow B 63 3 v (sumT l (more.take 0) (d1,d2) c).length (tcells (sumT l (more.take 0) (d1,d2) c))):=Lib.hid (by rw[hn0]at ho;exact ho);clear ho hm hn0 hn' he hs
 go_enter Tryz.func11,Tryz.ntmps11
 go_wp2_with fail
 go_loopw [11,12] (fun ov i wr=>∃(k:Nat) (lo:L2),k≤n'∧i=.int .i64 k∧Hid (lo=sumT l (more.take k) (d1,d2) c)∧Hid (wr.ownsRow B 63 3 ov lo.length (tcells lo))∧Hid (New w wr)) (fun _ i _=>n'-(intOf i).toNat)
 case atStart=>exact⟨0,_,by omega,rfl,Lib.hid rfl,HO0,Lib.hid (Fr.refl _ _)⟩
 case round=>
  obtain⟨i,lo,hi,rfl,HL,HOW,HF⟩:=hrel;obtain⟨a7,c7,rfl,_⟩:=own_shape2 HOW.out
  have hll:lo.length≤2900000:=by
   have h1:=sumT_len (d1,d2) c (more.take i) l;rw[←HL.out,List.length_take]at h1;have:=HN0.out
   omega
  by_cases hlt:i<n'
  · have him:i<more.length:=by have:=HN'.out;omega
    obtain⟨b,o,rfl,x1,x2,x3⟩:=(New.t2 HF.out HM.out).at him
    obtain⟨m1,H1⟩:∃z,Hid (z=(tmG more i).1.1):=⟨_,Lib.hid rfl⟩
    obtain⟨m2,H2⟩:∃z,Hid (z=(tmG more i).1.2):=⟨_,Lib.hid rfl⟩
    obtain⟨m3,H3⟩:∃z,Hid (z=(tmG more i).2):=⟨_,Lib.hid rfl⟩
    rw[←H1.out]at x1;rw[←H2.out]at x2;rw[←H3.out]at x3
    have i1:(0:Int)≤(i:Int):=by omega
    have i2:(i:Int)<(n':Int):=by omega
    have hmem:more[i]∈more:=List.getElem_mem him;have hex:=HE.out _ hmem
    have hmi:more[i]=((m1,m2),m3):=by rw[←tm_at him,H1.out,H2.out,H3.out]
    rw[hmi]at hex;simp only at hex;obtain⟨e1,e2⟩:=hex
    have hszm:m3.natAbs≤szL more:=by
     have gen:∀(l:L2) (t:E2×Int),t∈l→t.2.natAbs≤szL l:=by
      intro l
      induction l with
      |nil=>intro t ht;cases ht
      |cons s l ih=>
       intro t ht
       rw[Kn.szL_cons]
       rcases List.mem_cons.1 ht with rfl|h
       · omega
       · have:=ih t h;omega
     have:=gen _ _ hmem;rw[hmi]at this
     exact this
    have hq1:(m3*c).natAbs≤c.natAbs*szL more:=by rw[Int.natAbs_mul,Nat.mul_comm];exact Nat.mul_le_mul_left _ hszm
    have hstep:sumT l (more.take (i+1)) (d1,d2) c=insT lo ((m1+d1,m2+d2),m3*c):=by
     rw[List.take_succ_eq_append_getElem him,sumT_snoc,←HL.out,hmi];rfl
    have hszlo:szL lo+(m3*c).natAbs≤4000000000000000000+4000000000000000000:=by
     have h1:=sumT_sz (d1,d2) c (more.take i) l;rw[←HL.out]at h1
     have h2:szL (more.take i)≤szL more:=by
      have:=Kn.szL_app (more.take i) (more.drop i)
      rw[List.take_append_drop]at this;omega
     have h3:=Nat.mul_le_mul_left c.natAbs h2;have:=HS.out
     omega
    obtain⟨t1,HT1⟩:∃z,Hid (z=m1+d1):=⟨_,Lib.hid rfl⟩
    obtain⟨t2,HT2⟩:∃z,Hid (z=m2+d2):=⟨_,Lib.hid rfl⟩
    obtain⟨t3,HT3⟩:∃z,Hid (z=m3*c):=⟨_,Lib.hid rfl⟩
    rw[←HT1.out,←HT2.out,←HT3.out]at hstep;rw[←HT3.out]at hq1 hszlo
    have w1:IntKind.i64.wrap (m1+d1)=t1:=by rw[IntWalk.i64_in _ (by omega),HT1.out]
    have w2:IntKind.i64.wrap (m2+d2)=t2:=by rw[IntWalk.i64_in _ (by omega),HT2.out]
    have w3:IntKind.i64.wrap (m3*c)=t3:=by rw[←HT3.out,IntWalk.i64_in _ (by have:=HS.out;omega)]
    have HW1:=Lib.hid w1;have HW2:=Lib.hid w2;have HW3:=Lib.hid w3;have HST:=Lib.hid hstep;have HSZ:=Lib.hid hszlo;clear w1 w2 w3 hstep hszlo hszm hmi hmem e1 e2;go_upto_region 5 with fail
    go_cut [13] (fun t13 wz=>∃T:Nat,t13=.pointer (some ⟨T,0,none⟩)∧wr.heap.size≤T∧Hid (wz.heap[T]?=some (.cells #[.int .i64 t1,.int .i64 t2,.int .i64 t3] 63 (0,0)))∧Hid (New wr wz))
    case first=>
     have hSS:wr.drew.cell? ⟨b,o+i*3,none⟩=some (.int .i64 m1)∧wr.drew.cell? ⟨b,o+i*3+1,none⟩=some (.int .i64 m2)∧wr.drew.cell? ⟨b,o+i*3+2,none⟩=some (.int .i64 m3):=⟨x1,x2,x3⟩
     refine wp_region_held_drew (S:=fun wz=>wz.cell? ⟨b,o+i*3,none⟩=some (.int .i64 m1)∧wz.cell? ⟨b,o+i*3+1,none⟩=some (.int .i64 m2)∧wz.cell? ⟨b,o+i*3+2,none⟩=some (.int .i64 m3)) (by kernel_rfl) hSS (fun hHeld=>?_)
     have HBT:Hid (∀T,wr.heap.size≤T→¬b=T):=Lib.hid fun T hT e=>by have:=World.block_lt_of_cell? wr _ x1;simp only at this;omega
     clear hSS x1 x2 x3
     obtain⟨y0,HY0⟩:∃z,Hid (z=wr.drew):=⟨_,Lib.hid rfl⟩
     have HFy:Hid (New wr y0):=Lib.hid (by rw[HY0.out];exact(Fr.refl _ _).drew);rw[←HY0.out]at hHeld ⊢
     refine' sq 0 (h:=sq 1 (h:=sq 2 (h:=sq 3 (h:=sq 4 (h:=sq 5 (h:=sq 6 (h:=?_)))))))
     rw[HW1.out]
     refine' sq 7 (h:=sq 8 (h:=sq 9 (h:=sq 10 (h:=sq 11 (h:=sq 12 (h:=sq 13 (h:=?_)))))))
     rw[HW2.out]
     refine' sq 14 (h:=sq 15 (h:=sq 16 (h:=sq 17 (h:=sq 18 (h:=sq 19 (h:=sq 20 (h:=?_)))))))
     rw[HW3.out]
     refine' sq 21 (h:=?_)
     refine rdO (i:=22) (fun K hK=>?_);(try simp only[lq1,lq2,lq3]);go_simp;have hb:=heap_alloc_new y0 (.cells #[.int .i64 0,.int .i64 0,.int .i64 0] 63);have hF:New y0 (y0.alloc (.cells #[.int .i64 0,.int .i64 0,.int .i64 0] 63)):=(Fr.refl _ _).alloc _
     obtain⟨T,HT⟩:∃z,Hid (z=y0.heap.size):=⟨_,Lib.hid rfl⟩
     rw[←HT.out]at hb ⊢;generalize y0.alloc (.cells #[.int .i64 0,.int .i64 0,.int .i64 0] 63)=y1 at hb hF ⊢;have HB:=Lib.hid hb;have HF1:Hid (New wr y1):=Lib.hid (HFy.out.trans hF);have hH2:=And.intro (hF.cell hHeld.1 fun x=>x) (And.intro (hF.cell hHeld.2.1 fun x=>x) (hF.cell hHeld.2.2 fun x=>x))
     have hTw:wr.heap.size≤T:=by rw[HT.out];exact HFy.out.size
     clear hb hF hHeld;refine hK.out _ _ hH2 (fun hHeld=>?_);clear hK K hH2;(try simp only[Act.put,lq1,lq2,lq3,lq4,lq5,lq6]);refine rdO (i:=23) (fun K hK=>?_);(try simp only[lq1,lq2,lq3]);obtain⟨q1,q2,q3,f1,f2,f3⟩:=tri_c HB.out;go_simp;clear q1 q2 q3 f1 f2 f3;have HE:=Lib.hid (three_set HB.out (.int .i64 t1) (.int .i64 t2) (.int .i64 t3));have hS:=three_fr y1 T (.int .i64 t1) (.int .i64 t2) (.int .i64 t3);have hbT:¬b=T:=HBT.out T hTw;have hH2:=And.intro (hS.cell hHeld.1 hbT) (And.intro (hS.cell hHeld.2.1 hbT) (hS.cell hHeld.2.2 hbT))
     have HF2:=Lib.hid (HF1.out.next hS fun j hj=>.inr (by rw[hj];exact hTw));clear hS;generalize ((y1.setCell ⟨T,0,none⟩ (.int .i64 t1)).setCell ⟨T,1,none⟩ (.int .i64 t2)).setCell ⟨T,2,none⟩ (.int .i64 t3)=y2 at HE HF2 hH2 ⊢;refine hK.out _ _ hH2 (fun hHeld=>?_);clear hK K hH2;(try simp only[Act.put,lq1,lq2,lq3,lq4,lq5,lq6]);refine wpAnyH_done (by kernel_rfl) ?_ _;go_wp2
     go_meet
     exact⟨T,rfl,hTw,HE,HF2⟩
    case rest=>
     obtain⟨T,rfl,hTw,HT,HF2⟩:=hcut
     obtain⟨u0,rfl⟩:∃u,u=wc:=⟨_,rfl⟩
     have HOc:=Lib.hid (HF2.out.owns HOW.out fun _ _ x=>x);have HFc:Hid (New w u0):=Lib.hid (HF.out.trans HF2.out);clear x1 x2 x3
     obtain⟨ll,HLLN⟩:∃z,Hid (z=lo.length):=⟨_,Lib.hid rfl⟩
     go_upto_block 2 with fail
     go_cut [14] (fun kv wz=>∃k:Nat,k≤lo.length∧kv=.int .i64 k∧Hid (New u0 wz)∧Hid (∀j,j<k→lt2 (tmG lo j).1 (t1,t2))∧Hid (k<lo.length→¬lt2 (tmG lo k).1 (t1,t2)))
     case first=>
      go_wp2_with fail
      go_loopw [14] (fun kv wz=>∃k:Nat,k≤lo.length∧kv=.int .i64 k∧Hid (New u0 wz)∧Hid (∀j,j<k→lt2 (tmG lo j).1 (t1,t2))) (fun kv _=>lo.length-(intOf kv).toNat)
      case atStart=>exact⟨0,by omega,rfl,Lib.hid (Fr.refl _ _),Lib.hid fun j hj=>by omega⟩
      case round=>
       obtain⟨k,hk,rfl,HWz,HLS⟩:=hrel
       by_cases hkl:k<lo.length
       · obtain⟨g7,rfl⟩:∃g,a7=some ⟨g,0,none⟩:=by
          rcases HOW.out.2 with⟨e,h0⟩|⟨g,cap,cur,e,_⟩
          · exact absurd h0 (by omega)
          · injection e with e1 _ _;exact⟨g,e1⟩
         obtain⟨y1,y2,y3⟩:=trow_cell (HWz.out.owns HOc.out fun _ _ x=>x) hkl
         obtain⟨o1,HO1⟩:∃z,Hid (z=(tmG lo k).1.1):=⟨_,Lib.hid rfl⟩
         obtain⟨o2,HO2⟩:∃z,Hid (z=(tmG lo k).1.2):=⟨_,Lib.hid rfl⟩
         rw[←HO1.out]at y1;rw[←HO2.out]at y2;obtain⟨z1,z2,z3,_,_,_⟩:=tri_c (HWz.out.blk HT.out fun x=>x)
         have i3:(0:Int)≤(k:Int):=by omega
         have i4:(k:Int)<(lo.length:Int):=by omega
         have i5:decide ((k:Int)<(lo.length:Int))=true:=decide_eq_true i4
         by_cases g1:o1<t1
         · have f1:decide (o1<t1)=true:=decide_eq_true g1
           have HLT:Hid (lt2 (tmG lo k).1 (t1,t2)):=Lib.hid (by unfold Kn.lt2;rw[←HO1.out,←HO2.out];simp only;omega);go_wp2_with fail
           go_quiet (fail)
           go_wp2
           go_roundw
           case rel=>exact⟨k+1,by omega,by go_num,Lib.hid (HWz.out.drewN _),Lib.hid fun j hj=>by
            by_cases e:j=k
            · rw[e];exact HLT.out
            · exact HLS.out j (by omega)⟩
           case measure=>simp[intOf];omega
         · have f1:decide (o1<t1)=false:=decide_eq_false g1
           by_cases g2:o1=t1
           · have f2:(o1==t1)=true:=by simpa using g2
             by_cases g3:o2<t2
             · have f3:decide (o2<t2)=true:=decide_eq_true g3
               have HLT:Hid (lt2 (tmG lo k).1 (t1,t2)):=Lib.hid (by unfold Kn.lt2;rw[←HO1.out,←HO2.out];simp only;omega);go_wp2_with fail
               go_quiet (fail)
               go_wp2
               go_roundw
               case rel=>exact⟨k+1,by omega,by go_num,Lib.hid (HWz.out.drewN _),Lib.hid fun j hj=>by
                by_cases e:j=k
                · rw[e];exact HLT.out
                · exact HLS.out j (by omega)⟩
               case measure=>simp[intOf];omega
             · have f3:decide (o2<t2)=false:=decide_eq_false g3
               have HNL:Hid (¬lt2 (tmG lo k).1 (t1,t2)):=Lib.hid (by unfold Kn.lt2;rw[←HO1.out,←HO2.out];simp only;omega);go_wp2_with fail
               go_quiet (fail)
               go_wp2
               go_meet
               exact⟨k,by omega,rfl,Lib.hid (HWz.out.drewN _),HLS,Lib.hid fun _=>HNL.out⟩
           · have f2:(o1==t1)=false:=by simpa using g2
             have HNL:Hid (¬lt2 (tmG lo k).1 (t1,t2)):=Lib.hid (by unfold Kn.lt2;rw[←HO1.out,←HO2.out];simp only;omega);go_wp2_with fail
             go_quiet (fail)
             go_wp2
             go_meet
             exact⟨k,by omega,rfl,Lib.hid (HWz.out.drewN _),HLS,Lib.hid fun _=>HNL.out⟩
       · obtain rfl:k=lo.length:=by omega
         have i5:decide ((lo.length:Int)<(lo.length:Int))=false:=decide_eq_false (by omega);go_wp2_with fail
         go_quiet (fail)
         go_wp2
         go_meet
         exact⟨lo.length,by omega,rfl,Lib.hid (HWz.out.drewN _),HLS,Lib.hid fun h=>absurd h (by omega)⟩
     case rest=>
      obtain⟨k,hk,rfl,HFz,HLS,HNL⟩:=hcut
      obtain⟨u1,rfl⟩:∃u,u=wc:=⟨_,rfl⟩
      have HO1:=Lib.hid (HFz.out.owns HOc.out fun _ _ x=>x);have HT1:=Lib.hid (HFz.out.blk HT.out fun x=>x);have HN1:Hid (New w u1):=Lib.hid (HFc.out.trans HFz.out)
      have i3:(0:Int)≤(k:Int):=by omega
      have i4:(k:Int)≤(lo.length:Int):=by omega
      have hkc:(k:Int)≤(c7:Int):=by omega
      have hO1:=HO1.out;have hz1:w.heap.size≤u1.heap.size:=HN1.out.size
      go_wp2_with (first
       |(at_builtin;refine wpList_append_terms _ rfl _ _ rfl u1.heap.size 0 (.slice none 0 0) [] rfl ⟨rfl,.inl ⟨rfl,rfl⟩⟩ rfl _ k _ (lo.take k) rfl (by rw[List.length_take];omega) ?hnone ?hcells (by omega) (Nat.le_refl _) ?_)
       |go_in)
      case hnone=>
       intro e
       obtain⟨h1,h2⟩:=trow_nil hO1 rfl e
       exact⟨h1,by rw[h2];simp⟩
      case hcells=>exact trow_take hO1 k
      intro a3 c3 u2 ho2 hg2
      have hF2:New u1 u2:=(fr_grown hg2).mono fun i e=>by cases e
      have HO2:=Lib.hid (hF2.owns HO1.out fun _ _ x=>x);have HT2:=Lib.hid (hF2.blk HT1.out fun x=>x);have HN2:Hid (New w u2):=Lib.hid (HN1.out.trans hF2);have HS2:Hid (u1.heap.size≤u2.heap.size):=Lib.hid hF2.size;have HX2:=Lib.hid ho2
      obtain⟨U1,HU1⟩:∃z,Hid (z=u1.heap.size):=⟨_,Lib.hid rfl⟩
      rw[←HU1.out]at HX2
      have HLB:Hid (∀i,(Value.slice a7 lo.length c7).ownBlock=some i→i<wr.heap.size):=Lib.hid fun i e=>own_ub HOW.out e
      have HTB:Hid (wr.heap.size≤T∧T<U1):=Lib.hid ⟨hTw,by rw[HU1.out];exact(Array.getElem?_eq_some_iff.1 HT1.out).1⟩
      have hw1:w.heap.size≤U1:=by rw[HU1.out];exact hz1
      clear ho2 hg2 hF2 hO1 hz1
      obtain⟨bP,HBP⟩:∃b,Hid (b=decide (k<lo.length∧(tmG lo k).1=(t1,t2))):=⟨_,Lib.hid rfl⟩
      go_upto_region 11 with fail
      go_cut [109] (fun s wz=>s=.bool bP∧Hid (New u2 wz))
      case first=>
       by_cases hkl:k<lo.length
       · obtain⟨g7,rfl⟩:∃g,a7=some ⟨g,0,none⟩:=by
          rcases HOW.out.2 with⟨e,h0⟩|⟨g,cap,cur,e,_⟩
          · exact absurd h0 (by omega)
          · injection e with e1 _ _;exact⟨g,e1⟩
         obtain⟨y1,y2,y3⟩:=trow_cell HO2.out hkl
         obtain⟨o1,HO1'⟩:∃z,Hid (z=(tmG lo k).1.1):=⟨_,Lib.hid rfl⟩
         obtain⟨o2,HO2'⟩:∃z,Hid (z=(tmG lo k).1.2):=⟨_,Lib.hid rfl⟩
         rw[←HO1'.out]at y1;rw[←HO2'.out]at y2;obtain⟨z1,z2,z3,_,_,_⟩:=tri_c HT2.out
         have i5:(k:Int)<(lo.length:Int):=by omega
         have i6:decide ((k:Int)<(lo.length:Int))=true:=decide_eq_true i5
         by_cases g1:o1=t1
         · have f1:(o1==t1)=true:=by simpa using g1
           by_cases g2:o2=t2
           · have f2:(o2==t2)=true:=by simpa using g2
             have HE:Hid (k<lo.length∧(tmG lo k).1=(t1,t2)):=Lib.hid ⟨hkl,Prod.ext (by rw[←HO1'.out];exact g1) (by rw[←HO2'.out];exact g2)⟩;go_wp2_with fail
             go_quiet (fail)
             go_wp2
             go_meet
             exact⟨by rw[HBP.out,decide_eq_true HE.out],Lib.hid ((Fr.refl _ u2).drewN _)⟩
           · have f2:(o2==t2)=false:=by simpa using g2
             have HE:Hid (¬(k<lo.length∧(tmG lo k).1=(t1,t2))):=Lib.hid fun h=>g2 (by rw[HO2'.out,h.2])
             go_wp2_with fail
             go_quiet (fail)
             go_wp2
             go_meet
             exact⟨by rw[HBP.out,decide_eq_false HE.out],Lib.hid ((Fr.refl _ u2).drewN _)⟩
         · have f1:(o1==t1)=false:=by simpa using g1
           have HE:Hid (¬(k<lo.length∧(tmG lo k).1=(t1,t2))):=Lib.hid fun h=>g1 (by rw[HO1'.out,h.2])
           go_wp2_with fail
           go_quiet (fail)
           go_wp2
           go_meet
           exact⟨by rw[HBP.out,decide_eq_false HE.out],Lib.hid ((Fr.refl _ u2).drewN _)⟩
       · have i6:decide ((k:Int)<(lo.length:Int))=false:=decide_eq_false (by omega)
         have HE:Hid (¬(k<lo.length∧(tmG lo k).1=(t1,t2))):=Lib.hid fun h=>hkl h.1
         go_wp2_with fail
         go_quiet (fail)
         go_wp2
         go_meet
         exact⟨by rw[HBP.out,decide_eq_false HE.out],Lib.hid ((Fr.refl _ u2).drewN _)⟩
      case rest=>
       obtain⟨rfl,HF3⟩:=hcut
       obtain⟨u3,rfl⟩:∃u,u=wc:=⟨_,rfl⟩
       have HO3:=Lib.hid (HF3.out.owns HO2.out fun _ _ x=>x);have HX3:=Lib.hid (HF3.out.owns HX2.out fun _ _ x=>x);have HT3:=Lib.hid (HF3.out.blk HT2.out fun x=>x);have HN3:Hid (New w u3):=Lib.hid (HN2.out.trans HF3.out);have HS1:Hid (u1.heap.size≤u3.heap.size):=Lib.hid (Nat.le_trans HS2.out HF3.out.size)
       go_upto_if 109 with fail
       go_cut [14] (fun kv wz=>∃(kk:Nat) (cc:Int),kv=.int .i64 kk∧kk≤lo.length∧Hid (insT lo ((t1,t2),t3)=lo.take k++((if cc≠0 then [((t1,t2),cc)]else [])++lo.drop kk))∧Hid (wz.heap[T]?=some (.cells #[.int .i64 t1,.int .i64 t2,.int .i64 cc] 63 (0,0)))∧Hid (New w wz)∧Hid (wz.ownsRow B 63 3 (.slice a7 lo.length c7) lo.length (tcells lo))∧Hid (wz.ownsRow U1 63 3 (.slice a3 k c3) k (tcells (lo.take k)))∧Hid (U1≤wz.heap.size))
       case first=>
        cases bP
        · have HE:Hid (¬(k<lo.length∧(tmG lo k).1=(t1,t2))):=Lib.hid (of_decide_eq_false HBP.out.symm)
          go_wp2
          go_meet
          exact⟨k,t3,rfl,by omega,Lib.hid (by rw[insT_at lo _ k (by omega) HLS.out HNL.out,ins2_ne fun h e=>HE.out ⟨h,e⟩]),HT3,HN3,HO3,HX3,Lib.hid (by rw[HU1.out];exact HS1.out)⟩
        · have HE:Hid (k<lo.length∧(tmG lo k).1=(t1,t2)):=Lib.hid (of_decide_eq_true HBP.out.symm)
          have hkl:k<lo.length:=HE.out.1
          obtain⟨g7,rfl⟩:∃g,a7=some ⟨g,0,none⟩:=by
           rcases HOW.out.2 with⟨e,h0⟩|⟨g,cap,cur,e,_⟩
           · exact absurd h0 (by omega)
           · injection e with e1 _ _;exact⟨g,e1⟩
          obtain⟨_,_,y3⟩:=trow_cell HO3.out hkl
          obtain⟨o3,HO3'⟩:∃z,Hid (z=(tmG lo k).2):=⟨_,Lib.hid rfl⟩
          rw[←HO3'.out]at y3;obtain⟨_,_,z3,_,_,f3⟩:=tri_c HT3.out
          obtain⟨s3,HS3⟩:∃z,Hid (z=t3+o3):=⟨_,Lib.hid rfl⟩
          have hw3:IntKind.i64.wrap (t3+o3)=s3:=by
           have h1:=HSZ.out
           have h2:o3.natAbs≤szL lo:=by
            have h3:=Kn.szL_app (lo.take k) (lo.drop k);rw[List.take_append_drop,List.drop_eq_getElem_cons hkl,Kn.szL_cons,←tm_at hkl,←HO3'.out]at h3
            omega
           rw[IntWalk.i64_in _ (by omega),HS3.out]
          have i5:(k:Int)<(lo.length:Int):=by omega
          go_wp2_with fail
          go_region
          have hF4:Fr (fun j=>j=T) u3 (u3.setCell ⟨T,2,none⟩ (.int .i64 s3)).drew:=((Fr.refl (fun j=>j=T) u3).setCell (a:=⟨T,2,none⟩) (.inl rfl) _).drew;have hT4:=tri_set2 HT3.out (.int .i64 s3);generalize (u3.setCell ⟨T,2,none⟩ (.int .i64 s3)).drew=u4 at hF4 hT4 ⊢;have HF4:=Lib.hid hF4;have HT4:=Lib.hid hT4;clear y3 z3 f3 hF4 hT4;go_wp2
          go_meet
          have hin:=insT_at lo ((t1,t2),t3) k (by omega) HLS.out HNL.out;rw[ins2_eq hkl HE.out.2]at hin;simp only at hin;rw[←HO3'.out,←HS3.out]at hin
          exact⟨k+1,s3,by go_num,by omega,Lib.hid hin,HT4,Lib.hid (HN3.out.next HF4.out fun j hj=>.inr (by have:=HTB.out.1;have:=HF.out.size;omega)),Lib.hid (HF4.out.owns HO3.out fun j hj e=>by have:=HLB.out j hj;have:=HTB.out.1;omega),Lib.hid (HF4.out.owns HX3.out fun j hj e=>by have:=own_lb HX3.out j hj;have:=HTB.out.2;omega),Lib.hid (by rw[HU1.out];exact Nat.le_trans HS1.out HF4.out.size)⟩
       case rest=>
        obtain⟨kk,cc,rfl,hkk,HIN,HT4,HN4,HO4,HX4,HS4⟩:=hcut
        obtain⟨u4,rfl⟩:∃u,u=wc:=⟨_,rfl⟩
        obtain⟨m1',m2',m3',_,_,_⟩:=tri_c HT4.out
        obtain⟨bz,HBZ⟩:∃b,Hid (b=(cc != 0)):=⟨_,Lib.hid rfl⟩
        have hbz:(cc != 0)=bz:=HBZ.out.symm
        go_upto_if 123 with fail
        go_cut [15] (fun nv wz=>∃(ls:L2) (n5:Nat) (a5:Option Addr) (c5:Nat),nv=.slice a5 n5 c5∧n5≤k+1∧Hid (n5=ls.length)∧Hid (ls=lo.take k++if cc≠0 then [((t1,t2),cc)]else [])∧Hid (New w wz)∧Hid (wz.ownsRow B 63 3 (.slice a7 lo.length c7) lo.length (tcells lo))∧Hid (wz.ownsRow U1 63 3 (.slice a5 n5 c5) n5 (tcells ls))∧Hid (U1≤wz.heap.size))
        case first=>
         cases bz
         · have HC0:Hid (cc=0):=Lib.hid (by simpa using hbz)
           go_wp2
           go_meet
           exact⟨lo.take k,k,a3,c3,rfl,by omega,Lib.hid (by rw[List.length_take];omega),Lib.hid (by rw[if_neg (by simp[HC0.out]),List.append_nil]),HN4,HO4,HX4,HS4⟩
         · have HC0:Hid (cc≠0):=Lib.hid (by simpa using hbz)
           have hsz4:U1≤(u4.alloc (.cells #[.int .i64 t1,.int .i64 t2,.int .i64 cc] 63)).heap.size:=by rw[World.size_alloc];have:=HS4.out;omega
           go_wp2_with (first
            |(at_builtin;refine wpList_append_terms _ rfl _ _ rfl U1 k _ (lo.take k) rfl (World.ownsRow.alloc HX4.out _) (by rw[List.length_take];omega) (some ⟨_,0,none⟩) 1 1 [((t1,t2),cc)] rfl rfl (fun e=>by cases e) ?hcells (by omega) hsz4 ?_)
            |go_in)
           case hcells=>exact fun ad e=>by cases e;exact three_cells rfl
           intro a5 c5 u5 ho5 hg5
           have hF5:Fr (fun i=>(Value.slice a3 k c3).ownBlock=some i) u4 u5:=((Fr.refl _ u4).alloc _).grown hg5 fun k e=>.inl e
           have HF5:=Lib.hid hF5;have HO5:=Lib.hid ho5;clear hF5 hg5 ho5;go_wp2
           go_meet
           exact⟨lo.take k++[((t1,t2),cc)],k+1,a5,c5,rfl,by omega,Lib.hid (by rw[List.length_append,List.length_take,List.length_singleton];omega),Lib.hid (by rw[if_pos HC0.out]),Lib.hid (HN4.out.next HF5.out fun j hj=>.inr (by have:=own_lb HX4.out j hj;omega)),Lib.hid (HF5.out.owns HO4.out fun j hj e=>by have:=HLB.out j hj;have:=HTB.out;have:=own_lb HX4.out j e;omega),HO5,Lib.hid (Nat.le_trans HS4.out HF5.out.size)⟩
        case rest=>
         obtain⟨ls,n5,a5,c5,rfl,hn5,HN5L,HLS5,HN5,HO5,HX5,HS5⟩:=hcut
         obtain⟨u5,rfl⟩:∃u,u=wc:=⟨_,rfl⟩
         have hO5:=HX5.out;have hs5:=HS5.out
         have j1:(0:Int)≤(kk:Int):=by omega
         have j2:(kk:Int)≤(lo.length:Int):=by omega
         have hin:=HIN.out;rw[←List.append_assoc,←HLS5.out]at hin
         have hnl:n5+(lo.length-kk)=(ls++lo.drop kk).length:=by rw[List.length_append,List.length_drop,HN5L.out]
         have hn6:n5+(lo.length-kk)≤2900001:=by
          have:=insT_len ((t1,t2),t3) lo;rw[hin,←hnl]at this
          omega
         have HLO6:Hid (ls++lo.drop kk=sumT l (more.take (i+1)) (d1,d2) c):=Lib.hid (by rw[HST.out,hin]);have HNL6:=Lib.hid hnl;have HCL:=HO5;clear hin hnl
         by_cases hck:c7=kk
         · have hdn:lo.drop kk=[]:=List.drop_eq_nil_of_le (by omega)
           go_wp2_with (first
            |(at_builtin;refine wpList_append_terms _ rfl _ _ rfl U1 n5 _ ls rfl hO5 HN5L.out _ _ _ (lo.drop kk) rfl (by rw[List.length_drop]) (fun _=>⟨rfl,hdn⟩) (fun ad _ j u hj=>by rw[hdn]at hj;cases hj) (by omega) hs5 ?_)
            |go_in)
           intro a9 c9 u6 ho6 hg6
           have hF6:Fr (fun i=>(Value.slice a5 n5 c5).ownBlock=some i) u5 u6:=(fr_grown hg6).mono fun i e=>e
           have HN6:Hid (New w u6):=Lib.hid (HN5.out.next hF6 fun j hj=>.inr (by have:=own_lb HX5.out j hj;omega));have HO6:=Lib.hid ho6;clear hF6 hg6 ho6 hO5;go_wp2
           go_roundw
           case rel=>exact⟨i+1,_,by omega,by go_num,HLO6,Lib.hid (by rw[←HNL6.out,hdn,List.append_nil];exact own_base HO6.out (Nat.le_trans hB hw1)),HN6⟩
           case measure=>simp[intOf];omega
         · have hno:Option.map (fun x:Addr=>x.add (kk*3)) a7=none→c7-kk=0∧lo.drop kk=[]:=by
            intro e
            obtain⟨h1,h2⟩:=trow_nil HCL.out rfl (by simpa using e)
            exact⟨by omega,by rw[h2];simp⟩
           have hce:∀ad,Option.map (fun x:Addr=>x.add (kk*3)) a7=some ad→∀j u,(tcells (lo.drop kk))[j]?=some u→u5.cell? (ad.add j)=some u:=by
            intro ad e j u hj
            obtain⟨ad0,e0,rfl⟩:=Option.map_eq_some_iff.1 e;rw[addr_two]
            exact trow_drop HCL.out hkk ad0 e0 j u hj
           go_wp2_with (first
            |(at_builtin;refine wpList_append_terms _ rfl _ _ rfl U1 n5 _ ls rfl hO5 HN5L.out (Option.map (fun x:Addr=>x.add (kk*3)) a7) (lo.length-kk) (c7-kk) (lo.drop kk) rfl (by rw[List.length_drop]) hno hce (by omega) hs5 ?_)
            |go_in)
           intro a9 c9 u6 ho6 hg6
           have hF6:Fr (fun i=>(Value.slice a5 n5 c5).ownBlock=some i) u5 u6:=(fr_grown hg6).mono fun i e=>e
           have HN6:Hid (New w u6):=Lib.hid (HN5.out.next hF6 fun j hj=>.inr (by have:=own_lb HX5.out j hj;omega));have HO6:=Lib.hid ho6;clear hF6 hg6 ho6 hO5;go_wp2
           go_roundw
           case rel=>exact⟨i+1,_,by omega,by go_num,HLO6,Lib.hid (by rw[←HNL6.out];exact own_base HO6.out (Nat.le_trans hB hw1)),HN6⟩
           case measure=>simp[intOf];omega
  · obtain rfl:i=n':=by omega
    have HLE:Hid (lo=sumT l more (d1,d2) c):=Lib.hid (by rw[HL.out,List.take_of_length_le (by have:=HN'.out;omega)]);go_wp2;go_ret
    exact⟨_,rfl,Lib.hid (by rw[←HLE.out];exact HOW.out),HF.out⟩
end Go.Proofs.YtlicglicfijelaaGreat
