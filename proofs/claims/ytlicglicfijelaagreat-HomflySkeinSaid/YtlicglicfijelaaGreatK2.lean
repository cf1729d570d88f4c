/- Walks: sameTwos. -/
import Derived.Laws.StructEq
import Derived.BigQuiet
import Derived.Test.YtlicglicfijelaaGreatH3
import Derived.Test.YtlicglicfijelaaGreatN8a
import Derived.Test.YtlicglicfijelaaGreatMAll
import Derived.Shelf.SlSortCmp.NoneTotal
import Derived.Test.YtlicglicfijelaaGreatH1
import Derived.Sort.MapsRangeIn
import Derived.RangeFuncSeq
import Derived.Test.YtlicglicfijelaaGreatW11
import Derived.Test.YtlicglicfijelaaGreatW12
/- Walks: sameTwos. -/
namespace Go.Proofs.YtlicglicfijelaaGreat
open Go.RowKit
open Kn (E2 L2)

theorem t33a:Tryz.prog.eqGuardType Tryz.prog.depth 63=false:=by kernel_rfl
theorem t33b:Tryz.prog.stoodInHeld 63=false:=by kernel_rfl
theorem t33c:Tryz.prog.underlying 63=some (.struct (Tryz.prog.fieldsOf 63)):=by kernel_rfl
theorem t33d : (Tryz.prog.fieldsOf 63).toList.map (fun f => (f.type, f.name, f.offset)) = [(3, "X", 0), (3, "Z", 1), (3, "Coef", 2)] := by kernel_rfl
theorem hne33(w:World)(a b c d e f:Int):(binOp .neq 63 (.agg #[.int .i64 a,.int .i64 b,.int .i64 c]) (.agg #[.int .i64 d,.int .i64 e,.int .i64 f])).run Tryz.prog w=.ok (.bool (!(a==d&&b==e&&c==f))) w:=by
 rw[run_neq_struct,run_equalIn_agg _ _ _ _ _ t33c t33b];have h4:=t33d
 rcases h:(Tryz.prog.fieldsOf 63).toList with _|⟨f1,_|⟨f2,_|⟨f3,_|⟨f4,r⟩⟩⟩⟩<;>simp[h]at h4
 obtain⟨⟨t1,n1,o1⟩,⟨t2,n2,o2⟩,t3,n3,o3⟩:=h4;have hu:=Tryz.underlying3;obtain⟨i0,hi0,hz1,hz2⟩:=info_parts Tryz.info3
 cases had:a==d<;>simp[go_sem,Op.eqFields,n1,n2,n3,t1,t2,t3,o1,o2,o3,part,sizeOf,typeInfo,hi0,hz1,run_equalIn_int _ _ _ .i64 .i64 _ _ hu,had]
 by_cases hbe:b=e<;>by_cases hcf:c=f<;>simp[hbe,hcf]
abbrev tmG(l:L2)(k:Nat):E2×Int:=l.getD k ((0,0),0)
def T2At(w:World)(a:Option Addr)(l:L2):Prop:=
 l=[]∨∃b o,a=some ⟨b,o,none⟩∧∀i,i<l.length→w.cell? ⟨b,o+i*3,none⟩=some (.int .i64 (tmG l i).1.1)∧w.cell? ⟨b,o+i*3+1,none⟩=some (.int .i64 (tmG l i).1.2)∧w.cell? ⟨b,o+i*3+2,none⟩=some (.int .i64 (tmG l i).2)
theorem T2At.at{w:World}{a:Option Addr}{l:L2}(h:T2At w a l){k:Nat}(hk:k<l.length):
 ∃b o,a=some ⟨b,o,none⟩∧w.cell? ⟨b,o+k*3,none⟩=some (.int .i64 (tmG l k).1.1)∧w.cell? ⟨b,o+k*3+1,none⟩=some (.int .i64 (tmG l k).1.2)∧w.cell? ⟨b,o+k*3+2,none⟩=some (.int .i64 (tmG l k).2):=by
 rcases h with rfl|⟨b,o,rfl,h⟩
 · simp at hk
 · exact⟨b,o,rfl,h k hk⟩
theorem New.t2{w w':World}(h:New w w'){a:Option Addr}{l:L2}(ht:T2At w a l):T2At w' a l:=by
 rcases ht with rfl|⟨b,o,rfl,hc⟩
 · exact .inl rfl
 · exact .inr ⟨b,o,rfl,fun i hi=>⟨h.cell (hc i hi).1 (fun x=>x),h.cell (hc i hi).2.1 (fun x=>x),h.cell (hc i hi).2.2 (fun x=>x)⟩⟩
theorem tm_ext{x y:L2}(hl:x.length=y.length)(h:∀j,j<x.length→tmG x j=tmG y j):x=y:=by
 refine List.ext_getElem hl fun i h1 h2=>?_
 have:=h i h1
 simpa[List.getD_eq_getElem?_getD,h1,h2]using this
set_option maxRecDepth 100000 in
set_option maxHeartbeats 1000000 in
theorem sametwos_any(a a':Option Addr)(n n' c c':Nat)(x y:L2)(w:World)(hx:T2At w a x)(hy:T2At w a' y)(hn:n=x.length)(hn':n'=y.length)(lx:n≤1000000)(ly:n'≤1000000):
 Calls Tryz.prog 7 #[.slice a n c,.slice a' n' c'] w fun e w'=>e=.returned (.bool (decide (x=y)))∧New w w':=by
 have HX:=Lib.hid hx;have HY:=Lib.hid hy;have HL:=Lib.hid hn;have HL':=Lib.hid hn';clear hx hy hn hn';have q1':=t33a;have hu:=Tryz.underlying3
 by_cases h:n=n'
 · subst h
   go_enter Tryz.func7,Tryz.ntmps7
   go_wp2
   go_loopw [5] (fun i wr=>∃k:Nat,k≤n∧i=.int .i64 k∧Hid (New w wr)∧Hid (∀j,j<k→tmG x j=tmG y j)) (fun i _=>n-(intOf i).toNat)
   case atStart=>exact⟨0,by omega,rfl,Lib.hid (Fr.refl _ _),Lib.hid fun j hj=>by omega⟩
   case round=>
    obtain⟨k,hk,rfl,HF,HE⟩:=hrel
    by_cases hlt:k<n
    · obtain⟨b,o,rfl,d1,d2,d3⟩:=(New.t2 HF.out HX.out).at (k:=k) (by have:=HL.out;omega)
      obtain⟨b',o',rfl,d4,d5,d6⟩:=(New.t2 HF.out HY.out).at (k:=k) (by have:=HL'.out;omega)
      obtain⟨e1,H1⟩:∃e,Hid (e=(tmG x k).1.1):=⟨_,Lib.hid rfl⟩
      obtain⟨e2,H2⟩:∃e,Hid (e=(tmG x k).1.2):=⟨_,Lib.hid rfl⟩
      obtain⟨e3,H3⟩:∃e,Hid (e=(tmG x k).2):=⟨_,Lib.hid rfl⟩
      obtain⟨e4,H4⟩:∃e,Hid (e=(tmG y k).1.1):=⟨_,Lib.hid rfl⟩
      obtain⟨e5,H5⟩:∃e,Hid (e=(tmG y k).1.2):=⟨_,Lib.hid rfl⟩
      obtain⟨e6,H6⟩:∃e,Hid (e=(tmG y k).2):=⟨_,Lib.hid rfl⟩
      rw[←H1.out]at d1;rw[←H2.out]at d2;rw[←H3.out]at d3;rw[←H4.out]at d4;rw[←H5.out]at d5;rw[←H6.out]at d6
      have i1:(0:Int)≤(k:Int):=by omega
      have i2:(k:Int)<(n:Int):=by omega
      by_cases hq:e1=e4∧e2=e5∧e3=e6
      · have hn:∀w,(binOp .neq 63 (.agg #[.int .i64 e1,.int .i64 e2,.int .i64 e3]) (.agg #[.int .i64 e4,.int .i64 e5,.int .i64 e6])).run Tryz.prog w=.ok (.bool false) w:=fun w=>by rw[hne33];simp[hq.1,hq.2.1,hq.2.2]
        have HQ:=Lib.hid hq;clear hq;go_wp2
        go_quiet (fail)
        go_wp2
        go_roundw
        case rel=>
         refine⟨k+1,by omega,by go_num,Lib.hid (HF.out.drewN _),Lib.hid fun j hj=>?_⟩
         by_cases e:j=k
         · subst e
           obtain⟨g1,g2,g3⟩:=HQ.out
           exact Prod.ext (Prod.ext (by rw[←H1.out,←H4.out,g1]) (by rw[←H2.out,←H5.out,g2])) (by rw[←H3.out,←H6.out,g3])
         · exact HE.out j (by omega)
        case measure=>simp[intOf];omega
      · have hn:∀w,(binOp .neq 63 (.agg #[.int .i64 e1,.int .i64 e2,.int .i64 e3]) (.agg #[.int .i64 e4,.int .i64 e5,.int .i64 e6])).run Tryz.prog w=.ok (.bool true) w:=fun w=>by
         rw[hne33]
         have:(e1==e4&&e2==e5&&e3==e6)=false:=by
          rw[Bool.eq_false_iff];intro x;simp at x;exact hq ⟨x.1.1,x.1.2,x.2⟩
         rw[this];rfl
        have HQ:Hid (x≠y):=Lib.hid fun e=>hq ⟨by rw[H1.out,H4.out,e],by rw[H2.out,H5.out,e],by rw[H3.out,H6.out,e]⟩
        clear hq;go_wp2
        go_quiet (fail)
        go_wp2;go_ret
        exact⟨ret_bool (decide_eq_false HQ.out).symm,HF.out.drewN _⟩
    · obtain rfl:k=n:=by omega
      have HQ:Hid (x=y):=Lib.hid (tm_ext (by rw[←HL.out,HL'.out]) fun j hj=>HE.out j (by rw[HL.out];exact hj));go_wp2;go_ret
      exact⟨ret_bool (decide_eq_true HQ.out).symm,HF.out⟩
 · have HQ:Hid (x≠y):=Lib.hid fun e=>h (by rw[HL.out,HL'.out,e])
   have hb:¬(n:Int)=(n':Int):=by omega
   go_enter Tryz.func7,Tryz.ntmps7
   go_wp2;go_ret
   exact⟨ret_bool (decide_eq_false HQ.out).symm,Fr.refl _ _⟩
end Go.Proofs.YtlicglicfijelaaGreat

/- Words for sumTwo: where a term goes. -/
namespace Go.Proofs.YtlicglicfijelaaGreat
open Go.RowKit
open Kn (E2 L2 lt2 insT)

theorem tm_at{l:L2}{k:Nat}(hk:k<l.length):tmG l k=l[k]:=by unfold tmG;rw[List.getD_eq_getElem?_getD,List.getElem?_eq_getElem hk];rfl
def ins2:L2→E2×Int→L2
 |[],t=>if t.2≠0 then [t]else []
 |o :: os,t=>if o.1=t.1 then(if t.2+o.2≠0 then(t.1,t.2+o.2) :: os else os)else if t.2≠0 then t :: o :: os else o :: os
theorem insT_at:∀(l:L2) (t:E2×Int) (k:Nat),k≤l.length→(∀j,j<k→lt2 (tmG l j).1 t.1)→(k<l.length→¬lt2 (tmG l k).1 t.1)→insT l t=l.take k++ins2 (l.drop k) t
 |[],t,k,h,_,_=>by
  obtain rfl:k=0:=by simpa using h
  rfl
 |o :: os,t,0,_,_,h=>by
  have h1:¬lt2 o.1 t.1:=h (by simp)
  rw[List.take_zero,List.nil_append,List.drop_zero,insT,if_neg h1];rfl
 |o :: os,t,k+1,h,h1,h2=>by
  have h3:lt2 o.1 t.1:=h1 0 (by omega);rw[insT,if_pos h3,List.take_succ_cons,List.drop_succ_cons,List.cons_append,insT_at os t k (by simpa using h) (fun j hj=>h1 (j+1) (by omega)) fun hk=>h2 (by simpa using hk)]
theorem ins2_eq{l:L2}{t:E2×Int}{k:Nat}(hk:k<l.length)(e:(tmG l k).1=t.1):ins2 (l.drop k) t=(if t.2+(tmG l k).2≠0 then [(t.1,t.2+(tmG l k).2)]else [])++l.drop (k+1):=by
 rw[tm_at hk]at e ⊢;rw[List.drop_eq_getElem_cons hk,ins2,if_pos e]
 split<;>rfl
theorem ins2_ne{l:L2}{t:E2×Int}{k:Nat}(h:k<l.length→(tmG l k).1≠t.1):ins2 (l.drop k) t=(if t.2≠0 then [t]else [])++l.drop k:=by
 by_cases hk:k<l.length
 · have e:=h hk
   rw[tm_at hk]at e;rw[List.drop_eq_getElem_cons hk,ins2,if_neg e]
   split<;>rfl
 · rw[List.drop_eq_nil_of_le (by omega),ins2]
   split<;>rfl
theorem sumT_snoc(l more:L2)(t:E2×Int)(d:E2)(c:Int):Kn.sumT l (more++[t]) d c=insT (Kn.sumT l more d c) (t.1+d,t.2*c):=by
 unfold Kn.sumT;rw[List.foldl_append];rfl
theorem insT_len(t:E2×Int):∀l:L2,(insT l t).length≤l.length+1
 |[]=>by unfold insT;split<;>simp
 |o :: os=>by
  unfold insT
  have:=insT_len t os
  split
  · simp only[List.length_cons];omega
  · split
    · split<;>simp<;>omega
    · split<;>simp<;>omega
theorem sumT_len(d:E2)(c:Int):∀(more l:L2),(Kn.sumT l more d c).length≤l.length+more.length
 |[],l=>by show l.length≤_;simp
 |t :: more,l=>by
  rw[Kn.sumT_cons];have h1:=sumT_len d c more (insT l (t.1+d,t.2*c));have h2:=insT_len (t.1+d,t.2*c) l
  simp only[List.length_cons];omega
theorem insT_sz(t:E2×Int):∀l:L2,Kn.szL (insT l t)≤Kn.szL l+t.2.natAbs
 |[]=>by
  unfold insT;split
  · rw[Kn.szL_cons];omega
  · exact Nat.zero_le _
 |o :: os=>by
  unfold insT
  have:=insT_sz t os
  split
  · rw[Kn.szL_cons,Kn.szL_cons];omega
  · split
    · split
      · rw[Kn.szL_cons,Kn.szL_cons];simp only;omega
      · rw[Kn.szL_cons];omega
    · split
      · rw[Kn.szL_cons];omega
      · omega
theorem sumT_sz(d:E2)(c:Int):∀(more l:L2),Kn.szL (Kn.sumT l more d c)≤Kn.szL l+c.natAbs*Kn.szL more
 |[],l=>by show Kn.szL l≤_;omega
 |t :: more,l=>by
  rw[Kn.sumT_cons,Kn.szL_cons,Nat.mul_add];have h1:=sumT_sz d c more (insT l (t.1+d,t.2*c));have h2:=insT_sz (t.1+d,t.2*c) l;simp only[Int.natAbs_mul]at h2;rw[Nat.mul_comm t.2.natAbs]at h2
  omega
end Go.Proofs.YtlicglicfijelaaGreat

/- Walks: cmp.Or, the order of powers. -/
namespace Go.Proofs.YtlicglicfijelaaGreat
open Go.RowKit
open Kn (E2 L2)

theorem or_any(g c:Nat)(x y:Int)(w:World)(h0:w.cell? ⟨g,0,none⟩=some (.int .i64 x))(h1:w.cell? ⟨g,1,none⟩=some (.int .i64 y)):
 Calls Tryz.prog 17 #[.slice (some ⟨g,0,none⟩) 2 c] w (fun e w'=>e=.returned (.int .i64 (if x=0 then y else x))∧w'=w):=by
 go_enter Tryz.func17,Tryz.ntmps17
 go_wp2
 go_loopw [8] (fun i wr=>∃q:Nat,wr=w∧q≤2∧i=.int .i64 q∧Hid ((0<q→x=0)∧(1<q→y=0))) (fun i _=>2-(intOf i).toNat)
 case atStart=>exact⟨0,rfl,by omega,rfl,Lib.hid ⟨by omega,by omega⟩⟩
 case round=>
  obtain⟨q,rfl,hq,rfl,HQ⟩:=hrel
  rcases (show q=0∨q=1∨q=2 by omega)with rfl|rfl|rfl
  · by_cases hx:x=0
    · subst hx
      go_wp2
      go_roundw
      case rel=>exact⟨1,by trivial,by omega,by first|rfl|trivial,Lib.hid (by constructor<;>intro h<;>first|trivial|omega)⟩
      case measure=>simp[intOf]
    · go_wp2
      go_ret
      exact⟨by first|rfl|(rw[if_neg hx];rfl),rfl⟩
  · have hx:=HQ.out.1 (by omega)
    by_cases hy:y=0
    · subst hy
      go_wp2
      go_roundw
      case rel=>exact⟨2,by trivial,by omega,by first|rfl|trivial,Lib.hid (by constructor<;>intro h<;>first|trivial|omega)⟩
      case measure=>simp[intOf]
    · go_wp2
      go_ret
      exact⟨by first|rfl|(rw[if_pos hx];rfl),rfl⟩
  · have hx:=HQ.out.1 (by omega)
    have hy:=HQ.out.2 (by omega);go_wp2;go_ret
    exact⟨by first|rfl|(rw[if_pos hx,hy];rfl),rfl⟩

def cmpP(p q:E2):Int:=if p.1-q.1=0 then p.2-q.2 else p.1-q.1
set_option maxRecDepth 100000 in
set_option maxHeartbeats 1000000 in
theorem cmpP_any(p q:E2)(w:World)(hp:isPw p)(hq:isPw q):
 Calls Tryz.prog 16 #[pV p,pV q] w (fun e w'=>e=.returned (.int .i64 (cmpP p q))∧∃n os',w'=Go.Sort.grow (w.drewN n) os'):=by
 obtain⟨a,b⟩:=p;obtain⟨c,d⟩:=q;obtain⟨⟨h1,h2⟩,h3,h4⟩:=hp;obtain⟨⟨h5,h6⟩,h7,h8⟩:=hq;simp only at h1 h2 h3 h4 h5 h6 h7 h8
 obtain⟨w1,HW1⟩:∃w1,Hid (w1=(w.alloc (.cells #[.int .i64 a,.int .i64 b] 56)).alloc (.cells #[.int .i64 c,.int .i64 d] 56)):=⟨_,Lib.hid rfl⟩
 have q1:w1.heap[w.heap.size]?=some (.cells #[.int .i64 a,.int .i64 b] 56 (0,0)):=by rw[HW1.out];exact(Below.heap_alloc _ _ _ (by simp)).trans (heap_alloc_new _ _)
 have q2:w1.heap[w.heap.size+1]?=some (.cells #[.int .i64 c,.int .i64 d] 56 (0,0)):=by
  have:=heap_alloc_new (w.alloc (.cells #[.int .i64 a,.int .i64 b] 56)) (.cells #[.int .i64 c,.int .i64 d] 56)
  rw[World.size_alloc,←HW1.out]at this;exact this
 obtain⟨k1,k2,_,_⟩:=box2_c q1;obtain⟨k3,k4,_,_⟩:=box2_c q2;clear q1 q2;rw[HW1.out]at k1 k2 k3 k4
 go_enter Tryz.func16,Tryz.ntmps16
 go_wp2_with fail;have z:=heap_alloc_new ((w.alloc (.cells #[.int .i64 a,.int .i64 b] 56)).alloc (.cells #[.int .i64 c,.int .i64 d] 56)) (.cells #[.int .i64 (a-c),.int .i64 (b-d)] 3);rw[World.size_alloc,World.size_alloc]at z;obtain⟨z1,z2,_,_⟩:=box2_c z;refine(or_any (w.heap.size+1+1) 2 (a-c) (b-d) _ z1 z2).mono ?_;rintro e w5 ⟨rfl,rfl⟩
 obtain⟨ov,HOV⟩:∃ov,Hid (ov=if a-c=0 then b-d else a-c):=⟨_,Lib.hid rfl⟩
 rw[←HOV.out];go_wp2;go_ret
 exact⟨by rw[HOV.out];rfl,0,_,by rw[Go.Sort.alloc_eq_grow,Go.Sort.alloc_eq_grow,Go.Sort.alloc_eq_grow,Go.Sort.grow_grow,Go.Sort.grow_grow];rfl⟩
end Go.Proofs.YtlicglicfijelaaGreat

/- Walks: maps.Keys of powers and its iterator. -/
namespace Go.Proofs.YtlicglicfijelaaGreat
open Go.RowKit Go.Shelf
open Kn (E2 L2 cf)
attribute [local go_sem] Oper.semAt_some

structure KeyS(l:L2)(xs:List E2):Prop where
 nd:xs.Nodup
 mem:∀p∈xs,∃t∈l,t.1=p
 all:∀p,cf l p≠0→p∈xs
theorem PPart.keys{D:DataW Unit}{l:L2}{left:Lit→Bool}{done:L2}(h:PPart D l left done)(hl:∀k,left k=false)(hp:∀t∈l,isPw t.1):KeyS l (done.map (·.1)):=by
 refine⟨h.nd,fun p hpm=>?_,fun p hc=>?_⟩
 · obtain⟨t,ht,rfl⟩:=List.mem_map.1 hpm
   exact h.mem t ht
 · rw[←h.cf hl hp p]at hc
   apply Classical.byContradiction
   intro hn
   exact hc (Kn.cf_out fun t ht e=>hn (List.mem_map.2 ⟨t,ht,e⟩))
set_option maxRecDepth 100000 in
set_option maxHeartbeats 4000000 in
theorem keys1_in(nn l Bm b m:Nat)(D:DataW Unit)(L:L2)(J Jx:List E2→World→Prop)
 (hY:∀pre x W,J pre W→pre.length<Maps.size D→YieldAt Fence.wide (nn-1) Tryz.prog l #[pV x] W fun e W'=>(e=.returned (.bool true)∧J (pre++[x]) W'∧KeepsWalks W W')∨(e=.returned (.bool false)∧Jx (pre++[x]) W'))
 (W:World) (hJ:AbidesFrom W.heap.size J) (hm:W.cell? ⟨Bm,0,none⟩=some (.map (some b))) (hown:W.ownsMap Tryz.prog 56 (plainElem Tryz.prog 3) b m D) (hd:PD D L) (hp:∀t∈L,isPw t.1) (h0:J [] W):
 CallsIn Fence.wide nn Tryz.prog 29 #[.func (.yield l) #[] #[],.pointer (some ⟨Bm,0,none⟩)] W fun e W'=>(∃v,e=.returned v)∧((∃xs,KeyS L xs∧J xs W')∨(∃pre,True∧Jx pre W')):=by
 have HY:=Lib.hid hY;have HD:=Lib.hid hd;have HP:=Lib.hid hp;have HJ:=Lib.hid hJ;clear hY hd hp
 refine callsIn_of_wp Tryz.func29 rfl trivial ?_ rfl
 simp only[Tryz.ntmps29,List.size_toArray,List.length_cons,List.length_nil,Nat.reduceAdd,Nat.reduceSub,Array.replicate_succ,Array.replicate_zero,List.push_toArray,List.append_toArray,List.nil_append,List.cons_append]
 gi_wp2_with (first
  |(gi_at_range;refine wpListIn_range_own _ rfl _ 48 rfl 56 3 Tryz.law56 Tryz.ul48 _ b m _ rfl hown ?_;intro w0 hrg0 hg0 hs0)
  |gi_in)
 go_frame
 gi_loopw [3] (fun _ wr=>∃(left:Lit→Bool) (cnt:Nat) (done:L2),PRg wr b W.heap.size m D left cnt∧done.length+cnt≤Maps.size D∧Hid (PPart D L left done)∧J (done.map (·.1)) wr) (fun _ wr=>wr.rangeLeft b W.heap.size)
 case atStart=>
  exact⟨_,_,[],hrg0,by simp,Lib.hid (PPart.start HD.out),HJ.out [] W w0 none h0 hg0 (fun r e=>by cases e)⟩
 case round=>
  obtain⟨left,cnt,done,hrg,hcs,HPP,hJs⟩:=hrel
  gi_wp2_with (first
   |(gi_at_next;refine wpListIn_next_ranges _ rfl _ rfl 56 Tryz.law56 (plainElem Tryz.prog 3) id id (fun key _ _=>⟨key,rfl⟩) (fun v _ _=>⟨v,rfl⟩) b W.heap.size m _ _ _ rfl hrg ?_ ?_)
   |gi_in)
  · intro hc0 hl0
    have HL0:=Lib.hid hl0;clear hl0
    gi_wp2
    go_end0
    exact⟨⟨_,rfl⟩,.inl ⟨_,HPP.out.keys HL0.out HP.out,hJs⟩⟩
  · intro x c kl yd yp w2 cnt2 hkey hlk hv hat hrg2 hlt hg2 hs2 hen
    obtain⟨⟨m1,m2⟩,hkp,hmem⟩:=HPP.out.pd.key kl (HPP.out.sub kl hlk);have ex:x=pV (m1,m2):=Tryz.law56.inj hkey hkp;subst ex;have HPP2:Hid (PPart D L (fun z=>left z && !z.sameKey kl) (done++[((m1,m2),cf L (m1,m2))])):=Lib.hid (HPP.out.step hkp hlk hmem);have hJ2:J (done.map (·.1)) w2:=HJ.out _ wr w2 (some W.heap.size) hJs hg2 (fun r e=>by cases e;exact⟨Nat.le_refl _,hrg.iter_walk⟩)
    obtain⟨wz,HWZ⟩:∃z,Hid (z=w2.alloc (.cells #[.int .i64 m1,.int .i64 m2] 56)):=⟨_,Lib.hid rfl⟩
    have hJ3:J (done.map (·.1)) wz:=by rw[HWZ.out];exact HJ.out _ w2 _ none hJ2 (World.grownBy_alloc _ _ none) (fun r e=>by cases e)
    have hrgz:PRg wz b W.heap.size m D (fun z=>left z && !z.sameKey kl) cnt2:=by rw[HWZ.out];exact hrg2.alloc _
    have hz:=heap_alloc_new w2 (.cells #[.int .i64 m1,.int .i64 m2] 56);obtain⟨z1,z2,_,_⟩:=box2_c hz;obtain⟨fn,tmps,assign,body,hy,hR⟩:=HY.out (done.map (·.1)) (m1,m2) wz hJ3 (by rw[List.length_map];omega);rw[HWZ.out]at hy;have HRR:=Lib.hid hR;have HRGZ:=Lib.hid hrgz;have hen':(Instr.entry (.pointer (some ⟨W.heap.size,0,none⟩))).run Tryz.prog w2=.ok (.tuple #[.agg #[.int .i64 m1,.int .i64 m2],c]) w2:=hen;clear hs2 hkey hv hat hrg2 hg2 hJ2 hJ3 hz hR hrgz hen hJs
    gi_wp2
    rw[←HWZ.out]
    refine⟨wideD,HRR.out.mono ?_⟩
    rintro e W3 (⟨rfl,hJ4,hk3⟩|⟨rfl,hJx3⟩)
    · have hrg3:=HRGZ.out.of_walks hk3
      have HJ4:=Lib.hid hJ4;clear hJ4 hk3
      gi_wp2
      go_roundw
      case rel=>exact⟨_,cnt2,done++[((m1,m2),cf L (m1,m2))],hrg3,by rw[List.length_append,List.length_singleton];omega,HPP2,by rw[List.map_append];exact HJ4.out⟩
      case measure=>rw[hrg3.left_eq,hrg.left_eq];exact hlt
    · gi_wp2
      refine bodyPost_ret (results_none rfl _ _ _) rfl ?_
      exact⟨⟨_,rfl⟩,.inr ⟨done.map (·.1)++[(m1,m2)],trivial,hJx3⟩⟩
set_option maxHeartbeats 1000000 in
theorem keys_in(nn mb:Nat)(w:World):
 CallsIn Fence.wide nn Tryz.prog 15 #[.map (some mb)] w fun e w'=>e=.returned (.func (.func 29) #[] #[.pointer (some ⟨w.heap.size,0,none⟩)])∧w'=w.alloc (.cells #[.map (some mb)] 48):=by
 refine callsIn_of_wp Tryz.func15 rfl trivial ?_ rfl
 simp only[Tryz.ntmps15,List.size_toArray,List.length_cons,List.length_nil,Nat.reduceAdd,Nat.reduceSub,Array.replicate_succ,Array.replicate_zero,List.push_toArray,List.append_toArray,List.nil_append,List.cons_append]
 gi_wp2
 go_ret
 exact⟨rfl,rfl⟩
end Go.Proofs.YtlicglicfijelaaGreat

/- Walks: slices.AppendSeq of powers. -/
namespace Go.Proofs.YtlicglicfijelaaGreat
open Go.RowKit Go.Shelf
open Kn (E2 L2 cf)
attribute [local go_sem] Oper.semAt_some

theorem Tryz.info56:(Tryz.prog.info? 56).map (fun i=>(i.zero,i.size,i.bytes))=some (some (.agg #[.int .i64 0,.int .i64 0]),2,16):=by kernel_rfl
theorem cells_not_walk{o:Obj}(h:o.isCells=true):o.isWalk=false:=by
 cases o<;>first|rfl|(simp[Obj.isCells]at h)
def pcells(l:List E2):List Value:=l.flatMap fun p=>[.int .i64 p.1,.int .i64 p.2]
theorem pcells_snoc(l:List E2)(p:E2):pcells (l++[p])=pcells l++[.int .i64 p.1,.int .i64 p.2]:=by simp[pcells]
theorem one_pow(x y:Int):∀u∈[Value.int .i64 x,.int .i64 y],u.oneCell'=true:=by
 intro u hu
 simp only[List.mem_cons,List.not_mem_nil,or_false]at hu
 rcases hu with rfl|rfl<;>rfl
structure ApI(w:World)(pre:List E2)(W:World):Prop where
 new:New w W
 box:∃v,W.heap[w.heap.size]?=some (.cells #[v] 53 (0,0))∧W.ownsRow w.heap.size 56 2 v pre.length (pcells pre)
theorem ApI.kept{w:World}{pre:List E2}{W W':World}{row:Option Nat}(h:ApI w pre W)(hg:W.grownBy W' row)(hr:∀r,row=some r→w.heap.size+1≤r∧∃o:Obj,W.heap[r]?=some o∧o.isCells=false):ApI w pre W':=by
 have hF:=fr_grown hg
 have hcell:∀{k:Nat} {o:Obj},W.heap[k]?=some o→o.isCells=true→¬row=some k:=fun {k o} ho hc e=>by
  obtain⟨_,o',ho',hc'⟩:=hr k e
  rw[ho]at ho';cases ho'
  rw[hc]at hc';cases hc'
 obtain⟨v,hv,ho⟩:=h.box
 exact⟨h.new.next hF fun k e=>.inr (by have:=(hr k e).1;omega),v,(hF.block _ (Array.getElem?_eq_some_iff.1 hv).1 (hcell hv rfl)).trans hv,hF.owns ho fun k hk=>by
  obtain⟨o,h1,h2⟩:=own_cells ho k hk
  exact hcell h1 h2⟩
theorem ownsMap_below{w W:World}{b m:Nat}{D:DataW Unit}(h:w.ownsMap Tryz.prog 56 (plainElem Tryz.prog 3) b m D)(hW:Below w.heap.size w W):W.ownsMap Tryz.prog 56 (plainElem Tryz.prog 3) b m D:=by
 have hbl:=h.lt;obtain⟨es,clock,hb,Ft,hs,hD⟩:=h
 exact⟨es,clock,(hW.block b hbl).trans hb,Ft,hs,hD⟩
set_option maxRecDepth 100000 in
set_option maxHeartbeats 4000000 in
theorem appendseq_in(Bm b m:Nat)(D:DataW Unit)(L:L2)(w:World)(hB:Bm<w.heap.size)(hm:w.cell? ⟨Bm,0,none⟩=some (.map (some b)))(hown:w.ownsMap Tryz.prog 56 (plainElem Tryz.prog 3) b m D)(hd:PD D L)(hp:∀t∈L,isPw t.1)(hsz:Maps.size D≤1000000000):
 CallsIn Fence.wide 8 Tryz.prog 45 #[.slice none 0 0,.func (.func 29) #[] #[.pointer (some ⟨Bm,0,none⟩)]] w fun e w'=>∃v xs,e=.returned v∧KeyS L xs∧w'.ownsRow w.heap.size 56 2 v xs.length (pcells xs)∧New w w':=by
 have HOW:=Lib.hid hown;have HD:=Lib.hid hd;have HP:=Lib.hid hp;clear hown hd hp
 refine callsIn_of_wp_marks Tryz.func45 rfl trivial ?_ rfl
 simp only[Tryz.ntmps45,List.size_toArray,List.length_cons,List.length_nil,Nat.reduceAdd,Nat.reduceSub,Array.replicate_succ,Array.replicate_zero,List.push_toArray,List.append_toArray,List.nil_append,List.cons_append]
 gi_wp2
 obtain⟨W0,hW0⟩:∃W0,w.alloc (.cells #[.slice none 0 0] 53)=W0:=⟨_,rfl⟩
 have hs0:W0.heap.size=w.heap.size+1:=by rw[←hW0];simp
 have hb0:New w W0:=by rw[←hW0];exact(Fr.refl _ _).alloc _
 have h0:ApI w [] W0:=⟨hb0,_,by rw[←hW0];exact heap_alloc_new w _,⟨rfl,.inl ⟨rfl,rfl⟩⟩⟩;rw[hW0]
 have hm0:=hb0.cell hm fun x=>x
 have hown0:W0.ownsMap Tryz.prog 56 (plainElem Tryz.prog 3) b m D:=by rw[←hW0];exact HOW.out.alloc _
 refine wpIn_rangeFunc_ownH rfl (by omega) (gf:=29) (lb:=#[.pointer (some ⟨Bm,0,none⟩)]) rfl trivial (enters_of Tryz.func29 (by kernel_rfl) rfl)
  (encs:=fun x:E2=>#[pV x]) (Kp:=KeepsWalks) (S:=KeyS L) (Sp:=fun _=>True) (N:=Maps.size D) (w0:=W0)
  (fun l J Jx W hW hJ _ hY h0=>keys1_in 7 l Bm b m D L J Jx hY W hJ ((hW.cell (p:=⟨Bm,0,none⟩) (by show Bm<_;omega)).trans hm0) (ownsMap_below hown0 hW) HD.out HP.out h0)
  (fun h k=>h.trans k) (fun W l o o' _ h _ hw=>KeepsWalks.putObj _ h hw) (Below.refl _ _) (fun _=>rfl)
  (ApI w) (fun _ _ _=>False) (fun _ _ _ _ hs hg hr=>hs.kept hg fun r e=>⟨by have:=(hr r e).1;omega,(hr r e).2⟩) (fun _ _ _ _ _ hs _ _=>hs) h0
  (fun x a' W=>∃Bx,w.heap.size+1≤Bx∧W.heap[Bx]?=some (.cells #[.int .i64 x.1,.int .i64 x.2] 56 (0,0))∧a'={ tmps:=#[.slice none 0 0,.func (.func 29) #[] #[.pointer (some ⟨Bm,0,none⟩)],.pointer (some ⟨w.heap.size,0,none⟩),undef,.slice none 0 0,.pointer (some ⟨Bx,0,none⟩),.func (.func 29) #[] #[.pointer (some ⟨Bm,0,none⟩)],pV x,undef,undef,undef,undef,undef],defers:=[] })
  ?hax ?assign ?body ?done ?stop
 case hax=>
  rintro x a' _ A B row ⟨Bx,h1,h2,h3⟩ hg hr
  refine⟨Bx,h1,((fr_grown hg).block _ (Array.getElem?_eq_some_iff.1 h2).1 fun e=>?_).trans h2,h3⟩
  obtain⟨_,o,ho,hc⟩:=hr Bx e;rw[show A.heap[Bx]?=_ from h2]at ho
  cases ho;cases hc
 case assign=>
  intro l pre x W K hI hK
  gi_wp2
  refine hK _ _ ((KeepsOthers.alloc _ _).from _) (KeepsWalks.alloc _ _) ?_ ⟨W.heap.size,?_,heap_alloc_new _ _,rfl⟩
  · exact hI.kept (World.grownBy_alloc _ _ none) fun r e=>by cases e
  · obtain⟨v,hv,_⟩:=hI.box
    have:=(Array.getElem?_eq_some_iff.1 hv).1
    omega
 case done=>
  rintro Dd ys W hD hy hI hK
  have hI2:=hI.kept (grownBy_putObj' W Dd (.deferred none)) fun r e=>by cases e;exact⟨by omega,_,hK,rfl⟩
  obtain⟨v,hv,hrow⟩:=hI.box;obtain⟨v2,hv2,hrow2⟩:=hI2.box
  have hvv:v2=v:=by
   have e1:=(box_c hv2).1
   have e2:=cell_kept (box_c hv).1 (grownBy_putObj' W Dd (.deferred none)) fun r e=>by cases e;exact⟨_,hK,rfl⟩
   rw[e1]at e2
   exact Option.some.inj e2
  subst hvv;have hc4:W.cell? ⟨w.heap.size,0,none⟩=some v2:=(box_c hv).1;have HR2:=Lib.hid hrow2;have HI2:=Lib.hid hI2.new;have HDD:=Lib.hid hK;have HY:=Lib.hid hy;clear hrow hrow2 hI2 hK hy hI hv hv2
  gi_wp2
  refine⟨by simp,.inl ⟨_,_,rfl,run_takeDeferred HDD.out,?_⟩⟩
  exact⟨_,results_tmp rfl _ _ _,v2,ys,rfl,HY.out,HR2.out,HI2.out⟩
 case stop=>
  rintro Dd c pre W _ _ h _
  exact h.elim
 case body=>
  rintro l pre ⟨m1,m2⟩ a' W hl2 ⟨r,hr⟩ hI ⟨Bx,hBx,hD,rfl⟩ hlt;obtain⟨v,hv,hrow⟩:=hI.box;obtain⟨a3,c3,rfl,_⟩:=own_shape2 hrow;obtain⟨d1,d2,_,_⟩:=box2_c hD;obtain⟨v1,v2⟩:=box_c hv
  obtain⟨pl,HPL⟩:∃z,Hid (z=pre.length):=⟨_,Lib.hid rfl⟩
  rw[←HPL.out]at hrow v1 hv hlt
  have hpl:pl≤1000000000:=by omega
  have HROW:=Lib.hid hrow;have HI:=Lib.hid hI;obtain⟨i0,hi,hz0,hz1,hz2⟩:=info_parts Tryz.info56;have HV:=Lib.hid hv;have HDX:=Lib.hid hD
  have hsl:pl+1≤maxLen:=by unfold maxLen;omega
  have hby:(pl+1)*16≤140737488355328:=by omega
  have hbs:w.heap.size≤W.heap.size:=HI.out.new.size;clear hr hl2 hI hrow hv hD hm hm0 hown0 h0
  gi_wp2_with (gi_at_builtin;refine wpListIn_append_own _ rfl _ _ 53 rfl w.heap.size 56 i0 _ 2 16 Tryz.underlying53 hi hz0 hz1 hz2 rfl (by decide) _ pl (pcells pre) rfl (World.ownsRow.alloc HROW.out _) ⟨W.heap.size,0,none⟩ 1 1 [.int .i64 m1,.int .i64 m2] rfl rfl (cell_two rfl) (one_pow _ _) (by exact hsl) (by exact hby) (by simp;omega) ?_;intro v' w7 hown7 hgrow7 _;obtain⟨a9,c9,rfl,_⟩:=own_shape2 hown7;have hF7:Fr (fun k=>(Value.slice a3 pl c3).ownBlock=some k) W w7:=(((Fr.refl _ W).alloc _).grown hgrow7 fun k e=>.inl e);have hb7:=hF7.blk HV.out (blk_not_own HV.out HROW.out (by decide));obtain⟨y1,y2⟩:=box_c hb7;have HF7:=Lib.hid hF7;have HB7:=Lib.hid hb7;have HO7:=Lib.hid hown7;have HG7:=Lib.hid hgrow7;clear hF7 hb7 hown7 hgrow7)
  have hS:Fr (fun k=>k=w.heap.size) w7 (w7.setCell ⟨w.heap.size,0,none⟩ (.slice a9 (pl+1) c9)):=(Fr.refl (fun k=>k=w.heap.size) w7).setCell (.inl rfl) _
  refine⟨(KeepsFrom.app HROW.out HG7.out).trans ((KeepsOthers.setCell _ _ _).from _),((KeepsWalks.alloc _ _).trans (KeepsWalks.of_grownBy HG7.out fun j o ej hj=>?_)).trans (KeepsWalks.setCell _ _ _),⟨(HI.out.new.next HF7.out fun k e=>.inr (own_lb HROW.out k e)).next hS fun k e=>.inr (by rw[e];exact Nat.le_refl _),_,box_set HB7.out,?_⟩⟩
  · obtain⟨u,hu,hc⟩:=own_cells (World.ownsRow.alloc HROW.out _) j ej
    rw[hu]at hj;obtain rfl:=Option.some.inj hj
    exact cells_not_walk hc
  · have:=hS.owns HO7.out fun k hk e=>blk_not_own HB7.out HO7.out (by decide) (by rw[←e];exact hk)
    rw[pcells_snoc,List.length_append,List.length_singleton,←HPL.out]
    exact this
end Go.Proofs.YtlicglicfijelaaGreat
