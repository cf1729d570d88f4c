/- Two calls in their order, two boxes made at any time among them: one step each, whatever the order. -/
import Derived.Test.YtlicglicfijelaaGreatTK
import Derived.Test.YtlicglicfijelaaGreatN8a
import Derived.Test.YtlicglicfijelaaGreatN9
import Derived.Test.YtlicglicfijelaaGreatMAll
/- Two calls in their order, two boxes made at any time among them: one step each, whatever the order. -/
namespace Go.Proofs.YtlicglicfijelaaGreat

def lstW(l:Array Bool)(i1 i2 j1 j2 c:Nat)(x y:Bool):Array Bool:=
 let l:=if 1≤c then l.setIfInBounds i1 true else l
 let l:=if 2≤c then l.setIfInBounds i2 true else l
 let l:=if x then l.setIfInBounds j1 true else l
 if y then l.setIfInBounds j2 true else l
def rdyW(i1 i2 j1 j2 c:Nat)(x y:Bool):List Nat:=(if c=0 then [i1]else if c=1 then [i2]else [])++((if x then []else [j1])++if y then []else [j2])
theorem setTwo(l:Array Bool)(i j:Nat):(l.setIfInBounds i true).setIfInBounds j true=(l.setIfInBounds j true).setIfInBounds i true:=by
 by_cases e:i=j
 · rw[e]
 · exact Array.setIfInBounds_comm _ _ e
abbrev actW(a:Act)(o1 o2 p1 p2:Oper)(v1 v2 b1 b2:Value):Act:=(((a.put o1.dst v1).put o2.dst v2).put p1.dst b1).put p2.dst b2
abbrev Doer(P:Program)(ops:Array Oper)(Q:Exit→Act→World→Prop)(o:Oper)(N:Act→World→Prop)(a:Act)(w:World):Prop:=
 ∀K':Act→World→Prop,Shut (∀a w,N a w→K' a w)→if Region.wanted o (yielded ops a.tmps)=true then Oper.wp P o a w K' Q else K' (a.put o.dst undef) w
theorem two_two{P:Program}{ops:Array Oper}{Q:Exit→Act→World→Prop}{md:Region.Mode}{S:World→Prop}{fuel:Nat}{listed:Array Bool}{a:Act}{w:World}(i1 i2 j1 j2:Nat)
 (R:Nat→Bool→Bool→Value→Value→Value→Value→World→Prop) {o1 o2 p1 p2:Oper} {u1 u2 u3 u4:Value}
 (h1:ops[i1]?=some o1:=by rfl) (h2:ops[i2]?=some o2:=by rfl) (h3:ops[j1]?=some p1:=by rfl) (h4:ops[j2]?=some p2:=by rfl)
 (hr:([(0,false,false),(0,false,true),(0,true,false),(0,true,true),(1,false,false),(1,false,true),(1,true,false),(1,true,true),(2,false,false),(2,false,true),(2,true,false)].all fun t:Nat×Bool×Bool=>Region.ready md ops (lstW listed i1 i2 j1 j2 t.1 t.2.1 t.2.2)==rdyW i1 i2 j1 j2 t.1 t.2.1 t.2.2)=true:=by kernel_rfl)
 (hA:a=actW a o1 o2 p1 p2 u1 u2 u3 u4:=by rfl)
 (s1:∀x y v1 v2 b1 b2 w,S w→R 0 x y v1 v2 b1 b2 w→Doer P ops Q o1 (fun a' w'=>S w'∧∃v,a'=actW a o1 o2 p1 p2 v v2 b1 b2∧R 1 x y v v2 b1 b2 w') (actW a o1 o2 p1 p2 v1 v2 b1 b2) w)
 (s2:∀x y v1 v2 b1 b2 w,S w→R 1 x y v1 v2 b1 b2 w→Doer P ops Q o2 (fun a' w'=>S w'∧∃v,a'=actW a o1 o2 p1 p2 v1 v b1 b2∧R 2 x y v1 v b1 b2 w') (actW a o1 o2 p1 p2 v1 v2 b1 b2) w)
 (sa:∀c y v1 v2 b1 b2 w,c≤2→S w→R c false y v1 v2 b1 b2 w→Doer P ops Q p1 (fun a' w'=>S w'∧∃v,a'=actW a o1 o2 p1 p2 v1 v2 v b2∧R c true y v1 v2 v b2 w') (actW a o1 o2 p1 p2 v1 v2 b1 b2) w)
 (sb:∀c x v1 v2 b1 b2 w,c≤2→S w→R c x false v1 v2 b1 b2 w→Doer P ops Q p2 (fun a' w'=>S w'∧∃v,a'=actW a o1 o2 p1 p2 v1 v2 b1 v∧R c x true v1 v2 b1 v w') (actW a o1 o2 p1 p2 v1 v2 b1 b2) w)
 (fin:∀v1 v2 b1 b2 w,S w→R 2 true true v1 v2 b1 b2 w→wpAnyH P md ops Q S fuel (lstW listed i1 i2 j1 j2 2 true true) (actW a o1 o2 p1 p2 v1 v2 b1 b2) w)
 (hI:R 0 false false u1 u2 u3 u4 w) (hS:S w):wpAnyH P md ops Q S (fuel+4) listed a w:=by
 have key:∀(k c:Nat) (x y:Bool) (v1 v2 b1 b2:Value) (w:World),c≤2→(2-c)+(if x then 0 else 1)+(if y then 0 else 1)=k→S w→R c x y v1 v2 b1 b2 w →
  wpAnyH P md ops Q S (fuel+k) (lstW listed i1 i2 j1 j2 c x y) (actW a o1 o2 p1 p2 v1 v2 b1 b2) w:=by
  intro k
  induction k with
  |zero=>
   intro c x y v1 v2 b1 b2 w hc hk hS hR
   obtain rfl:c=2:=by omega
   cases x
   · simp at hk
   cases y
   · simp at hk
   exact fin _ _ _ _ _ hS hR
  |succ k ih=>
   intro c x y v1 v2 b1 b2 w hc hk hS hR
   have hne:¬(c=2∧x=true∧y=true):=fun h=>by obtain⟨rfl,rfl,rfl⟩:=h;simp at hk
   have hrd:Region.ready md ops (lstW listed i1 i2 j1 j2 c x y)=rdyW i1 i2 j1 j2 c x y:=by
    have:=List.all_eq_true.1 hr (c,x,y) (by
     have:c=0∨c=1∨c=2:=by omega
     rcases this with rfl|rfl|rfl<;>cases x<;>cases y<;>simp at hne ⊢)
    exact beq_iff_eq.1 this
   have hnil:rdyW i1 i2 j1 j2 c x y≠[]:=by
    unfold rdyW
    have:c=0∨c=1∨c=2:=by omega
    rcases this with rfl|rfl|rfl<;>cases x<;>cases y<;>simp at hne ⊢
   refine wpAnyH_ready hrd hnil fun i hi=>?_
   have one:∀{o:Oper} {N:Act→World→Prop} {m:Nat},ops[m]?=some o→Doer P ops Q o N (actW a o1 o2 p1 p2 v1 v2 b1 b2) w→(∀a' w',N a' w'→S w'∧wpAnyH P md ops Q S (fuel+k) ((lstW listed i1 i2 j1 j2 c x y).setIfInBounds m true) a' w') →
    wpOp P ops Q m (fun a' w'=>S w'∧wpAnyH P md ops Q S (fuel+k) ((lstW listed i1 i2 j1 j2 c x y).setIfInBounds m true) a' w') (actW a o1 o2 p1 p2 v1 v2 b1 b2) w:=
    fun ho hd hn=>wpOp_step ho fun K' hK=>hd K' fun a' w' h=>hK a' w' (hn a' w' h)
   unfold rdyW at hi
   rcases List.mem_append.1 hi with hi|hi
   · have c3:c=0∨c=1∨c=2:=by omega
     rcases c3 with rfl|rfl|rfl
     · obtain rfl:i=i1:=by simpa using hi
       refine one h1 (s1 _ _ _ _ _ _ _ hS hR) ?_
       rintro a' w' ⟨hS',v,rfl,hR'⟩
       refine⟨hS',?_⟩
       have e:(lstW listed i i2 j1 j2 0 x y).setIfInBounds i true=lstW listed i i2 j1 j2 1 x y:=by
        unfold lstW;cases x<;>cases y<;>simp[setTwo _ _ i]
       rw[e]
       exact ih 1 x y _ _ _ _ _ (by omega) (by omega) hS' hR'
     · obtain rfl:i=i2:=by simpa using hi
       refine one h2 (s2 _ _ _ _ _ _ _ hS hR) ?_
       rintro a' w' ⟨hS',v,rfl,hR'⟩
       refine⟨hS',?_⟩
       have e:(lstW listed i1 i j1 j2 1 x y).setIfInBounds i true=lstW listed i1 i j1 j2 2 x y:=by
        unfold lstW;cases x<;>cases y<;>simp[setTwo _ _ i]
       rw[e]
       exact ih 2 x y _ _ _ _ _ (by omega) (by omega) hS' hR'
     · simp at hi
   · rcases List.mem_append.1 hi with hi|hi
     · cases x
       · obtain rfl:i=j1:=by simpa using hi
         refine one h3 (sa _ _ _ _ _ _ _ hc hS hR) ?_
         rintro a' w' ⟨hS',v,rfl,hR'⟩
         refine⟨hS',?_⟩
         have e:(lstW listed i1 i2 i j2 c false y).setIfInBounds i true=lstW listed i1 i2 i j2 c true y:=by
          unfold lstW;cases y<;>simp[setTwo _ _ i]
         rw[e];simp only[Bool.false_eq_true,if_false]at hk
         exact ih c true y _ _ _ _ _ hc (by simp only[if_true];omega) hS' hR'
       · simp at hi
     · cases y
       · obtain rfl:i=j2:=by simpa using hi
         refine one h4 (sb _ _ _ _ _ _ _ hc hS hR) ?_
         rintro a' w' ⟨hS',v,rfl,hR'⟩
         refine⟨hS',?_⟩
         have e:(lstW listed i1 i2 j1 i c x false).setIfInBounds i true=lstW listed i1 i2 j1 i c x true:=by
          unfold lstW;cases x<;>simp
         rw[e];simp only[Bool.false_eq_true,if_false]at hk
         exact ih c x true _ _ _ _ _ hc (by simp only[if_true];omega) hS' hR'
       · simp at hi
 rw[hA]
 exact key 4 0 false false _ _ _ _ _ (by omega) rfl hS hI
open Go.RowKit
structure TB(w0 r:World)(t:TypeId)(z:Array Value)(o3 o4:Option Nat):Prop where
 new:New w0 r
 c3:∀k,o3=some k→w0.heap.size≤k∧r.heap[k]?=some (.cells z t (0,0))
 c4:∀k,o4=some k→w0.heap.size≤k∧r.heap[k]?=some (.cells z t (0,0))
 ne:∀k j,o3=some k→o4=some j→k≠j
section
variable {w0 r r':World} {t:TypeId} {z:Array Value} {o3 o4:Option Nat}
theorem TB.nw(h:TB w0 r t z o3 o4)(hF:New r r'):TB w0 r' t z o3 o4:=
 ⟨h.new.trans hF,fun k e=>⟨(h.c3 k e).1,hF.blk (h.c3 k e).2 fun x=>x⟩,fun k e=>⟨(h.c4 k e).1,hF.blk (h.c4 k e).2 fun x=>x⟩,h.ne⟩
theorem TB.a3(h:TB w0 r t z none o4):TB w0 (r.alloc (.cells z t)) t z (some r.heap.size) o4:=by
 have h':=h.nw ((Fr.refl (fun _=>False) r).alloc (.cells z t))
 refine⟨h'.new,fun k e=>?_,h'.c4,fun k j e e'=>?_⟩
 · cases e;exact⟨h.new.size,heap_alloc_new r _⟩
 · cases e
   have:=(Array.getElem?_eq_some_iff.1 (h.c4 j e').2).1
   omega
theorem TB.a4(h:TB w0 r t z o3 none):TB w0 (r.alloc (.cells z t)) t z o3 (some r.heap.size):=by
 have h':=h.nw ((Fr.refl (fun _=>False) r).alloc (.cells z t))
 refine⟨h'.new,h'.c3,fun k e=>?_,fun j k e' e=>?_⟩
 · cases e;exact⟨h.new.size,heap_alloc_new r _⟩
 · cases e
   have:=(Array.getElem?_eq_some_iff.1 (h.c3 j e').2).1
   omega
end
abbrev ptO(k:Nat):Value:=.pointer (some ⟨k,0,none⟩)
theorem two_boxes{P:Program}{ops:Array Oper}{Q:Exit→Act→World→Prop}{md:Region.Mode}{S:World→Prop}{fuel:Nat}{listed:Array Bool}{a:Act}{w:World}(i1 i2 j1 j2:Nat)(t:TypeId)(z:Array Value)(x1 x2:Value){o1 o2 p1 p2:Oper}{u1 u2 u3 u4:Value}
 (h1:ops[i1]?=some o1:=by rfl) (h2:ops[i2]?=some o2:=by rfl) (h3:ops[j1]?=some p1:=by rfl) (h4:ops[j2]?=some p2:=by rfl)
 (hr:([(0,false,false),(0,false,true),(0,true,false),(0,true,true),(1,false,false),(1,false,true),(1,true,false),(1,true,true),(2,false,false),(2,false,true),(2,true,false)].all fun t:Nat×Bool×Bool=>Region.ready md ops (lstW listed i1 i2 j1 j2 t.1 t.2.1 t.2.2)==rdyW i1 i2 j1 j2 t.1 t.2.1 t.2.2)=true:=by kernel_rfl)
 (hA:a=actW a o1 o2 p1 p2 u1 u2 u3 u4:=by rfl)
 (hSN:∀r,New w r→S r)
 (s1:∀v1 v2 b1 b2 r,S r→Doer P ops Q o1 (fun a' r'=>a'=actW a o1 o2 p1 p2 x1 v2 b1 b2∧New r r') (actW a o1 o2 p1 p2 v1 v2 b1 b2) r)
 (s2:∀v1 v2 b1 b2 r,S r→Doer P ops Q o2 (fun a' r'=>a'=actW a o1 o2 p1 p2 v1 x2 b1 b2∧New r r') (actW a o1 o2 p1 p2 v1 v2 b1 b2) r)
 (sa:∀v1 v2 b1 b2 r,S r→Doer P ops Q p1 (fun a' r'=>a'=actW a o1 o2 p1 p2 v1 v2 (ptO r.heap.size) b2∧r'=r.alloc (.cells z t)) (actW a o1 o2 p1 p2 v1 v2 b1 b2) r)
 (sb:∀v1 v2 b1 b2 r,S r→Doer P ops Q p2 (fun a' r'=>a'=actW a o1 o2 p1 p2 v1 v2 b1 (ptO r.heap.size)∧r'=r.alloc (.cells z t)) (actW a o1 o2 p1 p2 v1 v2 b1 b2) r)
 (fin:∀k3 k4 r,S r→New w r→w.heap.size≤k3→w.heap.size≤k4→k3≠k4→r.heap[k3]?=some (.cells z t (0,0))→r.heap[k4]?=some (.cells z t (0,0))→wpAnyH P md ops Q S fuel (lstW listed i1 i2 j1 j2 2 true true) (actW a o1 o2 p1 p2 x1 x2 (ptO k3) (ptO k4)) r):wpAnyH P md ops Q S (fuel+4) listed a w:=by
 refine two_two i1 i2 j1 j2 (fun c x y v1 v2 b1 b2 r=>∃o3 o4,TB w r t z o3 o4∧(x=false∧o3=none∨x=true∧∃k,o3=some k∧b1=ptO k)∧(y=false∧o4=none∨y=true∧∃k,o4=some k∧b2=ptO k)∧(1≤c→v1=x1)∧(2≤c→v2=x2)) h1 h2 h3 h4 hr hA ?_ ?_ ?_ ?_ ?_ ?_ (hSN w (Fr.refl _ _))
 · rintro x y v1 v2 b1 b2 r hS ⟨o3,o4,hA,g3,g4,_,_⟩ K' hK
   exact s1 v1 v2 b1 b2 r hS K' fun a' r' h=>hK _ _ ⟨hSN _ (hA.new.trans h.2),_,h.1,o3,o4,hA.nw h.2,g3,g4,fun _=>rfl,fun h=>by omega⟩
 · rintro x y v1 v2 b1 b2 r hS ⟨o3,o4,hA,g3,g4,g5,_⟩ K' hK
   exact s2 v1 v2 b1 b2 r hS K' fun a' r' h=>hK _ _ ⟨hSN _ (hA.new.trans h.2),_,h.1,o3,o4,hA.nw h.2,g3,g4,fun _=>g5 (by omega),fun _=>rfl⟩
 · rintro c y v1 v2 b1 b2 r hc hS ⟨o3,o4,hA,g3,g4,g5,g6⟩ K' hK
   obtain rfl:o3=none:=by rcases g3 with h|⟨h,_⟩;exact h.2;cases h
   exact sa v1 v2 b1 b2 r hS K' fun a' r' h=>by
    obtain⟨rfl,rfl⟩:=h
    exact hK _ _ ⟨hSN _ hA.a3.new,_,rfl,_,o4,hA.a3,.inr ⟨rfl,_,rfl,rfl⟩,g4,g5,g6⟩
 · rintro c x v1 v2 b1 b2 r hc hS ⟨o3,o4,hA,g3,g4,g5,g6⟩ K' hK
   obtain rfl:o4=none:=by rcases g4 with h|⟨h,_⟩;exact h.2;cases h
   exact sb v1 v2 b1 b2 r hS K' fun a' r' h=>by
    obtain⟨rfl,rfl⟩:=h
    exact hK _ _ ⟨hSN _ hA.a4.new,_,rfl,o3,_,hA.a4,g3,.inr ⟨rfl,_,rfl,rfl⟩,g5,g6⟩
 · rintro v1 v2 b1 b2 r hS ⟨o3,o4,hA,g3,g4,g5,g6⟩
   obtain rfl:=g5 (by omega);obtain rfl:=g6 (by omega)
   obtain⟨k3,rfl,rfl⟩:∃k,o3=some k∧b1=ptO k:=by rcases g3 with⟨h,_⟩|⟨_,h⟩;cases h;exact h
   obtain⟨k4,rfl,rfl⟩:∃k,o4=some k∧b2=ptO k:=by rcases g4 with⟨h,_⟩|⟨_,h⟩;cases h;exact h
   exact fin k3 k4 r hS hA.new (hA.c3 _ rfl).1 (hA.c4 _ rfl).1 (hA.ne _ _ rfl rfl) (hA.c3 _ rfl).2 (hA.c4 _ rfl).2
 · exact⟨none,none,⟨Fr.refl _ _,fun _ e=>(by cases e),fun _ e=>(by cases e),fun _ _ e=>(by cases e)⟩,.inl ⟨rfl,rfl⟩,.inl ⟨rfl,rfl⟩,fun h=>by omega,fun h=>by omega⟩
end Go.Proofs.YtlicglicfijelaaGreat

/- Walks: Along (region 1 printed by gen_n10.py). -/
namespace Go.Proofs.YtlicglicfijelaaGreat
open Go.RowKit

theorem two_set{W:World}{B t:Nat}{a b:Value}(h:W.heap[B]?=some (.cells #[a,b] t (0,0)))(a' b':Value):
 ((W.setCell ⟨B,0,none⟩ a').setCell ⟨B,1,none⟩ b').heap[B]?=some (.cells #[a',b'] t (0,0)):=by
 unfold World.setCell;simp[Array.getElem?_modify,h]
theorem two_fr(W:World)(B:Nat)(a b:Value):Fr (fun k=>k=B) W ((W.setCell ⟨B,0,none⟩ a).setCell ⟨B,1,none⟩ b):=
 ((Fr.refl (fun k=>k=B) W).setCell (a:=⟨B,0,none⟩) (.inl rfl) _).setCell (a:=⟨B,1,none⟩) (.inl rfl) _
abbrev alongV(x:Kn.Cr):Value:=.agg #[.int .i64 x.a,.int .i64 (upB x),.int .i64 (upA x),.int .i64 x.c]
set_option maxRecDepth 100000 in
set_option maxHeartbeats 4000000 in
theorem along_any(x:Kn.Cr)(w:World):Calls Tryz.prog 21 #[crV x] w (fun e w'=>e=.returned (alongV x)∧New w w'):=by
 obtain⟨a,b,c,d,p⟩:=x
 obtain⟨ua,HUA⟩:∃ua,Hid (upA ⟨a,b,c,d,p⟩=ua):=⟨_,Lib.hid rfl⟩
 obtain⟨ub,HUB⟩:∃ub,Hid (upB ⟨a,b,c,d,p⟩=ub):=⟨_,Lib.hid rfl⟩
 go_enter Tryz.func21,Tryz.ntmps21
 go_upto_region 1 with fail
 obtain⟨w1,HW1⟩:∃w1,Hid (w1=(w.alloc (.cells #[.int .i64 a,.int .i64 b,.int .i64 c,.int .i64 d,.bool p] 41)).alloc (.cells #[.int .i64 0,.int .i64 0,.int .i64 0,.int .i64 0] 97)):=⟨_,Lib.hid rfl⟩
 rw[←HW1.out]
 have HA0:Hid (New w w1.drew∧w1.drew.heap[w.heap.size]?=some (.cells #[.int .i64 a,.int .i64 b,.int .i64 c,.int .i64 d,.bool p] 41 (0,0))∧w1.drew.heap[w.heap.size+1]?=some (.cells #[.int .i64 0,.int .i64 0,.int .i64 0,.int .i64 0] 97 (0,0))):=Lib.hid (by
  have hb2:=heap_alloc_new (w.alloc (.cells #[.int .i64 a,.int .i64 b,.int .i64 c,.int .i64 d,.bool p] 41)) (.cells #[.int .i64 0,.int .i64 0,.int .i64 0,.int .i64 0] 97);rw[World.size_alloc]at hb2;rw[HW1.out]
  exact⟨(((Fr.refl _ w).alloc _).alloc _).drew,((Fr.refl (fun _=>False) _).alloc _).drew.blk (heap_alloc_new w _) fun x=>x,hb2⟩)
 go_cut [3,4] (fun t3 t4 wz=>∃k j:Nat,t3=.pointer (some ⟨k,0,none⟩)∧t4=.pointer (some ⟨j,0,none⟩)∧Hid (wz.heap[k]?=some (.cells #[.int .i64 a,.int .i64 c] 96 (0,0)))∧Hid (wz.heap[j]?=some (.cells #[.int .i64 ua,.int .i64 ub] 96 (0,0)))∧Hid (New w wz)∧Hid (wz.heap[w.heap.size+1]?=some (.cells #[.int .i64 0,.int .i64 0,.int .i64 0,.int .i64 0] 97 (0,0))))
 case first=>
  have hSS:=five_c HA0.out.2.1
  refine wp_region_held_drew (S:=fun w'=>w'.cell? ⟨w.heap.size,0,none⟩=some (.int .i64 a)∧w'.cell? ⟨w.heap.size,1,none⟩=some (.int .i64 b)∧w'.cell? ⟨w.heap.size,2,none⟩=some (.int .i64 c)∧w'.cell? ⟨w.heap.size,3,none⟩=some (.int .i64 d)∧w'.cell? ⟨w.heap.size,4,none⟩=some (.bool p)) (by kernel_rfl) hSS (fun hHeld=>?_)
  clear hSS;generalize w1.drew=r0 at hHeld HA0 ⊢
  refine' sq 0 (h:=sq 2 (h:=?_))
  refine two_boxes 1 3 4 5 96 #[.int .i64 0,.int .i64 0] (twoV a c) (twoV ua ub) (hSN:=fun r hN=>five_c (hN.blk HA0.out.2.1 fun x=>x)) (s1:=?s1) (s2:=?s2) (sa:=?sa) (sb:=?sb) (fin:=?fin)
  case s1=>
   intro v1 v2 b1 b2 r hS K' hK
   simp only[actW,Act.put,lq1,lq2,lq3,lq4,lq5,lq6];go_simp;refine(below_any ⟨a,b,c,d,p⟩ _).mono ?_;rintro e r1 ⟨rfl,hF⟩;go_wp2_with fail
   exact hK.out _ _ ⟨by simp only[actW,Act.put,lq1,lq2,lq3,lq4,lq5,lq6],hF⟩
  case s2=>
   intro v1 v2 b1 b2 r hS K' hK
   simp only[actW,Act.put,lq1,lq2,lq3,lq4,lq5,lq6];go_simp;refine(above_any ⟨a,b,c,d,p⟩ _).mono ?_;rintro e r1 ⟨rfl,hF⟩;rw[HUA.out,HUB.out];go_wp2_with fail
   exact hK.out _ _ ⟨by simp only[actW,Act.put,lq1,lq2,lq3,lq4,lq5,lq6],hF⟩
  case sa=>
   intro v1 v2 b1 b2 r hS K' hK
   simp only[actW,Act.put,lq1,lq2,lq3,lq4,lq5,lq6];go_simp
   exact hK.out _ _ ⟨by simp only[actW,Act.put,lq1,lq2,lq3,lq4,lq5,lq6],rfl⟩
  case sb=>
   intro v1 v2 b1 b2 r hS K' hK
   simp only[actW,Act.put,lq1,lq2,lq3,lq4,lq5,lq6];go_simp
   exact hK.out _ _ ⟨by simp only[actW,Act.put,lq1,lq2,lq3,lq4,lq5,lq6],rfl⟩
  case fin=>
   intro k3 k4 r4 hHeld hN l3 l4 hne hk3 hk4
   have HN4:=Lib.hid (HA0.out.1.trans hN);have HK3:=Lib.hid hk3;have HK4:=Lib.hid hk4;have HRS:=Lib.hid (hN.blk HA0.out.2.2 fun x=>x);have HBX:=Lib.hid (hN.blk HA0.out.2.1 fun x=>x);have hz:=(Array.getElem?_eq_some_iff.1 HA0.out.2.2).1;clear hk3 hk4 hN;simp only[actW,Act.put,lq1,lq2,lq3,lq4,lq5,lq6];refine rdO (i:=6) (fun K hK=>?_);(try simp only[lq1,lq2,lq3]);obtain⟨q1,q2,q3,q4⟩:=two_c HK3.out;go_simp;clear q1 q2 q3 q4;have HE3:=Lib.hid (two_set HK3.out (.int .i64 a) (.int .i64 c))
   have HF3:=Lib.hid (two_fr r4 k3 (.int .i64 a) (.int .i64 c));generalize (r4.setCell ⟨k3,0,none⟩ (.int .i64 a)).setCell ⟨k3,1,none⟩ (.int .i64 c)=s3 at HE3 HF3 ⊢;refine hK.out _ _ (five_c (HF3.out.blk HBX.out (by omega))) (fun hHeld=>?_);clear hK K;(try simp only[Act.put,lq1,lq2,lq3,lq4,lq5,lq6]);refine rdO (i:=7) (fun K hK=>?_);(try simp only[lq1,lq2,lq3]);have HK4':=Lib.hid (HF3.out.blk HK4.out fun e=>hne e.symm);obtain⟨q1,q2,q3,q4⟩:=two_c HK4'.out;go_simp;clear q1 q2 q3 q4;have HE4:=Lib.hid (two_set HK4'.out (.int .i64 ua) (.int .i64 ub))
   have HF4:=Lib.hid (two_fr s3 k4 (.int .i64 ua) (.int .i64 ub));generalize (s3.setCell ⟨k4,0,none⟩ (.int .i64 ua)).setCell ⟨k4,1,none⟩ (.int .i64 ub)=s4 at HE4 HF4 ⊢;refine hK.out _ _ (five_c (HF4.out.blk (HF3.out.blk HBX.out (by omega)) (by omega))) (fun hHeld=>?_);clear hK K;(try simp only[Act.put,lq1,lq2,lq3,lq4,lq5,lq6]);refine wpAnyH_done (by kernel_rfl) ?_ _;go_wp2
   go_meet
   exact⟨k3,k4,rfl,rfl,Lib.hid (HF4.out.blk HE3.out hne),HE4,Lib.hid ((HN4.out.next HF3.out fun i hi=>.inr (by omega)).next HF4.out fun i hi=>.inr (by omega)),Lib.hid (HF4.out.blk (HF3.out.blk HRS.out (by omega)) (by omega))⟩
 case rest=>
  obtain⟨k,j,rfl,rfl,HK,HJ,HN,HR⟩:=hcut;obtain⟨a1,a2,_,_⟩:=two_c HK.out;obtain⟨a3,a4,_,_⟩:=two_c HJ.out;obtain⟨q1,q2,q3,q4,q5,q6,q7,q8⟩:=four_c HR.out;have HE:=Lib.hid (four_set HR.out (.int .i64 a) (.int .i64 ub) (.int .i64 ua) (.int .i64 c));have HF:=Lib.hid (four_fr wc (w.heap.size+1) (.int .i64 a) (.int .i64 ub) (.int .i64 ua) (.int .i64 c));go_wp2;obtain⟨p1,p2,p3,p4,_⟩:=four_c HE.out
  refine bodyPost_ret (v:=.agg #[.int .i64 a,.int .i64 ub,.int .i64 ua,.int .i64 c]) (by simp[results,Tryz.results21,go_sem,p1,p2,p3,p4]) rfl ⟨by rw[←HUA.out,←HUB.out],HN.out.next HF.out fun i hi=>.inr (by omega)⟩
end Go.Proofs.YtlicglicfijelaaGreat

/- Walks: Without, where the ties go along. -/
namespace Go.Proofs.YtlicglicfijelaaGreat
open Go.RowKit

def tieS(X:List Kn.Cr)(f:Nat→Nat)(k:Nat):Nat→Nat:=Kn.joinF (Kn.joinF f (Kn.arcN X (k,0)) (Kn.arcN X (k,(Kn.over (Kn.cr X k).p+2)%4))) (Kn.arcN X (k,Kn.over (Kn.cr X k).p)) (Kn.arcN X (k,2))
def clS(X:List Kn.Cr)(gone:Nat→Bool):Nat→Nat→Nat
 |0=>fun a=>a
 |k+1=>if gone k then tieS X (clS X gone k) k else clS X gone k
theorem clS_rep{X:List Kn.Cr}(hX:Kn.Ok X)(gone:Nat→Bool):∀n,n≤X.length→∃E,Kn.Rep (clS X gone n) E
 |0,_=>⟨_,Kn.Rep.id⟩
 |n+1,h=>by
  obtain⟨E,hE⟩:=clS_rep hX gone n (by omega)
  unfold clS
  split
  · have p:∀s,s<4→1≤Kn.arcN X (n,s):=fun s hs=>(hX.isArc (p:=(n,s)) ⟨by show n<_;omega,hs⟩).1
    exact⟨_,(hE.join (p 0 (by omega)) (p _ (Nat.mod_lt _ (by omega)))).join (p _ (Kn.over_lt _)) (p 2 (by omega))⟩
  · exact⟨E,hE⟩
theorem clS_only(X:List Kn.Cr)(k:Nat):∀n,clS X (Kn.only k) n=if k<n then Kn.smF X k else fun a=>a
 |0=>rfl
 |n+1=>by
  unfold clS
  rw[clS_only X k n]
  by_cases e:n=k
  · subst e
    rw[if_pos (by simp[Kn.only]),if_neg (by omega),if_pos (by omega)];rfl
  · rw[if_neg (by simp[Kn.only,e])]
    by_cases c:k<n
    · rw[if_pos c,if_pos (by omega)]
    · rw[if_neg c,if_neg (by omega)]
theorem along_val{X:List Kn.Cr}(hX:Kn.Ok X){k:Nat}(hk:k<X.length):alongV (Kn.cr X k)=.agg #[.int .i64 (Kn.arcN X (k,0):Nat),.int .i64 (Kn.arcN X (k,(Kn.over (Kn.cr X k).p+2)%4):Nat),.int .i64 (Kn.arcN X (k,Kn.over (Kn.cr X k).p):Nat),.int .i64 (Kn.arcN X (k,2):Nat)]:=by
 obtain⟨f1,f2,f3,f4,_⟩:=arc_nat hX hk
 unfold alongV upA upB
 cases (Kn.cr X k).p
 · simp only[Bool.false_eq_true,if_false,f1,f2,f3,f4,Kn.over]
 · simp only[if_true,f1,f2,f3,f4,Kn.over]
theorem withoutA_any(b g ng cg:Nat)(gs:List Int)(gone:Nat→Bool)(X:List Kn.Cr)(L:Int)(w:World)(h:ShAt w b X L)(hX:Kn.Ok X)(hl:X.length≤16)(l1:-1000≤L)(l2:L≤1000)(hg:IntsAt w g gs)(hng:ng=gs.length)(hn16:ng≤16)
 (hgone:∀c,c<X.length→gone c=decide ((c:Int)∈gs)):
 Calls Tryz.prog 20 #[.pointer (some ⟨b,0,none⟩),.func (.func 21) #[] #[],.slice (some ⟨g,0,none⟩) ng cg] w (GaveWith (Kn.withL X (clS X gone X.length) gone) (L+Kn.ringN X (clS X gone X.length) gone) w):=
 without_any b g ng cg gs gone X L w h hX hl l1 l2 hg hng hn16 hgone 21 (fun args w=>by kernel_rfl) (clS X gone) (fun k=>Kn.arcN X (k,0)) (fun k=>Kn.arcN X (k,(Kn.over (Kn.cr X k).p+2)%4)) (fun k=>Kn.arcN X (k,Kn.over (Kn.cr X k).p)) (fun k=>Kn.arcN X (k,2))
  rfl (fun k hk=>if_neg (by simp[hk])) (fun k _ hk=>if_pos hk) (clS_rep hX gone _ (Nat.le_refl _))
  (fun k _ u hu=>by
   simp only[List.mem_cons,List.not_mem_nil,or_false]at hu
   rcases hu with rfl|rfl|rfl|rfl
   · exact⟨0,by omega,rfl⟩
   · exact⟨_,Nat.mod_lt _ (by omega),rfl⟩
   · exact⟨_,Kn.over_lt _,rfl⟩
   · exact⟨2,by omega,rfl⟩)
  (fun k hk w=>by rw[←along_val hX hk];exact along_any _ w)
end Go.Proofs.YtlicglicfijelaaGreat
