/- Two calls in their order, two boxes made at any time among them: one step each, whatever the order. -/
import Derived.Test.YtfplmbmenjdlhaaGreatDoorN10T
set_option linter.unusedVariables false
set_option maxRecDepth 100000
set_option maxHeartbeats 16000000
namespace Go.Proofs.YtfplmbmenjdlhaaGreatDoor
open Fr (refl)
open Instr (index)
open Kn (Cr at_ cr oQ BX)
open Go.Proofs.Tryz (func102 func122 ntmps122 prog)
variable {a:Act} {listed:Array Bool} {ops:Array Oper} {Q:Exit->Act->World->Prop} {md:Region.Mode} {w:World} {S:World->Prop}
def qJ(l:Array Bool)(i1 i2 j1 j2 c:Nat)(x y:Bool):Array Bool:=
 let l:=if 1<=c then l.setIfInBounds i1 true else l
 let l:=if 2<=c then l.setIfInBounds i2 true else l
 let l:=if x then l.setIfInBounds j1 true else l
 if y then l.setIfInBounds j2 true else l
def PX(i1 i2 j1 j2 c:Nat)(x y:Bool):List Nat:=(if c=0 then [i1]else if c=1 then [i2]else [])++((if x then []else [j1])++if y then []else [j2])
theorem Lq(l:Array Bool)(i j:Nat):(l.setIfInBounds i true).setIfInBounds j true=(l.setIfInBounds j true).setIfInBounds i true:=by
 by_cases e:i=j
 · rw[e]
 exact Array.setIfInBounds_comm _ _ e
abbrev iM(a:Act)(o1 o2 p1 p2:Oper)(v1 v2 b1 b2:Value):Act:=(((a.put o1.dst v1).put o2.dst v2).put p1.dst b1).put p2.dst b2
abbrev Hf(P:Program)(ops:Array Oper)(Q:Exit->Act->World->Prop)(o:Oper)(N:Act->World->Prop)(a:Act)(w:World):Prop:=
 ∀K':Act->World->Prop,Shut (∀a w,N a w->K' a w)->if Region.wanted o (yielded ops a.tmps)=true then Oper.wp P o a w K' Q else K' (a.put o.dst undef) w
theorem XE{P:Program}{fuel:Nat}(i1 i2 j1 j2:Nat)
 (R:Nat->Bool->Bool->Value->Value->Value->Value->World->Prop) {o1 o2 p1 p2:Oper} {u1 u2 u3 u4:Value}
 (h1:ops[i1]?=some o1:=by rfl) (h2:ops[i2]?=some o2:=by rfl) (h3:ops[j1]?=some p1:=by rfl) (h4:ops[j2]?=some p2:=by rfl)
 (hr:([(0,false,false),(0,false,true),(0,true,false),(0,true,true),(1,false,false),(1,false,true),(1,true,false),(1,true,true),(2,false,false),(2,false,true),(2,true,false)].all λt:Nat×Bool×Bool=>Region.ready md ops (qJ listed i1 i2 j1 j2 t.1 t.2.1 t.2.2)==PX i1 i2 j1 j2 t.1 t.2.1 t.2.2)=true:=by kernel_rfl)
 (hA:a=iM a o1 o2 p1 p2 u1 u2 u3 u4:=by rfl)
 (s1:∀x y v1 v2 b1 b2 w,S w->R 0 x y v1 v2 b1 b2 w->Hf P ops Q o1 (λa' w'=>S w'/\∃v,a'=iM a o1 o2 p1 p2 v v2 b1 b2/\R 1 x y v v2 b1 b2 w') (iM a o1 o2 p1 p2 v1 v2 b1 b2) w)
 (s2:∀x y v1 v2 b1 b2 w,S w->R 1 x y v1 v2 b1 b2 w->Hf P ops Q o2 (λa' w'=>S w'/\∃v,a'=iM a o1 o2 p1 p2 v1 v b1 b2/\R 2 x y v1 v b1 b2 w') (iM a o1 o2 p1 p2 v1 v2 b1 b2) w)
 (sa:∀c y v1 v2 b1 b2 w,c<=2->S w->R c false y v1 v2 b1 b2 w->Hf P ops Q p1 (λa' w'=>S w'/\∃v,a'=iM a o1 o2 p1 p2 v1 v2 v b2/\R c true y v1 v2 v b2 w') (iM a o1 o2 p1 p2 v1 v2 b1 b2) w)
 (sb:∀c x v1 v2 b1 b2 w,c<=2->S w->R c x false v1 v2 b1 b2 w->Hf P ops Q p2 (λa' w'=>S w'/\∃v,a'=iM a o1 o2 p1 p2 v1 v2 b1 v/\R c x true v1 v2 b1 v w') (iM a o1 o2 p1 p2 v1 v2 b1 b2) w)
 (fin:∀v1 v2 b1 b2 w,S w->R 2 true true v1 v2 b1 b2 w->wpAnyH P md ops Q S fuel (qJ listed i1 i2 j1 j2 2 true true) (iM a o1 o2 p1 p2 v1 v2 b1 b2) w)
 (hI:R 0 false false u1 u2 u3 u4 w) (hS:S w):wpAnyH P md ops Q S (fuel+4) listed a w:=by
 have key:∀(k c:Nat) (x y:Bool) (v1 v2 b1 b2:Value) (w:World),c<=2->(2-c)+(if x then 0 else 1)+(if y then 0 else 1)=k->S w->R c x y v1 v2 b1 b2 w ->
  wpAnyH P md ops Q S (fuel+k) (qJ listed i1 i2 j1 j2 c x y) (iM a o1 o2 p1 p2 v1 v2 b1 b2) w:=by
  intro k
  induction k with
  |zero=>
   intro c x y v1 v2 b1 b2 w hc hk hS hR
   obtain rfl:c=2:=by omega
   cases x
   · simp at hk
   cases y
   · simp at hk
   exact fin _ _ _ _ _ hS hR
  |succ k ih=>
   intro c x y v1 v2 b1 b2 w hc hk hS hR
   have hne:¬(c=2/\x=true/\y=true):=λh=>by obtain⟨rfl,rfl,rfl⟩:=h;simp at hk
   have hrd:Region.ready md ops (qJ listed i1 i2 j1 j2 c x y)=PX i1 i2 j1 j2 c x y:=by
    have:=List.all_eq_true.1 hr (c,x,y) (by
     have:c=0\/c=1\/c=2:=by omega
     rcases this with rfl|rfl|rfl<;>cases x<;>cases y<;>simp at hne ⊢)
    exact beq_iff_eq.1 this
   have hnil:PX i1 i2 j1 j2 c x y≠[]:=by
    unfold PX
    have:c=0\/c=1\/c=2:=by omega
    rcases this with rfl|rfl|rfl<;>cases x<;>cases y<;>simp at hne ⊢
   refine wpAnyH_ready hrd hnil λi hi=>?_
   have one:∀{o:Oper} {N:Act->World->Prop} {m:Nat},ops[m]?=some o->Hf P ops Q o N (iM a o1 o2 p1 p2 v1 v2 b1 b2) w->(∀a' w',N a' w'->S w'/\wpAnyH P md ops Q S (fuel+k) ((qJ listed i1 i2 j1 j2 c x y).setIfInBounds m true) a' w') ->
    wpOp P ops Q m (λa' w'=>S w'/\wpAnyH P md ops Q S (fuel+k) ((qJ listed i1 i2 j1 j2 c x y).setIfInBounds m true) a' w') (iM a o1 o2 p1 p2 v1 v2 b1 b2) w:=
    λho hd hn=>wpOp_step ho λK' hK=>hd K' λa' w' h=>hK a' w' (hn a' w' h)
   unfold PX at hi
   rcases jx.1 hi with hi|hi
   · have c3:c=0\/c=1\/c=2:=by omega
     rcases c3 with rfl|rfl|rfl
     · obtain rfl:i=i1:=by simpa using hi
       refine one h1 (s1 _ _ _ _ _ _ _ hS hR) ?_
       rintro a' w' ⟨QV,v,rfl,W9⟩;refine⟨QV,?_⟩
       have e:(qJ listed i i2 j1 j2 0 x y).setIfInBounds i true=qJ listed i i2 j1 j2 1 x y:=by
        unfold qJ;cases x<;>cases y<;>simp[Lq _ _ i]
       rw[e];exact ih 1 x y _ _ _ _ _ (by omega) (by omega) QV W9
     · obtain rfl:i=i2:=by simpa using hi
       refine one h2 (s2 _ _ _ _ _ _ _ hS hR) ?_
       rintro a' w' ⟨QV,v,rfl,W9⟩;refine⟨QV,?_⟩
       have e:(qJ listed i1 i j1 j2 1 x y).setIfInBounds i true=qJ listed i1 i j1 j2 2 x y:=by
        unfold qJ;cases x<;>cases y<;>simp[Lq _ _ i]
       rw[e];exact ih 2 x y _ _ _ _ _ (by omega) (by omega) QV W9
     simp at hi
   rcases jx.1 hi with hi|hi
   · cases x
     · obtain rfl:i=j1:=by simpa using hi
       refine one h3 (sa _ _ _ _ _ _ _ hc hS hR) ?_
       rintro a' w' ⟨QV,v,rfl,W9⟩;refine⟨QV,?_⟩
       have e:(qJ listed i1 i2 i j2 c false y).setIfInBounds i true=qJ listed i1 i2 i j2 c true y:=by
        unfold qJ;cases y<;>simp[Lq _ _ i]
       rw[e];simp only[jN,if_false]at hk;exact ih c true y _ _ _ _ _ hc (by simp only[if_true];omega) QV W9
     simp at hi
   cases y
   · obtain rfl:i=j2:=by simpa using hi
     refine one h4 (sb _ _ _ _ _ _ _ hc hS hR) ?_
     rintro a' w' ⟨QV,v,rfl,W9⟩;refine⟨QV,?_⟩
     have e:(qJ listed i1 i2 j1 i c x false).setIfInBounds i true=qJ listed i1 i2 j1 i c x true:=by
      unfold qJ;cases x<;>simp
     rw[e];simp only[jN,if_false]at hk;exact ih c x true _ _ _ _ _ hc (by simp only[if_true];omega) QV W9
   simp at hi
 rw[hA];exact key 4 0 false false _ _ _ _ _ (by omega) rfl hS hI
open Go.RowKit
structure TB(w0 r:World)(t:TypeId)(z:Array Value)(o3 o4:Option Nat):Prop where
 new:New w0 r
 c3:∀k,o3=some k->w0.heap.size<=k/\r.heap[k]?=some (.cells z t (0,0))
 c4:∀k,o4=some k->w0.heap.size<=k/\r.heap[k]?=some (.cells z t (0,0))
 ne:∀k j,o3=some k->o4=some j->k≠j
section
variable {w0 r r':World} {t:TypeId} {z:Array Value} {o3 o4:Option Nat}
theorem TB.nw(h:TB w0 r t z o3 o4)(hF:New r r'):TB w0 r' t z o3 o4:=
 ⟨h.new.trans hF,λk e=>⟨(h.c3 k e).1,hF.blk (h.c3 k e).2 λx=>x⟩,λk e=>⟨(h.c4 k e).1,hF.blk (h.c4 k e).2 λx=>x⟩,h.ne⟩
theorem TB.a3(h:TB w0 r t z none o4):TB w0 (r.alloc (.cells z t)) t z (some r.heap.size) o4:=by
 have h':=h.nw ((refl (λ_=>False) r).alloc (.cells z t));refine⟨h'.new,λk e=>?_,h'.c4,λk j e e'=>?_⟩
 · cases e;exact⟨h.new.size,heap_alloc_new r _⟩
 cases e;have:=(jf.1 (h.c4 j e').2).1;omega
theorem TB.a4(h:TB w0 r t z o3 none):TB w0 (r.alloc (.cells z t)) t z o3 (some r.heap.size):=by
 have h':=h.nw ((refl (λ_=>False) r).alloc (.cells z t));refine⟨h'.new,h'.c3,λk e=>?_,λj k e' e=>?_⟩
 · cases e;exact⟨h.new.size,heap_alloc_new r _⟩
 cases e;have:=(jf.1 (h.c3 j e').2).1;omega
end
abbrev ptO(k:Nat):Value:=.pointer (some ⟨k,0,none⟩)
theorem Pz{P:Program}{fuel:Nat}(i1 i2 j1 j2:Nat)(t:TypeId)(z:Array Value)(x1 x2:Value){o1 o2 p1 p2:Oper}{u1 u2 u3 u4:Value}
 (h1:ops[i1]?=some o1:=by rfl) (h2:ops[i2]?=some o2:=by rfl) (h3:ops[j1]?=some p1:=by rfl) (h4:ops[j2]?=some p2:=by rfl)
 (hr:([(0,false,false),(0,false,true),(0,true,false),(0,true,true),(1,false,false),(1,false,true),(1,true,false),(1,true,true),(2,false,false),(2,false,true),(2,true,false)].all λt:Nat×Bool×Bool=>Region.ready md ops (qJ listed i1 i2 j1 j2 t.1 t.2.1 t.2.2)==PX i1 i2 j1 j2 t.1 t.2.1 t.2.2)=true:=by kernel_rfl)
 (hA:a=iM a o1 o2 p1 p2 u1 u2 u3 u4:=by rfl)
 (hSN:∀r,New w r->S r)
 (s1:∀v1 v2 b1 b2 r,S r->Hf P ops Q o1 (λa' r'=>a'=iM a o1 o2 p1 p2 x1 v2 b1 b2/\New r r') (iM a o1 o2 p1 p2 v1 v2 b1 b2) r)
 (s2:∀v1 v2 b1 b2 r,S r->Hf P ops Q o2 (λa' r'=>a'=iM a o1 o2 p1 p2 v1 x2 b1 b2/\New r r') (iM a o1 o2 p1 p2 v1 v2 b1 b2) r)
 (sa:∀v1 v2 b1 b2 r,S r->Hf P ops Q p1 (λa' r'=>a'=iM a o1 o2 p1 p2 v1 v2 (ptO r.heap.size) b2/\r'=r.alloc (.cells z t)) (iM a o1 o2 p1 p2 v1 v2 b1 b2) r)
 (sb:∀v1 v2 b1 b2 r,S r->Hf P ops Q p2 (λa' r'=>a'=iM a o1 o2 p1 p2 v1 v2 b1 (ptO r.heap.size)/\r'=r.alloc (.cells z t)) (iM a o1 o2 p1 p2 v1 v2 b1 b2) r)
 (fin:∀k3 k4 r,S r->New w r->w.heap.size<=k3->w.heap.size<=k4->k3≠k4->r.heap[k3]?=some (.cells z t (0,0))->r.heap[k4]?=some (.cells z t (0,0))->wpAnyH P md ops Q S fuel (qJ listed i1 i2 j1 j2 2 true true) (iM a o1 o2 p1 p2 x1 x2 (ptO k3) (ptO k4)) r):wpAnyH P md ops Q S (fuel+4) listed a w:=by
 refine XE i1 i2 j1 j2 (λc x y v1 v2 b1 b2 r=>∃o3 o4,TB w r t z o3 o4/\(x=false/\o3=none\/x=true/\∃k,o3=some k/\b1=ptO k)/\(y=false/\o4=none\/y=true/\∃k,o4=some k/\b2=ptO k)/\(1<=c->v1=x1)/\(2<=c->v2=x2)) h1 h2 h3 h4 hr hA ?_ ?_ ?_ ?_ ?_ ?_ (hSN w (refl _ _))
 · rintro x y v1 v2 b1 b2 r hS ⟨o3,o4,hA,g3,g4,_,_⟩ K' hK
   exact s1 v1 v2 b1 b2 r hS K' λa' r' h=>hK _ _ ⟨hSN _ (hA.new.trans h.2),_,h.1,o3,o4,hA.nw h.2,g3,g4,λ_=>rfl,λh=>by omega⟩
 · rintro x y v1 v2 b1 b2 r hS ⟨o3,o4,hA,g3,g4,g5,_⟩ K' hK
   exact s2 v1 v2 b1 b2 r hS K' λa' r' h=>hK _ _ ⟨hSN _ (hA.new.trans h.2),_,h.1,o3,o4,hA.nw h.2,g3,g4,λ_=>g5 (by omega),λ_=>rfl⟩
 · rintro c y v1 v2 b1 b2 r hc hS ⟨o3,o4,hA,g3,g4,g5,g6⟩ K' hK
   obtain rfl:o3=none:=by rcases g3 with h|⟨h,_⟩;exact h.2;cases h
   exact sa v1 v2 b1 b2 r hS K' λa' r' h=>by
    obtain⟨rfl,rfl⟩:=h;exact hK _ _ ⟨hSN _ hA.a3.new,_,rfl,_,o4,hA.a3,.inr ⟨rfl,_,rfl,rfl⟩,g4,g5,g6⟩
 · rintro c x v1 v2 b1 b2 r hc hS ⟨o3,o4,hA,g3,g4,g5,g6⟩ K' hK
   obtain rfl:o4=none:=by rcases g4 with h|⟨h,_⟩;exact h.2;cases h
   exact sb v1 v2 b1 b2 r hS K' λa' r' h=>by
    obtain⟨rfl,rfl⟩:=h;exact hK _ _ ⟨hSN _ hA.a4.new,_,rfl,o3,_,hA.a4,g3,.inr ⟨rfl,_,rfl,rfl⟩,g5,g6⟩
 · rintro v1 v2 b1 b2 r hS ⟨o3,o4,hA,g3,g4,g5,g6⟩
   obtain rfl:=g5 (by omega);obtain rfl:=g6 (by omega)
   obtain⟨k3,rfl,rfl⟩:∃k,o3=some k/\b1=ptO k:=by rcases g3 with⟨h,_⟩|⟨_,h⟩;cases h;exact h
   obtain⟨k4,rfl,rfl⟩:∃k,o4=some k/\b2=ptO k:=by rcases g4 with⟨h,_⟩|⟨_,h⟩;cases h;exact h
   exact fin k3 k4 r hS hA.new (hA.c3 _ rfl).1 (hA.c4 _ rfl).1 (hA.ne _ _ rfl rfl) (hA.c3 _ rfl).2 (hA.c4 _ rfl).2
 exact⟨none,none,⟨refl _ _,λ_ e=>(by cases e),λ_ e=>(by cases e),λ_ _ e=>(by cases e)⟩,.inl ⟨rfl,rfl⟩,.inl ⟨rfl,rfl⟩,λh=>by omega,λh=>by omega⟩
open Go.RowKit
theorem GU{Y:List Cr}{k s:Nat}(hk:k<Y.length)(hs:s<4)(a:Int):(bE Y).set (k*5+s) (.int .i64 a)=bE (Y.set k (BX (cr Y k) s a)):=by
 apply List.ext_getElem?;intro j;by_cases c:j<Y.length*5;rotate_left
 · rw[List.getElem?_eq_none (by simp[cD];omega),List.getElem?_eq_none (by simp[cD];omega)]
 rw[fM (X:=Y.set k (BX (cr Y k) s a)) (by rw[List.length_set];exact c),List.getElem?_set,cD]
 have iw:cr (Y.set k (BX (cr Y k) s a)) (j / 5)=if j / 5=k then BX (cr Y k) s a else cr Y (j / 5):=by
  unfold cr;rw[jc,jc,List.getElem?_set];by_cases e:k=j / 5
  · subst e;simp[hk]
  rw[if_neg e,if_neg (λh=>e h.symm),jc]
 have rQ:=fM c;unfold wG at rQ ⊢;rw[iw];by_cases e:j / 5=k;rotate_left
 · rw[if_neg e,if_neg (by omega),rQ]
 rw[if_pos e]
 obtain⟨r,hr,rfl⟩:∃r,r<5/\j=k*5+r:=⟨j-k*5,by omega,by omega⟩
 rw[rQ,show (k*5+r)%5=r by omega,show (k*5+r) / 5=k by omega];unfold BX
 match s,hs,r,hr with
 |0,_,0,_=>simp;omega
 |0,_,1,_=>simp
 |0,_,2,_=>simp
 |0,_,3,_=>simp
 |0,_,4,_=>simp
 |1,_,0,_=>simp
 |1,_,1,_=>simp;omega
 |1,_,2,_=>simp
 |1,_,3,_=>simp
 |1,_,4,_=>simp
 |2,_,0,_=>simp
 |2,_,1,_=>simp
 |2,_,2,_=>simp;omega
 |2,_,3,_=>simp
 |2,_,4,_=>simp
 |3,_,0,_=>simp
 |3,_,1,_=>simp
 |3,_,2,_=>simp
 |3,_,3,_=>simp;omega
 |3,_,4,_=>simp
structure BW(D:Nat)(w:World)(b s:Nat)(fv v:Value)(bi bo:Nat)(X Z:List Cr)(L:Int):Prop where
 blk:w.heap[b]?=some (.cells #[.pointer (some ⟨s,0,none⟩),fv] 103 (0,0))
 FW:w.heap[s]?=some (.cells #[v,.int .i64 L,.slice (some ⟨bi,0,none⟩) (bA X) (bA X),.slice (some ⟨bo,0,none⟩) (bA X) (bA X)] 70 (0,0))
 own:w.ownsRow D 109 5 v Z.length (bE Z)
 ri:w.rowIs bi 158 (bA X*2) (im (Kn.oM X))
 ro:w.rowIs bo 158 (bA X*2) (im (Kn.fH X))
 ne:bi≠bo
 lb:D<=b
 ls:D<=s
section
variable {D:Nat} {w w':World} {b s:Nat} {fv v:Value} {bi bo:Nat} {X Z:List Cr} {L:Int}
theorem BW.at(h:BW D w b s fv v bi bo X X L):j8 w b s fv X L:=⟨h.blk,v,bi,bo,D,h.FW,h.own,h.ri,h.ro,h.ne⟩
theorem BW.new(h:BW D w b s fv v bi bo X Z L)(k:New w w'):BW D w' b s fv v bi bo X Z L:=
 ⟨k.blk h.blk λx=>x,k.blk h.FW λx=>x,k.owns h.own λ_ _ x=>x,k.row h.ri λx=>x,k.row h.ro λx=>x,h.ne,h.lb,h.ls⟩
theorem BW.box(h:BW D w b s fv v bi bo X Z L):w.cell? ⟨b,0,none⟩=some (.pointer (some ⟨s,0,none⟩))/\w.cell? ⟨s,0,none⟩=some v/\w.cell? ⟨s,1,none⟩=some (.int .i64 L)/\w.cell? ⟨s,2,none⟩=some (.slice (some ⟨bi,0,none⟩) (bA X) (bA X))/\w.cell? ⟨s,3,none⟩=some (.slice (some ⟨bo,0,none⟩) (bA X) (bA X)):=by
 obtain⟨h0,_⟩:=ay h.blk;obtain⟨s0,s1,s2,s3,_⟩:=mI h.FW;exact⟨h0,s0,s1,s2,s3⟩
theorem BW.sne(h:BW D w b s fv v bi bo X Z L):¬b=s:=λe=>by
 have h1:=h.blk;rw[e,h.FW]at h1;cases h1
theorem BW.put{g n c:Nat}(h:BW D w b s fv (.slice (some ⟨g,0,none⟩) n c) bi bo X Z L)(hn:n=Z.length){p:Kn.Pl}(hp:Kn.aq Z p)(a:Int):
 BW D (w.setCell ⟨g,p.1*5+p.2,none⟩ (.int .i64 a)) b s fv (.slice (some ⟨g,0,none⟩) n c) bi bo X (oQ Z p a) L:=by
 subst hn;have hF:Fr (λk=>(Value.slice (some ⟨g,0,none⟩) Z.length c).ownBlock=some k) w (w.setCell ⟨g,p.1*5+p.2,none⟩ (.int .i64 a)):=Fr.setCell (a:=⟨g,p.1*5+p.2,none⟩) (refl (λk=>(Value.slice (some ⟨g,0,none⟩) Z.length c).ownBlock=some k) w) (.inl rfl) _;have ho:=uM h.own (p.1*5+p.2) (.int .i64 a);rw[GU hp.1 hp.2 a]at ho
 have mH:(w.setCell ⟨g,p.1*5+p.2,none⟩ (.int .i64 a)).ownsRow D 109 5 (.slice (some ⟨g,0,none⟩) Z.length c) (oQ Z p a).length (bE (oQ Z p a)):=by rw[Kn.iH];exact ho
 exact⟨hF.blk h.blk (aU h.blk h.own (by decide)),hF.blk h.FW (aU h.FW h.own (by decide)),mH,
  hF.row h.ri (λe=>eE h.own h.ri (by decide) _ e rfl),hF.row h.ro (λe=>eE h.own h.ro (by decide) _ e rfl),h.ne,h.lb,h.ls⟩
theorem BW.sl(h:BW D w b s fv v bi bo X Z L)(hn:0<Z.length):∃g c,v=.slice (some ⟨g,0,none⟩) Z.length c/\D<=g:=by
 rcases h.own.2 with⟨_,h0⟩|⟨g,cap,cur,rfl,hb,_⟩
 · omega
 exact⟨g,cap,rfl,hb⟩
end
theorem AY(D:Nat)(b s:Nat)(fv:Value)(g c bi bo n pc ps:Nat)(X Z:List Cr)(L a:Int)(w:World)(h:BW D w b s fv (.slice (some ⟨g,0,none⟩) n c) bi bo X Z L)(hn:n=Z.length)(hl:n<=16)(hc:pc<n)(hs:ps<4):
 Calls prog 93 #[.pointer (some ⟨b,0,none⟩),.agg #[.int .i64 (pc:Nat),.int .i64 (ps:Nat)],.int .i64 a] w (λe w'=>e=.returned (.tuple #[])/\Fr (λk=>k=g) w w'/\BW D w' b s fv (.slice (some ⟨g,0,none⟩) n c) bi bo X (oQ Z (pc,ps) a) L):=by
 have HN:=jd hn;obtain⟨q,HQ⟩:=jb (((ps:Nat):Int));rw[<-HQ.o]
 have anS:∀(o:Nat) (w:World),(index 201 (.agg #[.pointer (some ⟨g,o,none⟩),.pointer (some ⟨g,o+1,none⟩),.pointer (some ⟨g,o+2,none⟩),.pointer (some ⟨g,o+3,none⟩)]) (.int .i64 q)).run prog w=.ok (.pointer (some ⟨g,o+ps,none⟩)) w:=λo w=>by
  have e:=HQ.o
  have c:ps=0\/ps=1\/ps=2\/ps=3:=by omega
  have hi:∀(p0 p1 p2 p3:Option Addr) (w:World),(index 201 (.agg #[.pointer p0,.pointer p1,.pointer p2,.pointer p3]) (.int .i64 0)).run prog w=.ok (.pointer p0) w/\(index 201 (.agg #[.pointer p0,.pointer p1,.pointer p2,.pointer p3]) (.int .i64 1)).run prog w=.ok (.pointer p1) w /\
   (index 201 (.agg #[.pointer p0,.pointer p1,.pointer p2,.pointer p3]) (.int .i64 2)).run prog w=.ok (.pointer p2) w/\(index 201 (.agg #[.pointer p0,.pointer p1,.pointer p2,.pointer p3]) (.int .i64 3)).run prog w=.ok (.pointer p3) w:=λp0 p1 p2 p3 w=>⟨by kernel_rfl,by kernel_rfl,by kernel_rfl,by kernel_rfl⟩
  rcases c with rfl|rfl|rfl|rfl
  · rw[show q=0 by omega];exact(hi _ _ _ _ w).1
  · rw[show q=1 by omega];exact(hi _ _ _ _ w).2.1
  · rw[show q=2 by omega];exact(hi _ _ _ _ w).2.2.1
  rw[show q=3 by omega];exact(hi _ _ _ _ w).2.2.2
 have hpl:Kn.aq Z (pc,ps):=⟨by omega,hs⟩;have Xk:=jd hpl;have hN0:New w (w.alloc (.cells #[.int .i64 (pc:Nat),.int .i64 q] 158)):=(refl _ w).alloc _;have hz:=heap_alloc_new w (.cells #[.int .i64 (pc:Nat),.int .i64 q] 158);have YO:=h.new hN0;obtain⟨w1,cU⟩:=jb (w.alloc (.cells #[.int .i64 (pc:Nat),.int .i64 q] 158));obtain⟨B1,eU⟩:=jb w.heap.size;rw[<-cU.o]at hN0 hz YO;rw[<-eU.o]at hz;have iu:=jd hN0;have HBW:=jd YO;obtain⟨z0,z1,_⟩:=ay hz;obtain⟨b0,s0,_⟩:=YO.box
 have hcell:=World.ownsRow.cells YO.own (g:=g) rfl (pc*5+ps) (.int .i64 (at_ Z (pc,ps))) (by
  rw[fM (by omega)];unfold wG;rw[show (pc*5+ps) / 5=pc by omega,show (pc*5+ps)%5=ps by omega]
  match ps,hs with
  |0,_=>rfl
  |1,_=>rfl
  |2,_=>rfl
  |3,_=>rfl)
 rw[dN,Nat.zero_add]at hcell;have QP:=Jd (hn ▸ YO.own) (pc*5+ps)
 have i1:(0:Int)<=(pc:Int):=by omega
 have i2:(pc:Int)<(n:Int):=by omega
 have f0:w1.drew.cell? ⟨b,0,none⟩=some (.pointer (some ⟨s,0,none⟩)):=b0;have f1:w1.drew.cell? ⟨s,0,none⟩=some (.slice (some ⟨g,0,none⟩) n c):=s0;have f2:w1.drew.cell? ⟨B1,0,none⟩=some (.int .i64 (pc:Nat)):=z0;have f3:w1.drew.cell? ⟨B1,1,none⟩=some (.int .i64 q):=z1;have f4:w1.drew.cell? ⟨g,pc*5+ps,none⟩=some (.int .i64 (at_ Z (pc,ps))):=hcell;have f5:w1.drew.frozen? ⟨g,pc*5+ps,none⟩=false:=QP;clear hz h hn hpl hN0 YO
 go_enter Tryz.func93,Tryz.ntmps93
 go_wp2_with fail;rw[<-cU.o,<-eU.o]
 go_quiet (fail)
 obtain⟨w2,AM⟩:=jb (w1.drewN nq);rw[<-AM.o]
 have g2:w2.drew.cell? ⟨B1,1,none⟩=some (.int .i64 q):=by rw[AM.o];exact z1
 have g4:w2.drew.cell? ⟨g,pc*5+ps,none⟩=some (.int .i64 (at_ Z (pc,ps))):=by rw[AM.o];exact hcell
 have g5:w2.drew.frozen? ⟨g,pc*5+ps,none⟩=false:=by rw[AM.o];exact QP
 clear f0 f1 f2 f3 f4 f5 hcell QP z0 z1 b0 s0;go_wp2_with fail
 go_region
 go_end0
 have Fb:New w1 w2:=by rw[AM.o];exact(refl _ _).drewN _
 refine⟨rfl,(Fr.setCell (S:=λk=>k=g) ((iu.o.trans Fb).mono λ_ h=>h.elim) (a:=⟨g,pc*5+ps,none⟩) (.inl rfl) _).drew,((HBW.o.new Fb).put HN.o Xk.o a).new (refl _ _).drew⟩
open Go.RowKit
theorem CK(b:Nat)(x:Int)(X:List Cr)(L:Int)(w:World)(h:fS w b X L)(hl:X.length<=16):
 Calls prog 92 #[.pointer (some ⟨b,0,none⟩),.int .i64 x] w λe w'=>e=.returned (.bool (Kn.AG X x))/\w'=w:=by
 have H:=jd h;clear h;obtain⟨m,HM⟩:=jb (Kn.ag X)
 have hm:m<=32:=by have:=HM.o;unfold Kn.ag at this;omega
 unfold Kn.AG;rw[<-HM.o]
 go_enter Tryz.func92,Tryz.ntmps92
 by_cases c:1<=x
 · have hb:decide (1<=x)=true:=jk c
   obtain⟨r,HR⟩:∃r,Hd (decide (x<=(m:Int))=r):=⟨_,jd rfl⟩
   go_wp2_with (go_at_call 46;refine(u6 b X L _ H.o hl).mono ?_;rintro e w' ⟨rfl,rfl⟩;rw[<-HM.o])
   go_ret;simp[c]
 have hb:decide (1<=x)=false:=jm c;go_wp2;go_ret;simp[]
theorem wF(back:Bool)(x y:Int)(w:World):Calls prog 102 #[.bool back,.int .i64 x,.int .i64 y] w λe w'=>e=.returned (.int .i64 (if back then y else x))/\w'=w:=by
 cases back
 · go_enter func102,Tryz.ntmps102
   go_wp2;go_ret;exact⟨rfl,rfl⟩
 go_enter func102,Tryz.ntmps102
 go_wp2;go_ret;exact⟨rfl,rfl⟩
theorem uE(B1 B2:Nat)(e n v s:Int)(bl i:Nat)(w:World)(h1:w.heap[B1]?=some (.cells #[.int .i64 e,.int .i64 n,.int .i64 v,.int .i64 s] 181 (0,0)))(h2:w.cell? ⟨B2,0,none⟩=some (.int .i64 (bl:Nat)))(hb:bl<4)(hi:i<4):
 Calls prog 122 #[.int .i64 (i:Nat),.pointer (some ⟨B1,0,none⟩),.pointer (some ⟨B2,0,none⟩)] w λr w'=>r=.returned (.int .i64 (Kn.four e n v s ((bl+i)%4)))/\w'=w:=by
 obtain⟨c0,c1,c2,c3,_⟩:=mI h1;obtain⟨j,HJ⟩:=jb ((bl+i)%4)
 have hj:j<4:=by have:=HJ.o;omega
 have hr:((bl:Int)+(i:Int))%4=(j:Int):=by have:=HJ.o;omega
 have hw:IntKind.i64.wrap ((bl:Int)+(i:Int))=(bl:Int)+(i:Int):=IntWalk.i64_in _ (by omega);rw[<-HJ.o];clear h1
 match j,hj with
 |0,_=>
  go_enter func122,ntmps122
  go_wp2;go_ret;exact⟨rfl,rfl⟩
 |1,_=>
  go_enter func122,ntmps122
  go_wp2;go_ret;exact⟨rfl,rfl⟩
 |2,_=>
  go_enter func122,ntmps122
  go_wp2;go_ret;exact⟨rfl,rfl⟩
 |3,_=>
  go_enter func122,ntmps122
  go_wp2;go_ret;exact⟨rfl,rfl⟩
end Go.Proofs.YtfplmbmenjdlhaaGreatDoor
