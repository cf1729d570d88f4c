/- The steps of a drawn region in fewer words. -/
import Derived.WalkKit
import Derived.ProofKit
import Derived.Deep.RegionHeld
namespace Go.Proofs.YtfplmbmenjdlhaaGreatDoor
open Region (free noSelect ready wanted)
theorem aR{α:Type}{xs:List α}{i:Nat}(h:i<xs.toArray.size):xs.toArray[i]=xs[i]:=List.getElem_toArray h
theorem aP{α:Type}{a:α}{as:List α}{h:0<(a :: as).length}:(a :: as)[0]=a:=rfl
theorem aO{α:Type}{a:α}{as:List α}{i:Nat}(h:i+1<(a :: as).length):(a :: as)[i+1]=as[i]'(Nat.lt_of_succ_lt_succ h):=rfl
theorem bQ{α:Type}(l:List α)(i:Nat)(a:α):l.toArray.setIfInBounds i a=(l.set i a).toArray:=List.setIfInBounds_toArray l i a
theorem bP{α:Type}{x:α}{xs:List α}{a:α}:(x :: xs).set 0 a=a :: xs:=rfl
theorem bO{α:Type}{x:α}{xs:List α}{n:Nat}{a:α}:(x :: xs).set (n+1) a=x :: xs.set n a:=rfl
theorem sS{P:Program}{ops:Array Oper}{Q:Exit->Act->World->Prop}{md:Region.Mode}{S:World->Prop}{i:Nat}{oi:Oper}{v:Value}{fuel:Nat}{listed:Array Bool}{a:Act}{w:World}
 (h:wpAnyH P md ops Q S fuel (listed.setIfInBounds i true) (a.put oi.dst v) w) (hi:ops[i]?=some oi:=by rfl)
 (hs:noSelect ops=true:=by kernel_rfl) (hf:free md ops listed i=true:=by kernel_rfl) (hr:(ready md ops listed).contains i=true:=by kernel_rfl)
 (hQ:∀c a w,Q (.panic c) (a.put oi.dst v) w->Q (.panic c) a w:=by exact λ_ _ _ h=>h)
 (hw:wanted oi (yielded ops a.tmps)=true:=by rfl)
 (hy:∀w',S w'->(execOp a.eval oi).run P w'=.ok (.value v) w':=by (intro w' hSw;(try dsimp only at hSw);go_simp<;>with_reducible rfl))
 (hS:S w:=by assumption):wpAnyH P md ops Q S (fuel+1) listed a w:=
 wpAnyH_take hi hs hf hr hQ (Or.inl ⟨hw,hy⟩) hS h
theorem sq(i:Nat){P:Program}{ops:Array Oper}{Q:Exit->Act->World->Prop}{md:Region.Mode}{S:World->Prop}{oi:Oper}{v:Value}{fuel:Nat}{listed:Array Bool}{a a':Act}{w:World}
 (hi:ops[i]?=some oi:=by rfl)
 (hs:noSelect ops=true:=by kernel_rfl) (hf:free md ops listed i=true:=by kernel_rfl) (hr:(ready md ops listed).contains i=true:=by kernel_rfl)
 (hQ:∀c a w,Q (.panic c) (a.put oi.dst v) w->Q (.panic c) a w:=by exact λ_ _ _ h=>h)
 (hw:wanted oi (yielded ops a.tmps)=true:=by rfl)
 (hy:∀w',S w'->(execOp a.eval oi).run P w'=.ok (.value v) w':=by (intro w' hSw;(try dsimp only at hSw);go_simp<;>with_reducible rfl))
 (ha:a.put oi.dst v=a':=by ((try simp only[Act.put,aR,aP,aO,bQ,bP,bO]);rfl))
 (hS:S w:=by assumption) (h:wpAnyH P md ops Q S fuel (listed.setIfInBounds i true) a' w):wpAnyH P md ops Q S (fuel+1) listed a w:=by
 subst ha;exact sS h hi hs hf hr hQ hw hy hS
theorem yG{P:Program}{ops:Array Oper}{Q:Exit->Act->World->Prop}{md:Region.Mode}{S:World->Prop}{i:Nat}{oi:Oper}{fuel:Nat}{listed:Array Bool}{a:Act}{w:World}
 (h:wpAnyH P md ops Q S fuel (listed.setIfInBounds i true) (a.put oi.dst undef) w) (hi:ops[i]?=some oi:=by rfl)
 (hs:noSelect ops=true:=by kernel_rfl) (hf:free md ops listed i=true:=by kernel_rfl) (hr:(ready md ops listed).contains i=true:=by kernel_rfl)
 (hQ:∀c a w,Q (.panic c) (a.put oi.dst undef) w->Q (.panic c) a w:=by exact λ_ _ _ h=>h)
 (hw:wanted oi (yielded ops a.tmps)=false:=by rfl)
 (hS:S w:=by assumption):wpAnyH P md ops Q S (fuel+1) listed a w:=
 wpAnyH_take hi hs hf hr hQ (Or.inr ⟨hw,rfl⟩) hS h
theorem dQ{P:Program}{ops:Array Oper}{Q:Exit->Act->World->Prop}{md:Region.Mode}{S:World->Prop}{i:Nat}{o:Oper}{fuel:Nat}{listed:Array Bool}{a:Act}{w:World}
 (h:∀K':Act->World->Prop,Shut (∀a w,S w->(S w->wpAnyH P md ops Q S fuel (listed.setIfInBounds i true) a w)->K' a w)->if wanted o (yielded ops a.tmps)=true then Oper.wp P o a w K' Q else K' (a.put o.dst undef) w)
 (ho:ops[i]?=some o:=by rfl) (hr:ready md ops listed=[i]:=by kernel_rfl):wpAnyH P md ops Q S (fuel+1) listed a w:=
 wpAnyH_ready hr (by simp) (AllReadyH.cons ho h AllReadyH.nil)
end Go.Proofs.YtfplmbmenjdlhaaGreatDoor
