/- For every diagram, every number and every move (whatever they hold) the call of HomflySkein returns true and leaves its arguments as they were. No condition. The frame of the proof is the shell of proof-skeleton.mjs, turned to a diagram and a move. -/
import Derived.Test.YtlicglicfijelaaGreatRows
import Derived.WalkKit
import Derived.ProofKit
import Derived.OpenShut
import Derived.ShutString
import Derived.ChangeOld
import Derived.Below
import Derived.Test.YtlicglicfijelaaGreatH1
import Derived.Test.YtlicglicfijelaaGreatSK3
namespace Go.Proofs.YtlicglicfijelaaGreat.homflySkein
open Go.ChangeShapes Go.WideShapes Go.ChangeAt Go.RowKit
open Go.ChangeMaps (open_string shut_string)
set_option linter.unusedVariables false

theorem own:ownKnob Tryz.prog.godebug=none:=by kernel_rfl
theorem laidOut:laidOutB Tryz.prog=true:=by kernel_rfl
theorem Tryz.cells26:Tryz.prog.cellsOf 26=2:=by kernel_rfl
theorem Tryz.cells28:Tryz.prog.cellsOf 28=8:=by kernel_rfl
set_option maxRecDepth 100000 in
theorem mv_in{H:Type}{enc:TypeId×Value→H}{w:World}{sp:Nat→Bool}{base:Nat}{v:Value}{d:DataW H}{p:List MemPlace}(hv:Value.okWide Tryz.prog w .any base 28 v)(h:DataW.Trod enc Tryz.prog w 0 sp true 28 v d p):
 ∃(k x y u t:Int) (ub tb ov:Bool),v=mvV k x y u t ub tb ov:=by
 obtain⟨cs,rfl,_⟩:=okWide_struct Tryz.underlying28 hv;obtain⟨fuel,hf⟩:=h;have hcells:(Value.agg cs).cells.toList=cs.toList:=rfl;rw[hcells]at hf;obtain⟨xs,n,_,_,hl,hxl,hf⟩:=DataW.trod_struct Tryz.underlying28 hf;rw[Tryz.cells28]at hl;obtain⟨cs⟩:=cs
 have arc_in:∀{n:Nat} {c0 c1:Value} {x:DataW H×List MemPlace},DataW.trod enc Tryz.prog w 0 sp true n 26 [c0,c1]=some x→∃(a:Int) (f:Bool),c0=.int .i64 a∧c1=.bool f:=fun h=>by
  obtain⟨y0,y1,n,_,_,t0,t1⟩:=trod_struct2 Tryz.underlying26 h
  simp[Tryz.cells3,Tryz.cells4]at t0 t1
  obtain⟨n0,e0,_,_⟩:=DataW.trod_int Tryz.underlying3 t0;obtain⟨b1,e1,_⟩:=DataW.trod_bool Tryz.underlying4 t1;simp only[List.cons.injEq,and_true]at e0 e1
  exact⟨n0,b1,e0,e1⟩
 match cs,hl,xs,hxl with
 |[c0,c1,c2,c3,c4,c5,c6,c7],_,[y0,y1,y2,y3,y4,y5],_=>
  have g0:=hf 0 _ rfl;have g1:=hf 1 _ rfl;have g2:=hf 2 _ rfl;have g3:=hf 3 _ rfl;have g4:=hf 4 _ rfl;have g5:=hf 5 _ rfl
  simp[Tryz.cells3,Tryz.cells4,Tryz.cells26]at g0 g1 g2 g3 g4 g5
  obtain⟨n0,e0,_,_⟩:=DataW.trod_int Tryz.underlying3 g0;obtain⟨n1,e1,_,_⟩:=DataW.trod_int Tryz.underlying3 g1;obtain⟨n2,e2,_,_⟩:=DataW.trod_int Tryz.underlying3 g2;obtain⟨n3,b4,rfl,rfl⟩:=arc_in g3;obtain⟨n5,b6,rfl,rfl⟩:=arc_in g4;obtain⟨b7,e7,_⟩:=DataW.trod_bool Tryz.underlying4 g5;simp only[List.cons.injEq,and_true]at e0 e1 e2 e7;subst e0 e1 e2 e7
  exact⟨n0,n1,n2,n3,n5,b4,b6,b7,rfl⟩
theorem walk(a:Option Addr)(c:Nat)(X:List Kn.Cr)(L kk k x y u v:Int)(ub vb ov:Bool)(w:World)(hx:CrsAt w a X)(lx:X.length≤9223372036854775807)(l1:-9223372036854775808≤L)(l2:L≤9223372036854775807)(a1:-9223372036854775808≤kk)(a2:kk≤9223372036854775807):
 Calls Tryz.prog 3 #[.agg #[.slice a X.length c,.int .i64 L],.int .i64 kk,mvV k x y u v ub vb ov] w fun e w'=>e=.returned (.bool true)∧Below w.heap.size w w':=
 (sklaw_any a X.length c X L kk k x y u v ub vb ov w hx rfl lx l1 l2 a1 a2).mono fun _ _ ⟨he,hn⟩=>⟨he,Fr.below hn fun _ hk=>⟨hk,fun x=>x⟩⟩

set_option maxRecDepth 100000 in
theorem lifted(os:Os)(started:os.Started)(H:Type)(enc:TypeId×Value→H):
 ReturnsInHanded {} Tryz.checked os 3 .any (Rows.homflySkeinSpec.pre6 enc Tryz.prog Tryz.f3 Rows.homflySkeinRow.domain false) (Rows.homflySkeinSpec.post enc Tryz.prog Tryz.f3 false true false false):=by
 refine returnsInHanded_of_change (C:=Tryz.checked) own started (by kernel_rfl) Tryz.func3
  (ChangeSpec.witness6 (enc:=enc) (C:=Tryz.checked) false ⟨#[],#[.agg #[.slice none 0 0,.int .i64 0],.int .i64 0,.agg #[.int .i64 0,.int .i64 0,.int .i64 0,.int .i64 0,.bool false,.int .i64 0,.bool false,.bool false]],[]⟩ 8 (by kernel_rfl) (by kernel_rfl) (by kernel_rfl) (by kernel_rfl)) ?_
 intro W base args ds gs before hval0 hW hcnd _
 have hval:∀(j:Nat) t v,Tryz.f3.params[j]?=some t→args[j]?=some v→Value.okWide Tryz.prog W .any base t v:=hval0
 have hW':=hW;obtain⟨p,q,hA0,hV,rfl,hfz,hnd⟩:=hW;have hA:DataW.TrodAll enc Tryz.prog W 0 (fun _=>true) true Tryz.f3.params.toList args.toList ds p:=hA0;rw[Tryz.params3]at hA hval;obtain⟨v0,vs0,d0,ds0,p0,q0,hargs,rfl,rfl,h0,r0⟩:=trodAll_cons hA;obtain⟨v1,vs1,d1,ds1,p1,q1,rfl,rfl,rfl,h1,r1⟩:=trodAll_cons r0;obtain⟨v2,vs2,d2,ds2,p2,q2,rfl,rfl,rfl,h2,r2⟩:=trodAll_cons r1;obtain⟨rfl,rfl,rfl⟩:=trodAll_nil r2
 obtain rfl:args=#[v0,v1,v2]:=by cases args;simp_all
 obtain⟨rfl,rfl⟩:=trodVars_none hV;have k0:=h0
 have lt0:∀x∈p0,x.block<W.heap.size:=by obtain⟨m,hm⟩:=k0;exact DataW.trod_lt m _ _ _ hm
 obtain⟨a,c,X,L,rfl,hx,lx,l1,l2⟩:=diag_in (hval 0 24 v0 rfl rfl) h0;have k1:=h1
 have lt1:∀x∈p1,x.block<W.heap.size:=by obtain⟨m,hm⟩:=k1;exact DataW.trod_lt m _ _ _ hm
 obtain⟨kk,rfl,_,_,hw1⟩:=open_int Tryz.underlying3 (hval 1 3 v1 rfl rfl) h1;have g1:=bounds_i64 hw1;have k2:=h2
 have lt2:∀x∈p2,x.block<W.heap.size:=by obtain⟨m,hm⟩:=k2;exact DataW.trod_lt m _ _ _ hm
 obtain⟨k,x,y,u,v,ub,vb,ov,rfl⟩:=mv_in (hval 2 28 v2 rfl rfl) h2;clear hA0 hval0
 refine(walk a c X L kk k x y u v ub vb ov W hx lx l1 l2 (by omega) (by omega)).mono fun e W' ⟨he,bel⟩=>?_
 subst he
 exact⟨_,rfl,_,_,_,[],_,[],hW',trodAll_mk1 (shut_bool Tryz.underlying4 _),(trodAll_cons_mk (Below.trod laidOut (by kernel_rfl) (of_decide_eq_true (by kernel_rfl)) k0 bel lt0) (trodAll_cons_mk (Below.trod laidOut (by kernel_rfl) (of_decide_eq_true (by kernel_rfl)) k1 bel lt1) (trodAll_cons_mk (Below.trod laidOut (by kernel_rfl) (of_decide_eq_true (by kernel_rfl)) k2 bel lt2) trodAll_mk0))),rfl,bel.frame _,fun h=>by cases h⟩

theorem over:Rows.homflySkeinRow.holds Tryz.pinned (OpenSpec.ofChange Rows.homflySkeinSpec):=
 OpenClaim.holds_of_wide 3 Tryz.f3 rfl rfl rfl rfl rfl rfl rfl ⟨rfl,rfl,rfl,rfl,rfl⟩ rfl rfl rfl rfl rfl (by kernel_rfl) Tryz.func3 (by kernel_rfl)
  (of_decide_eq_true (by kernel_rfl)) (by unfold Func.isWrapper;first|(rw[if_pos (by decide +kernel)];kernel_rfl)|(rw[if_neg (by decide +kernel)];exact⟨rfl,rfl⟩))
  (fun os started H enc _=>lifted os started H enc)

theorem proved:Rows.HomflySkeinSaid:=over
#print axioms proved
end Go.Proofs.YtlicglicfijelaaGreat.homflySkein
