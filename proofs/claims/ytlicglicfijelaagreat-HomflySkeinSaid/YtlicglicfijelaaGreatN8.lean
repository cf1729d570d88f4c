/- Walks: words for Without: what it keeps at work. -/
import Derived.Test.YtlicglicfijelaaGreatN8a
namespace Go.Proofs.YtlicglicfijelaaGreat
open Go.RowKit

theorem Tryz.ul94:Tryz.prog.underlying 94=some (.map 3 4):=by kernel_rfl
def LeftMap(W:World)(mb:Nat)(l:List Nat):Prop:=
 ∃D:DataW Unit,W.ownsMap Tryz.prog 3 (plainElem Tryz.prog 4) mb l.length D∧Maps.IsMap D∧∀x:Nat,D.atKey (.int .i64 (x:Nat)) (.lit (.bool false))=.lit (.bool (decide (x∈l)))
theorem LeftMap.made(w:World):LeftMap (w.alloc (.map #[] 0)) w.heap.size []:=⟨_,World.ownsMap_made _ _ _ _,Maps.isMap_empty,fun x=>by rw[decide_eq_false (by simp)];rfl⟩
theorem LeftMap.fr{S:Nat→Prop}{W W':World}{mb:Nat}{l:List Nat}(h:LeftMap W mb l)(hf:Fr S W W')(hs:¬S mb):LeftMap W' mb l:=by
 obtain⟨D,⟨es,ck,hb,r⟩,h1,h2⟩:=h
 exact⟨D,⟨es,ck,(hf.block mb (Array.getElem?_eq_some_iff.1 hb).1 hs).trans hb,r⟩,h1,h2⟩
theorem LeftMap.block{W:World}{mb:Nat}{l:List Nat}(h:LeftMap W mb l):∃es ck,W.heap[mb]?=some (.map es ck):=by
 obtain⟨D,⟨es,ck,hb,_⟩,_⟩:=h
 exact⟨es,ck,hb⟩
set_option maxRecDepth 100000 in
theorem LeftMap.look{W:World}{mb:Nat}{l:List Nat}(h:LeftMap W mb l){x:Nat}(hx:x≤1000):(Instr.lookup 94 (.map (some mb)) (.int .i64 (x:Nat)) false).run Tryz.prog W=.ok (.bool (decide (x∈l))) W:=by
 obtain⟨D,ho,_,h2⟩:=h;obtain⟨v,ps,hrun,hv⟩:=ho.lookup Tryz.law3 Tryz.ul94 (Tryz.zero4 W) (plainElem_bool Tryz.ul4 false) (Maps.keyOf_int_mk Tryz.underlying3 (wfN hx));rw[h2 x]at hv
 have hv':v=.bool (decide (x∈l)):=by
  unfold plainElem at hv
  rw[Tryz.ul4]at hv
  cases v<;>simp at hv
  rw[hv.1]
 rw[hrun,hv']
theorem LeftMap.put{W':World}{mb:Nat}{l:List Nat}{D:DataW Unit}{x:Nat}(h1:Maps.IsMap D)(h2:∀x:Nat,D.atKey (.int .i64 (x:Nat)) (.lit (.bool false))=.lit (.bool (decide (x∈l))))
 (ho:W'.ownsMap Tryz.prog 3 (plainElem Tryz.prog 4) mb (l.length+1) (D.put (.int .i64 (x:Nat)) (.lit (.bool true)))):LeftMap W' mb (l++[x]):=by
 refine⟨_,by rw[List.length_append];exact ho,h1.put _ _,fun z=>?_⟩
 by_cases c:z=x
 · subst c
   rw[Maps.atKey_put_same h1 (k:=.int .i64 (z:Nat)) trivial,decide_eq_true (by simp)]
 · have hne:(Lit.int .i64 (z:Nat))≠.int .i64 (x:Nat):=fun e=>c (by injection e with _ e;omega)
   rw[Maps.atKey_put_other hne,h2 z];simp[c]
theorem map_ne_blk{W:World}{mb B t:Nat}{cs:Array Value}{l:List Nat}(h:LeftMap W mb l)(hb:W.heap[B]?=some (.cells cs t (0,0))):¬mb=B:=by
 obtain⟨es,ck,hm⟩:=h.block;rintro rfl
 rw[hm]at hb;cases hb
theorem map_ne_row{W:World}{mb B t n:Nat}{f:Nat→Value}{l:List Nat}(h:LeftMap W mb l)(hr:W.rowIs B t n f):¬mb=B:=by
 obtain⟨cs,h1,_⟩:=hr
 exact map_ne_blk h h1
theorem map_ne_own{W:World}{mb base e sz n:Nat}{v:Value}{xs:List Value}{l:List Nat}(h:LeftMap W mb l)(ho:W.ownsRow base e sz v n xs):¬v.ownBlock=some mb:=by
 obtain⟨es,ck,hm⟩:=h.block
 exact fun e=>own_not_map ho hm _ e rfl

theorem wp_mapUpdate_own{H:Type}{P:Program}(w:World){o:Oper}{a:Act}{K:Act→World→Prop}{Q:Exit→Act→World→Prop}
 (m x v:Operand) (t:TypeId) (hop:o.op=Op.mapUpdate t m x v)
 (k e:TypeId) (KK:Maps.Keyed P k) (ht:P.underlying t=some (.map k e)) (R:Value→Option (DataW H×List MemPlace)) (b n:Nat) (D:DataW H)
 (hm:a.eval m=.map (some b)) (hown:w.ownsMap P k R b n D) (hn:n<maxLen) (key val:Value) (kl:Lit) (hx:a.eval x=key) (hv:a.eval v=val) (hkey:keyOf P k key=some kl)
 (d:DataW H) (ps:List MemPlace) (hval:R val=some (d,ps))
 (hK:∀w',w'.ownsMap P k R b (n+1) (D.put kl d)→w.grownBy w' (some b)→K (a.put o.dst undef) w'):o.wp P a w K Q:=by
 obtain⟨w',hrun,r1,r2⟩:=hown.update KK ht hn hkey hval
 unfold Oper.wp
 simp[execOp,hop,hm,hx,hv,hrun,Result.andThen]
 exact hK w' r1 r2
def markS(Y:List Kn.Cr)(f:Nat→Nat)(q t r:Nat):Prop:=∃i s,s<4∧(i<q∨(i=q∧s<t))∧f (Kn.arcN Y (i,s))=r
theorem markS_zero(Y:List Kn.Cr)(f:Nat→Nat)(r:Nat):¬markS Y f 0 0 r:=by
 rintro⟨i,s,_,h|h,_⟩<;>omega
theorem markS_step{Y:List Kn.Cr}{f:Nat→Nat}{q t r:Nat}(ht:t<4):markS Y f q (t+1) r↔markS Y f q t r∨r=f (Kn.arcN Y (q,t)):=by
 constructor
 · rintro⟨i,s,h1,h2,h3⟩
   by_cases c:i=q∧s=t
   · right;rw[←h3,c.1,c.2]
   · left;exact⟨i,s,h1,by omega,h3⟩
 · rintro(⟨i,s,h1,h2,h3⟩|h)
   · exact⟨i,s,h1,by omega,h3⟩
   · exact⟨q,t,ht,by omega,h.symm⟩
theorem markS_next{Y:List Kn.Cr}{f:Nat→Nat}{q r:Nat}:markS Y f q 4 r↔markS Y f (q+1) 0 r:=by
 constructor
 · rintro⟨i,s,h1,h2,h3⟩;exact⟨i,s,h1,by omega,h3⟩
 · rintro⟨i,s,h1,h2,h3⟩;exact⟨i,s,h1,by omega,h3⟩
structure WS(w wr:World)(rb cB rB dB mB m:Nat)(f:Nat→Nat)(L:Int)(v:Value)(Y:List Kn.Cr)(l:List Nat):Prop where
 new:New w wr
 res:wr.heap[rb]?=some (.cells #[.slice none 0 0,.int .i64 0] 24 (0,0))
 cls:wr.heap[cB]?=some (.cells #[.slice (some ⟨rB,0,none⟩) m m] 78 (0,0))
 row:wr.rowIs rB 3 m (numFn f)
 dia:wr.heap[dB]?=some (.cells #[v,.int .i64 L] 24 (0,0))
 own:wr.ownsRow w.heap.size 41 5 v Y.length (crCells Y)
 map:LeftMap wr mB l
 lr:w.heap.size≤rb
 lrow:w.heap.size≤rB
 ld:w.heap.size≤dB
 lm:w.heap.size≤mB
 ne:¬rb=dB
section
variable {w wr w':World} {rb cB rB dB mB m:Nat} {f:Nat→Nat} {L:Int} {v:Value} {Y:List Kn.Cr} {l:List Nat}
theorem WS.nw(h:WS w wr rb cB rB dB mB m f L v Y l)(hf:New wr w'):WS w w' rb cB rB dB mB m f L v Y l:=
 ⟨h.new.trans hf,hf.blk h.res fun x=>x,hf.blk h.cls fun x=>x,hf.row h.row fun x=>x,hf.blk h.dia fun x=>x,hf.owns h.own fun _ _ x=>x,h.map.fr hf fun x=>x,h.lr,h.lrow,h.ld,h.lm,h.ne⟩
theorem WS.c1(h:WS w wr rb cB rB dB mB m f L v Y l):wr.cell? ⟨cB,0,none⟩=some (.slice (some ⟨rB,0,none⟩) m m):=cell_of_row _ _ 0 _ 78 (0,0) h.cls
theorem WS.cl(h:WS w wr rb cB rB dB mB m f L v Y l)(a x:Nat):WS w (wr.setCell ⟨rB,a,none⟩ (.int .i64 (x:Nat))) rb cB rB dB mB m (fun y=>if y=a then x else f y) L v Y l:=by
 have hF:Fr (fun k=>k=rB) wr (wr.setCell ⟨rB,a,none⟩ (.int .i64 (x:Nat))):=(Fr.refl (fun k=>k=rB) wr).setCell (a:=⟨rB,a,none⟩) (.inl rfl) _
 exact⟨h.new.next hF fun i hi=>.inr (by rw[hi];exact h.lrow),hF.blk h.res (blk_ne h.res h.row (by decide)),hF.blk h.cls (blk_ne h.cls h.row (by decide)),rowIs_setN h.row a x,hF.blk h.dia (blk_ne h.dia h.row (by decide)),
  hF.owns h.own (own_ne h.own h.row (by decide)),h.map.fr hF (map_ne_row h.map h.row),h.lr,h.lrow,h.ld,h.lm,h.ne⟩
theorem WS.congr{g:Nat→Nat}(h:WS w wr rb cB rB dB mB m f L v Y l)(hg:∀j,j<m→g j=f j):WS w wr rb cB rB dB mB m g L v Y l:=
 ⟨h.new,h.res,h.cls,rowIs_congr h.row fun j hj=>by unfold numFn;rw[hg j hj],h.dia,h.own,h.map,h.lr,h.lrow,h.ld,h.lm,h.ne⟩
theorem WS.touch(h:WS w wr rb cB rB dB mB m f L v Y l)(hF:Fr (fun k=>v.ownBlock=some k) wr w'):New w w'∧w'.heap[rb]?=some (.cells #[.slice none 0 0,.int .i64 0] 24 (0,0))∧w'.heap[cB]?=some (.cells #[.slice (some ⟨rB,0,none⟩) m m] 78 (0,0)) ∧
 w'.rowIs rB 3 m (numFn f)∧w'.heap[dB]?=some (.cells #[v,.int .i64 L] 24 (0,0))∧LeftMap w' mB l:=
 ⟨h.new.next hF fun i hi=>.inr (own_lb h.own i hi),hF.blk h.res (blk_not_own h.res h.own (by decide)),hF.blk h.cls (blk_not_own h.cls h.own (by decide)),hF.row h.row (fun e=>own_ne h.own h.row (by decide) _ e rfl),
  hF.blk h.dia (blk_not_own h.dia h.own (by decide)),h.map.fr hF (map_ne_own h.map h.own)⟩
theorem WS.app{o:Obj}{w7:World}{g c n:Nat}{x:Kn.Cr}(h:WS w wr rb cB rB dB mB m f L v Y l)(hn:n=Y.length)(hown:w7.ownsRow w.heap.size 41 5 (.slice (some ⟨g,0,none⟩) (n+1) c) (n+1) (crCells Y++[.int .i64 x.a,.int .i64 x.b,.int .i64 x.c,.int .i64 x.d,.bool x.p]))
 (hg:(wr.alloc o).grownBy w7 v.ownBlock):
 w7.heap[dB]?=some (.cells #[v,.int .i64 L] 24 (0,0))∧WS w (w7.setCell ⟨dB,0,none⟩ (.slice (some ⟨g,0,none⟩) (n+1) c)) rb cB rB dB mB m f L (.slice (some ⟨g,0,none⟩) (n+1) c) (Y++[x]) l:=by
 subst hn
 have hF:Fr (fun k=>v.ownBlock=some k) wr w7:=((Fr.refl _ wr).alloc o).grown hg fun k e=>.inl e
 have ho:w7.ownsRow w.heap.size 41 5 (.slice (some ⟨g,0,none⟩) (Y.length+1) c) (Y++[x]).length (crCells (Y++[x])):=by
  rw[crCells_snoc,List.length_append,List.length_singleton];exact hown
 obtain⟨h1,h2,h3,h4,h5,h6⟩:=h.touch hF;have hS:Fr (fun k=>k=dB) w7 (w7.setCell ⟨dB,0,none⟩ (.slice (some ⟨g,0,none⟩) (Y.length+1) c)):=(Fr.refl (fun k=>k=dB) w7).setCell (.inl rfl) _
 have hnD:¬cB=dB:=fun e=>by subst e;rw[h3]at h5;cases h5
 refine⟨h5,h1.next hS fun i hi=>.inr (by rw[hi];exact h.ld),hS.blk h2 h.ne,hS.blk h3 hnD,hS.row h4 (fun e=>blk_ne h5 h4 (by decide) e.symm),(box2_set h5 _).1,hS.owns ho (fun k hk e=>blk_not_own h5 ho (by decide) (e ▸ hk)),h6.fr hS (map_ne_blk h6 h5),h.lr,h.lrow,h.ld,h.lm,h.ne⟩
theorem WS.mark{o:Option Nat}{l':List Nat}(h:WS w wr rb cB rB dB mB m f L v Y l)(hg:wr.grownBy w' o)(ho:o=some mB)(hm:LeftMap w' mB l'):WS w w' rb cB rB dB mB m f L v Y l':=by
 subst ho
 have hF:Fr (fun k=>k=mB) wr w':=(Fr.refl _ wr).grown hg fun k e=>.inl (Option.some.inj e).symm
 obtain⟨es,ck,hb⟩:=h.map.block
 refine⟨h.new.next hF fun i hi=>.inr (by rw[hi];exact h.lm),hF.blk h.res fun e=>map_ne_blk h.map h.res e.symm,hF.blk h.cls fun e=>map_ne_blk h.map h.cls e.symm,hF.row h.row fun e=>map_ne_row h.map h.row e.symm,hF.blk h.dia fun e=>map_ne_blk h.map h.dia e.symm,
  hF.owns h.own (fun k hk=>own_not_map h.own hb k hk),hm,h.lr,h.lrow,h.ld,h.lm,h.ne⟩
end

structure WT(w wr:World)(rb cB rB dB mB m nB qB:Nat)(f g:Nat→Nat)(L:Int)(v:Value)(Y:List Kn.Cr)(l:List Nat):Prop where
 ws:WS w wr rb cB rB dB mB m f L v Y l
 num:wr.heap[nB]?=some (.cells #[.slice (some ⟨qB,0,none⟩) m m] 78 (0,0))
 nrow:wr.rowIs qB 3 m (numFn g)
 lq:w.heap.size≤qB
 nq:¬rB=qB
section
variable {w wr w':World} {rb cB rB dB mB m nB qB:Nat} {f g:Nat→Nat} {L:Int} {v:Value} {Y:List Kn.Cr} {l:List Nat}
theorem WT.nw(h:WT w wr rb cB rB dB mB m nB qB f g L v Y l)(hf:New wr w'):WT w w' rb cB rB dB mB m nB qB f g L v Y l:=
 ⟨h.ws.nw hf,hf.blk h.num fun x=>x,hf.row h.nrow fun x=>x,h.lq,h.nq⟩
theorem WT.c2(h:WT w wr rb cB rB dB mB m nB qB f g L v Y l):wr.cell? ⟨nB,0,none⟩=some (.slice (some ⟨qB,0,none⟩) m m):=cell_of_row _ _ 0 _ 78 (0,0) h.num
theorem WT.set(h:WT w wr rb cB rB dB mB m nB qB f g L v Y l)(a x:Nat):WT w (wr.setCell ⟨qB,a,none⟩ (.int .i64 (x:Nat))) rb cB rB dB mB m nB qB f (fun y=>if y=a then x else g y) L v Y l:=by
 have hF:Fr (fun k=>k=qB) wr (wr.setCell ⟨qB,a,none⟩ (.int .i64 (x:Nat))):=(Fr.refl (fun k=>k=qB) wr).setCell (a:=⟨qB,a,none⟩) (.inl rfl) _;have s:=h.ws
 exact⟨⟨s.new.next hF fun i hi=>.inr (by rw[hi];exact h.lq),hF.blk s.res (blk_ne s.res h.nrow (by decide)),hF.blk s.cls (blk_ne s.cls h.nrow (by decide)),hF.row s.row h.nq,hF.blk s.dia (blk_ne s.dia h.nrow (by decide)),
  hF.owns s.own (own_ne s.own h.nrow (by decide)),s.map.fr hF (map_ne_row s.map h.nrow),s.lr,s.lrow,s.ld,s.lm,s.ne⟩,hF.blk h.num (blk_ne h.num h.nrow (by decide)),rowIs_setN h.nrow a x,h.lq,h.nq⟩
theorem WT.congr{g':Nat→Nat}(h:WT w wr rb cB rB dB mB m nB qB f g L v Y l)(hg:∀j,j<m→g' j=g j):WT w wr rb cB rB dB mB m nB qB f g' L v Y l:=
 ⟨h.ws,h.num,rowIs_congr h.nrow fun j hj=>by unfold numFn;rw[hg j hj],h.lq,h.nq⟩
theorem WT.ring(h:WT w wr rb cB rB dB mB m nB qB f g L v Y l)(L':Int):WT w (wr.setCell ⟨dB,1,none⟩ (.int .i64 L')) rb cB rB dB mB m nB qB f g L' v Y l:=by
 have s:=h.ws;have hS:Fr (fun k=>k=dB) wr (wr.setCell ⟨dB,1,none⟩ (.int .i64 L')):=(Fr.refl (fun k=>k=dB) wr).setCell (.inl rfl) _
 have hnD:∀{B:Nat} {cs:Array Value},wr.heap[B]?=some (.cells cs 78 (0,0))→¬B=dB:=fun hB e=>by
  have h5:=s.dia
  subst e;rw[hB]at h5;cases h5
 exact⟨⟨s.new.next hS fun i hi=>.inr (by rw[hi];exact s.ld),hS.blk s.res s.ne,hS.blk s.cls (hnD s.cls),hS.row s.row (fun e=>blk_ne s.dia s.row (by decide) e.symm),(box2_set s.dia _).2,hS.owns s.own (fun k hk e=>blk_not_own s.dia s.own (by decide) (e ▸ hk)),s.map.fr hS (map_ne_blk s.map s.dia),s.lr,s.lrow,s.ld,s.lm,s.ne⟩,
  hS.blk h.num (hnD h.num),hS.row h.nrow (fun e=>blk_ne s.dia h.nrow (by decide) e.symm),h.lq,h.nq⟩
theorem WT.put{gg c n k:Nat}{x:Kn.Cr}(h:WT w wr rb cB rB dB mB m nB qB f g L (.slice (some ⟨gg,0,none⟩) n c) Y l)(hn:n=Y.length)(hk:k<Y.length):
 WT w (set5 wr gg k x.a x.b x.c x.d x.p) rb cB rB dB mB m nB qB f g L (.slice (some ⟨gg,0,none⟩) n c) (Y.set k x) l:=by
 subst hn;have s:=h.ws
 have hF:Fr (fun j=>(Value.slice (some ⟨gg,0,none⟩) Y.length c).ownBlock=some j) wr (set5 wr gg k x.a x.b x.c x.d x.p):=(fr_set5 wr gg k x.a x.b x.c x.d x.p).mono fun i hi=>by rw[hi];rfl
 obtain⟨h1,h2,h3,h4,h5,h6⟩:=s.touch hF
 refine⟨⟨h1,h2,h3,h4,h5,?_,h6,s.lr,s.lrow,s.ld,s.lm,s.ne⟩,hF.blk h.num (blk_not_own h.num s.own (by decide)),hF.row h.nrow (fun e=>own_ne s.own h.nrow (by decide) _ e rfl),h.lq,h.nq⟩
 rw[List.length_set]
 exact own_set5 s.own hk x
theorem WT.clo{a e:Nat}(h:WT w wr rb cB rB dB mB m nB qB f g L v Y l)(ha:a<m)(hf:f a<m)(he:g (f a)=e):
 Calls Tryz.prog 38 #[.int .i64 a,.pointer (some ⟨nB,0,none⟩),.pointer (some ⟨cB,0,none⟩)] wr (fun en w'=>en=.returned (.int .i64 (e:Nat))∧New wr w'):=
 with1_any nB cB qB rB m a (f a) e wr h.c2 h.ws.c1 (h.ws.row.cell ha) (by rw[←he];exact h.nrow.cell hf) ha hf
theorem WT.gave(h:WT w wr rb cB rB dB mB m nB qB f g L v Y l):
 ((wr.setCell ⟨rb,0,none⟩ v).setCell ⟨rb,1,none⟩ (.int .i64 L)).ownsRow w.heap.size 41 5 v Y.length (crCells Y)∧New w ((wr.setCell ⟨rb,0,none⟩ v).setCell ⟨rb,1,none⟩ (.int .i64 L)):=by
 have s:=h.ws
 have hF:Fr (fun k=>k=rb) wr ((wr.setCell ⟨rb,0,none⟩ v).setCell ⟨rb,1,none⟩ (.int .i64 L)):=by refine Fr.setCell (Fr.setCell (Fr.refl _ wr) ?_ _) ?_ _<;>exact .inl rfl
 exact⟨hF.owns s.own fun k hk e=>blk_not_own s.res s.own (by decide) (e ▸ hk),s.new.next hF fun i hi=>.inr (by rw[hi];exact s.lr)⟩
end
def mapTo(f:Kn.Cr→Kn.Cr)(X:List Kn.Cr)(k:Nat):List Kn.Cr:=(X.take k).map f++X.drop k
theorem mapTo_len(f:Kn.Cr→Kn.Cr)(X:List Kn.Cr)(k:Nat):(mapTo f X k).length=X.length:=by unfold mapTo;simp;omega
theorem mapTo_zero(f:Kn.Cr→Kn.Cr)(X:List Kn.Cr):mapTo f X 0=X:=by unfold mapTo;simp
theorem mapTo_all(f:Kn.Cr→Kn.Cr)(X:List Kn.Cr):mapTo f X X.length=X.map f:=by unfold mapTo;simp
theorem mapTo_cr{f:Kn.Cr→Kn.Cr}{X:List Kn.Cr}{k:Nat}(hk:k<X.length):Kn.cr (mapTo f X k) k=Kn.cr X k:=by
 unfold Kn.cr mapTo
 rw[List.getD_eq_getElem?_getD,List.getD_eq_getElem?_getD,List.getElem?_append_right (by simp;omega)]
 congr 1
 rw[List.length_map,List.length_take,List.getElem?_drop]
 congr 1;omega
theorem mapTo_succ{f:Kn.Cr→Kn.Cr}{X:List Kn.Cr}{k:Nat}(hk:k<X.length):(mapTo f X k).set k (f (Kn.cr X k))=mapTo f X (k+1):=by
 have e:X[k]=Kn.cr X k:=by unfold Kn.cr;rw[List.getD_eq_getElem?_getD,List.getElem?_eq_getElem hk];rfl
 unfold mapTo
 rw[List.take_succ_eq_append_getElem hk,List.drop_eq_getElem_cons hk,List.set_append_right _ _ (by simp;omega)];rw[List.length_map,List.length_take,show k-min k X.length=0 by omega,List.set_cons_zero,e]
 simp
def keptTo(X:List Kn.Cr)(gone:Nat→Bool)(k:Nat):List Kn.Cr:=(Kn.kept k gone).map (Kn.cr X)
theorem keptTo_succ(X:List Kn.Cr)(gone:Nat→Bool)(k:Nat):keptTo X gone (k+1)=if gone k then keptTo X gone k else keptTo X gone k++[Kn.cr X k]:=by
 unfold keptTo Kn.kept
 rw[List.range_succ,List.filter_append,List.map_append]
 cases h:gone k<;>simp[h]
theorem keptTo_len(X:List Kn.Cr)(gone:Nat→Bool)(k:Nat):(keptTo X gone k).length≤k:=by
 unfold keptTo Kn.kept
 rw[List.length_map]
 exact Nat.le_trans (List.length_filter_le _ _) (by rw[List.length_range];exact Nat.le_refl _)
theorem keptTo_cr{X:List Kn.Cr}{gone:Nat→Bool}{n q:Nat}(hq:q<(keptTo X gone n).length):Kn.cr (keptTo X gone n) q=Kn.cr X ((Kn.kept n gone).getD q 0)∧(Kn.kept n gone).getD q 0<n∧gone ((Kn.kept n gone).getD q 0)=false:=by
 unfold keptTo at hq ⊢
 rw[List.length_map]at hq
 have e1:(Kn.kept n gone).getD q 0=(Kn.kept n gone)[q]:=by rw[List.getD_eq_getElem?_getD,List.getElem?_eq_getElem hq];rfl
 have hm:=Kn.mem_kept.1 (List.getElem_mem hq);rw[←e1]at hm
 refine⟨?_,hm⟩
 rw[e1]
 show ((Kn.kept n gone).map (Kn.cr X)).getD q default=_
 rw[List.getD_eq_getElem?_getD,List.getElem?_map,List.getElem?_eq_getElem hq];rfl
theorem keptTo_arcN{X:List Kn.Cr}{gone:Nat→Bool}{n q:Nat}(hq:q<(keptTo X gone n).length)(s:Nat):Kn.arcN (keptTo X gone n) (q,s)=Kn.arcN X ((Kn.kept n gone).getD q 0,s):=by
 unfold Kn.arcN Kn.at_;rw[(keptTo_cr hq).1]
theorem keptTo_arc{X:List Kn.Cr}(hX:Kn.Ok X){gone:Nat→Bool}{n q mm:Nat}(hn:n=X.length)(hmm:mm=Kn.nArcs X+1)(hq:q<(keptTo X gone n).length){s:Nat}(hs:s<4):
 (Kn.cr (keptTo X gone n) q).arc s=(Kn.arcN (keptTo X gone n) (q,s):Nat)∧Kn.arcN (keptTo X gone n) (q,s)<mm∧1≤Kn.arcN (keptTo X gone n) (q,s):=by
 obtain⟨h1,h2,_⟩:=keptTo_cr hq;have hp:Kn.isPl X ((Kn.kept n gone).getD q 0,s):=⟨by show _<_;omega,hs⟩;have ha:=hX.isArc hp;have hr:=(hX.rng _ hp).1;rw[keptTo_arcN hq]
 refine⟨?_,by have:=ha.2;omega,ha.1⟩
 rw[h1]
 unfold Kn.arcN
 show Kn.at_ X ((Kn.kept n gone).getD q 0,s)=((Kn.at_ X ((Kn.kept n gone).getD q 0,s)).toNat:Int)
 omega
theorem markS_left{X:List Kn.Cr}{gone:Nat→Bool}{n:Nat}(hn:n=X.length)(f:Nat→Nat)(r:Nat):markS (keptTo X gone n) f (keptTo X gone n).length 0 r↔Kn.leftB X f gone r=true:=by
 have hl:(keptTo X gone n).length=(Kn.kept n gone).length:=by unfold keptTo;rw[List.length_map]
 rw[Kn.leftB_iff]
 constructor
 · rintro⟨i,s,h1,h2,h3⟩
   have hi:i<(keptTo X gone n).length:=by omega
   obtain⟨_,h5,h6⟩:=keptTo_cr hi
   exact⟨((Kn.kept n gone).getD i 0,s),⟨by show _<_;omega,h1⟩,h6,by rw[←keptTo_arcN hi];exact h3⟩
 · rintro⟨p,h1,h2,h3⟩
   obtain⟨i,hi,e⟩:=Kn.kept_at (n:=n) (show p.1<n by have:=h1.1;omega) h2
   refine⟨i,p.2,h1.2,.inl (by omega),?_⟩
   rw[keptTo_arcN (by omega),e];exact h3
theorem withL_map{X:List Kn.Cr}{gone:Nat→Bool}{n:Nat}(hn:n=X.length)(f:Nat→Nat):Kn.withL X f gone=(keptTo X gone n).map fun x=>x.ren fun a=>Kn.numF X f gone (f a):=by
 unfold Kn.withL keptTo
 rw[List.map_map,hn];rfl
def ringC(X:List Kn.Cr)(f:Nat→Nat)(gone:Nat→Bool)(v:Nat):Nat:=(List.range v).countP fun a=>decide (f (a+1)=a+1) && !Kn.leftB X f gone (a+1)
theorem ringC_succ(X:List Kn.Cr)(f:Nat→Nat)(gone:Nat→Bool)(v:Nat):ringC X f gone (v+1)=ringC X f gone v+if (decide (f (v+1)=v+1) && !Kn.leftB X f gone (v+1))then 1 else 0:=by
 unfold ringC
 rw[List.range_succ,List.countP_append,List.countP_cons,List.countP_nil];simp
theorem ringC_le(X:List Kn.Cr)(f:Nat→Nat)(gone:Nat→Bool)(v:Nat):ringC X f gone v≤v:=by
 unfold ringC
 exact Nat.le_trans List.countP_le_length (by rw[List.length_range];exact Nat.le_refl _)
theorem numF_le(X:List Kn.Cr)(f:Nat→Nat)(gone:Nat→Bool)(v:Nat):Kn.numF X f gone v≤v:=by
 unfold Kn.numF
 exact Nat.le_trans List.countP_le_length (by rw[List.length_range];exact Nat.le_refl _)
def numTo(X:List Kn.Cr)(f:Nat→Nat)(gone:Nat→Bool)(a x:Nat):Nat:=if 1≤x∧x<a∧Kn.rootB X f gone x=true then Kn.numF X f gone x else 0
theorem numTo_skip{X:List Kn.Cr}{f:Nat→Nat}{gone:Nat→Bool}{a:Nat}(h:Kn.rootB X f gone a=false)(x:Nat):numTo X f gone (a+1) x=numTo X f gone a x:=by
 unfold numTo
 by_cases e:x=a
 · subst e;rw[h];simp
 · by_cases c:1≤x∧x<a∧Kn.rootB X f gone x=true
   · rw[if_pos c,if_pos ⟨c.1,by omega,c.2.2⟩]
   · rw[if_neg c,if_neg (fun k=>c ⟨k.1,by omega,k.2.2⟩)]
theorem numTo_put{X:List Kn.Cr}{f:Nat→Nat}{gone:Nat→Bool}{a:Nat}(h1:1≤a)(h:Kn.rootB X f gone a=true)(x:Nat):numTo X f gone (a+1) x=if x=a then Kn.numF X f gone a else numTo X f gone a x:=by
 by_cases e:x=a
 · subst e;unfold numTo;rw[if_pos rfl,if_pos ⟨h1,by omega,h⟩]
 · rw[if_neg e]
   unfold numTo
   by_cases c:1≤x∧x<a∧Kn.rootB X f gone x=true
   · rw[if_pos c,if_pos ⟨c.1,by omega,c.2.2⟩]
   · rw[if_neg c,if_neg (fun k=>c ⟨k.1,by omega,k.2.2⟩)]
end Go.Proofs.YtlicglicfijelaaGreat
