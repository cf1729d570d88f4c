/- Walks: words for Without: what it keeps at work. -/
import Derived.Test.YtfplmbmenjdlhaaGreatDoorN7
set_option maxRecDepth 100000
set_option maxHeartbeats 16000000
namespace Go.Proofs.YtfplmbmenjdlhaaGreatDoor
open Go.RowKit
open Fr (refl)
open Kn (Cr aa at_ cr kept gw fC gh)
open Go.Proofs.Tryz (prog)
variable {K:Act->World->Prop} {Q:Exit->Act->World->Prop} {x:Cr} {X Y:List Cr} {l:List Nat} {a k mb n q:Nat} {gone:Nat->Bool} {f:Nat->Nat} {W:World}
theorem Tryz.XD:prog.underlying 86=some (.map 3 4):=by kernel_rfl
def dT(W:World)(mb:Nat)(l:List Nat):Prop:=
 ∃D:DataW Unit,W.ownsMap prog 3 (plainElem prog 4) mb l.length D/\Maps.IsMap D/\∀x:Nat,D.atKey (.int .i64 (x:Nat)) (.lit (.bool false))=.lit (.bool (decide (x∈l)))
theorem dT.made(w:World):dT (w.alloc (.map #[] 0)) w.heap.size []:=⟨_,World.ownsMap_made _ _ _ _,Maps.isMap_empty,λx=>by rw[jm (by simp)];rfl⟩
theorem dT.fr{S:Nat->Prop}{W':World}(h:dT W mb l)(hf:Fr S W W')(hs:¬S mb):dT W' mb l:=by
 obtain⟨D,⟨es,ck,hb,r⟩,h1,h2⟩:=h;exact⟨D,⟨es,ck,(hf.block mb (jf.1 hb).1 hs).trans hb,r⟩,h1,h2⟩
theorem dT.block(h:dT W mb l):∃es ck,W.heap[mb]?=some (.map es ck):=by
 obtain⟨D,⟨es,ck,hb,_⟩,_⟩:=h;exact⟨es,ck,hb⟩
theorem dT.look(h:dT W mb l){x:Nat}(hx:x<=1000):(Instr.lookup 86 (.map (some mb)) (.int .i64 (x:Nat)) false).run prog W=.ok (.bool (decide (x∈l))) W:=by
 obtain⟨D,ho,_,h2⟩:=h;obtain⟨v,ps,hrun,hv⟩:=ho.lookup Tryz.iW Tryz.XD (Tryz.Z7 W) (plainElem_bool Tryz.ul4 false) (Maps.keyOf_int_mk Tryz.underlying3 (WR hx));rw[h2 x]at hv
 have hv':v=.bool (decide (x∈l)):=by
  unfold plainElem at hv;rw[Tryz.ul4]at hv
  cases v<;>simp at hv
  rw[hv.1]
 rw[hrun,hv']
theorem dT.put{W':World}{mb:Nat}{l:List Nat}{D:DataW Unit}{x:Nat}(h1:Maps.IsMap D)(h2:∀x:Nat,D.atKey (.int .i64 (x:Nat)) (.lit (.bool false))=.lit (.bool (decide (x∈l))))
 (ho:W'.ownsMap prog 3 (plainElem prog 4) mb (l.length+1) (D.put (.int .i64 (x:Nat)) (.lit (.bool true)))):dT W' mb (l++[x]):=by
 refine⟨_,by rw[ju];exact ho,h1.put _ _,λz=>?_⟩;by_cases c:z=x
 · subst c
   rw[Maps.atKey_put_same h1 (k:=.int .i64 (z:Nat)) trivial,jk (by simp)]
 have hne:(Lit.int .i64 (z:Nat))≠.int .i64 (x:Nat):=λe=>c (by injection e with _ e;omega)
 rw[Maps.atKey_put_other hne,h2 z];simp[c]
theorem iV{B t:Nat}{cs:Array Value}(h:dT W mb l)(hb:W.heap[B]?=some (.cells cs t (0,0))):¬mb=B:=by
 obtain⟨es,ck,hm⟩:=h.block;rintro rfl
 rw[hm]at hb;cases hb
theorem wj{B t:Nat}{f:Nat->Value}(h:dT W mb l)(hr:W.rowIs B t n f):¬mb=B:=by
 obtain⟨cs,h1,_⟩:=hr;exact iV h h1
theorem L8{base e sz:Nat}{v:Value}{xs:List Value}(h:dT W mb l)(ho:W.ownsRow base e sz v n xs):¬v.ownBlock=some mb:=by
 obtain⟨es,ck,hm⟩:=h.block
 exact λe=>cM ho hm _ e rfl
theorem fh{H:Type}{P:Program}(w:World){o:Oper}{a:Act}
 (m x v:Operand) (t:TypeId) (hop:o.op=Op.mapUpdate t m x v)
 (k e:TypeId) (KK:Maps.Keyed P k) (ht:P.underlying t=some (.map k e)) (R:Value->Option (DataW H×List MemPlace)) (b n:Nat) (D:DataW H)
 (hm:a.eval m=.map (some b)) (hown:w.ownsMap P k R b n D) (hn:n<maxLen) (key val:Value) (kl:Lit) (hx:a.eval x=key) (hv:a.eval v=val) (hkey:keyOf P k key=some kl)
 (d:DataW H) (ps:List MemPlace) (hval:R val=some (d,ps))
 (hK:∀w',w'.ownsMap P k R b (n+1) (D.put kl d)->w.grownBy w' (some b)->K (a.put o.dst undef) w'):o.wp P a w K Q:=by
 obtain⟨w',hrun,r1,r2⟩:=hown.update KK ht hn hkey hval;unfold Oper.wp;simp[execOp,hop,hm,hx,hv,hrun,Result.andThen];exact hK w' r1 r2
def xK(Y:List Cr)(f:Nat->Nat)(q t r:Nat):Prop:=∃i s,s<4/\(i<q\/(i=q/\s<t))/\f (aa Y (i,s))=r
theorem LZ(Y:List Cr)(f:Nat->Nat)(r:Nat):¬xK Y f 0 0 r:=by
 rintro⟨i,s,_,h|h,_⟩<;>omega
theorem L5{t r:Nat}(ht:t<4):xK Y f q (t+1) r↔xK Y f q t r\/r=f (aa Y (q,t)):=by
 constructor
 · rintro⟨i,s,h1,h2,h3⟩
   by_cases c:i=q/\s=t
   · right;rw[<-h3,c.1,c.2]
   left;exact⟨i,s,h1,by omega,h3⟩
 rintro(⟨i,s,h1,h2,h3⟩|h)
 · exact⟨i,s,h1,by omega,h3⟩
 exact⟨q,t,ht,by omega,h.symm⟩
theorem L6{r:Nat}:xK Y f q 4 r↔xK Y f (q+1) 0 r:=by
 constructor
 · rintro⟨i,s,h1,h2,h3⟩;exact⟨i,s,h1,by omega,h3⟩
 rintro⟨i,s,h1,h2,h3⟩;exact⟨i,s,h1,by omega,h3⟩
structure WS(w wr:World)(rb cB rB dB mB m:Nat)(f:Nat->Nat)(L:Int)(v:Value)(Y:List Cr)(l:List Nat):Prop where
 new:New w wr
 res:wr.heap[rb]?=some (.cells #[.slice none 0 0,.int .i64 0] 24 (0,0))
 cls:wr.heap[cB]?=some (.cells #[.slice (some ⟨rB,0,none⟩) m m] 74 (0,0))
 row:wr.rowIs rB 3 m (bS f)
 DV:wr.heap[dB]?=some (.cells #[v,.int .i64 L] 24 (0,0))
 own:wr.ownsRow w.heap.size 109 5 v Y.length (bE Y)
 map:dT wr mB l
 lr:w.heap.size<=rb
 xL:w.heap.size<=rB
 ld:w.heap.size<=dB
 lm:w.heap.size<=mB
 ne:¬rb=dB
section
variable {w wr w':World} {rb cB rB dB mB m:Nat} {f:Nat->Nat} {L:Int} {v:Value} {Y:List Cr} {l:List Nat}
theorem WS.nw(h:WS w wr rb cB rB dB mB m f L v Y l)(hf:New wr w'):WS w w' rb cB rB dB mB m f L v Y l:=
 ⟨h.new.trans hf,hf.blk h.res λx=>x,hf.blk h.cls λx=>x,hf.row h.row λx=>x,hf.blk h.DV λx=>x,hf.owns h.own λ_ _ x=>x,h.map.fr hf λx=>x,h.lr,h.xL,h.ld,h.lm,h.ne⟩
theorem WS.c1(h:WS w wr rb cB rB dB mB m f L v Y l):wr.cell? ⟨cB,0,none⟩=some (.slice (some ⟨rB,0,none⟩) m m):=cell_of_row _ _ 0 _ 74 (0,0) h.cls
theorem WS.cl(h:WS w wr rb cB rB dB mB m f L v Y l)(a x:Nat):WS w (wr.setCell ⟨rB,a,none⟩ (.int .i64 (x:Nat))) rb cB rB dB mB m (λy=>if y=a then x else f y) L v Y l:=by
 have hF:Fr (λk=>k=rB) wr (wr.setCell ⟨rB,a,none⟩ (.int .i64 (x:Nat))):=(refl (λk=>k=rB) wr).setCell (a:=⟨rB,a,none⟩) (.inl rfl) _
 exact⟨h.new.next hF λi hi=>.inr (by rw[hi];exact h.xL),hF.blk h.res (dF h.res h.row (by decide)),hF.blk h.cls (dF h.cls h.row (by decide)),gI h.row a x,hF.blk h.DV (dF h.DV h.row (by decide)),
  hF.owns h.own (eE h.own h.row (by decide)),h.map.fr hF (wj h.map h.row),h.lr,h.xL,h.ld,h.lm,h.ne⟩
theorem WS.congr{g:Nat->Nat}(h:WS w wr rb cB rB dB mB m f L v Y l)(hg:∀j,j<m->g j=f j):WS w wr rb cB rB dB mB m g L v Y l:=
 ⟨h.new,h.res,h.cls,bu h.row λj hj=>by unfold bS;rw[hg j hj],h.DV,h.own,h.map,h.lr,h.xL,h.ld,h.lm,h.ne⟩
theorem WS.touch(h:WS w wr rb cB rB dB mB m f L v Y l)(hF:Fr (λk=>v.ownBlock=some k) wr w'):New w w'/\w'.heap[rb]?=some (.cells #[.slice none 0 0,.int .i64 0] 24 (0,0))/\w'.heap[cB]?=some (.cells #[.slice (some ⟨rB,0,none⟩) m m] 74 (0,0)) /\
 w'.rowIs rB 3 m (bS f)/\w'.heap[dB]?=some (.cells #[v,.int .i64 L] 24 (0,0))/\dT w' mB l:=
 ⟨h.new.next hF λi hi=>.inr (dR h.own i hi),hF.blk h.res (aU h.res h.own (by decide)),hF.blk h.cls (aU h.cls h.own (by decide)),hF.row h.row (λe=>eE h.own h.row (by decide) _ e rfl),
  hF.blk h.DV (aU h.DV h.own (by decide)),h.map.fr hF (L8 h.map h.own)⟩
theorem WS.app{o:Obj}{w7:World}{g c n:Nat}(h:WS w wr rb cB rB dB mB m f L v Y l)(hn:n=Y.length)(hown:w7.ownsRow w.heap.size 109 5 (.slice (some ⟨g,0,none⟩) (n+1) c) (n+1) (bE Y++[.int .i64 x.a,.int .i64 x.b,.int .i64 x.c,.int .i64 x.d,.bool x.p]))
 (hg:(wr.alloc o).grownBy w7 v.ownBlock):
 w7.heap[dB]?=some (.cells #[v,.int .i64 L] 24 (0,0))/\WS w (w7.setCell ⟨dB,0,none⟩ (.slice (some ⟨g,0,none⟩) (n+1) c)) rb cB rB dB mB m f L (.slice (some ⟨g,0,none⟩) (n+1) c) (Y++[x]) l:=by
 subst hn
 have hF:Fr (λk=>v.ownBlock=some k) wr w7:=((refl _ wr).alloc o).grown hg λk e=>.inl e
 have ho:w7.ownsRow w.heap.size 109 5 (.slice (some ⟨g,0,none⟩) (Y.length+1) c) (Y++[x]).length (bE (Y++[x])):=by
  rw[ym,ju,List.length_singleton];exact hown
 obtain⟨h1,h2,h3,h4,h5,h6⟩:=h.touch hF;have hS:Fr (λk=>k=dB) w7 (w7.setCell ⟨dB,0,none⟩ (.slice (some ⟨g,0,none⟩) (Y.length+1) c)):=(refl (λk=>k=dB) w7).setCell (.inl rfl) _
 have hnD:¬cB=dB:=λe=>by subst e;rw[h3]at h5;cases h5
 refine⟨h5,h1.next hS λi hi=>.inr (by rw[hi];exact h.ld),hS.blk h2 h.ne,hS.blk h3 hnD,hS.row h4 (λe=>dF h5 h4 (by decide) e.symm),(bD h5 _).1,hS.owns ho (λk hk e=>aU h5 ho (by decide) (e ▸ hk)),h6.fr hS (iV h6 h5),h.lr,h.xL,h.ld,h.lm,h.ne⟩
theorem WS.mark{o:Option Nat}{l':List Nat}(h:WS w wr rb cB rB dB mB m f L v Y l)(hg:wr.grownBy w' o)(ho:o=some mB)(hm:dT w' mB l'):WS w w' rb cB rB dB mB m f L v Y l':=by
 subst ho
 have hF:Fr (λk=>k=mB) wr w':=(refl _ wr).grown hg λk e=>.inl (Option.some.inj e).symm
 obtain⟨es,ck,hb⟩:=h.map.block
 refine⟨h.new.next hF λi hi=>.inr (by rw[hi];exact h.lm),hF.blk h.res λe=>iV h.map h.res e.symm,hF.blk h.cls λe=>iV h.map h.cls e.symm,hF.row h.row λe=>wj h.map h.row e.symm,hF.blk h.DV λe=>iV h.map h.DV e.symm,
  hF.owns h.own (λk hk=>cM h.own hb k hk),hm,h.lr,h.xL,h.ld,h.lm,h.ne⟩
end
structure WT(w wr:World)(rb cB rB dB mB m nB qB:Nat)(f g:Nat->Nat)(L:Int)(v:Value)(Y:List Cr)(l:List Nat):Prop where
 ws:WS w wr rb cB rB dB mB m f L v Y l
 num:wr.heap[nB]?=some (.cells #[.slice (some ⟨qB,0,none⟩) m m] 74 (0,0))
 vh:wr.rowIs qB 3 m (bS g)
 lq:w.heap.size<=qB
 nq:¬rB=qB
section
variable {w wr w':World} {rb cB rB dB mB m nB qB:Nat} {f g:Nat->Nat} {L:Int} {v:Value} {Y:List Cr} {l:List Nat}
theorem WT.nw(h:WT w wr rb cB rB dB mB m nB qB f g L v Y l)(hf:New wr w'):WT w w' rb cB rB dB mB m nB qB f g L v Y l:=
 ⟨h.ws.nw hf,hf.blk h.num λx=>x,hf.row h.vh λx=>x,h.lq,h.nq⟩
theorem WT.c2(h:WT w wr rb cB rB dB mB m nB qB f g L v Y l):wr.cell? ⟨nB,0,none⟩=some (.slice (some ⟨qB,0,none⟩) m m):=cell_of_row _ _ 0 _ 74 (0,0) h.num
theorem WT.set(h:WT w wr rb cB rB dB mB m nB qB f g L v Y l)(a x:Nat):WT w (wr.setCell ⟨qB,a,none⟩ (.int .i64 (x:Nat))) rb cB rB dB mB m nB qB f (λy=>if y=a then x else g y) L v Y l:=by
 have hF:Fr (λk=>k=qB) wr (wr.setCell ⟨qB,a,none⟩ (.int .i64 (x:Nat))):=(refl (λk=>k=qB) wr).setCell (a:=⟨qB,a,none⟩) (.inl rfl) _;have s:=h.ws
 exact⟨⟨s.new.next hF λi hi=>.inr (by rw[hi];exact h.lq),hF.blk s.res (dF s.res h.vh (by decide)),hF.blk s.cls (dF s.cls h.vh (by decide)),hF.row s.row h.nq,hF.blk s.DV (dF s.DV h.vh (by decide)),
  hF.owns s.own (eE s.own h.vh (by decide)),s.map.fr hF (wj s.map h.vh),s.lr,s.xL,s.ld,s.lm,s.ne⟩,hF.blk h.num (dF h.num h.vh (by decide)),gI h.vh a x,h.lq,h.nq⟩
theorem WT.congr{g':Nat->Nat}(h:WT w wr rb cB rB dB mB m nB qB f g L v Y l)(hg:∀j,j<m->g' j=g j):WT w wr rb cB rB dB mB m nB qB f g' L v Y l:=
 ⟨h.ws,h.num,bu h.vh λj hj=>by unfold bS;rw[hg j hj],h.lq,h.nq⟩
theorem WT.ring(h:WT w wr rb cB rB dB mB m nB qB f g L v Y l)(L':Int):WT w (wr.setCell ⟨dB,1,none⟩ (.int .i64 L')) rb cB rB dB mB m nB qB f g L' v Y l:=by
 have s:=h.ws;have hS:Fr (λk=>k=dB) wr (wr.setCell ⟨dB,1,none⟩ (.int .i64 L')):=(refl (λk=>k=dB) wr).setCell (.inl rfl) _
 have hnD:∀{B:Nat} {cs:Array Value},wr.heap[B]?=some (.cells cs 74 (0,0))->¬B=dB:=λhB e=>by
  have h5:=s.DV
  subst e;rw[hB]at h5;cases h5
 exact⟨⟨s.new.next hS λi hi=>.inr (by rw[hi];exact s.ld),hS.blk s.res s.ne,hS.blk s.cls (hnD s.cls),hS.row s.row (λe=>dF s.DV s.row (by decide) e.symm),(bD s.DV _).2,hS.owns s.own (λk hk e=>aU s.DV s.own (by decide) (e ▸ hk)),s.map.fr hS (iV s.map s.DV),s.lr,s.xL,s.ld,s.lm,s.ne⟩,
  hS.blk h.num (hnD h.num),hS.row h.vh (λe=>dF s.DV h.vh (by decide) e.symm),h.lq,h.nq⟩
theorem WT.put{gg c n k:Nat}(h:WT w wr rb cB rB dB mB m nB qB f g L (.slice (some ⟨gg,0,none⟩) n c) Y l)(hn:n=Y.length)(hk:k<Y.length):
 WT w (Te wr gg k x.a x.b x.c x.d x.p) rb cB rB dB mB m nB qB f g L (.slice (some ⟨gg,0,none⟩) n c) (Y.set k x) l:=by
 subst hn;have s:=h.ws
 have hF:Fr (λj=>(Value.slice (some ⟨gg,0,none⟩) Y.length c).ownBlock=some j) wr (Te wr gg k x.a x.b x.c x.d x.p):=(OO wr gg k x.a x.b x.c x.d x.p).mono λi hi=>by rw[hi];rfl
 obtain⟨h1,h2,h3,h4,h5,h6⟩:=s.touch hF;refine⟨⟨h1,h2,h3,h4,h5,?_,h6,s.lr,s.xL,s.ld,s.lm,s.ne⟩,hF.blk h.num (aU h.num s.own (by decide)),hF.row h.vh (λe=>eE s.own h.vh (by decide) _ e rfl),h.lq,h.nq⟩;rw[List.length_set];exact TH s.own hk x
theorem WT.clo{e:Nat}(h:WT w wr rb cB rB dB mB m nB qB f g L v Y l)(ha:a<m)(hf:f a<m)(he:g (f a)=e):
 Calls prog 134 #[.int .i64 a,.pointer (some ⟨nB,0,none⟩),.pointer (some ⟨cB,0,none⟩)] wr (λen w'=>en=.returned (.int .i64 (e:Nat))/\New wr w'):=
 Px nB cB qB rB m a (f a) e wr h.c2 h.ws.c1 (h.ws.row.cell ha) (by rw[<-he];exact h.vh.cell hf) ha hf
theorem WT.gave(h:WT w wr rb cB rB dB mB m nB qB f g L v Y l):
 ((wr.setCell ⟨rb,0,none⟩ v).setCell ⟨rb,1,none⟩ (.int .i64 L)).ownsRow w.heap.size 109 5 v Y.length (bE Y)/\New w ((wr.setCell ⟨rb,0,none⟩ v).setCell ⟨rb,1,none⟩ (.int .i64 L)):=by
 have s:=h.ws
 have hF:Fr (λk=>k=rb) wr ((wr.setCell ⟨rb,0,none⟩ v).setCell ⟨rb,1,none⟩ (.int .i64 L)):=by refine Fr.setCell (Fr.setCell (refl _ wr) ?_ _) ?_ _<;>exact .inl rfl
 exact⟨hF.owns s.own λk hk e=>aU s.res s.own (by decide) (e ▸ hk),s.new.next hF λi hi=>.inr (by rw[hi];exact s.lr)⟩
end
def kF(f:Cr->Cr)(X:List Cr)(k:Nat):List Cr:=(X.take k).map f++X.drop k
theorem lC(f:Cr->Cr)(X:List Cr)(k:Nat):(kF f X k).length=X.length:=by unfold kF;simp;omega
theorem L9(f:Cr->Cr)(X:List Cr):kF f X 0=X:=by unfold kF;simp
theorem Qp(f:Cr->Cr)(X:List Cr):kF f X X.length=X.map f:=by unfold kF;simp
theorem Um{f:Cr->Cr}(hk:k<X.length):cr (kF f X k) k=cr X k:=by
 unfold cr kF;rw[jc,jc,List.getElem?_append_right (by simp;omega)]
 congr 1
 rw[jA,List.length_take,List.getElem?_drop]
 congr 1;omega
theorem Ma{f:Cr->Cr}(hk:k<X.length):(kF f X k).set k (f (cr X k))=kF f X (k+1):=by
 have e:X[k]=cr X k:=by unfold cr;rw[jc,je hk];rfl
 unfold kF;rw[jq hk,List.drop_eq_getElem_cons hk,List.set_append_right _ _ (by simp;omega)];rw[jA,List.length_take,show k-min k X.length=0 by omega,List.set_cons_zero,e];simp
def bZ(X:List Cr)(gone:Nat->Bool)(k:Nat):List Cr:=(kept k gone).map (cr X)
theorem Af(X:List Cr)(gone:Nat->Bool)(k:Nat):bZ X gone (k+1)=if gone k then bZ X gone k else bZ X gone k++[cr X k]:=by
 unfold bZ kept;rw[jO,List.filter_append,jP]
 cases h:gone k<;>simp[h]
theorem CI(X:List Cr)(gone:Nat->Bool)(k:Nat):(bZ X gone k).length<=k:=by
 unfold bZ kept;rw[jA];exact jJ (List.length_filter_le _ _) (by rw[jS];exact jH _)
theorem zk(hq:q<(bZ X gone n).length):cr (bZ X gone n) q=cr X ((kept n gone).getD q 0)/\(kept n gone).getD q 0<n/\gone ((kept n gone).getD q 0)=false:=by
 unfold bZ at hq ⊢;rw[jA]at hq
 have e1:(kept n gone).getD q 0=(kept n gone)[q]:=by rw[jc,je hq];rfl
 have hm:=Kn.nY.1 (jM hq);rw[<-e1]at hm;refine⟨?_,hm⟩;rw[e1]
 show ((kept n gone).map (cr X)).getD q default=_
 rw[jc,List.getElem?_map,je hq];rfl
theorem tR(hq:q<(bZ X gone n).length)(s:Nat):aa (bZ X gone n) (q,s)=aa X ((kept n gone).getD q 0,s):=by
 unfold aa at_;rw[(zk hq).1]
theorem Mg(hX:Kn.Ok X){mm:Nat}(hn:n=X.length)(Ai:mm=Kn.ag X+1)(hq:q<(bZ X gone n).length){s:Nat}(hs:s<4):
 (cr (bZ X gone n) q).ie s=(aa (bZ X gone n) (q,s):Nat)/\aa (bZ X gone n) (q,s)<mm/\1<=aa (bZ X gone n) (q,s):=by
 obtain⟨h1,h2,_⟩:=zk hq;have hp:Kn.aq X ((kept n gone).getD q 0,s):=⟨by show _<_;omega,hs⟩;have ha:=hX.ah hp;have hr:=(hX.wN _ hp).1;rw[tR hq];refine⟨?_,by have:=ha.2;omega,ha.1⟩;rw[h1];unfold aa
 show at_ X ((kept n gone).getD q 0,s)=((at_ X ((kept n gone).getD q 0,s)).toNat:Int)
 omega
theorem CD(hn:n=X.length)(f:Nat->Nat)(r:Nat):xK (bZ X gone n) f (bZ X gone n).length 0 r↔gw X f gone r=true:=by
 have hl:(bZ X gone n).length=(kept n gone).length:=by unfold bZ;rw[jA]
 rw[Kn.lD];constructor
 · rintro⟨i,s,h1,h2,h3⟩
   have hi:i<(bZ X gone n).length:=by omega
   obtain⟨_,h5,h6⟩:=zk hi;exact⟨((kept n gone).getD i 0,s),⟨by show _<_;omega,h1⟩,h6,by rw[<-tR hi];exact h3⟩
 rintro⟨p,h1,h2,h3⟩;obtain⟨i,hi,e⟩:=Kn.xQ (n:=n) (show p.1<n by have:=h1.1;omega) h2;refine⟨i,p.2,h1.2,.inl (by omega),?_⟩
 rw[tR (by omega),e];exact h3
theorem Pw(hn:n=X.length)(f:Nat->Nat):Kn.kR X f gone=(bZ X gone n).map λx=>x.ren λa=>fC X f gone (f a):=by
 unfold Kn.kR bZ
 rw[List.map_map,hn];rfl
def mO(X:List Cr)(f:Nat->Nat)(gone:Nat->Bool)(v:Nat):Nat:=(List.range v).countP λa=>decide (f (a+1)=a+1) && !gw X f gone (a+1)
theorem Cg(X:List Cr)(f:Nat->Nat)(gone:Nat->Bool)(v:Nat):mO X f gone (v+1)=mO X f gone v+if (decide (f (v+1)=v+1) && !gw X f gone (v+1))then 1 else 0:=by
 unfold mO
 rw[jO,List.countP_append,jG,List.countP_nil];simp
theorem IZ(X:List Cr)(f:Nat->Nat)(gone:Nat->Bool)(v:Nat):mO X f gone v<=v:=by
 unfold mO;exact jJ List.countP_le_length (by rw[jS];exact jH _)
theorem Ya(X:List Cr)(f:Nat->Nat)(gone:Nat->Bool)(v:Nat):fC X f gone v<=v:=by
 unfold fC;exact jJ List.countP_le_length (by rw[jS];exact jH _)
def fq(X:List Cr)(f:Nat->Nat)(gone:Nat->Bool)(a x:Nat):Nat:=if 1<=x/\x<a/\gh X f gone x=true then fC X f gone x else 0
theorem Cv(h:gh X f gone a=false)(x:Nat):fq X f gone (a+1) x=fq X f gone a x:=by
 unfold fq;by_cases e:x=a
 · subst e;rw[h];simp
 by_cases c:1<=x/\x<a/\gh X f gone x=true
 · rw[if_pos c,if_pos ⟨c.1,by omega,c.2.2⟩]
 rw[if_neg c,if_neg (λk=>c ⟨k.1,by omega,k.2.2⟩)]
theorem Qi(h1:1<=a)(h:gh X f gone a=true)(x:Nat):fq X f gone (a+1) x=if x=a then fC X f gone a else fq X f gone a x:=by
 by_cases e:x=a
 · subst e;unfold fq;rw[if_pos rfl,if_pos ⟨h1,by omega,h⟩]
 rw[if_neg e];unfold fq;by_cases c:1<=x/\x<a/\gh X f gone x=true
 · rw[if_pos c,if_pos ⟨c.1,by omega,c.2.2⟩]
 rw[if_neg c,if_neg (λk=>c ⟨k.1,by omega,k.2.2⟩)]
end Go.Proofs.YtfplmbmenjdlhaaGreatDoor
