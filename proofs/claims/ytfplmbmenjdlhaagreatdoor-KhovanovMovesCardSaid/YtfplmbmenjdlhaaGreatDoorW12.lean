/- Walks: Faces. -/
import Derived.Test.YtfplmbmenjdlhaaGreatDoorW11
set_option linter.unusedVariables false
set_option maxRecDepth 100000
set_option maxHeartbeats 16000000
namespace Go.Proofs.YtfplmbmenjdlhaaGreatDoor
open Go.RowKit Go.Shelf
open Kn (Cr Dt dM left bW)
open List (append_assoc append_nil)
open Go.Proofs.Tryz (prog)
variable {es:Array MapEntry} {d x:Dt} {X:List Cr} {ds r seen:List Dt} {xs:List Value} {B e n t xb:Nat} {s v:Value} {W W' w:World}
attribute [local go_sem] Oper.semAt_some
def nF(X:List Cr):Nat:=4*X.length+1
def vE(X:List Cr)(st:List Dt×List (List Dt))(d:Dt):List Dt×List (List Dt):=
 if d∈st.1 then st else(st.1++Kn.ring (left X) (nF X) st.1 d,st.2++[Kn.ring (left X) (nF X) st.1 d])
def fst(X:List Cr)(ds:List Dt):List Dt×List (List Dt):=ds.foldl (vE X) ([],[])
theorem C5(X:List Cr):∀(ds seen:List Dt) (rs:List (List Dt)),(ds.foldl (vE X) (seen,rs)).2=rs++Kn.rings (left X) (nF X) seen ds
 |[],seen,rs=>by rw[Kn.qA,append_nil];rfl
 |d :: ds,seen,rs=>by
  rw[List.foldl_cons];by_cases c:d∈seen
  · rw[Kn.eN _ c,show vE X (seen,rs) d=(seen,rs)from if_pos c,C5]
  rw[Kn.fU _ c,show vE X (seen,rs) d=(seen++Kn.ring (left X) (nF X) seen d,rs++[Kn.ring (left X) (nF X) seen d])from if_neg c,C5];simp
theorem OL(X:List Cr):(fst X (dM X)).2=Kn.aA X:=by unfold fst;rw[C5];rfl
theorem JR(X:List Cr)(ds:List Dt)(d:Dt):fst X (ds++[d])=vE X (fst X ds) d:=by unfold fst;rw[List.foldl_append];rfl
theorem Vh(h:d∈(fst X ds).1):fst X (ds++[d])=fst X ds:=by rw[JR];exact if_pos h
theorem YU(h:d∉(fst X ds).1):fst X (ds++[d])=((fst X ds).1++Kn.ring (left X) (nF X) (fst X ds).1 d,(fst X ds).2++[Kn.ring (left X) (nF X) (fst X ds).1 d]):=by rw[JR];exact if_neg h
theorem zu{X:List Cr}(hX:Kn.Ok X):∀(ds:List Dt) {st:List Dt×List (List Dt)},(∀d∈ds,d∈dM X)->st.1.Nodup->(∀d∈st.1,d∈dM X) ->
 (ds.foldl (vE X) st).1.Nodup/\(∀d∈(ds.foldl (vE X) st).1,d∈dM X)/\(ds.foldl (vE X) st).2.length<=st.2.length+ds.length
 |[],st,_,h1,h2=>⟨h1,h2,jH _⟩
 |d :: ds,st,h,h1,h2=>by
  rw[List.foldl_cons];by_cases c:d∈st.1
  · rw[show vE X st d=st from if_pos c]
    obtain⟨a,b,e⟩:=zu hX ds (λx hx=>h x (by simp[hx])) h1 h2;exact⟨a,b,by simp only[jE];omega⟩
  rw[show vE X st d=(st.1++Kn.ring (left X) (nF X) st.1 d,st.2++[Kn.ring (left X) (nF X) st.1 d])from if_neg c]
  obtain⟨a,b,e⟩:=zu hX ds (st:=(st.1++Kn.ring (left X) (nF X) st.1 d,st.2++[Kn.ring (left X) (nF X) st.1 d])) (λx hx=>h x (by simp[hx])) (Kn.nT _ _ d h1) (λy hy=>by
   rcases jx.1 hy with hy|hy
   · exact h2 y hy
   exact Kn.xq _ (λx hx=>bW.2 (hX.dD (bW.1 hx))) _ _ (h d (by simp)) y hy)
  refine⟨a,b,?_⟩;simp only[ju,jE,List.length_nil]at e ⊢;omega
theorem Vi(hX:Kn.Ok X)(pre:List (DX X)):(fst X (pre.map (·.1))).1.Nodup/\(∀d∈(fst X (pre.map (·.1))).1,d∈dM X)/\(fst X (pre.map (·.1))).2.length<=pre.length:=by
 obtain⟨a,b,c⟩:=zu hX (pre.map (·.1)) (st:=([],[])) (λd hd=>by obtain⟨x,_,rfl⟩:=jv.1 hd;exact bW.2 x.2) (by simp) (λd hd=>by cases hd);refine⟨a,b,?_⟩;rw[jA]at c;unfold fst;simpa using c
structure FI(w:World)(b:Nat)(seen:List Dt)(rs:List (List Dt))(W:World):Prop where
 new:New w W
 s:W.heap[w.heap.size]?=some (.cells #[.pointer (some ⟨b,0,none⟩)] 61 (0,0))
 m:W.heap[w.heap.size+2]?=some (.cells #[.map (some (w.heap.size+1))] 167 (0,0))
 map:eL W (w.heap.size+1) seen
 out:∃v,W.heap[w.heap.size+3]?=some (.cells #[v] 101 (0,0))/\Rows kN w.heap.size 156 W v rs
 i:W.heap[w.heap.size+4]?=some (.cells #[.pointer (some ⟨b,0,none⟩)] 61 (0,0))
theorem nG{base sz:Nat}(h:W.ownsRow base e sz v n xs):∀k,v.ownBlock=some k->∃o:Obj,W.heap[k]?=some o/\o.isCells=true:=by
 intro k hk
 rcases h.2 with⟨rfl,_⟩|⟨g,cap,cur,rfl,_,hg,_⟩
 · cases hk
 cases hk;exact⟨_,hg,rfl⟩
theorem qL{row:Option Nat}(hg:W.grownBy W' row):Fr (λk=>row=some k) W W':=(Fr.refl _ W).grown hg λk e=>.inl e
theorem FI.kept{b:Nat}{rs:List (List Dt)}{row:Option Nat}(h:FI w b seen rs W)(hg:W.grownBy W' row)(hr:∀r,row=some r->w.heap.size+5<=r/\∃o:Obj,W.heap[r]?=some o/\o.isCells=false):FI w b seen rs W':=by
 have hF:=qL hg
 have YH:∀k,k<w.heap.size+5->¬row=some k:=λk hk e=>by have:=(hr k e).1;omega
 have hcell:∀{k:Nat} {o:Obj},W.heap[k]?=some o->o.isCells=true->¬row=some k:=λ{k o} ho hc e=>by
  obtain⟨_,o',mH,hc'⟩:=hr k e
  rw[ho]at mH;cases mH
  rw[hc]at hc';cases hc'
 have hown:∀{base e sz n:Nat} {v:Value} {xs:List Value},W.ownsRow base e sz v n xs->W'.ownsRow base e sz v n xs:=λho=>hF.owns ho λk hk=>by
  obtain⟨o,h1,h2⟩:=nG ho k hk;exact hcell h1 h2
 obtain⟨v,hv,vs,hr1,hr2⟩:=h.out
 exact⟨h.new.next hF λk e=>.inr (by have:=(hr k e).1;omega),(hF.block _ (jf.1 h.s).1 (hcell h.s rfl)).trans h.s,(hF.block _ (jf.1 h.m).1 (hcell h.m rfl)).trans h.m,h.map.fr hF (YH _ (by omega)),
  ⟨v,(hF.block _ (jf.1 hv).1 (hcell hv rfl)).trans hv,vs,hown hr1,hr2.mono λ_ _ x=>hown x⟩,(hF.block _ (jf.1 h.i).1 (hcell h.i rfl)).trans h.i⟩
abbrev Z5(w:World)(b:Nat)(X:List Cr)(pre:List (DX X))(W:World):Prop:=FI w b (fst X (pre.map (·.1))).1 (fst X (pre.map (·.1))).2 W
theorem Vp(w:World)(b B:Nat)(X:List Cr)(hB:w.heap.size+5<=B):OwnFrom B (Z5 w b X):=λ_ _ _ _ hs hg hr=>hs.kept hg λr e=>⟨jJ hB (hr r e).1,(hr r e).2⟩
theorem New.keeps(h:New W W')(B:Nat):KeepsFrom B W W':=⟨h.size,λk o _ hk _=>(h.block k (jf.1 hk).1 λx=>x).trans hk⟩
theorem vJ(h:W.heap[B]?=some (.cells #[v] t (0,0))):W.cell? ⟨B,0,none⟩=some v/\W.frozen? ⟨B,0,none⟩=false:=by
 constructor<;>simp[World.cell?,World.frozen?,h]
theorem Vm(w:World)(b:Nat):
 FI w b [] [] (((((w.alloc (.cells #[.pointer (some ⟨b,0,none⟩)] 61)).alloc (.map #[] 0)).alloc (.cells #[.map (some (w.heap.size+1))] 167)).alloc (.cells #[.slice none 0 0] 101)).alloc (.cells #[.pointer (some ⟨b,0,none⟩)] 61)):=by
 have hk:∀(W:World) (o:Obj) {k:Nat} {u:Obj},W.heap[k]?=some u->(W.alloc o).heap[k]?=some u:=λW o k u hu=>(Below.heap_alloc W o k (jf.1 hu).1).trans hu
 have hz:∀(W:World) (o:Obj) {k:Nat},k=W.heap.size->(W.alloc o).heap[k]?=some o:=λW o k e=>by subst e;exact heap_alloc_new W o
 refine⟨((((((Fr.refl _ w).alloc _).alloc _).alloc _).alloc _).alloc _),hk _ _ (hk _ _ (hk _ _ (hk _ _ (hz _ _ rfl)))),hk _ _ (hk _ _ (hz _ _ (by simp))),?_,⟨.slice none 0 0,hk _ _ (hz _ _ (by simp)),Rows.nil⟩,hz _ _ (by simp)⟩;have:=eL.made (w.alloc (.cells #[.pointer (some ⟨b,0,none⟩)] 61));rw[World.size_alloc]at this;exact this.fr (S:=λ_=>False) ((((Fr.refl _ _).alloc _).alloc _).alloc _) (λx=>x)
def Nu(W:World)(B:Nat)(d:Dt):Prop:=W.heap[B]?=some (.cells #[.int .i64 (d.1:Nat),.bool d.2] 26 (0,0))
theorem Nu.c(h:Nu W B d):W.cell? ⟨B,0,none⟩=some (.int .i64 (d.1:Nat))/\W.cell? ⟨B,1,none⟩=some (.bool d.2):=⟨cell_of_row _ _ 0 _ 26 (0,0) h,cell_of_row _ _ 1 _ 26 (0,0) h⟩
theorem G3{o:Obj}{base sz:Nat}{u:Value}(hb:W.heap[B]?=some (.cells #[u] t (0,0)))(h:W.ownsRow base e sz v n xs)(hne:e≠t)(hg:(W.alloc o).grownBy W' v.ownBlock):W'.heap[B]?=some (.cells #[u] t (0,0)):=by
 have hl:=(jf.1 hb).1;refine(hg.block B (by simp;omega) λek=>?_).trans ((Below.heap_alloc _ _ _ hl).trans hb)
 rcases h.2 with⟨rfl,_⟩|⟨g,cap,cur,rfl,_,CW,_⟩
 · cases ek
 cases ek;rw[hb]at CW
 injection CW with CW
 injection CW with _ CW
 exact hne CW.symm
structure QF(w W wr:World)(X:List Cr)(seen r:List Dt)(x d:Dt)(xb:Nat)(s:Value):Prop where
 fr:Fr (λk=>k=w.heap.size+1) W wr
 kf:KeepsFrom (w.heap.size+5) W wr
 map:eL wr (w.heap.size+1) (seen++r)
 ring:wr.ownsRow W.heap.size 26 2 s r.length (lK r)
 amd:Nu wr xb x
 xlb:W.heap.size<=xb
 xne:∀k,s.ownBlock=some k->¬k=xb
 nd:(seen++r).Nodup
 sub:∀y∈seen++r,y∈dM X
 ie:Kn.ah X x.1
 eq:∃f,f+r.length=nF X/\r++Kn.ring (left X) f (seen++r) x=Kn.ring (left X) (nF X) seen d
theorem QF.snoc{wr:World}(h:QF w W wr X seen r x d xb s)(hx:x∉seen++r):
 (seen++(r++[x])).Nodup/\(∀y∈seen++(r++[x]),y∈dM X)/\(seen++r).length+1<=4*X.length/\r.length+1<=4*X.length /\
 ∃f,f+(r++[x]).length=nF X/\(r++[x])++Kn.ring (left X) f (seen++(r++[x])) (left X x)=Kn.ring (left X) (nF X) seen d:=by
 have h1:=Kn.gK h.nd hx
 have h2:∀y∈seen++(r++[x]),y∈dM X:=λy hy=>by
  rw[<-append_assoc,jx,jB]at hy
  rcases hy with hy|rfl
  · exact h.sub y hy
  exact bW.2 h.ie
 rw[append_assoc]at h1;have h3:=Kn.ft h1 h2;rw[Kn.fL]at h3;simp only[ju,List.length_singleton]at h3 ⊢;refine⟨h1,h2,by omega,by omega,?_⟩;obtain⟨f,hf,he⟩:=h.eq;have hf2:nF X=4*X.length+1:=rfl
 obtain⟨f',rfl⟩:∃f',f=f'+1:=⟨f-1,by omega⟩
 refine⟨f',by omega,?_⟩;rw[Kn.iG _ hx,append_assoc]at he;rw[append_assoc];exact he
theorem QF.done{wr:World}(h:QF w W wr X seen r x d xb s)(hx:x∈seen++r):Kn.ring (left X) (nF X) seen d=r:=by
 obtain⟨f,_,he⟩:=h.eq;rw[Kn.fV _ hx,append_nil]at he;exact he.symm
theorem VR{a b:Value}{t:TypeId}(hB:B=w.heap.size):∀(j:Nat) (u:Value),[a,b][j]?=some u->(w.alloc (.cells #[a,b] t)).cell? ((⟨B,0,none⟩:Addr).add j)=some u:=by
 subst hB;intro j u hu;rw[dN,Nat.zero_add,cell_of_row _ _ j _ t (0,0) (heap_alloc_new _ _)]
 match j with
 |0=>exact hu
 |1=>exact hu
 |j+2=>simp at hu
theorem X6(x:Int)(y:Bool):∀u∈[Value.int .i64 x,.bool y],u.oneCell'=true:=by
 intro u hu;simp only[jy,jz,or_false]at hu
 rcases hu with rfl|rfl<;>rfl
theorem cM{base sz mb:Nat}{ck:Nat}(h:W.ownsRow base e sz v n xs)(hm:W.heap[mb]?=some (.map es ck)):∀k,v.ownBlock=some k->¬k=mb:=by
 intro k hk e';subst e';obtain⟨o,ho,hc⟩:=nG h k hk;rw[hm]at ho
 cases ho;cases hc
theorem KeepsFrom.app{o:Obj}{base sz:Nat}(h:W.ownsRow base e sz v n xs)(hg:(W.alloc o).grownBy W' v.ownBlock):KeepsFrom B W W':=
 ((KeepsOthers.alloc W o).trans (KeepsOthers.of_grownBy hg λj o' ej hj=>by
  obtain⟨u,hu,hc⟩:=nG (World.ownsRow.alloc h o) j ej
  rw[hu]at hj;cases hj;exact hc)).from B
theorem aU{base sz:Nat}{cs:Array Value}(hb:W.heap[B]?=some (.cells cs t (0,0)))(h:W.ownsRow base e sz v n xs)(hne:e≠t):¬v.ownBlock=some B:=by
 intro ek
 rcases h.2 with⟨rfl,_⟩|⟨g,cap,cur,rfl,_,CW,_⟩
 · cases ek
 cases ek;rw[hb]at CW
 injection CW with CW
 injection CW with _ CW
 exact hne CW.symm
theorem Fr.blk{S:Nat->Prop}(h:Fr S W W'){o:Obj}(hb:W.heap[B]?=some o)(hs:¬S B):W'.heap[B]?=some o:=(h.block B (jf.1 hb).1 hs).trans hb
theorem Zo{u:Value}(hb:W.heap[B]?=some (.cells #[u] t (0,0))):(W.setCell ⟨B,0,none⟩ v).heap[B]?=some (.cells #[v] t (0,0)):=Boxed.set v (show Boxed W B t u from hb)
theorem FI.ring{w W wr w7:World}{b:Nat}{X:List Cr}{seen r:List Dt}{rs:List (List Dt)}{x d:Dt}{xb:Nat}{s v v9:Value}{vs:List Value}{o:Obj}{vl:Nat}
 (hI:FI w b seen rs W) (hq:QF w W wr X seen r x d xb s) (hb:wr.heap[w.heap.size+3]?=some (.cells #[v] 101 (0,0))) (hout:wr.ownsRow w.heap.size 156 1 v vl vs) (hvl:vl=vs.length) (an2:KS (kN W) vs rs)
 (hown:w7.ownsRow w.heap.size 156 1 v9 (vl+1) (vs++[s])) (hgr:(wr.alloc o).grownBy w7 v.ownBlock) (hbl:b<w.heap.size):
 KeepsFrom (w.heap.size+5) W (w7.setCell ⟨w.heap.size+3,0,none⟩ v9)/\KpB (w.heap.size+4) b W (w7.setCell ⟨w.heap.size+3,0,none⟩ v9)/\FI w b (seen++r) (rs++[r]) (w7.setCell ⟨w.heap.size+3,0,none⟩ v9):=by
 have hF:Fr (λk=>v.ownBlock=some k\/k=w.heap.size+3) wr (w7.setCell ⟨w.heap.size+3,0,none⟩ v9):=(((Fr.refl _ wr).alloc o).grown hgr λk e=>.inl (.inl e)).setCell (.inl (.inr rfl)) _;obtain⟨es,ck,yJ⟩:=hI.map.block;obtain⟨es',ck',anC⟩:=hq.map.block
 have nm:¬(v.ownBlock=some (w.heap.size+1)\/w.heap.size+1=w.heap.size+3):=λh=>h.elim (λe=>cM hout anC _ e rfl) (λe=>by omega)
 have s1:=hq.fr.blk hI.s (by omega);have m1:=hq.fr.blk hI.m (by omega);have i1:=hq.fr.blk hI.i (by omega)
 have ns:¬(v.ownBlock=some w.heap.size\/w.heap.size=w.heap.size+3):=λh=>h.elim (aU s1 hout (by decide)) (λe=>by omega)
 have nn:¬(v.ownBlock=some (w.heap.size+2)\/w.heap.size+2=w.heap.size+3):=λh=>h.elim (aU m1 hout (by decide)) (λe=>by omega)
 have ni:¬(v.ownBlock=some (w.heap.size+4)\/w.heap.size+4=w.heap.size+3):=λh=>h.elim (aU i1 hout (by decide)) (λe=>by omega)
 have nb:¬(v.ownBlock=some b\/b=w.heap.size+3):=λh=>h.elim (λe=>by have:=dR hout b e;omega) (λe=>by omega)
 have nd:∀{base n:Nat} {u:Value} {xs:List Value},wr.ownsRow base 26 2 u n xs->∀k,u.ownBlock=some k->¬(v.ownBlock=some k\/k=w.heap.size+3):=λho k hk h=>h.elim (λe=>N8 ho hout (by decide) k hk e.symm) (λe=>aU hb ho (by decide) (e ▸ hk))
 refine⟨(hq.kf.trans (KeepsFrom.app hout hgr)).trans ((KeepsOthers.setCell _ _ _).from _),aav (Mc hq.fr (by omega) (by omega)) (Mc hF ni nb),?_,hF.blk s1 ns,hF.blk m1 nn,hq.map.fr hF nm,⟨v9,Zo (G3 hb hout (by decide) hgr),vs++[s],?_,?_⟩,hF.blk i1 ni⟩
 · exact(hI.new.next hq.fr λi hi=>.inr (by omega)).next hF λi hi=>.inr (hi.elim (λe=>dR hout i e) (λe=>by omega))
 · have h1:Fr (λk=>k=w.heap.size+3) w7 (w7.setCell ⟨w.heap.size+3,0,none⟩ v9):=(Fr.refl (λk=>k=w.heap.size+3) w7).setCell (.inl rfl) _
   have:=h1.owns hown λk hk e=>aU (G3 hb hout (by decide) hgr) hown (by decide) (e ▸ hk)
   rw[ju,<-hvl];exact this
 refine KS.snoc (an2.mono λu l hu=>?_) ?_
 · have h2:=hq.fr.owns (show W.ownsRow 0 26 2 u l.length (lK l)from hu) (cM (show W.ownsRow 0 26 2 u l.length (lK l)from hu) yJ)
   exact hF.owns h2 (nd h2)
 exact P5 (hF.owns hq.ring (nd hq.ring))
theorem QF.step{wr w1 w2 w4:World}{b:Nat}{rs:List (List Dt)}{y:Dt}{v':Value}{o:Obj}{D:DataW Unit}{kl:Lit}{rl:Nat}
 (hI:FI w b seen rs W) (hX:Kn.Ok X) (hq:QF w W wr X seen r x d xb s) (hy:y=left X x) (Aj:Maps.IsMap D) (GA:∀d:Dt,∀l,keyOf prog 26 (dv d)=some l->D.atKey l (.lit (.bool false))=.lit (.bool (decide (d∈seen++r)))) (fY:keyOf prog 26 (dv x)=some kl)
 (ho1:w1.ownsMap prog 26 (plainElem prog 4) (w.heap.size+1) ((seen++r).length+1) (D.put kl (.lit (.bool true)))) (DT:wr.grownBy w1 (some (w.heap.size+1))) (tU:w1.ownsRow W.heap.size 26 2 s rl (lK r)) (hrl:rl=r.length)
 (ho2:w2.ownsRow W.heap.size 26 2 v' (rl+1) (lK r++[.int .i64 (x.1:Nat),.bool x.2])) (hg2:(w1.alloc o).grownBy w2 s.ownBlock) (hE:New (w2.alloc (.cells #[.int .i64 (x.1:Nat),.bool x.2] 26)) w4)
 (s1:(seen++(r++[x])).Nodup) (s2:∀y∈seen++(r++[x]),y∈dM X) (s5:∃f,f+(r++[x]).length=nF X/\(r++[x])++Kn.ring (left X) f (seen++(r++[x])) (left X x)=Kn.ring (left X) (nF X) seen d):
 QF w W ((w4.setCell ⟨w2.heap.size,0,none⟩ (.int .i64 (y.1:Nat))).setCell ⟨w2.heap.size,1,none⟩ (.bool y.2)) X seen (r++[x]) y d w2.heap.size v':=by
 have hWl:w.heap.size+5<=W.heap.size:=by have:=(jf.1 hI.i).1;omega
 have z1:=hq.fr.size;have z2:=DT.size;have z3:=hg2.size;simp at z3
 have Fb:Fr (λk=>k=w.heap.size+1) W w1:=hq.fr.grown DT λk e=>.inl (Option.some.inj e).symm
 have hF2:Fr (λk=>k=w.heap.size+1) W w2:=(Fb.alloc o).grown hg2 λk e=>.inr (dR tU k e)
 have hF4:Fr (λk=>k=w.heap.size+1) W w4:=(hF2.alloc _).trans (hE.mono λ_ h=>h.elim);have Bh:Fr (λk=>k=w.heap.size+1) W ((w4.setCell ⟨w2.heap.size,0,none⟩ (.int .i64 (y.1:Nat))).setCell ⟨w2.heap.size,1,none⟩ (.bool y.2)):=(hF4.setCell (.inr (by show W.heap.size<=w2.heap.size;omega)) _).setCell (.inr (by show W.heap.size<=w2.heap.size;omega)) _
 have hb4:w4.heap[w2.heap.size]?=some (.cells #[.int .i64 (x.1:Nat),.bool x.2] 26 (0,0)):=hE.blk (heap_alloc_new _ _) λh=>h
 have ahL:=eL.put Aj GA fY ho1;obtain⟨es,ck,yJ⟩:=ahL.block
 have anE:eL w2 (w.heap.size+1) ((seen++r)++[x]):=ahL.fr (((Fr.refl (λk=>s.ownBlock=some k) w1).alloc o).grown hg2 λk e=>.inl e) λe=>cM tU yJ _ e rfl
 have hm4:eL w4 (w.heap.size+1) ((seen++r)++[x]):=(anE.fr (S:=λ_=>False) ((Fr.refl _ _).alloc _) λh=>h).fr hE λh=>h
 have Yw:Fr (λk=>k=w2.heap.size) w4 ((w4.setCell ⟨w2.heap.size,0,none⟩ (.int .i64 (y.1:Nat))).setCell ⟨w2.heap.size,1,none⟩ (.bool y.2)):=((Fr.refl (λk=>k=w2.heap.size) w4).setCell (.inl rfl) _).setCell (.inl rfl) _
 have hne:∀k,v'.ownBlock=some k->¬k=w2.heap.size:=λk hk e=>by
  obtain⟨u,hu,_⟩:=nG ho2 k hk;have:=(jf.1 hu).1;omega
 refine⟨Bh,?_,?_,?_,?_,by omega,hne,s1,s2,hy ▸ hX.dD hq.ie,by rw[hy];exact s5⟩
 · refine((((hq.kf.trans (KeepsFrom.of_grownBy DT λj e=>by have:=Option.some.inj e;omega)).trans (KeepsFrom.app tU hg2)).trans ((KeepsOthers.alloc _ _).from _)).trans (hE.keeps _)).trans ?_
   exact((KeepsOthers.setCell _ _ _).trans (KeepsOthers.setCell _ _ _)).from _
 · rw[<-append_assoc]
   exact hm4.fr Yw (by omega)
 · have h4:=hE.owns (World.ownsRow.alloc ho2 (.cells #[.int .i64 (x.1:Nat),.bool x.2] 26)) λ_ _ h=>h
   have h5:=Yw.owns h4 hne;rw[J6,ju,<-hrl];exact h5
 have hr:w4.rowIs w2.heap.size 26 2 (λj=>if j=0 then .int .i64 (x.1:Nat)else .bool x.2):=⟨_,hb4,rfl,λi hi=>by
  match i,hi with
  |0,_=>rfl
  |1,_=>rfl⟩
 obtain⟨cs,hb5,YD,hc5⟩:=(hr.set 0 (.int .i64 (y.1:Nat))).set 1 (.bool y.2);unfold Nu;rw[hb5];have e0:=hc5 0 (by omega);have e1:=hc5 1 (by omega);simp at e0 e1
 have:cs=#[.int .i64 (y.1:Nat),.bool y.2]:=by
  apply Array.ext_getElem?;intro i
  match i with
  |0=>rw[e0];rfl
  |1=>rw[e1];rfl
  |i+2=>rw[Array.getElem?_eq_none (by omega),Array.getElem?_eq_none (by simp)]
 rw[this]
theorem zw(b:Nat)(X:List Cr)(L:Int)(w:World)(h:fS w b X L)(hX:Kn.Ok X)(hl:X.length<=16):
 Calls prog 64 #[.pointer (some ⟨b,0,none⟩)] w λe w'=>∃v,e=.returned v/\Rows kN w.heap.size 156 w' v (Kn.aA X)/\New w w':=by
 have Ai:=@run_makeMap prog
 obtain⟨n,cc,a,hn,hc0⟩:∃n cc a,n=X.length/\w.cell? ⟨b,0,none⟩=some (.slice a n cc):=by
  obtain⟨v,bi,bo,base,s⟩:=h;obtain⟨a,c,rfl,_⟩:=bV.gu s.own;exact⟨_,_,_,rfl,s.c2.1⟩
 have hbl:b<w.heap.size:=World.block_lt_of_cell? w _ hc0;have HS:=jd h;have HX:=jd hX;have HN:=jd hn;clear h hX hn;refine(callsIn_wide (n:=8)).1 ?_
 refine callsIn_of_wp_marks Tryz.func64 rfl trivial ?_ rfl
 simp only[Tryz.ntmps64,List.size_toArray,jE,List.length_nil,Nat.reduceAdd,Nat.reduceSub,Array.replicate_succ,Array.replicate_zero,List.push_toArray,List.append_toArray,List.nil_append,List.cons_append]
 gi_wp2_with (refine⟨trivial,?_⟩;gi_at_call 89;refine(VA _ b _).mono ?_;rintro e w' ⟨rfl,rfl⟩)
 have h0:=Vm w b
 have hsz:(((((w.alloc (.cells #[.pointer (some ⟨b,0,none⟩)] 61)).alloc (.map #[] 0)).alloc (.cells #[.map (some (w.heap.size+1))] 167)).alloc (.cells #[.slice none 0 0] 101)).alloc (.cells #[.pointer (some ⟨b,0,none⟩)] 61)).heap.size=w.heap.size+5:=by simp
 obtain⟨W0,hW0⟩:∃W0,((((w.alloc (.cells #[.pointer (some ⟨b,0,none⟩)] 61)).alloc (.map #[] 0)).alloc (.cells #[.map (some (w.heap.size+1))] 167)).alloc (.cells #[.slice none 0 0] 101)).alloc (.cells #[.pointer (some ⟨b,0,none⟩)] 61)=W0:=⟨_,rfl⟩
 rw[hW0]at h0 hsz ⊢;clear hW0
 have hc1:=h0.new.cell hc0 λx=>x
 have W7:W0.cell? ⟨w.heap.size+1+1+1+1,0,none⟩=some (.pointer (some ⟨b,0,none⟩)):=(vJ h0.i).1
 refine wpIn_rangeFunc_ownH rfl (by omega) (gf:=116) (lb:=#[.pointer (some ⟨w.heap.size+1+1+1+1,0,none⟩)]) rfl trivial (enters_of Tryz.func116 (by kernel_rfl) rfl)
  (J7 7 (w.heap.size+1+1+1+1) b n cc a X W0 (by omega) W7 hc1 HN.o (by have:=HN.o;omega)) aav (λW l o o' _ h ho _=>ag3 W l o o' h ho) (Below.refl _ _) (λ_=>rfl)
  (Z5 w b X) (λ_ _ _=>False) (Vp w b _ X (by omega)) (λ_ _ _ _ _ hs _ _=>hs) h0
  (λx a' W=>∃Bx,w.heap.size+5<=Bx/\Nu W Bx x.1/\a'={ tmps:=#[.pointer (some ⟨b,0,none⟩),.pointer (some ⟨w.heap.size,0,none⟩),.slice none 0 0,.pointer (some ⟨w.heap.size+1+1,0,none⟩),.pointer (some ⟨w.heap.size+1+1+1,0,none⟩),.pointer (some ⟨Bx,0,none⟩),undef,undef,.map (some (w.heap.size+1)),.pointer (some ⟨b,0,none⟩),.func (.func 116) #[] #[.pointer (some ⟨w.heap.size+1+1+1+1,0,none⟩)],.agg #[.int .i64 (x.1.1:Nat),.bool x.1.2],undef,undef,undef,undef,undef,undef,undef,undef,undef,undef,undef,undef,undef,undef,undef,undef,undef,undef,undef,undef,undef,undef,undef],defers:=[] })
  ?hax ?assign ?body ?done ?stop
 case hax=>
  rintro x a' _ A B row ⟨Bx,h1,h2,h3⟩ hg hr;refine⟨Bx,h1,((qL hg).block _ (jf.1 h2).1 λe=>?_).trans h2,h3⟩;obtain⟨_,o,ho,hc⟩:=hr Bx e;rw[show A.heap[Bx]?=_ from h2]at ho
  cases ho;cases hc
 case assign=>
  intro l pre x W K hI hK
  gi_wp2
  refine hK _ _ ((KeepsOthers.alloc _ _).from _) (Mc (S:=λ_=>False) ((Fr.refl _ _).alloc _) (λx=>x) (λx=>x)) ?_ ⟨W.heap.size,?_,heap_alloc_new _ _,rfl⟩
  · exact hI.kept (World.grownBy_alloc _ _ none) λr e=>by cases e
  have:=hI.i;have:=(jf.1 this).1;omega
 case done=>
  rintro D ys W hD hy hI hK
  have hI2:=hI.kept (grownBy_putObj' W D (.deferred none)) λr e=>by cases e;exact⟨by omega,_,hK,rfl⟩
  have ho:=hI.out;rw[hy,OL]at ho;have ho2:=hI2.out;rw[hy,OL]at ho2;obtain⟨v,hv,CP⟩:=ho;obtain⟨v2,hv2,U2⟩:=ho2
  have hvv:v2=v:=by
   have e1:=(vJ hv2).1
   have e2:=cell_kept (vJ hv).1 (grownBy_putObj' W D (.deferred none)) λr e=>by cases e;exact⟨_,hK,rfl⟩
   rw[e1]at e2;exact Option.some.inj e2
  subst hvv;have hc4:W.cell? ⟨w.heap.size+1+1+1,0,none⟩=some v2:=(vJ hv).1;have lO:=jd U2;have RN:=jd hI2.new;have HD:=jd hK;clear CP U2 hI2 hK hy hI hv hv2
  gi_wp2
  refine⟨by simp,.inl ⟨_,_,rfl,run_takeDeferred HD.o,?_⟩⟩;exact⟨_,results_tmp rfl _ _ _,v2,rfl,lO.o,RN.o⟩
 case stop=>
  rintro D c pre W _ _ h _;exact h.elim
 case body=>
 rintro l pre ⟨⟨da,db⟩,hda⟩ a' W hl2 ⟨r,hr⟩ hI ⟨Bx,hBx,hD,rfl⟩ hlt;obtain⟨g1,g2,g3⟩:=Vi HX.o pre
 obtain⟨seen,vB⟩:∃s,s=(fst X (pre.map (·.1))).1:=⟨_,rfl⟩
 obtain⟨rs,hrs⟩:∃s,s=(fst X (pre.map (·.1))).2:=⟨_,rfl⟩
 have hI':FI w b seen rs W:=by rw[vB,hrs];exact hI
 rw[<-vB]at g1 g2;rw[<-hrs]at g3;have vo:X.length<=16:=hl
 have ah0:da<40:=by have:=hda.2;unfold Kn.ag at this;simp only at this;omega
 have hmc:W.cell? ⟨w.heap.size+1+1,0,none⟩=some (.map (some (w.heap.size+1))):=(vJ hI'.m).1;obtain⟨dc1,dc2⟩:=Nu.c hD;simp only at dc1 dc2;have hrun:(Instr.lookup 167 (.map (some (w.heap.size+1))) (.agg #[.int .i64 (da:Nat),.bool db]) false).run prog W=.ok (.bool (decide ((da,db)∈seen))) W:=hI'.map.look (da,db) ah0;rw[hsz];have HI:=jd hI';have Pg:=jd vB;have HRS:=jd hrs;have HG1:=jd g1;have Z0:=jd g2;have HDA:=jd hda
 have hrl:rs.length+1<=65:=by omega
 clear hI hI' vB hrs g1 g2 g3 hD hr hl2 hc0 hc1 W7 h0;by_cases hc:(da,db)∈seen
 · rw[jk hc]at hrun
   have HC:=jd hc;clear hc
   gi_wp2
   refine⟨KeepsFrom.refl _ _,⟨λ_ x=>x,λ_ x=>x⟩,?_⟩;have:=HI.o;rw[Pg.o]at HC;unfold Z5;rw[jP,List.map_singleton,Vh HC.o,<-Pg.o,<-HRS.o];exact this
 rw[jm hc]at hrun;have HC:=jd hc;clear hc
 gi_wp2
 have HQ0:Hd (QF w W (W.alloc (.cells #[.int .i64 (da:Int),.bool db] 26)) X seen [] (da,db) (da,db) W.heap.size (.slice none 0 0)):=jd
  ⟨(Fr.refl _ _).alloc _,(KeepsOthers.alloc _ _).from _,by rw[append_nil];exact HI.o.map.fr (S:=λ_=>False) ((Fr.refl _ _).alloc _) (λx=>x),⟨rfl,.inl ⟨rfl,rfl⟩⟩,heap_alloc_new _ _,jH _,(λk hk=>by cases hk),
   by rw[append_nil];exact HG1.o,by rw[append_nil];exact Z0.o,HDA.o,nF X,rfl,by simp⟩
 clear hmc dc1 dc2 hrun
 have hWl:w.heap.size+5<=W.heap.size:=by have:=(jf.1 HI.o.i).1;omega
 gi_loopw [6,7] (λs6 s7 wr=>∃(x:Dt) (r:List Dt) (xb:Nat),s7=.pointer (some ⟨xb,0,none⟩)/\Hd (QF w W wr X seen r x (da,db) xb s6)) (λs6 _ _=>(4*X.length+1)-ag0 s6)
 case atStart=>exact⟨(da,db),[],W.heap.size,rfl,HQ0⟩
 case round=>
 obtain⟨⟨xa,xo⟩,r,xb,rfl,HQ⟩:=hrel;have hxa:=HQ.o.ie
 have ahi:xa<40:=by have:=hxa.2;unfold Kn.ag at this;simp only at this;omega
 obtain⟨x1,x2⟩:=Nu.c HQ.o.amd;simp only at x1 x2;have hmc:wr.cell? ⟨w.heap.size+1+1,0,none⟩=some (.map (some (w.heap.size+1))):=HQ.o.fr.cell (vJ HI.o.m).1 (by simp);have hsc:wr.cell? ⟨w.heap.size,0,none⟩=some (.pointer (some ⟨b,0,none⟩)):=HQ.o.fr.cell (vJ HI.o.s).1 (by simp);have hrun:(Instr.lookup 167 (.map (some (w.heap.size+1))) (.agg #[.int .i64 (xa:Nat),.bool xo]) false).run prog wr=.ok (.bool (decide ((xa,xo)∈seen++r))) wr:=HQ.o.map.look (xa,xo) ahi;have HXA:=jd hxa;clear hxa;by_cases WZ:(xa,xo)∈seen++r
 · rw[jk WZ]at hrun
   have HDN:=jd (HQ.o.done WZ);clear WZ;obtain⟨v,hv,vs,hv1,hv2⟩:=HI.o.out;obtain⟨es,ck,yJ⟩:=HI.o.map.block;have hbo:=HQ.o.fr.block _ (jf.1 hv).1 (show ¬w.heap.size+3=w.heap.size+1 by omega);have HBO:Hd (wr.heap[w.heap.size+3]?=some (.cells #[v] 101 (0,0))):=jd (hbo.trans hv);have hvc:wr.cell? ⟨w.heap.size+1+1+1,0,none⟩=some v:=(vJ HBO.o).1;obtain⟨a8,c8,rfl,_⟩:=dr HQ.o.ring;obtain⟨rl,ZJ⟩:=jb r.length;have tU:=HQ.o.ring;rw[<-ZJ.o]at tU ⊢;obtain⟨vl,HVL⟩:=jb vs.length
   have G7:Hd (wr.ownsRow w.heap.size 156 1 v vl vs):=jd (by rw[HVL.o];exact HQ.o.fr.owns hv1 (cM hv1 yJ));have KC:=jd tU;have Hq:=jd hv2;have uq:=jd yJ
   have hvl:vl<=65:=by have:=HVL.o;have:=hv2.len;omega
   obtain⟨i1,Sa,UR,UQ,UO⟩:=info_parts Tryz.Ys;clear hv hv1 hv2 tU yJ hbo
   gi_wp2_with (gi_at_builtin;refine wpListIn_append_own _ rfl _ _ 101 rfl w.heap.size 156 i1 (.slice none 0 0) 1 24 Tryz.underlying101 Sa UR UQ UO rfl (by decide) _ vl vs rfl (World.ownsRow.alloc G7.o _) ⟨wr.heap.size,0,none⟩ 1 1 [.slice a8 rl c8] rfl rfl (zH rfl) (TT _ _ _) (by unfold maxLen;omega) (by omega) (by have:=HI.o.new.size;have:=HQ.o.fr.size;simp;omega) ?_;intro v' w7 hown cN _;obtain⟨a9,c9,rfl,_⟩:=dr hown;have QT:=G3 HBO.o G7.o (by decide) cN;have hb7c:w7.cell? ⟨w.heap.size+1+1+1,0,none⟩=some v:=(vJ QT).1;have hb7f:w7.frozen? ⟨w.heap.size+1+1+1,0,none⟩=false:=(vJ QT).2;have HOW:=jd hown;have KN:=jd cN;have DZ:=jd QT;clear hown cN QT)
   rw[ZJ.o]at HOW;have adv:=FI.ring HI.o HQ.o HBO.o G7.o HVL.o Hq.o HOW.o KN.o hbl;refine⟨adv.1,adv.2.1,?_⟩;rw[Pg.o]at HC;unfold Z5;rw[jP,List.map_singleton,YU HC.o,<-Pg.o,<-HRS.o,HDN.o];exact adv.2.2
 rw[jm WZ]at hrun;obtain⟨s1,s2,s3,s4,s5⟩:=HQ.o.snoc WZ;have S1:=jd s1;have S2:=jd s2;have S5:=jd s5;obtain⟨D,hown,Aj,GA⟩:=HQ.o.map;obtain⟨kl,fY⟩:=UA (xa,xo) ahi;have nN:=jd Aj;have nA:=jd GA;have HKL:=jd fY;have aem:=jd hown;obtain⟨a8,c8,rfl,_⟩:=dr HQ.o.ring;obtain⟨rl,ZJ⟩:=jb r.length;have tU:=HQ.o.ring;rw[<-ZJ.o]at tU s4 ⊢;have KC:=jd tU
 have hsl:(seen++r).length<maxLen:=by unfold maxLen;omega
 have HSL:=jd hsl
 have hrl2:rl+1<=64:=by omega
 clear WZ s1 s2 s3 s5 hown Aj GA fY tU hsl;obtain⟨i0,hi,hz0,hz1,hz2⟩:=info_parts Tryz.Mi;have NX:Hd (¬some (w.heap.size+1)=some xb):=jd (λe=>by have:=HQ.o.xlb;have:=Option.some.inj e;omega)
 have NR:Hd (∀k,(Value.slice a8 rl c8).ownBlock=some k->¬some (w.heap.size+1)=some k):=jd (λk hk e=>by
  obtain⟨es,ck,yJ⟩:=HQ.o.map.block
  exact cM KC.o yJ k hk (Option.some.inj e).symm)
 have NXR:Hd (∀k,(Value.slice a8 rl c8).ownBlock=some k->¬k=xb):=jd (by rw[ZJ.o];exact HQ.o.xne);have NM0:Hd (¬some (w.heap.size+1)=some w.heap.size):=jd (λe=>by have:=Option.some.inj e;omega);have NS:Hd (∀k,(Value.slice a8 rl c8).ownBlock=some k->¬k=w.heap.size):=jd (λk hk e=>by have:=dR KC.o k hk;omega);have HNr:Hd (New w wr):=jd (HI.o.new.next HQ.o.fr λi hi=>.inr (by omega))
 obtain⟨la,lb,ahO⟩:∃la lb,left X (xa,xo)=(la,lb):=⟨_,_,rfl⟩
 have ajz:=jd ahO;clear ahO
 gi_wp2_with (first
  |(gi_at_mapUpdate;refine wpListIn_mapUpdate_own _ rfl _ _ _ 167 rfl 26 4 Tryz.Ox Tryz.aad _ (w.heap.size+1) (seen++r).length _ rfl aem.o HSL.o _ _ kl rfl rfl HKL.o _ [] (plainElem_bool Tryz.ul4 true) ?_;intro w1 aaO GB;have Fb:=qL GB;have y1:=Fb.cell x1 NX.o;have y2:=Fb.cell x2 NX.o;have y0:=Fb.cell hsc NM0.o;have ajd:=jd (Fb.owns KC.o NR.o);have gQ:Hd (New w w1):=jd (HNr.o.grown GB λk e=>.inr (by have:=Option.some.inj e;omega));have apo:=jd aaO;have ajF:=jd GB;clear aaO GB Fb)
  |(gi_at_builtin;refine wpListIn_append_own _ rfl _ _ 156 rfl W.heap.size 26 i0 _ 2 16 Tryz.underlying156 hi hz0 hz1 hz2 rfl (by decide) _ rl (lK r) rfl (World.ownsRow.alloc ajd.o _) ⟨w1.heap.size,0,none⟩ 1 1 [.int .i64 (xa:Int),.bool xo] rfl rfl (VR rfl) (X6 _ _) (by unfold maxLen;omega) (by omega) (by have:=HQ.o.fr.size;have:=ajF.o.size;simp;omega) ?_;intro v' w2 dz zr _;obtain⟨a9,c9,rfl,_⟩:=dr dz;have u1:=(qL zr).cell (aY y1 _) (λe=>NXR.o xb e rfl);have u2:=(qL zr).cell (aY y2 _) (λe=>NXR.o xb e rfl);have u0:=(qL zr).cell (aY y0 _) (λe=>NS.o w.heap.size e rfl);have t0:=λo=>aY u0 o;have kZ:Hd (New w w2):=jd ((gQ.o.alloc _).grown zr λk e=>.inr (jJ (by omega) (dR KC.o k e)));have RF:=jd dz;have apR:=jd zr;clear dz zr)
  |(refine⟨trivial,?_⟩;gi_at_call 90;refine(CallsIn.inRound l (callsIn_wide.2 (Ur b xa xo X L _ (New.kM (kZ.o.alloc _) HS.o) HX.o hl HXA.o))).mono ?_;rintro e w4 ⟨rfl,hE⟩;rw[ajz.o];obtain⟨q1,q2,q3,q4,q5,q6⟩:=F3 (qR hE (heap_alloc_new _ _));have HE:=jd hE;clear hE))
 go_roundw
 case rel=>exact⟨(la,lb),r++[(xa,xo)],_,rfl,jd (QF.step HI.o HX.o (show QF w W wr X seen r (xa,xo) (da,db) xb (.slice a8 rl c8)by rw[ZJ.o];exact HQ.o) ajz.o.symm nN.o nA.o HKL.o apo.o ajF.o ajd.o ZJ.o RF.o apR.o HE.o S1.o S2.o S5.o)⟩
 case measure=>simp only[ag0];omega
end Go.Proofs.YtfplmbmenjdlhaaGreatDoor
