/- Walks: Faces. -/
import Derived.Test.YtlicglicfijelaaGreatW11
namespace Go.Proofs.YtlicglicfijelaaGreat
open Go.RowKit Go.Shelf
attribute [local go_sem] Oper.semAt_some

def nF(X:List Kn.Cr):Nat:=4*X.length+1
def fstep(X:List Kn.Cr)(st:List Kn.Dt×List (List Kn.Dt))(d:Kn.Dt):List Kn.Dt×List (List Kn.Dt):=
 if d∈st.1 then st else(st.1++Kn.ring (Kn.left X) (nF X) st.1 d,st.2++[Kn.ring (Kn.left X) (nF X) st.1 d])
def fst(X:List Kn.Cr)(ds:List Kn.Dt):List Kn.Dt×List (List Kn.Dt):=ds.foldl (fstep X) ([],[])
theorem fst_fold(X:List Kn.Cr):∀(ds seen:List Kn.Dt) (rs:List (List Kn.Dt)),(ds.foldl (fstep X) (seen,rs)).2=rs++Kn.rings (Kn.left X) (nF X) seen ds
 |[],seen,rs=>by rw[Kn.rings_nil,List.append_nil];rfl
 |d :: ds,seen,rs=>by
  rw[List.foldl_cons]
  by_cases c:d∈seen
  · rw[Kn.rings_seen _ c,show fstep X (seen,rs) d=(seen,rs)from if_pos c,fst_fold]
  · rw[Kn.rings_new _ c,show fstep X (seen,rs) d=(seen++Kn.ring (Kn.left X) (nF X) seen d,rs++[Kn.ring (Kn.left X) (nF X) seen d])from if_neg c,fst_fold]
    simp
theorem fst_all(X:List Kn.Cr):(fst X (Kn.darts X)).2=Kn.facesL X:=by unfold fst;rw[fst_fold];rfl
theorem fst_snoc(X:List Kn.Cr)(ds:List Kn.Dt)(d:Kn.Dt):fst X (ds++[d])=fstep X (fst X ds) d:=by unfold fst;rw[List.foldl_append];rfl
theorem fst_seen{X:List Kn.Cr}{ds:List Kn.Dt}{d:Kn.Dt}(h:d∈(fst X ds).1):fst X (ds++[d])=fst X ds:=by rw[fst_snoc];exact if_pos h
theorem fst_new{X:List Kn.Cr}{ds:List Kn.Dt}{d:Kn.Dt}(h:d∉(fst X ds).1):fst X (ds++[d])=((fst X ds).1++Kn.ring (Kn.left X) (nF X) (fst X ds).1 d,(fst X ds).2++[Kn.ring (Kn.left X) (nF X) (fst X ds).1 d]):=by rw[fst_snoc];exact if_neg h
theorem fold_good{X:List Kn.Cr}(hX:Kn.Ok X):∀(ds:List Kn.Dt) {st:List Kn.Dt×List (List Kn.Dt)},(∀d∈ds,d∈Kn.darts X)→st.1.Nodup→(∀d∈st.1,d∈Kn.darts X) →
 (ds.foldl (fstep X) st).1.Nodup∧(∀d∈(ds.foldl (fstep X) st).1,d∈Kn.darts X)∧(ds.foldl (fstep X) st).2.length≤st.2.length+ds.length
 |[],st,_,h1,h2=>⟨h1,h2,Nat.le_refl _⟩
 |d :: ds,st,h,h1,h2=>by
  rw[List.foldl_cons]
  by_cases c:d∈st.1
  · rw[show fstep X st d=st from if_pos c]
    obtain⟨a,b,e⟩:=fold_good hX ds (fun x hx=>h x (by simp[hx])) h1 h2
    exact⟨a,b,by simp only[List.length_cons];omega⟩
  · rw[show fstep X st d=(st.1++Kn.ring (Kn.left X) (nF X) st.1 d,st.2++[Kn.ring (Kn.left X) (nF X) st.1 d])from if_neg c]
    obtain⟨a,b,e⟩:=fold_good hX ds (st:=(st.1++Kn.ring (Kn.left X) (nF X) st.1 d,st.2++[Kn.ring (Kn.left X) (nF X) st.1 d])) (fun x hx=>h x (by simp[hx])) (Kn.ring_nodup _ _ d h1) (fun y hy=>by
     rcases List.mem_append.1 hy with hy|hy
     · exact h2 y hy
     · exact Kn.ring_sub _ (fun x hx=>Kn.mem_darts.2 (hX.isArc_left (Kn.mem_darts.1 hx))) _ _ (h d (by simp)) y hy)
    refine⟨a,b,?_⟩
    simp only[List.length_append,List.length_cons,List.length_nil]at e ⊢
    omega
theorem fst_good{X:List Kn.Cr}(hX:Kn.Ok X)(pre:List (DX X)):(fst X (pre.map (·.1))).1.Nodup∧(∀d∈(fst X (pre.map (·.1))).1,d∈Kn.darts X)∧(fst X (pre.map (·.1))).2.length≤pre.length:=by
 obtain⟨a,b,c⟩:=fold_good hX (pre.map (·.1)) (st:=([],[])) (fun d hd=>by obtain⟨x,_,rfl⟩:=List.mem_map.1 hd;exact Kn.mem_darts.2 x.2) (by simp) (fun d hd=>by cases hd)
 refine⟨a,b,?_⟩
 rw[List.length_map]at c
 unfold fst
 simpa using c

structure FI(w:World)(b:Nat)(seen:List Kn.Dt)(rs:List (List Kn.Dt))(W:World):Prop where
 new:New w W
 s:W.heap[w.heap.size]?=some (.cells #[.pointer (some ⟨b,0,none⟩)] 44 (0,0))
 m:W.heap[w.heap.size+2]?=some (.cells #[.map (some (w.heap.size+1))] 133 (0,0))
 map:SeenMap W (w.heap.size+1) seen
 out:∃v,W.heap[w.heap.size+3]?=some (.cells #[v] 88 (0,0))∧Rows OwnD w.heap.size 118 W v rs
 i:W.heap[w.heap.size+4]?=some (.cells #[.pointer (some ⟨b,0,none⟩)] 44 (0,0))
theorem own_cells{W:World}{base e sz n:Nat}{v:Value}{xs:List Value}(h:W.ownsRow base e sz v n xs):∀k,v.ownBlock=some k→∃o:Obj,W.heap[k]?=some o∧o.isCells=true:=by
 intro k hk
 rcases h.2 with⟨rfl,_⟩|⟨g,cap,cur,rfl,_,hg,_⟩
 · cases hk
 · cases hk;exact⟨_,hg,rfl⟩
theorem fr_grown{W W':World}{row:Option Nat}(hg:W.grownBy W' row):Fr (fun k=>row=some k) W W':=(Fr.refl _ W).grown hg fun k e=>.inl e
theorem FI.kept{w:World}{b:Nat}{seen:List Kn.Dt}{rs:List (List Kn.Dt)}{W W':World}{row:Option Nat}(h:FI w b seen rs W)(hg:W.grownBy W' row)(hr:∀r,row=some r→w.heap.size+5≤r∧∃o:Obj,W.heap[r]?=some o∧o.isCells=false):FI w b seen rs W':=by
 have hF:=fr_grown hg
 have hlow:∀k,k<w.heap.size+5→¬row=some k:=fun k hk e=>by have:=(hr k e).1;omega
 have hcell:∀{k:Nat} {o:Obj},W.heap[k]?=some o→o.isCells=true→¬row=some k:=fun {k o} ho hc e=>by
  obtain⟨_,o',ho',hc'⟩:=hr k e
  rw[ho]at ho';cases ho'
  rw[hc]at hc';cases hc'
 have hown:∀{base e sz n:Nat} {v:Value} {xs:List Value},W.ownsRow base e sz v n xs→W'.ownsRow base e sz v n xs:=fun ho=>hF.owns ho fun k hk=>by
  obtain⟨o,h1,h2⟩:=own_cells ho k hk
  exact hcell h1 h2
 obtain⟨v,hv,vs,hr1,hr2⟩:=h.out
 exact⟨h.new.next hF fun k e=>.inr (by have:=(hr k e).1;omega),(hF.block _ (Array.getElem?_eq_some_iff.1 h.s).1 (hcell h.s rfl)).trans h.s,(hF.block _ (Array.getElem?_eq_some_iff.1 h.m).1 (hcell h.m rfl)).trans h.m,h.map.fr hF (hlow _ (by omega)),
  ⟨v,(hF.block _ (Array.getElem?_eq_some_iff.1 hv).1 (hcell hv rfl)).trans hv,vs,hown hr1,hr2.mono fun _ _ x=>hown x⟩,(hF.block _ (Array.getElem?_eq_some_iff.1 h.i).1 (hcell h.i rfl)).trans h.i⟩
abbrev FInv(w:World)(b:Nat)(X:List Kn.Cr)(pre:List (DX X))(W:World):Prop:=FI w b (fst X (pre.map (·.1))).1 (fst X (pre.map (·.1))).2 W
theorem fInv_own(w:World)(b B:Nat)(X:List Kn.Cr)(hB:w.heap.size+5≤B):OwnFrom B (FInv w b X):=fun _ _ _ _ hs hg hr=>hs.kept hg fun r e=>⟨Nat.le_trans hB (hr r e).1,(hr r e).2⟩
theorem New.keeps{W W':World}(h:New W W')(B:Nat):KeepsFrom B W W':=⟨h.size,fun k o _ hk _=>(h.block k (Array.getElem?_eq_some_iff.1 hk).1 fun x=>x).trans hk⟩

theorem box_c{W:World}{B t:Nat}{v:Value}(h:W.heap[B]?=some (.cells #[v] t (0,0))):W.cell? ⟨B,0,none⟩=some v∧W.frozen? ⟨B,0,none⟩=false:=by
 constructor<;>simp[World.cell?,World.frozen?,h]
theorem fi_start(w:World)(b:Nat):
 FI w b [] [] (((((w.alloc (.cells #[.pointer (some ⟨b,0,none⟩)] 44)).alloc (.map #[] 0)).alloc (.cells #[.map (some (w.heap.size+1))] 133)).alloc (.cells #[.slice none 0 0] 88)).alloc (.cells #[.pointer (some ⟨b,0,none⟩)] 44)):=by
 have hk:∀(W:World) (o:Obj) {k:Nat} {u:Obj},W.heap[k]?=some u→(W.alloc o).heap[k]?=some u:=fun W o k u hu=>(Below.heap_alloc W o k (Array.getElem?_eq_some_iff.1 hu).1).trans hu
 have hz:∀(W:World) (o:Obj) {k:Nat},k=W.heap.size→(W.alloc o).heap[k]?=some o:=fun W o k e=>by subst e;exact heap_alloc_new W o
 refine⟨((((((Fr.refl _ w).alloc _).alloc _).alloc _).alloc _).alloc _),hk _ _ (hk _ _ (hk _ _ (hk _ _ (hz _ _ rfl)))),hk _ _ (hk _ _ (hz _ _ (by simp))),?_,⟨.slice none 0 0,hk _ _ (hz _ _ (by simp)),Rows.nil⟩,hz _ _ (by simp)⟩
 have:=SeenMap.made (w.alloc (.cells #[.pointer (some ⟨b,0,none⟩)] 44));rw[World.size_alloc]at this
 exact this.fr (S:=fun _=>False) ((((Fr.refl _ _).alloc _).alloc _).alloc _) (fun x=>x)
def DBox(W:World)(B:Nat)(d:Kn.Dt):Prop:=W.heap[B]?=some (.cells #[.int .i64 (d.1:Nat),.bool d.2] 26 (0,0))
theorem DBox.c{W:World}{B:Nat}{d:Kn.Dt}(h:DBox W B d):W.cell? ⟨B,0,none⟩=some (.int .i64 (d.1:Nat))∧W.cell? ⟨B,1,none⟩=some (.bool d.2):=⟨cell_of_row _ _ 0 _ 26 (0,0) h,cell_of_row _ _ 1 _ 26 (0,0) h⟩

theorem box_app{W W':World}{o:Obj}{B t base e sz n:Nat}{v u:Value}{xs:List Value}(hb:W.heap[B]?=some (.cells #[u] t (0,0)))(h:W.ownsRow base e sz v n xs)(hne:e≠t)(hg:(W.alloc o).grownBy W' v.ownBlock):W'.heap[B]?=some (.cells #[u] t (0,0)):=by
 have hl:=(Array.getElem?_eq_some_iff.1 hb).1;refine(hg.block B (by simp;omega) fun ek=>?_).trans ((Below.heap_alloc _ _ _ hl).trans hb)
 rcases h.2 with⟨rfl,_⟩|⟨g,cap,cur,rfl,_,hgg,_⟩
 · cases ek
 · cases ek
   rw[hb]at hgg
   injection hgg with hgg
   injection hgg with _ hgg
   exact hne hgg.symm
structure QF(w W wr:World)(X:List Kn.Cr)(seen r:List Kn.Dt)(x d:Kn.Dt)(xb:Nat)(s:Value):Prop where
 fr:Fr (fun k=>k=w.heap.size+1) W wr
 kf:KeepsFrom (w.heap.size+5) W wr
 map:SeenMap wr (w.heap.size+1) (seen++r)
 ring:wr.ownsRow W.heap.size 26 2 s r.length (dcells r)
 xbox:DBox wr xb x
 xlb:W.heap.size≤xb
 xne:∀k,s.ownBlock=some k→¬k=xb
 nd:(seen++r).Nodup
 sub:∀y∈seen++r,y∈Kn.darts X
 arc:Kn.isArc X x.1
 eq:∃f,f+r.length=nF X∧r++Kn.ring (Kn.left X) f (seen++r) x=Kn.ring (Kn.left X) (nF X) seen d
theorem QF.snoc{w W wr:World}{X:List Kn.Cr}{seen r:List Kn.Dt}{x d:Kn.Dt}{xb:Nat}{s:Value}(h:QF w W wr X seen r x d xb s)(hx:x∉seen++r):
 (seen++(r++[x])).Nodup∧(∀y∈seen++(r++[x]),y∈Kn.darts X)∧(seen++r).length+1≤4*X.length∧r.length+1≤4*X.length ∧
 ∃f,f+(r++[x]).length=nF X∧(r++[x])++Kn.ring (Kn.left X) f (seen++(r++[x])) (Kn.left X x)=Kn.ring (Kn.left X) (nF X) seen d:=by
 have h1:=Kn.nodup_snoc h.nd hx
 have h2:∀y∈seen++(r++[x]),y∈Kn.darts X:=fun y hy=>by
  rw[←List.append_assoc,List.mem_append,List.mem_singleton]at hy
  rcases hy with hy|rfl
  · exact h.sub y hy
  · exact Kn.mem_darts.2 h.arc
 rw[List.append_assoc]at h1;have h3:=Kn.nodup_le h1 h2;rw[Kn.darts_length]at h3;simp only[List.length_append,List.length_singleton]at h3 ⊢
 refine⟨h1,h2,by omega,by omega,?_⟩
 obtain⟨f,hf,he⟩:=h.eq;have hf2:nF X=4*X.length+1:=rfl
 obtain⟨f',rfl⟩:∃f',f=f'+1:=⟨f-1,by omega⟩
 refine⟨f',by omega,?_⟩
 rw[Kn.ring_new _ hx,List.append_assoc]at he;rw[List.append_assoc]
 exact he
theorem QF.done{w W wr:World}{X:List Kn.Cr}{seen r:List Kn.Dt}{x d:Kn.Dt}{xb:Nat}{s:Value}(h:QF w W wr X seen r x d xb s)(hx:x∈seen++r):Kn.ring (Kn.left X) (nF X) seen d=r:=by
 obtain⟨f,_,he⟩:=h.eq;rw[Kn.ring_seen _ hx,List.append_nil]at he
 exact he.symm
theorem cell_two{w:World}{a b:Value}{t:TypeId}{B:Nat}(hB:B=w.heap.size):∀(j:Nat) (u:Value),[a,b][j]?=some u→(w.alloc (.cells #[a,b] t)).cell? ((⟨B,0,none⟩:Addr).add j)=some u:=by
 subst hB
 intro j u hu
 rw[addr_add,Nat.zero_add,cell_of_row _ _ j _ t (0,0) (heap_alloc_new _ _)]
 match j with
 |0=>exact hu
 |1=>exact hu
 |j+2=>simp at hu
theorem one_two(x:Int)(y:Bool):∀u∈[Value.int .i64 x,.bool y],u.oneCell'=true:=by
 intro u hu
 simp only[List.mem_cons,List.not_mem_nil,or_false]at hu
 rcases hu with rfl|rfl<;>rfl
theorem own_not_map{W:World}{base e sz n mb:Nat}{v:Value}{xs:List Value}{es:Array MapEntry}{ck:Nat}(h:W.ownsRow base e sz v n xs)(hm:W.heap[mb]?=some (.map es ck)):∀k,v.ownBlock=some k→¬k=mb:=by
 intro k hk e'
 subst e';obtain⟨o,ho,hc⟩:=own_cells h k hk;rw[hm]at ho
 cases ho;cases hc
theorem KeepsFrom.app{B:Nat}{W W':World}{o:Obj}{base e sz n:Nat}{v:Value}{xs:List Value}(h:W.ownsRow base e sz v n xs)(hg:(W.alloc o).grownBy W' v.ownBlock):KeepsFrom B W W':=
 ((KeepsOthers.alloc W o).trans (KeepsOthers.of_grownBy hg fun j o' ej hj=>by
  obtain⟨u,hu,hc⟩:=own_cells (World.ownsRow.alloc h o) j ej
  rw[hu]at hj;cases hj;exact hc)).from B

theorem blk_not_own{W:World}{B t base e sz n:Nat}{cs:Array Value}{v:Value}{xs:List Value}(hb:W.heap[B]?=some (.cells cs t (0,0)))(h:W.ownsRow base e sz v n xs)(hne:e≠t):¬v.ownBlock=some B:=by
 intro ek
 rcases h.2 with⟨rfl,_⟩|⟨g,cap,cur,rfl,_,hgg,_⟩
 · cases ek
 · cases ek
   rw[hb]at hgg
   injection hgg with hgg
   injection hgg with _ hgg
   exact hne hgg.symm
theorem Fr.blk{S:Nat→Prop}{W W':World}(h:Fr S W W'){B:Nat}{o:Obj}(hb:W.heap[B]?=some o)(hs:¬S B):W'.heap[B]?=some o:=(h.block B (Array.getElem?_eq_some_iff.1 hb).1 hs).trans hb
theorem box_set{W:World}{B t:Nat}{u v:Value}(hb:W.heap[B]?=some (.cells #[u] t (0,0))):(W.setCell ⟨B,0,none⟩ v).heap[B]?=some (.cells #[v] t (0,0)):=Boxed.set v (show Boxed W B t u from hb)
theorem FI.ring{w W wr w7:World}{b:Nat}{X:List Kn.Cr}{seen r:List Kn.Dt}{rs:List (List Kn.Dt)}{x d:Kn.Dt}{xb:Nat}{s v v9:Value}{vs:List Value}{o:Obj}{vl:Nat}
 (hI:FI w b seen rs W) (hq:QF w W wr X seen r x d xb s) (hb:wr.heap[w.heap.size+3]?=some (.cells #[v] 88 (0,0))) (hout:wr.ownsRow w.heap.size 118 1 v vl vs) (hvl:vl=vs.length) (hels:Els (OwnD W) vs rs)
 (hown:w7.ownsRow w.heap.size 118 1 v9 (vl+1) (vs++[s])) (hgr:(wr.alloc o).grownBy w7 v.ownBlock) (hbl:b<w.heap.size):
 KeepsFrom (w.heap.size+5) W (w7.setCell ⟨w.heap.size+3,0,none⟩ v9)∧KpB (w.heap.size+4) b W (w7.setCell ⟨w.heap.size+3,0,none⟩ v9)∧FI w b (seen++r) (rs++[r]) (w7.setCell ⟨w.heap.size+3,0,none⟩ v9):=by
 have hF:Fr (fun k=>v.ownBlock=some k∨k=w.heap.size+3) wr (w7.setCell ⟨w.heap.size+3,0,none⟩ v9):=(((Fr.refl _ wr).alloc o).grown hgr fun k e=>.inl (.inl e)).setCell (.inl (.inr rfl)) _;obtain⟨es,ck,hmb⟩:=hI.map.block;obtain⟨es',ck',hmb'⟩:=hq.map.block
 have nm:¬(v.ownBlock=some (w.heap.size+1)∨w.heap.size+1=w.heap.size+3):=fun h=>h.elim (fun e=>own_not_map hout hmb' _ e rfl) (fun e=>by omega)
 have s1:=hq.fr.blk hI.s (by omega);have m1:=hq.fr.blk hI.m (by omega);have i1:=hq.fr.blk hI.i (by omega)
 have ns:¬(v.ownBlock=some w.heap.size∨w.heap.size=w.heap.size+3):=fun h=>h.elim (blk_not_own s1 hout (by decide)) (fun e=>by omega)
 have nn:¬(v.ownBlock=some (w.heap.size+2)∨w.heap.size+2=w.heap.size+3):=fun h=>h.elim (blk_not_own m1 hout (by decide)) (fun e=>by omega)
 have ni:¬(v.ownBlock=some (w.heap.size+4)∨w.heap.size+4=w.heap.size+3):=fun h=>h.elim (blk_not_own i1 hout (by decide)) (fun e=>by omega)
 have nb:¬(v.ownBlock=some b∨b=w.heap.size+3):=fun h=>h.elim (fun e=>by have:=own_lb hout b e;omega) (fun e=>by omega)
 have nd:∀{base n:Nat} {u:Value} {xs:List Value},wr.ownsRow base 26 2 u n xs→∀k,u.ownBlock=some k→¬(v.ownBlock=some k∨k=w.heap.size+3):=fun ho k hk h=>h.elim (fun e=>owns_ne ho hout (by decide) k hk e.symm) (fun e=>blk_not_own hb ho (by decide) (e ▸ hk))
 refine⟨(hq.kf.trans (KeepsFrom.app hout hgr)).trans ((KeepsOthers.setCell _ _ _).from _),kpB_t (kpB_fr hq.fr (by omega) (by omega)) (kpB_fr hF ni nb),?_,hF.blk s1 ns,hF.blk m1 nn,hq.map.fr hF nm,⟨v9,box_set (box_app hb hout (by decide) hgr),vs++[s],?_,?_⟩,hF.blk i1 ni⟩
 · exact(hI.new.next hq.fr fun i hi=>.inr (by omega)).next hF fun i hi=>.inr (hi.elim (fun e=>own_lb hout i e) (fun e=>by omega))
 · have h1:Fr (fun k=>k=w.heap.size+3) w7 (w7.setCell ⟨w.heap.size+3,0,none⟩ v9):=(Fr.refl (fun k=>k=w.heap.size+3) w7).setCell (.inl rfl) _
   have:=h1.owns hown fun k hk e=>blk_not_own (box_app hb hout (by decide) hgr) hown (by decide) (e ▸ hk)
   rw[List.length_append,←hvl]
   exact this
 · refine Els.snoc (hels.mono fun u l hu=>?_) ?_
   · have h2:=hq.fr.owns (show W.ownsRow 0 26 2 u l.length (dcells l)from hu) (own_not_map (show W.ownsRow 0 26 2 u l.length (dcells l)from hu) hmb)
     exact hF.owns h2 (nd h2)
   · exact own0 (hF.owns hq.ring (nd hq.ring))

theorem QF.step{w W wr w1 w2 w4:World}{b:Nat}{X:List Kn.Cr}{seen r:List Kn.Dt}{rs:List (List Kn.Dt)}{x d y:Kn.Dt}{xb:Nat}{s v':Value}{o:Obj}{D:DataW Unit}{kl:Lit}{rl:Nat}
 (hI:FI w b seen rs W) (hX:Kn.Ok X) (hq:QF w W wr X seen r x d xb s) (hy:y=Kn.left X x) (hm1:Maps.IsMap D) (hm2:∀d:Kn.Dt,∀l,keyOf Tryz.prog 26 (dv d)=some l→D.atKey l (.lit (.bool false))=.lit (.bool (decide (d∈seen++r)))) (hkl:keyOf Tryz.prog 26 (dv x)=some kl)
 (ho1:w1.ownsMap Tryz.prog 26 (plainElem Tryz.prog 4) (w.heap.size+1) ((seen++r).length+1) (D.put kl (.lit (.bool true)))) (hg1:wr.grownBy w1 (some (w.heap.size+1))) (hring:w1.ownsRow W.heap.size 26 2 s rl (dcells r)) (hrl:rl=r.length)
 (ho2:w2.ownsRow W.heap.size 26 2 v' (rl+1) (dcells r++[.int .i64 (x.1:Nat),.bool x.2])) (hg2:(w1.alloc o).grownBy w2 s.ownBlock) (hE:New (w2.alloc (.cells #[.int .i64 (x.1:Nat),.bool x.2] 26)) w4)
 (s1:(seen++(r++[x])).Nodup) (s2:∀y∈seen++(r++[x]),y∈Kn.darts X) (s5:∃f,f+(r++[x]).length=nF X∧(r++[x])++Kn.ring (Kn.left X) f (seen++(r++[x])) (Kn.left X x)=Kn.ring (Kn.left X) (nF X) seen d):
 QF w W ((w4.setCell ⟨w2.heap.size,0,none⟩ (.int .i64 (y.1:Nat))).setCell ⟨w2.heap.size,1,none⟩ (.bool y.2)) X seen (r++[x]) y d w2.heap.size v':=by
 have hWl:w.heap.size+5≤W.heap.size:=by have:=(Array.getElem?_eq_some_iff.1 hI.i).1;omega
 have z1:=hq.fr.size;have z2:=hg1.size;have z3:=hg2.size
 simp at z3
 have hF1:Fr (fun k=>k=w.heap.size+1) W w1:=hq.fr.grown hg1 fun k e=>.inl (Option.some.inj e).symm
 have hF2:Fr (fun k=>k=w.heap.size+1) W w2:=(hF1.alloc o).grown hg2 fun k e=>.inr (own_lb hring k e)
 have hF4:Fr (fun k=>k=w.heap.size+1) W w4:=(hF2.alloc _).trans (hE.mono fun _ h=>h.elim);have hF5:Fr (fun k=>k=w.heap.size+1) W ((w4.setCell ⟨w2.heap.size,0,none⟩ (.int .i64 (y.1:Nat))).setCell ⟨w2.heap.size,1,none⟩ (.bool y.2)):=(hF4.setCell (.inr (by show W.heap.size≤w2.heap.size;omega)) _).setCell (.inr (by show W.heap.size≤w2.heap.size;omega)) _
 have hb4:w4.heap[w2.heap.size]?=some (.cells #[.int .i64 (x.1:Nat),.bool x.2] 26 (0,0)):=hE.blk (heap_alloc_new _ _) fun h=>h
 have hm1':=SeenMap.put hm1 hm2 hkl ho1;obtain⟨es,ck,hmb⟩:=hm1'.block
 have hm2':SeenMap w2 (w.heap.size+1) ((seen++r)++[x]):=hm1'.fr (((Fr.refl (fun k=>s.ownBlock=some k) w1).alloc o).grown hg2 fun k e=>.inl e) fun e=>own_not_map hring hmb _ e rfl
 have hm4:SeenMap w4 (w.heap.size+1) ((seen++r)++[x]):=(hm2'.fr (S:=fun _=>False) ((Fr.refl _ _).alloc _) fun h=>h).fr hE fun h=>h
 have hset:Fr (fun k=>k=w2.heap.size) w4 ((w4.setCell ⟨w2.heap.size,0,none⟩ (.int .i64 (y.1:Nat))).setCell ⟨w2.heap.size,1,none⟩ (.bool y.2)):=((Fr.refl (fun k=>k=w2.heap.size) w4).setCell (.inl rfl) _).setCell (.inl rfl) _
 have hne:∀k,v'.ownBlock=some k→¬k=w2.heap.size:=fun k hk e=>by
  obtain⟨u,hu,_⟩:=own_cells ho2 k hk;have:=(Array.getElem?_eq_some_iff.1 hu).1
  omega
 refine⟨hF5,?_,?_,?_,?_,by omega,hne,s1,s2,hy ▸ hX.isArc_left hq.arc,by rw[hy];exact s5⟩
 · refine((((hq.kf.trans (KeepsFrom.of_grownBy hg1 fun j e=>by have:=Option.some.inj e;omega)).trans (KeepsFrom.app hring hg2)).trans ((KeepsOthers.alloc _ _).from _)).trans (hE.keeps _)).trans ?_
   exact((KeepsOthers.setCell _ _ _).trans (KeepsOthers.setCell _ _ _)).from _
 · rw[←List.append_assoc]
   exact hm4.fr hset (by omega)
 · have h4:=hE.owns (World.ownsRow.alloc ho2 (.cells #[.int .i64 (x.1:Nat),.bool x.2] 26)) fun _ _ h=>h
   have h5:=hset.owns h4 hne;rw[dcells_snoc,List.length_append,←hrl]
   exact h5
 · have hr:w4.rowIs w2.heap.size 26 2 (fun j=>if j=0 then .int .i64 (x.1:Nat)else .bool x.2):=⟨_,hb4,rfl,fun i hi=>by
    match i,hi with
    |0,_=>rfl
    |1,_=>rfl⟩
   obtain⟨cs,hb5,hn5,hc5⟩:=(hr.set 0 (.int .i64 (y.1:Nat))).set 1 (.bool y.2)
   unfold DBox
   rw[hb5];have e0:=hc5 0 (by omega);have e1:=hc5 1 (by omega)
   simp at e0 e1
   have:cs=#[.int .i64 (y.1:Nat),.bool y.2]:=by
    apply Array.ext_getElem?
    intro i
    match i with
    |0=>rw[e0];rfl
    |1=>rw[e1];rfl
    |i+2=>rw[Array.getElem?_eq_none (by omega),Array.getElem?_eq_none (by simp)]
   rw[this]

set_option maxRecDepth 100000 in
set_option maxHeartbeats 8000000 in
theorem faces_any(b:Nat)(X:List Kn.Cr)(L:Int)(w:World)(h:ShAt w b X L)(hX:Kn.Ok X)(hl:X.length≤16):
 Calls Tryz.prog 48 #[.pointer (some ⟨b,0,none⟩)] w fun e w'=>∃v,e=.returned v∧Rows OwnD w.heap.size 118 w' v (Kn.facesL X)∧New w w':=by
 have hmm:=@run_makeMap Tryz.prog
 obtain⟨n,cc,a,hn,hc0⟩:∃n cc a,n=X.length∧w.cell? ⟨b,0,none⟩=some (.slice a n cc):=by
  obtain⟨v,bi,bo,base,s⟩:=h;obtain⟨a,c,rfl,_⟩:=CrsAt.of_owns s.own
  exact⟨_,_,_,rfl,s.c2.1⟩
 have hbl:b<w.heap.size:=World.block_lt_of_cell? w _ hc0;have HS:=Lib.hid h;have HX:=Lib.hid hX;have HN:=Lib.hid hn;clear h hX hn;refine(callsIn_wide (n:=8)).1 ?_
 refine callsIn_of_wp_marks Tryz.func48 rfl trivial ?_ rfl
 simp only[Tryz.ntmps48,List.size_toArray,List.length_cons,List.length_nil,Nat.reduceAdd,Nat.reduceSub,Array.replicate_succ,Array.replicate_zero,List.push_toArray,List.append_toArray,List.nil_append,List.cons_append]
 gi_wp2_with (refine⟨trivial,?_⟩;gi_at_call 71;refine(darts_in _ b _).mono ?_;rintro e w' ⟨rfl,rfl⟩)
 have h0:=fi_start w b
 have hsz:(((((w.alloc (.cells #[.pointer (some ⟨b,0,none⟩)] 44)).alloc (.map #[] 0)).alloc (.cells #[.map (some (w.heap.size+1))] 133)).alloc (.cells #[.slice none 0 0] 88)).alloc (.cells #[.pointer (some ⟨b,0,none⟩)] 44)).heap.size=w.heap.size+5:=by simp
 obtain⟨W0,hW0⟩:∃W0,((((w.alloc (.cells #[.pointer (some ⟨b,0,none⟩)] 44)).alloc (.map #[] 0)).alloc (.cells #[.map (some (w.heap.size+1))] 133)).alloc (.cells #[.slice none 0 0] 88)).alloc (.cells #[.pointer (some ⟨b,0,none⟩)] 44)=W0:=⟨_,rfl⟩
 rw[hW0]at h0 hsz ⊢;clear hW0
 have hc1:=h0.new.cell hc0 fun x=>x
 have hi0:W0.cell? ⟨w.heap.size+1+1+1+1,0,none⟩=some (.pointer (some ⟨b,0,none⟩)):=(box_c h0.i).1
 refine wpIn_rangeFunc_ownH rfl (by omega) (gf:=100) (lb:=#[.pointer (some ⟨w.heap.size+1+1+1+1,0,none⟩)]) rfl trivial (enters_of Tryz.func100 (by kernel_rfl) rfl)
  (darts_stops 7 (w.heap.size+1+1+1+1) b n cc a X W0 (by omega) hi0 hc1 HN.out (by have:=HN.out;omega)) kpB_t (fun W l o o' _ h ho _=>kpB_b W l o o' h ho) (Below.refl _ _) (fun _=>rfl)
  (FInv w b X) (fun _ _ _=>False) (fInv_own w b _ X (by omega)) (fun _ _ _ _ _ hs _ _=>hs) h0
  (fun x a' W=>∃Bx,w.heap.size+5≤Bx∧DBox W Bx x.1∧a'={ tmps:=#[.pointer (some ⟨b,0,none⟩),.pointer (some ⟨w.heap.size,0,none⟩),.slice none 0 0,.pointer (some ⟨w.heap.size+1+1,0,none⟩),.pointer (some ⟨w.heap.size+1+1+1,0,none⟩),.pointer (some ⟨Bx,0,none⟩),undef,undef,.map (some (w.heap.size+1)),.pointer (some ⟨b,0,none⟩),.func (.func 100) #[] #[.pointer (some ⟨w.heap.size+1+1+1+1,0,none⟩)],.agg #[.int .i64 (x.1.1:Nat),.bool x.1.2],undef,undef,undef,undef,undef,undef,undef,undef,undef,undef,undef,undef,undef,undef,undef,undef,undef,undef,undef,undef,undef,undef,undef],defers:=[] })
  ?hax ?assign ?body ?done ?stop
 case hax=>
  rintro x a' _ A B row ⟨Bx,h1,h2,h3⟩ hg hr
  refine⟨Bx,h1,((fr_grown hg).block _ (Array.getElem?_eq_some_iff.1 h2).1 fun e=>?_).trans h2,h3⟩
  obtain⟨_,o,ho,hc⟩:=hr Bx e;rw[show A.heap[Bx]?=_ from h2]at ho
  cases ho;cases hc
 case assign=>
  intro l pre x W K hI hK
  gi_wp2
  refine hK _ _ ((KeepsOthers.alloc _ _).from _) (kpB_fr (S:=fun _=>False) ((Fr.refl _ _).alloc _) (fun x=>x) (fun x=>x)) ?_ ⟨W.heap.size,?_,heap_alloc_new _ _,rfl⟩
  · exact hI.kept (World.grownBy_alloc _ _ none) fun r e=>by cases e
  · have:=hI.i
    have:=(Array.getElem?_eq_some_iff.1 this).1
    omega
 case done=>
  rintro D ys W hD hy hI hK
  have hI2:=hI.kept (grownBy_putObj' W D (.deferred none)) fun r e=>by cases e;exact⟨by omega,_,hK,rfl⟩
  have ho:=hI.out;rw[hy,fst_all]at ho;have ho2:=hI2.out;rw[hy,fst_all]at ho2;obtain⟨v,hv,hrows⟩:=ho;obtain⟨v2,hv2,hrows2⟩:=ho2
  have hvv:v2=v:=by
   have e1:=(box_c hv2).1
   have e2:=cell_kept (box_c hv).1 (grownBy_putObj' W D (.deferred none)) fun r e=>by cases e;exact⟨_,hK,rfl⟩
   rw[e1]at e2
   exact Option.some.inj e2
  subst hvv;have hc4:W.cell? ⟨w.heap.size+1+1+1,0,none⟩=some v2:=(box_c hv).1;have HR2:=Lib.hid hrows2;have HI2:=Lib.hid hI2.new;have HD:=Lib.hid hK;clear hrows hrows2 hI2 hK hy hI hv hv2
  gi_wp2
  refine⟨by simp,.inl ⟨_,_,rfl,run_takeDeferred HD.out,?_⟩⟩
  exact⟨_,results_tmp rfl _ _ _,v2,rfl,HR2.out,HI2.out⟩
 case stop=>
  rintro D c pre W _ _ h _
  exact h.elim
 case body=>
  rintro l pre ⟨⟨da,db⟩,hda⟩ a' W hl2 ⟨r,hr⟩ hI ⟨Bx,hBx,hD,rfl⟩ hlt;obtain⟨g1,g2,g3⟩:=fst_good HX.out pre
  obtain⟨seen,hseen⟩:∃s,s=(fst X (pre.map (·.1))).1:=⟨_,rfl⟩
  obtain⟨rs,hrs⟩:∃s,s=(fst X (pre.map (·.1))).2:=⟨_,rfl⟩
  have hI':FI w b seen rs W:=by rw[hseen,hrs];exact hI
  rw[←hseen]at g1 g2;rw[←hrs]at g3;have hn16:X.length≤16:=hl
  have hda40:da<40:=by have:=hda.2;unfold Kn.nArcs at this;simp only at this;omega
  have hmc:W.cell? ⟨w.heap.size+1+1,0,none⟩=some (.map (some (w.heap.size+1))):=(box_c hI'.m).1;obtain⟨dc1,dc2⟩:=DBox.c hD;simp only at dc1 dc2;have hrun:(Instr.lookup 133 (.map (some (w.heap.size+1))) (.agg #[.int .i64 (da:Nat),.bool db]) false).run Tryz.prog W=.ok (.bool (decide ((da,db)∈seen))) W:=hI'.map.look (da,db) hda40;rw[hsz];have HI:=Lib.hid hI';have HSEEN:=Lib.hid hseen;have HRS:=Lib.hid hrs;have HG1:=Lib.hid g1;have HG2:=Lib.hid g2;have HDA:=Lib.hid hda
  have hrl:rs.length+1≤65:=by omega
  clear hI hI' hseen hrs g1 g2 g3 hD hr hl2 hc0 hc1 hi0 h0
  by_cases hc:(da,db)∈seen
  · rw[decide_eq_true hc]at hrun
    have HC:=Lib.hid hc;clear hc
    gi_wp2
    refine⟨KeepsFrom.refl _ _,⟨fun _ x=>x,fun _ x=>x⟩,?_⟩
    have:=HI.out;rw[HSEEN.out]at HC
    unfold FInv
    rw[List.map_append,List.map_singleton,fst_seen HC.out,←HSEEN.out,←HRS.out]
    exact this
  · rw[decide_eq_false hc]at hrun
    have HC:=Lib.hid hc;clear hc
    gi_wp2
    have HQ0:Hid (QF w W (W.alloc (.cells #[.int .i64 (da:Int),.bool db] 26)) X seen [] (da,db) (da,db) W.heap.size (.slice none 0 0)):=Lib.hid
     ⟨(Fr.refl _ _).alloc _,(KeepsOthers.alloc _ _).from _,by rw[List.append_nil];exact HI.out.map.fr (S:=fun _=>False) ((Fr.refl _ _).alloc _) (fun x=>x),⟨rfl,.inl ⟨rfl,rfl⟩⟩,heap_alloc_new _ _,Nat.le_refl _,(fun k hk=>by cases hk),
      by rw[List.append_nil];exact HG1.out,by rw[List.append_nil];exact HG2.out,HDA.out,nF X,rfl,by simp⟩
    clear hmc dc1 dc2 hrun
    have hWl:w.heap.size+5≤W.heap.size:=by have:=(Array.getElem?_eq_some_iff.1 HI.out.i).1;omega
    gi_loopw [6,7] (fun s6 s7 wr=>∃(x:Kn.Dt) (r:List Kn.Dt) (xb:Nat),s7=.pointer (some ⟨xb,0,none⟩)∧Hid (QF w W wr X seen r x (da,db) xb s6)) (fun s6 _ _=>(4*X.length+1)-lenV s6)
    case atStart=>exact⟨(da,db),[],W.heap.size,rfl,HQ0⟩
    case round=>
     obtain⟨⟨xa,xo⟩,r,xb,rfl,HQ⟩:=hrel;have hxa:=HQ.out.arc
     have hx40:xa<40:=by have:=hxa.2;unfold Kn.nArcs at this;simp only at this;omega
     obtain⟨x1,x2⟩:=DBox.c HQ.out.xbox;simp only at x1 x2;have hmc:wr.cell? ⟨w.heap.size+1+1,0,none⟩=some (.map (some (w.heap.size+1))):=HQ.out.fr.cell (box_c HI.out.m).1 (by simp);have hsc:wr.cell? ⟨w.heap.size,0,none⟩=some (.pointer (some ⟨b,0,none⟩)):=HQ.out.fr.cell (box_c HI.out.s).1 (by simp);have hrun:(Instr.lookup 133 (.map (some (w.heap.size+1))) (.agg #[.int .i64 (xa:Nat),.bool xo]) false).run Tryz.prog wr=.ok (.bool (decide ((xa,xo)∈seen++r))) wr:=HQ.out.map.look (xa,xo) hx40;have HXA:=Lib.hid hxa;clear hxa
     by_cases hxs:(xa,xo)∈seen++r
     · rw[decide_eq_true hxs]at hrun
       have HDN:=Lib.hid (HQ.out.done hxs);clear hxs;obtain⟨v,hv,vs,hv1,hv2⟩:=HI.out.out;obtain⟨es,ck,hmb⟩:=HI.out.map.block;have hbo:=HQ.out.fr.block _ (Array.getElem?_eq_some_iff.1 hv).1 (show ¬w.heap.size+3=w.heap.size+1 by omega);have HBO:Hid (wr.heap[w.heap.size+3]?=some (.cells #[v] 88 (0,0))):=Lib.hid (hbo.trans hv);have hvc:wr.cell? ⟨w.heap.size+1+1+1,0,none⟩=some v:=(box_c HBO.out).1;obtain⟨a8,c8,rfl,_⟩:=own_shape2 HQ.out.ring
       obtain⟨rl,HRL⟩:∃rl,Hid (rl=r.length):=⟨_,Lib.hid rfl⟩
       have hring:=HQ.out.ring;rw[←HRL.out]at hring ⊢
       obtain⟨vl,HVL⟩:∃vl,Hid (vl=vs.length):=⟨_,Lib.hid rfl⟩
       have HOUT:Hid (wr.ownsRow w.heap.size 118 1 v vl vs):=Lib.hid (by rw[HVL.out];exact HQ.out.fr.owns hv1 (own_not_map hv1 hmb));have HRING:=Lib.hid hring;have HV2:=Lib.hid hv2;have HMB:=Lib.hid hmb
       have hvl:vl≤65:=by have:=HVL.out;have:=hv2.len;omega
       obtain⟨i1,hi1,hz10,hz11,hz12⟩:=info_parts Tryz.info118;clear hv hv1 hv2 hring hmb hbo
       gi_wp2_with (gi_at_builtin;refine wpListIn_append_own _ rfl _ _ 88 rfl w.heap.size 118 i1 (.slice none 0 0) 1 24 Tryz.underlying88 hi1 hz10 hz11 hz12 rfl (by decide) _ vl vs rfl (World.ownsRow.alloc HOUT.out _) ⟨wr.heap.size,0,none⟩ 1 1 [.slice a8 rl c8] rfl rfl (cell_one' rfl) (one_sl _ _ _) (by unfold maxLen;omega) (by omega) (by have:=HI.out.new.size;have:=HQ.out.fr.size;simp;omega) ?_;intro v' w7 hown hgrow _;obtain⟨a9,c9,rfl,_⟩:=own_shape2 hown;have hb7:=box_app HBO.out HOUT.out (by decide) hgrow;have hb7c:w7.cell? ⟨w.heap.size+1+1+1,0,none⟩=some v:=(box_c hb7).1;have hb7f:w7.frozen? ⟨w.heap.size+1+1+1,0,none⟩=false:=(box_c hb7).2;have HOW:=Lib.hid hown;have HGR:=Lib.hid hgrow;have HB7:=Lib.hid hb7;clear hown hgrow hb7)
       rw[HRL.out]at HOW;have hfin:=FI.ring HI.out HQ.out HBO.out HOUT.out HVL.out HV2.out HOW.out HGR.out hbl
       refine⟨hfin.1,hfin.2.1,?_⟩
       rw[HSEEN.out]at HC
       unfold FInv
       rw[List.map_append,List.map_singleton,fst_new HC.out,←HSEEN.out,←HRS.out,HDN.out]
       exact hfin.2.2
     · rw[decide_eq_false hxs]at hrun
       obtain⟨s1,s2,s3,s4,s5⟩:=HQ.out.snoc hxs;have S1:=Lib.hid s1;have S2:=Lib.hid s2;have S5:=Lib.hid s5;obtain⟨D,hown,hm1,hm2⟩:=HQ.out.map;obtain⟨kl,hkl⟩:=key_of (xa,xo) hx40;have HM1:=Lib.hid hm1;have HM2:=Lib.hid hm2;have HKL:=Lib.hid hkl;have HOWM:=Lib.hid hown;obtain⟨a8,c8,rfl,_⟩:=own_shape2 HQ.out.ring
       obtain⟨rl,HRL⟩:∃rl,Hid (rl=r.length):=⟨_,Lib.hid rfl⟩
       have hring:=HQ.out.ring;rw[←HRL.out]at hring s4 ⊢;have HRING:=Lib.hid hring
       have hsl:(seen++r).length<maxLen:=by unfold maxLen;omega
       have HSL:=Lib.hid hsl
       have hrl2:rl+1≤64:=by omega
       clear hxs s1 s2 s3 s5 hown hm1 hm2 hkl hring hsl;obtain⟨i0,hi,hz0,hz1,hz2⟩:=info_parts Tryz.info26;have NX:Hid (¬some (w.heap.size+1)=some xb):=Lib.hid (fun e=>by have:=HQ.out.xlb;have:=Option.some.inj e;omega)
       have NR:Hid (∀k,(Value.slice a8 rl c8).ownBlock=some k→¬some (w.heap.size+1)=some k):=Lib.hid (fun k hk e=>by
        obtain⟨es,ck,hmb⟩:=HQ.out.map.block
        exact own_not_map HRING.out hmb k hk (Option.some.inj e).symm)
       have NXR:Hid (∀k,(Value.slice a8 rl c8).ownBlock=some k→¬k=xb):=Lib.hid (by rw[HRL.out];exact HQ.out.xne);have NM0:Hid (¬some (w.heap.size+1)=some w.heap.size):=Lib.hid (fun e=>by have:=Option.some.inj e;omega);have NS:Hid (∀k,(Value.slice a8 rl c8).ownBlock=some k→¬k=w.heap.size):=Lib.hid (fun k hk e=>by have:=own_lb HRING.out k hk;omega);have HNr:Hid (New w wr):=Lib.hid (HI.out.new.next HQ.out.fr fun i hi=>.inr (by omega))
       obtain⟨la,lb,hlab⟩:∃la lb,Kn.left X (xa,xo)=(la,lb):=⟨_,_,rfl⟩
       have HLAB:=Lib.hid hlab;clear hlab
       gi_wp2_with (first
        |(gi_at_mapUpdate;refine wpListIn_mapUpdate_own _ rfl _ _ _ 133 rfl 26 4 Tryz.law26 Tryz.ul133 _ (w.heap.size+1) (seen++r).length _ rfl HOWM.out HSL.out _ _ kl rfl rfl HKL.out _ [] (plainElem_bool Tryz.ul4 true) ?_;intro w1 hown1 hgrow1;have hF1:=fr_grown hgrow1;have y1:=hF1.cell x1 NX.out;have y2:=hF1.cell x2 NX.out;have y0:=hF1.cell hsc NM0.out;have HRG1:=Lib.hid (hF1.owns HRING.out NR.out);have HN1:Hid (New w w1):=Lib.hid (HNr.out.grown hgrow1 fun k e=>.inr (by have:=Option.some.inj e;omega));have HOW1:=Lib.hid hown1;have HGR1:=Lib.hid hgrow1;clear hown1 hgrow1 hF1)
        |(gi_at_builtin;refine wpListIn_append_own _ rfl _ _ 118 rfl W.heap.size 26 i0 _ 2 16 Tryz.underlying118 hi hz0 hz1 hz2 rfl (by decide) _ rl (dcells r) rfl (World.ownsRow.alloc HRG1.out _) ⟨w1.heap.size,0,none⟩ 1 1 [.int .i64 (xa:Int),.bool xo] rfl rfl (cell_two rfl) (one_two _ _) (by unfold maxLen;omega) (by omega) (by have:=HQ.out.fr.size;have:=HGR1.out.size;simp;omega) ?_;intro v' w2 hown2 hgrow2 _;obtain⟨a9,c9,rfl,_⟩:=own_shape2 hown2;have u1:=(fr_grown hgrow2).cell (cell_alloc y1 _) (fun e=>NXR.out xb e rfl);have u2:=(fr_grown hgrow2).cell (cell_alloc y2 _) (fun e=>NXR.out xb e rfl);have u0:=(fr_grown hgrow2).cell (cell_alloc y0 _) (fun e=>NS.out w.heap.size e rfl);have t0:=fun o=>cell_alloc u0 o;have HN2:Hid (New w w2):=Lib.hid ((HN1.out.alloc _).grown hgrow2 fun k e=>.inr (Nat.le_trans (by omega) (own_lb HRING.out k e)));have HOW2:=Lib.hid hown2;have HGR2:=Lib.hid hgrow2;clear hown2 hgrow2)
        |(refine⟨trivial,?_⟩;gi_at_call 72;refine(CallsIn.inRound l (callsIn_wide.2 (left_any b xa xo X L _ (New.shAt (HN2.out.alloc _) HS.out) HX.out hl HXA.out))).mono ?_;rintro e w4 ⟨rfl,hE⟩;rw[HLAB.out];obtain⟨q1,q2,q3,q4,q5,q6⟩:=res2 (blk_kept hE (heap_alloc_new _ _));have HE:=Lib.hid hE;clear hE))
       go_roundw
       case rel=>exact⟨(la,lb),r++[(xa,xo)],_,rfl,Lib.hid (QF.step HI.out HX.out (show QF w W wr X seen r (xa,xo) (da,db) xb (.slice a8 rl c8)by rw[HRL.out];exact HQ.out) HLAB.out.symm HM1.out HM2.out HKL.out HOW1.out HGR1.out HRG1.out HRL.out HOW2.out HGR2.out HE.out S1.out S2.out S5.out)⟩
       case measure=>simp only[lenV];omega
end Go.Proofs.YtlicglicfijelaaGreat
