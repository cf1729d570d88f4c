/- Words for shapes; what Build keeps from place to place. -/
import Derived.Test.YtlicglicfijelaaGreatW2
namespace Go.Proofs.YtlicglicfijelaaGreat
open Go.RowKit

theorem Tryz.info104:(Tryz.prog.info? 104).map (fun i=>(i.zero,i.size,i.bytes))=some (some (.agg #[.int .i64 0,.int .i64 0]),2,16):=by kernel_rfl
theorem Tryz.info3:(Tryz.prog.info? 3).map (fun i=>(i.zero,i.size,i.bytes))=some (some (.int .i64 0),1,8):=by kernel_rfl
def plFn(g:Nat→Kn.Pl)(j:Nat):Value:=if j%2=0 then .int .i64 ((g (j / 2)).1:Nat)else .int .i64 ((g (j / 2)).2:Nat)
def numFn(g:Nat→Nat)(j:Nat):Value:=.int .i64 (g j:Nat)
theorem plFn_0(g:Nat→Kn.Pl)(a:Nat):plFn g (a*2)=.int .i64 ((g a).1:Nat):=by
 unfold plFn;rw[show a*2 / 2=a by omega,if_pos (by omega)]
theorem plFn_1(g:Nat→Kn.Pl)(a:Nat):plFn g (a*2+1)=.int .i64 ((g a).2:Nat):=by
 unfold plFn;rw[show (a*2+1) / 2=a by omega,if_neg (by omega)]
theorem rowIs_made2(w:World)(m:Nat):(w.alloc (.cells (madeCells #[.int .i64 0,.int .i64 0] m) 104)).rowIs w.heap.size 104 m (plFn fun _=>(0,0)):=by
 have:=World.rowIs_alloc w (madeCells #[.int .i64 0,.int .i64 0] m) 104 (plFn fun _=>(0,0)) (fun i hi=>by
  rw[size_madeCells]at hi
  have e:(madeCells #[Value.int .i64 0,.int .i64 0] m)[i]?=some (#[Value.int .i64 0,.int .i64 0][i%2]!):=by simp[madeCells,hi]
  rw[e]
  unfold plFn
  rcases Nat.mod_two_eq_zero_or_one i with h|h<;>rw[h]<;>rfl)
 rwa [size_madeCells]at this
theorem rowIs_congr{w:World}{b t n:Nat}{f g:Nat→Value}(h:w.rowIs b t n f)(hg:∀j,j<n→g j=f j):w.rowIs b t n g:=by
 obtain⟨c,h1,h2,h3⟩:=h
 exact⟨c,h1,h2,fun i hi=>by rw[h3 i hi,hg i hi]⟩
theorem rowIs_set2{w:World}{b m:Nat}{g:Nat→Kn.Pl}(h:w.rowIs b 104 m (plFn g))(a:Nat)(p:Kn.Pl):
 ((w.setCell ⟨b,a*2,none⟩ (.int .i64 (p.1:Nat))).setCell ⟨b,a*2+1,none⟩ (.int .i64 (p.2:Nat))).rowIs b 104 m (plFn fun x=>if x=a then p else g x):=by
 refine rowIs_congr ((h.set _ _).set _ _) fun j _=>?_
 unfold plFn
 by_cases c:j / 2=a
 · subst c
   simp only[if_true]
   by_cases e:j%2=0
   · rw[if_pos e,if_neg (by omega),if_pos (by omega)]
   · rw[if_neg e,if_pos (by omega)]
 · have e1:¬j=a*2:=by omega
   have e2:¬j=a*2+1:=by omega
   simp only[if_neg c,if_neg e1,if_neg e2]
theorem rowIs_setN{w:World}{b m:Nat}{g:Nat→Nat}(h:w.rowIs b 3 m (numFn g))(a v:Nat):(w.setCell ⟨b,a,none⟩ (.int .i64 (v:Nat))).rowIs b 3 m (numFn fun x=>if x=a then v else g x):=by
 refine rowIs_congr (h.set _ _) fun j _=>?_
 unfold numFn
 by_cases c:j=a
 · simp only[if_pos c]
 · simp only[if_neg c]
theorem rowIs_ne{w:World}{b b' t t' n n':Nat}{f f':Nat→Value}(h:w.rowIs b t n f)(h':w.rowIs b' t' n' f')(ht:t≠t'):b≠b':=by
 rintro rfl;obtain⟨c,h1,_⟩:=h;obtain⟨c',h1',_⟩:=h';rw[h1]at h1'
 injection h1' with h1'
 injection h1' with _ h1'
 exact ht h1'

def shCells(v:Value)(L:Int)(bi bo m:Nat):Array Value:=#[v,.int .i64 L,.slice (some ⟨bi,0,none⟩) m m,.slice (some ⟨bo,0,none⟩) m m]
abbrev mArcs(X:List Kn.Cr):Nat:=2*X.length+1
structure Sh(w:World)(b:Nat)(X:List Kn.Cr)(L:Int)(v:Value)(bi bo base:Nat)(g h:Nat→Kn.Pl):Prop where
 blk:w.heap[b]?=some (.cells (shCells v L bi bo (mArcs X)) 52 (0,0))
 own:w.ownsRow base 41 5 v X.length (crCells X)
 ri:w.rowIs bi 104 (mArcs X*2) (plFn g)
 ro:w.rowIs bo 104 (mArcs X*2) (plFn h)
 ne:bi≠bo
def ShAt(w:World)(b:Nat)(X:List Kn.Cr)(L:Int):Prop:=∃v bi bo base,Sh w b X L v bi bo base (Kn.inP X) (Kn.outP X)
theorem Sh.lt{w:World}{b:Nat}{X:List Kn.Cr}{L:Int}{v:Value}{bi bo base:Nat}{g h:Nat→Kn.Pl}(s:Sh w b X L v bi bo base g h):b<w.heap.size:=(Array.getElem?_eq_some_iff.1 s.blk).1
theorem Sh.kept{S:Nat→Prop}{w w':World}{b:Nat}{X:List Kn.Cr}{L:Int}{v:Value}{bi bo base:Nat}{g h:Nat→Kn.Pl}(s:Sh w b X L v bi bo base g h)(hf:Fr S w w')
 (h0:¬S b) (h1:¬S bi) (h2:¬S bo) (h3:∀k,v.ownBlock=some k→¬S k):Sh w' b X L v bi bo base g h:=
 ⟨(hf.block b s.lt h0).trans s.blk,hf.owns s.own h3,hf.row s.ri h1,hf.row s.ro h2,s.ne⟩
theorem New.sh{w w':World}(hf:New w w'){b:Nat}{X:List Kn.Cr}{L:Int}{v:Value}{bi bo base:Nat}{g h:Nat→Kn.Pl}(s:Sh w b X L v bi bo base g h):Sh w' b X L v bi bo base g h:=
 s.kept hf (fun x=>x) (fun x=>x) (fun x=>x) (fun _ _ x=>x)
theorem New.shAt{w w':World}(hf:New w w'){b:Nat}{X:List Kn.Cr}{L:Int}(s:ShAt w b X L):ShAt w' b X L:=by
 obtain⟨v,bi,bo,base,s⟩:=s
 exact⟨v,bi,bo,base,hf.sh s⟩
theorem Sh.c2{w:World}{b:Nat}{X:List Kn.Cr}{L:Int}{v:Value}{bi bo base:Nat}{g h:Nat→Kn.Pl}(s:Sh w b X L v bi bo base g h):
 w.cell? ⟨b,0,none⟩=some v∧w.cell? ⟨b,1,none⟩=some (.int .i64 L)∧w.cell? ⟨b,2,none⟩=some (.slice (some ⟨bi,0,none⟩) (mArcs X) (mArcs X))∧w.cell? ⟨b,3,none⟩=some (.slice (some ⟨bo,0,none⟩) (mArcs X) (mArcs X)):=
 ⟨cell_of_row w b 0 _ 52 (0,0) s.blk,cell_of_row w b 1 _ 52 (0,0) s.blk,cell_of_row w b 2 _ 52 (0,0) s.blk,cell_of_row w b 3 _ 52 (0,0) s.blk⟩

structure BSt(w0 w:World)(X:List Kn.Cr)(L:Int)(b:Nat)(v:Value)(bi bo ci co base:Nat)(k:Nat):Prop where
 sh:Sh w b X L v bi bo base (Kn.last X true k) (Kn.last X false k)
 rc:w.rowIs ci 3 (mArcs X) (numFn (Kn.cnt X true k))
 rd:w.rowIs co 3 (mArcs X) (numFn (Kn.cnt X false k))
 ne:ci≠co
 lb:w0.heap.size≤b
 li:w0.heap.size≤bi
 lo:w0.heap.size≤bo
 lc:w0.heap.size≤ci
 ld:w0.heap.size≤co
 new:New w0 w
 rng:Kn.inRange X k
theorem New.bst{w0 w w':World}(hf:New w w'){X:List Kn.Cr}{L:Int}{b:Nat}{v:Value}{bi bo ci co base k:Nat}(s:BSt w0 w X L b v bi bo ci co base k):BSt w0 w' X L b v bi bo ci co base k:=
 ⟨hf.sh s.sh,hf.row s.rc fun x=>x,hf.row s.rd fun x=>x,s.ne,s.lb,s.li,s.lo,s.lc,s.ld,s.new.trans hf,s.rng⟩
theorem own_ne{w:World}{base e sz n:Nat}{v:Value}{xs:List Value}(h:w.ownsRow base e sz v n xs){b t m:Nat}{f:Nat→Value}(hr:w.rowIs b t m f)(ht:e≠t):∀k,v.ownBlock=some k→¬k=b:=by
 intro k hk hb
 rcases h.2 with⟨rfl,_⟩|⟨g,cap,cur,rfl,_,hg,_⟩
 · simp[Value.ownBlock]at hk
 · simp only[Value.ownBlock,Option.some.injEq]at hk
   subst hk hb;obtain⟨c,h1,_⟩:=hr;rw[h1]at hg
   injection hg with hg
   injection hg with _ hg
   exact ht hg.symm
theorem blk_ne{w:World}{b t b' t' n:Nat}{cs:Array Value}{f:Nat→Value}(h:w.heap[b]?=some (.cells cs t (0,0)))(hr:w.rowIs b' t' n f)(ht:t≠t'):b≠b':=by
 rintro rfl;obtain⟨c,h1,_⟩:=hr;rw[h1]at h
 injection h with h
 injection h with _ h
 exact ht h.symm
theorem BSt.step_in{w0 w:World}{X:List Kn.Cr}{L:Int}{b:Nat}{v:Value}{bi bo ci co base k n:Nat}(s:BSt w0 w X L b v bi bo ci co base k)
 (hc:Kn.cm X (Kn.pl k)=true) (ha:Kn.at_ X (Kn.pl k)=(n:Int)) (h1:1≤n) (h2:n≤2*X.length):
 BSt w0 (((w.setCell ⟨bi,n*2,none⟩ (.int .i64 ((Kn.pl k).1:Nat))).setCell ⟨bi,n*2+1,none⟩ (.int .i64 ((Kn.pl k).2:Nat))).setCell ⟨ci,n,none⟩ (.int .i64 ((Kn.cnt X true k n+1:Nat):Int))) X L b v bi bo ci co base (k+1):=by
 have d1:b≠bi:=blk_ne s.sh.blk s.sh.ri (by decide);have d2:b≠ci:=blk_ne s.sh.blk s.rc (by decide);have d3:bi≠ci:=rowIs_ne s.sh.ri s.rc (by decide);have d4:bo≠ci:=rowIs_ne s.sh.ro s.rc (by decide);have d5:=own_ne s.sh.own s.sh.ri (by decide);have d6:=own_ne s.sh.own s.rc (by decide)
 have hF:Fr (fun x=>x=bi∨x=ci) w (((w.setCell ⟨bi,n*2,none⟩ (.int .i64 ((Kn.pl k).1:Nat))).setCell ⟨bi,n*2+1,none⟩ (.int .i64 ((Kn.pl k).2:Nat))).setCell ⟨ci,n,none⟩ (.int .i64 ((Kn.cnt X true k n+1:Nat):Int))):=
  (((Fr.refl _ w).setCell (.inl (.inl rfl)) _).setCell (.inl (.inl rfl)) _).setCell (.inl (.inr rfl)) _
 have hN:New w0 (((w.setCell ⟨bi,n*2,none⟩ (.int .i64 ((Kn.pl k).1:Nat))).setCell ⟨bi,n*2+1,none⟩ (.int .i64 ((Kn.pl k).2:Nat))).setCell ⟨ci,n,none⟩ (.int .i64 ((Kn.cnt X true k n+1:Nat):Int))):=
  ((s.new.setCell (.inr s.li) _).setCell (.inr s.li) _).setCell (.inr s.lc) _
 refine⟨⟨(hF.block b s.sh.lt (by omega)).trans s.sh.blk,hF.owns s.sh.own (fun k' hk' hs=>hs.elim (d5 k' hk') (d6 k' hk')),?_,?_,s.sh.ne⟩,?_,?_,s.ne,s.lb,s.li,s.lo,s.lc,s.ld,hN,fun j hj=>?_⟩
 · refine rowIs_congr ((rowIs_set2 s.sh.ri n (Kn.pl k)).setOther d3 _) fun j _=>?_
   unfold plFn
   have:∀x,Kn.last X true (k+1) x=if x=n then Kn.pl k else Kn.last X true k x:=fun x=>by
    rw[Kn.last_succ,ha]
    by_cases c:x=n
    · subst c;rw[if_pos ⟨hc,rfl⟩,if_pos rfl]
    · rw[if_neg (fun h=>c (Int.ofNat_inj.1 h.2).symm),if_neg c]
   simp only[this]
 · refine hF.row (rowIs_congr s.sh.ro fun j _=>?_) (fun h=>h.elim (fun e=>s.sh.ne e.symm) d4)
   unfold plFn
   have:∀x,Kn.last X false (k+1) x=Kn.last X false k x:=fun x=>by
    rw[Kn.last_succ,if_neg (fun h=>by rw[hc]at h;cases h.1)]
   simp only[this]
 · have h3:=((s.rc.setOther (a:=⟨bi,n*2,none⟩) d3.symm (.int .i64 ((Kn.pl k).1:Nat))).setOther (a:=⟨bi,n*2+1,none⟩) d3.symm (.int .i64 ((Kn.pl k).2:Nat)))
   refine rowIs_congr (rowIs_setN h3 n (Kn.cnt X true k n+1)) fun j _=>?_
   unfold numFn
   have:Kn.cnt X true (k+1) j=if j=n then Kn.cnt X true k n+1 else Kn.cnt X true k j:=by
    rw[Kn.cnt_succ,ha]
    by_cases c:j=n
    · subst c;rw[if_pos ⟨hc,rfl⟩,if_pos rfl]
    · rw[if_neg (fun h=>c (Int.ofNat_inj.1 h.2).symm),if_neg c];rfl
   rw[this]
 · refine hF.row (rowIs_congr s.rd fun j _=>?_) (fun h=>h.elim (rowIs_ne s.rd s.sh.ri (by decide)) (fun e=>s.ne e.symm))
   unfold numFn
   rw[Kn.cnt_succ,if_neg (fun h=>by rw[hc]at h;cases h.1)];rfl
 · by_cases c:j=k
   · subst c;rw[ha];unfold Kn.nArcs;omega
   · exact s.rng j (by omega)
theorem BSt.step_out{w0 w:World}{X:List Kn.Cr}{L:Int}{b:Nat}{v:Value}{bi bo ci co base k n:Nat}(s:BSt w0 w X L b v bi bo ci co base k)
 (hc:Kn.cm X (Kn.pl k)=false) (ha:Kn.at_ X (Kn.pl k)=(n:Int)) (h1:1≤n) (h2:n≤2*X.length):
 BSt w0 (((w.setCell ⟨bo,n*2,none⟩ (.int .i64 ((Kn.pl k).1:Nat))).setCell ⟨bo,n*2+1,none⟩ (.int .i64 ((Kn.pl k).2:Nat))).setCell ⟨co,n,none⟩ (.int .i64 ((Kn.cnt X false k n+1:Nat):Int))) X L b v bi bo ci co base (k+1):=by
 have d1:b≠bo:=blk_ne s.sh.blk s.sh.ro (by decide);have d2:b≠co:=blk_ne s.sh.blk s.rd (by decide);have d3:bo≠co:=rowIs_ne s.sh.ro s.rd (by decide);have d4:bi≠co:=rowIs_ne s.sh.ri s.rd (by decide);have d5:=own_ne s.sh.own s.sh.ro (by decide);have d6:=own_ne s.sh.own s.rd (by decide)
 have hF:Fr (fun x=>x=bo∨x=co) w (((w.setCell ⟨bo,n*2,none⟩ (.int .i64 ((Kn.pl k).1:Nat))).setCell ⟨bo,n*2+1,none⟩ (.int .i64 ((Kn.pl k).2:Nat))).setCell ⟨co,n,none⟩ (.int .i64 ((Kn.cnt X false k n+1:Nat):Int))):=
  (((Fr.refl _ w).setCell (.inl (.inl rfl)) _).setCell (.inl (.inl rfl)) _).setCell (.inl (.inr rfl)) _
 have hN:New w0 (((w.setCell ⟨bo,n*2,none⟩ (.int .i64 ((Kn.pl k).1:Nat))).setCell ⟨bo,n*2+1,none⟩ (.int .i64 ((Kn.pl k).2:Nat))).setCell ⟨co,n,none⟩ (.int .i64 ((Kn.cnt X false k n+1:Nat):Int))):=
  ((s.new.setCell (.inr s.lo) _).setCell (.inr s.lo) _).setCell (.inr s.ld) _
 refine⟨⟨(hF.block b s.sh.lt (by omega)).trans s.sh.blk,hF.owns s.sh.own (fun k' hk' hs=>hs.elim (d5 k' hk') (d6 k' hk')),?_,?_,s.sh.ne⟩,?_,?_,s.ne,s.lb,s.li,s.lo,s.lc,s.ld,hN,fun j hj=>?_⟩
 · refine hF.row (rowIs_congr s.sh.ri fun j _=>?_) (fun h=>h.elim (fun e=>s.sh.ne e) d4)
   unfold plFn
   have:∀x,Kn.last X true (k+1) x=Kn.last X true k x:=fun x=>by
    rw[Kn.last_succ,if_neg (fun h=>by rw[hc]at h;cases h.1)]
   simp only[this]
 · refine rowIs_congr ((rowIs_set2 s.sh.ro n (Kn.pl k)).setOther d3 _) fun j _=>?_
   unfold plFn
   have:∀x,Kn.last X false (k+1) x=if x=n then Kn.pl k else Kn.last X false k x:=fun x=>by
    rw[Kn.last_succ,ha]
    by_cases c:x=n
    · subst c;rw[if_pos ⟨hc,rfl⟩,if_pos rfl]
    · rw[if_neg (fun h=>c (Int.ofNat_inj.1 h.2).symm),if_neg c]
   simp only[this]
 · refine hF.row (rowIs_congr s.rc fun j _=>?_) (fun h=>h.elim (rowIs_ne s.rc s.sh.ro (by decide)) (fun e=>s.ne e))
   unfold numFn
   rw[Kn.cnt_succ,if_neg (fun h=>by rw[hc]at h;cases h.1)];rfl
 · have h3:=((s.rd.setOther (a:=⟨bo,n*2,none⟩) d3.symm (.int .i64 ((Kn.pl k).1:Nat))).setOther (a:=⟨bo,n*2+1,none⟩) d3.symm (.int .i64 ((Kn.pl k).2:Nat)))
   refine rowIs_congr (rowIs_setN h3 n (Kn.cnt X false k n+1)) fun j _=>?_
   unfold numFn
   have:Kn.cnt X false (k+1) j=if j=n then Kn.cnt X false k n+1 else Kn.cnt X false k j:=by
    rw[Kn.cnt_succ,ha]
    by_cases c:j=n
    · subst c;rw[if_pos ⟨hc,rfl⟩,if_pos rfl]
    · rw[if_neg (fun h=>c (Int.ofNat_inj.1 h.2).symm),if_neg c];rfl
   rw[this]
 · by_cases c:j=k
   · subst c;rw[ha];unfold Kn.nArcs;omega
   · exact s.rng j (by omega)
theorem BSt.facts_in{w0 w:World}{X:List Kn.Cr}{L:Int}{b:Nat}{v:Value}{bi bo ci co base k n:Nat}(s:BSt w0 w X L b v bi bo ci co base k)(h2:n≤2*X.length):
 w.cell? ⟨b,2,none⟩=some (.slice (some ⟨bi,0,none⟩) (mArcs X) (mArcs X)) ∧
 w.cell? ⟨bi,n*2,none⟩=some (plFn (Kn.last X true k) (n*2))∧w.frozen? ⟨bi,n*2,none⟩=false ∧
 (∀Y,(w.setCell ⟨bi,n*2,none⟩ Y).cell? ⟨bi,n*2+1,none⟩=some (plFn (Kn.last X true k) (n*2+1)))∧(∀Y,(w.setCell ⟨bi,n*2,none⟩ Y).frozen? ⟨bi,n*2+1,none⟩=false) ∧
 (∀Y Z,((w.setCell ⟨bi,n*2,none⟩ Y).setCell ⟨bi,n*2+1,none⟩ Z).cell? ⟨ci,n,none⟩=some (.int .i64 (Kn.cnt X true k n:Nat)))∧(∀Y Z,((w.setCell ⟨bi,n*2,none⟩ Y).setCell ⟨bi,n*2+1,none⟩ Z).frozen? ⟨ci,n,none⟩=false):=by
 have d3:ci≠bi:=rowIs_ne s.rc s.sh.ri (by decide)
 refine⟨s.sh.c2.2.2.1,s.sh.ri.cell (by unfold mArcs;omega),s.sh.ri.frozen _,fun Y=>?_,fun Y=>(s.sh.ri.set _ Y).frozen _,fun Y Z=>?_,fun Y Z=>((s.rc.setOther (a:=⟨bi,n*2,none⟩) d3 Y).setOther (a:=⟨bi,n*2+1,none⟩) d3 Z).frozen _⟩
 · have:=(s.sh.ri.set (n*2) Y).cell (i:=n*2+1) (by unfold mArcs;omega)
   rwa [if_neg (by omega)]at this
 · exact((s.rc.setOther (a:=⟨bi,n*2,none⟩) d3 Y).setOther (a:=⟨bi,n*2+1,none⟩) d3 Z).cell (by unfold mArcs;omega)
theorem BSt.facts_out{w0 w:World}{X:List Kn.Cr}{L:Int}{b:Nat}{v:Value}{bi bo ci co base k n:Nat}(s:BSt w0 w X L b v bi bo ci co base k)(h2:n≤2*X.length):
 w.cell? ⟨b,3,none⟩=some (.slice (some ⟨bo,0,none⟩) (mArcs X) (mArcs X)) ∧
 w.cell? ⟨bo,n*2,none⟩=some (plFn (Kn.last X false k) (n*2))∧w.frozen? ⟨bo,n*2,none⟩=false ∧
 (∀Y,(w.setCell ⟨bo,n*2,none⟩ Y).cell? ⟨bo,n*2+1,none⟩=some (plFn (Kn.last X false k) (n*2+1)))∧(∀Y,(w.setCell ⟨bo,n*2,none⟩ Y).frozen? ⟨bo,n*2+1,none⟩=false) ∧
 (∀Y Z,((w.setCell ⟨bo,n*2,none⟩ Y).setCell ⟨bo,n*2+1,none⟩ Z).cell? ⟨co,n,none⟩=some (.int .i64 (Kn.cnt X false k n:Nat)))∧(∀Y Z,((w.setCell ⟨bo,n*2,none⟩ Y).setCell ⟨bo,n*2+1,none⟩ Z).frozen? ⟨co,n,none⟩=false):=by
 have d3:co≠bo:=rowIs_ne s.rd s.sh.ro (by decide)
 refine⟨s.sh.c2.2.2.2,s.sh.ro.cell (by unfold mArcs;omega),s.sh.ro.frozen _,fun Y=>?_,fun Y=>(s.sh.ro.set _ Y).frozen _,fun Y Z=>?_,fun Y Z=>((s.rd.setOther (a:=⟨bo,n*2,none⟩) d3 Y).setOther (a:=⟨bo,n*2+1,none⟩) d3 Z).frozen _⟩
 · have:=(s.sh.ro.set (n*2) Y).cell (i:=n*2+1) (by unfold mArcs;omega)
   rwa [if_neg (by omega)]at this
 · exact((s.rd.setOther (a:=⟨bo,n*2,none⟩) d3 Y).setOther (a:=⟨bo,n*2+1,none⟩) d3 Z).cell (by unfold mArcs;omega)
end Go.Proofs.YtlicglicfijelaaGreat
