/- Words on worlds: what a call leaves alone. -/
import Derived.Test.YtlicglicfijelaaGreatProg
import Derived.WalkKit
import Derived.WalkSpells
import Derived.WalkLawsBesides
import Derived.BigQuiet
import Derived.Deep.QuietTactic
import Derived.Deep.OwnRows
import Derived.Lib.Hide
import Derived.Deep.LoopGhost
import Derived.Deep.DeepFit
import Derived.Deep.DeepMust
import Derived.Deep.RegionHeld3
import Derived.StillTailTactics
import Derived.Maps.AppendAt
import Derived.Deep.DeepCutAuto
import Derived.Outline
import Derived.IntWalk
import Derived.Test.YtlicglicfijelaaGreatMAll
/- Words on worlds: what a call leaves alone. -/
namespace Go.Proofs.YtlicglicfijelaaGreat
open Go.RowKit

theorem ret_int{k:IntKind}{a b:Int}(h:a=b):Ending.returned (.int k a)=.returned (.int k b):=by rw[h]
theorem ret_bool{a b:Bool}(h:a=b):Ending.returned (.bool a)=.returned (.bool b):=by rw[h]

structure Fr(S:Nat→Prop)(w w':World):Prop where
 os:w'.os=w.os
 tape:w'.tape=w.tape
 output:w'.output=w.output
 size:w.heap.size≤w'.heap.size
 block:∀k,k<w.heap.size→¬S k→w'.heap[k]?=w.heap[k]?

section
variable {S S':Nat→Prop} {w w' w'':World}
theorem Fr.refl(S:Nat→Prop)(w:World):Fr S w w:=⟨rfl,rfl,rfl,Nat.le_refl _,fun _ _ _=>rfl⟩
theorem Fr.trans(h:Fr S w w')(k:Fr S w' w''):Fr S w w'':=
 ⟨k.os.trans h.os,k.tape.trans h.tape,k.output.trans h.output,Nat.le_trans h.size k.size,fun i hi hs=>(k.block i (Nat.lt_of_lt_of_le hi h.size) hs).trans (h.block i hi hs)⟩
theorem Fr.next(h:Fr S w w')(k:Fr S' w' w'')(hs:∀i,S' i→S i∨w.heap.size≤i):Fr S w w'':=
 ⟨k.os.trans h.os,k.tape.trans h.tape,k.output.trans h.output,Nat.le_trans h.size k.size,fun i hi hS=>
  (k.block i (Nat.lt_of_lt_of_le hi h.size) (fun hS'=>(hs i hS').elim hS (fun hle=>by omega))).trans (h.block i hi hS)⟩
theorem Fr.mono(h:Fr S w w')(hs:∀i,S i→S' i):Fr S' w w':=⟨h.os,h.tape,h.output,h.size,fun k hk hS=>h.block k hk fun x=>hS (hs k x)⟩
theorem Fr.drew(h:Fr S w w'):Fr S w w'.drew:=⟨h.os,h.tape,h.output,h.size,h.block⟩
theorem Fr.drewN(h:Fr S w w')(n:Nat):Fr S w (w'.drewN n):=⟨h.os,h.tape,h.output,h.size,h.block⟩
theorem Fr.alloc(h:Fr S w w')(o:Obj):Fr S w (w'.alloc o):=
 ⟨h.os,h.tape,h.output,by have:=h.size;simp;omega,fun k hk hs=>(Below.heap_alloc _ _ _ (by have:=h.size;omega)).trans (h.block k hk hs)⟩
theorem Fr.setCell(h:Fr S w w'){a:Addr}(ha:S a.block∨w.heap.size≤a.block)(v:Value):Fr S w (w'.setCell a v):=
 ⟨h.os,h.tape,h.output,by have:=h.size;simpa[World.setCell]using this,fun k hk hs=>(Below.heap_setCell _ _ _ _ (fun e=>by subst e;rcases ha with ha|ha;exact hs ha;omega)).trans (h.block k hk hs)⟩
theorem Fr.grown{row:Option Nat}(h:Fr S w w')(hg:w'.grownBy w'' row)(hr:∀k,row=some k→S k∨w.heap.size≤k):Fr S w w'':=
 ⟨hg.os.trans h.os,hg.tape.trans h.tape,hg.output.trans h.output,Nat.le_trans h.size hg.size,fun k hk hs=>
  (hg.block k (Nat.lt_of_lt_of_le hk h.size) (fun e=>(hr k e.symm).elim hs (fun hle=>by omega))).trans (h.block k hk hs)⟩
theorem Fr.row(h:Fr S w w'){b:Nat}{t:TypeId}{n:Nat}{f:Nat→Value}(hr:w.rowIs b t n f)(hb:¬S b):w'.rowIs b t n f:=hr.of_block (h.block b hr.lt hb)
theorem Fr.cell(h:Fr S w w'){a:Addr}{v:Value}(hc:w.cell? a=some v)(hb:¬S a.block):w'.cell? a=some v:=
 (World.cell?_of_block (w:=w) (h.block a.block (World.block_lt_of_cell? w a hc) hb)).trans hc
theorem Fr.owns(h:Fr S w w'){base:Nat}{e:TypeId}{size:Nat}{v:Value}{n:Nat}{xs:List Value}(ho:w.ownsRow base e size v n xs)(hb:∀k,v.ownBlock=some k→¬S k):w'.ownsRow base e size v n xs:=by
 refine⟨ho.1,?_⟩
 rcases ho.2 with hn|⟨g,cap,cur,rfl,hbg,hgg,rest⟩
 · exact .inl hn
 · refine .inr ⟨g,cap,cur,rfl,hbg,?_,rest⟩
   rw[h.block g (Array.getElem?_eq_some_iff.1 hgg).1 (hb g rfl)]
   exact hgg
theorem Fr.below(h:Fr S w w'){B:Nat}(hB:∀k,k<B→k<w.heap.size∧¬S k):Below B w w':=⟨h.os,h.tape,h.output,h.size,fun k hk=>h.block k (hB k hk).1 (hB k hk).2⟩
end

abbrev New(w w':World):Prop:=Fr (fun _=>False) w w'



theorem addr_add(b o j:Nat):(⟨b,o,none⟩:Addr).add j=⟨b,o+j,none⟩:=by
 unfold Addr.add
 split
 · next h=>subst h;rfl
 · rfl
theorem cell_alloc{w:World}{p:Addr}{v:Value}(h:w.cell? p=some v)(o:Obj):(w.alloc o).cell? p=some v:=((Fr.refl (fun _=>False) w).alloc o).cell h (fun x=>x)
abbrev crV(x:Kn.Cr):Value:=.agg #[.int .i64 x.a,.int .i64 x.b,.int .i64 x.c,.int .i64 x.d,.bool x.p]
structure CrAt(w:World)(bl o:Nat)(x:Kn.Cr):Prop where
 a:w.cell? ⟨bl,o,none⟩=some (.int .i64 x.a)
 b:w.cell? ⟨bl,o+1,none⟩=some (.int .i64 x.b)
 c:w.cell? ⟨bl,o+2,none⟩=some (.int .i64 x.c)
 d:w.cell? ⟨bl,o+3,none⟩=some (.int .i64 x.d)
 p:w.cell? ⟨bl,o+4,none⟩=some (.bool x.p)
theorem Fr.crAt{S:Nat→Prop}{w w':World}(h:Fr S w w'){b o:Nat}{x:Kn.Cr}(hx:CrAt w b o x)(hb:¬S b):CrAt w' b o x:=
 ⟨h.cell hx.a hb,h.cell hx.b hb,h.cell hx.c hb,h.cell hx.d hb,h.cell hx.p hb⟩
def CrsAt(w:World)(a:Option Addr)(X:List Kn.Cr):Prop:=X=[]∨∃b o,a=some ⟨b,o,none⟩∧∀i,i<X.length→CrAt w b (o+i*5) (Kn.cr X i)
theorem CrsAt.at{w:World}{a:Option Addr}{X:List Kn.Cr}(h:CrsAt w a X){k:Nat}(hk:k<X.length):∃b o,a=some ⟨b,o,none⟩∧CrAt w b (o+k*5) (Kn.cr X k):=by
 rcases h with rfl|⟨b,o,rfl,h⟩
 · simp at hk
 · exact⟨b,o,rfl,h k hk⟩
theorem New.crs{w w':World}(h:New w w'){a:Option Addr}{X:List Kn.Cr}(hx:CrsAt w a X):CrsAt w' a X:=by
 rcases hx with rfl|⟨b,o,rfl,hc⟩
 · exact .inl rfl
 · exact .inr ⟨b,o,rfl,fun i hi=>h.crAt (hc i hi) (fun x=>x)⟩
end Go.Proofs.YtlicglicfijelaaGreat

/- Walks: Arc, OverIn, Comes. -/
namespace Go.Proofs.YtlicglicfijelaaGreat
open Go.RowKit

def arcI(a b c d:Int)(s:Nat):Int:=if s=0 then a else if s=1 then b else if s=2 then c else d
set_option maxHeartbeats 400000 in
theorem arc_any(a b c d:Int)(p:Bool)(s:Nat)(w:World)(hs:s<4):
 Calls Tryz.prog 37 #[.agg #[.int .i64 a,.int .i64 b,.int .i64 c,.int .i64 d,.bool p],.int .i64 s] w fun e w'=>e=.returned (.int .i64 (arcI a b c d s))∧New w w':=by
 match s,hs with
 |0,_=>
  have hi:∀w,(Instr.index 116 (.agg #[.int .i64 a,.int .i64 b,.int .i64 c,.int .i64 d]) (.int .i64 0)).run Tryz.prog w=.ok (.int .i64 a) w:=fun _=>by kernel_rfl
  go_enter Tryz.func37,Tryz.ntmps37
  go_wp2;go_ret
  exact⟨rfl,(Fr.refl _ _).alloc _⟩
 |1,_=>
  have hi:∀w,(Instr.index 116 (.agg #[.int .i64 a,.int .i64 b,.int .i64 c,.int .i64 d]) (.int .i64 1)).run Tryz.prog w=.ok (.int .i64 b) w:=fun _=>by kernel_rfl
  go_enter Tryz.func37,Tryz.ntmps37
  go_wp2;go_ret
  exact⟨rfl,(Fr.refl _ _).alloc _⟩
 |2,_=>
  have hi:∀w,(Instr.index 116 (.agg #[.int .i64 a,.int .i64 b,.int .i64 c,.int .i64 d]) (.int .i64 2)).run Tryz.prog w=.ok (.int .i64 c) w:=fun _=>by kernel_rfl
  go_enter Tryz.func37,Tryz.ntmps37
  go_wp2;go_ret
  exact⟨rfl,(Fr.refl _ _).alloc _⟩
 |3,_=>
  have hi:∀w,(Instr.index 116 (.agg #[.int .i64 a,.int .i64 b,.int .i64 c,.int .i64 d]) (.int .i64 3)).run Tryz.prog w=.ok (.int .i64 d) w:=fun _=>by kernel_rfl
  go_enter Tryz.func37,Tryz.ntmps37
  go_wp2;go_ret
  exact⟨rfl,(Fr.refl _ _).alloc _⟩

set_option maxHeartbeats 400000 in
theorem overIn_any(a b c d:Int)(p:Bool)(w:World):
 Calls Tryz.prog 55 #[.agg #[.int .i64 a,.int .i64 b,.int .i64 c,.int .i64 d,.bool p]] w fun e w'=>e=.returned (.int .i64 (Kn.over p:Nat))∧New w w':=by
 cases p
 · go_enter Tryz.func55,Tryz.ntmps55
   go_wp2;go_ret
   exact⟨rfl,(Fr.refl _ _).alloc _⟩
 · go_enter Tryz.func55,Tryz.ntmps55
   go_wp2;go_ret
   exact⟨rfl,(Fr.refl _ _).alloc _⟩

def comesB(p:Bool)(s:Nat):Bool:=decide (s=0)||decide (s=Kn.over p)
set_option maxHeartbeats 400000 in
theorem comes_any(a b c d:Int)(p:Bool)(s:Nat)(w:World)(hs:s<4):
 Calls Tryz.prog 43 #[.agg #[.int .i64 a,.int .i64 b,.int .i64 c,.int .i64 d,.bool p],.int .i64 s] w fun e w'=>e=.returned (.bool (comesB p s))∧New w w':=by
 have key:∀s:Nat,s=0∨¬s=0:=fun s=>by omega
 rcases key s with h|h
 · subst h
   go_enter Tryz.func43,Tryz.ntmps43
   go_wp2;go_ret
   exact⟨rfl,(Fr.refl _ _).alloc _⟩
 · obtain⟨t,HT⟩:∃t,Hid (t=Kn.over p):=⟨_,Lib.hid rfl⟩
   have h0:decide ((s:Int)=0)=false:=by simpa using h
   have H0:=Lib.hid h;clear h
   go_enter Tryz.func43,Tryz.ntmps43
   go_wp2_with (go_at_call 55;refine(overIn_any _ _ _ _ _ _).mono ?_;rintro e w' ⟨rfl,hF⟩;rw[←HT.out];have HF:=Lib.hid hF;clear hF)
   go_ret
   refine⟨ret_bool ?_,((Fr.refl _ _).alloc _).trans HF.out⟩
   unfold comesB
   rw[←HT.out];have:=H0.out
   by_cases c:s=t<;>simp[this,c]
   omega
end Go.Proofs.YtlicglicfijelaaGreat

/- Walks: slices.Clone of crossings. -/
namespace Go.Proofs.YtlicglicfijelaaGreat
open Go.RowKit

theorem Tryz.info41:(Tryz.prog.info? 41).map (fun i=>(i.zero,i.size,i.bytes))=some (some (.agg #[.int .i64 0,.int .i64 0,.int .i64 0,.int .i64 0,.bool false]),5,40):=by kernel_rfl
def crFn(X:List Kn.Cr)(j:Nat):Value:=
 if j%5=0 then .int .i64 (Kn.cr X (j / 5)).a else if j%5=1 then .int .i64 (Kn.cr X (j / 5)).b else if j%5=2 then .int .i64 (Kn.cr X (j / 5)).c else if j%5=3 then .int .i64 (Kn.cr X (j / 5)).d else .bool (Kn.cr X (j / 5)).p
def crCells(X:List Kn.Cr):List Value:=(List.range (X.length*5)).map (crFn X)
theorem crCells_length(X:List Kn.Cr):(crCells X).length=X.length*5:=by simp[crCells]
theorem crCells_get{X:List Kn.Cr}{j:Nat}{u:Value}(h:(crCells X)[j]?=some u):j<X.length*5∧u=crFn X j:=by
 unfold crCells at h
 rw[List.getElem?_map]at h
 by_cases c:j<X.length*5
 · rw[List.getElem?_range c]at h
   simp only[Option.map_some,Option.some.injEq]at h
   exact⟨c,h.symm⟩
 · rw[List.getElem?_eq_none (by simpa using c)]at h;cases h
theorem crCells_at{X:List Kn.Cr}{j:Nat}(h:j<X.length*5):(crCells X)[j]?=some (crFn X j):=by
 unfold crCells
 rw[List.getElem?_map,List.getElem?_range h];rfl
theorem crFn_cell{w:World}{b o i:Nat}{X:List Kn.Cr}(h:CrAt w b (o+i*5) (Kn.cr X i)){k:Nat}(hk:k<5):w.cell? ⟨b,o+(i*5+k),none⟩=some (crFn X (i*5+k)):=by
 unfold crFn
 rw[show (i*5+k) / 5=i by omega,show (i*5+k)%5=k by omega,←Nat.add_assoc]
 match k,hk with
 |0,_=>exact h.a
 |1,_=>exact h.b
 |2,_=>exact h.c
 |3,_=>exact h.d
 |4,_=>exact h.p
theorem crAt_of{w:World}{b o i:Nat}{X:List Kn.Cr}(h:∀k,k<5→w.cell? ⟨b,o+(i*5+k),none⟩=some (crFn X (i*5+k))):CrAt w b (o+i*5) (Kn.cr X i):=by
 have key:∀k,k<5→crFn X (i*5+k)=if k=0 then .int .i64 (Kn.cr X i).a else if k=1 then .int .i64 (Kn.cr X i).b else if k=2 then .int .i64 (Kn.cr X i).c else if k=3 then .int .i64 (Kn.cr X i).d else .bool (Kn.cr X i).p:=fun k hk=>by
  unfold crFn
  rw[show (i*5+k) / 5=i by omega,show (i*5+k)%5=k by omega]
 have h0:=h 0 (by omega);have h1:=h 1 (by omega);have h2:=h 2 (by omega);have h3:=h 3 (by omega);have h4:=h 4 (by omega);rw[key _ (by omega),←Nat.add_assoc]at h0 h1 h2 h3 h4
 exact⟨h0,h1,h2,h3,h4⟩
theorem CrsAt.news{w:World}{ad:Addr}{X:List Kn.Cr}(h:CrsAt w (some ad) X):∀j u,(crCells X)[j]?=some u→w.cell? (ad.add j)=some u:=by
 intro j u hu
 obtain⟨hj,rfl⟩:=crCells_get hu;obtain⟨b,o,e,hc⟩:=h.at (k:=j / 5) (by omega)
 cases e
 rw[addr_add];have:=crFn_cell hc (k:=j%5) (by omega)
 rwa [show j / 5*5+j%5=j by omega]at this
theorem crCells_one(X:List Kn.Cr):∀u∈crCells X,u.oneCell'=true:=by
 intro u hu
 obtain⟨j,_,rfl⟩:=List.mem_map.1 hu
 unfold crFn
 split
 · rfl
 split
 · rfl
 split
 · rfl
 split<;>rfl
theorem CrsAt.of_owns{w:World}{base:Nat}{v:Value}{X:List Kn.Cr}(h:w.ownsRow base 41 5 v X.length (crCells X)):∃a c,v=.slice a X.length c∧CrsAt w a X:=by
 rcases h.2 with⟨rfl,h0⟩|⟨g,cap,cur,rfl,hb,hg,hn,hc,hs,ht⟩
 · rw[h0]
   exact⟨none,0,rfl,.inl (List.length_eq_zero_iff.1 h0)⟩
 · refine⟨_,cap,rfl,.inr ⟨g,0,rfl,fun i hi=>crAt_of fun k hk=>?_⟩⟩
   have:=World.ownsRow.cells h (g:=g) rfl (i*5+k) (crFn X (i*5+k)) (crCells_at (by omega))
   rwa [addr_add]at this
def GaveCrs(X:List Kn.Cr)(w:World)(e:Ending)(w':World):Prop:=∃v,e=.returned v∧w'.ownsRow w.heap.size 41 5 v X.length (crCells X)∧New w w'

set_option maxHeartbeats 400000 in
theorem clone_any(a:Option Addr)(c:Nat)(X:List Kn.Cr)(w:World)(hx:CrsAt w a X)(lx:X.length≤1000):
 Calls Tryz.prog 33 #[.slice a X.length c] w (GaveCrs X w):=by
 have hnil:=fun(w:World) (a:Option Addr) (n c n' c':Nat)=>Lib.run_eql_slice_nil (P:=Tryz.prog) w 22 41 a n c n' c' Tryz.underlying22
 have HX:=Lib.hid hx;clear hx
 cases a with
 |none=>
  have hx0:X=[]:=by
   rcases HX.out with h|⟨b,o,e,_⟩
   · exact h
   · cases e
  subst hx0
  go_enter Tryz.func33,Tryz.ntmps33
  go_wp2;go_ret
  exact⟨_,rfl,⟨rfl,.inl ⟨rfl,rfl⟩⟩,Fr.refl _ _⟩
 |some ad=>
  obtain⟨i0,hi,hz0,hz1,hz2⟩:=info_parts Tryz.info41
  go_enter Tryz.func33,Tryz.ntmps33
  go_wp2_with (at_builtin;refine wpList_append_own _ rfl _ _ 22 rfl w.heap.size 41 i0 _ 5 40 Tryz.underlying22 hi hz0 hz1 hz2 rfl (by decide) _ 0 [] rfl (World.ownsRow_made _ _ _ ?c0 ?c0b ?c0c) ad X.length c (crCells X) rfl ?c1 ?c2 ?c3 ?c4 ?c5 ?c6 ?_)
  case c0=>exact Nat.le_refl _
  case c0b=>exact Nat.zero_le _
  case c0c=>rfl
  case c1=>rw[crCells_length]
  case c2=>exact(New.crs ((Fr.refl _ _).alloc _) HX.out).news
  case c3=>exact crCells_one X
  case c4=>unfold maxLen;omega
  case c5=>omega
  case c6=>simp
  intro v' w1 hown hgrow _
  have hfr:New w w1:=((Fr.refl (fun _=>False) w).alloc (.cells #[] 41)).grown hgrow fun k e=>by
   right
   simp only[Value.ownBlock,Option.some.injEq]at e
   omega
  obtain⟨a',c',rfl,h1⟩:=CrsAt.of_owns hown;have H1:=Lib.hid hown;have HF:=Lib.hid hfr;clear hown hgrow h1 hfr;go_wp2;go_ret
  exact⟨_,rfl,H1.out,HF.out⟩
theorem clone_n(a:Option Addr)(n c:Nat)(X:List Kn.Cr)(w:World)(hx:CrsAt w a X)(hn:n=X.length)(lx:n≤1000):
 Calls Tryz.prog 33 #[.slice a n c] w (GaveCrs X w):=by
 subst hn;exact clone_any a c X w hx lx
end Go.Proofs.YtlicglicfijelaaGreat
