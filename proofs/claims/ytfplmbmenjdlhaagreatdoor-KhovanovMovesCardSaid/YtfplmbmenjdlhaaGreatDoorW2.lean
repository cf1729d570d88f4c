/- Words on worlds: what a call leaves alone. -/
import Derived.Test.YtfplmbmenjdlhaaGreatDoorProg
import Derived.WalkSpells
import Derived.WalkLawsBesides
import Derived.BigQuiet
import Derived.Deep.OwnRows
import Derived.Lib.Hide
import Derived.Deep.RegionHeld3
import Derived.StillTailTactics
import Derived.Deep.DeepCutAuto
import Derived.Test.YtfplmbmenjdlhaaGreatDoorMAll
set_option maxRecDepth 100000
set_option maxHeartbeats 16000000
namespace Go.Proofs.YtfplmbmenjdlhaaGreatDoor
open Go.RowKit
open Instr (index)
open Kn (Cr cr over)
open Go.Proofs.Tryz (func112 func113 func132 func75 ntmps75 prog)
variable {X:List Cr} {j n:Nat} {f:Nat->Value} {a:Option Addr} {p:Prop} {v:Value} {w:World}
def Hd(p:Prop):Prop:=p
theorem Hd.o(h:Hd p):p:=h
theorem Hd.out(h:Hd p):p:=h
theorem jd(h:p):Hd p:=h
theorem jb.{u}{α:Type u}(x:α):∃z,Hd (z=x):=⟨x,jd rfl⟩
theorem rG{k:IntKind}{a b:Int}(h:a=b):Ending.returned (.int k a)=.returned (.int k b):=by rw[h]
theorem cq{a b:Bool}(h:a=b):Ending.returned (.bool a)=.returned (.bool b):=by rw[h]
structure Fr(S:Nat->Prop)(w w':World):Prop where
 os:w'.os=w.os
 tape:w'.tape=w.tape
 output:w'.output=w.output
 size:w.heap.size<=w'.heap.size
 block:∀k,k<w.heap.size->¬S k->w'.heap[k]?=w.heap[k]?
section
variable {S S':Nat->Prop} {w w' w'':World}
theorem Fr.refl(S:Nat->Prop)(w:World):Fr S w w:=⟨rfl,rfl,rfl,jH _,λ_ _ _=>rfl⟩
theorem Fr.trans(h:Fr S w w')(k:Fr S w' w''):Fr S w w'':=
 ⟨k.os.trans h.os,k.tape.trans h.tape,k.output.trans h.output,jJ h.size k.size,λi hi hs=>(k.block i (jT hi h.size) hs).trans (h.block i hi hs)⟩
theorem Fr.next(h:Fr S w w')(k:Fr S' w' w'')(hs:∀i,S' i->S i\/w.heap.size<=i):Fr S w w'':=
 ⟨k.os.trans h.os,k.tape.trans h.tape,k.output.trans h.output,jJ h.size k.size,λi hi hS=>
  (k.block i (jT hi h.size) (λQV=>(hs i QV).elim hS (λhle=>by omega))).trans (h.block i hi hS)⟩
theorem Fr.mono(h:Fr S w w')(hs:∀i,S i->S' i):Fr S' w w':=⟨h.os,h.tape,h.output,h.size,λk hk hS=>h.block k hk λx=>hS (hs k x)⟩
theorem Fr.drew(h:Fr S w w'):Fr S w w'.drew:=⟨h.os,h.tape,h.output,h.size,h.block⟩
theorem Fr.drewN(h:Fr S w w')(n:Nat):Fr S w (w'.drewN n):=⟨h.os,h.tape,h.output,h.size,h.block⟩
theorem Fr.alloc(h:Fr S w w')(o:Obj):Fr S w (w'.alloc o):=
 ⟨h.os,h.tape,h.output,by have:=h.size;simp;omega,λk hk hs=>(Below.heap_alloc _ _ _ (by have:=h.size;omega)).trans (h.block k hk hs)⟩
theorem Fr.setCell(h:Fr S w w'){a:Addr}(ha:S a.block\/w.heap.size<=a.block)(v:Value):Fr S w (w'.setCell a v):=
 ⟨h.os,h.tape,h.output,by have:=h.size;simpa[World.setCell]using this,λk hk hs=>(Below.heap_setCell _ _ _ _ (λe=>by subst e;rcases ha with ha|ha;exact hs ha;omega)).trans (h.block k hk hs)⟩
theorem Fr.grown{row:Option Nat}(h:Fr S w w')(hg:w'.grownBy w'' row)(hr:∀k,row=some k->S k\/w.heap.size<=k):Fr S w w'':=
 ⟨hg.os.trans h.os,hg.tape.trans h.tape,hg.output.trans h.output,jJ h.size hg.size,λk hk hs=>
  (hg.block k (jT hk h.size) (λe=>(hr k e.symm).elim hs (λhle=>by omega))).trans (h.block k hk hs)⟩
theorem Fr.row(h:Fr S w w'){b:Nat}{t:TypeId}(hr:w.rowIs b t n f)(hb:¬S b):w'.rowIs b t n f:=hr.of_block (h.block b hr.lt hb)
theorem Fr.cell(h:Fr S w w'){a:Addr}{v:Value}(hc:w.cell? a=some v)(hb:¬S a.block):w'.cell? a=some v:=
 (World.cell?_of_block (w:=w) (h.block a.block (World.block_lt_of_cell? w a hc) hb)).trans hc
theorem Fr.owns(h:Fr S w w'){base:Nat}{e:TypeId}{size:Nat}{xs:List Value}(ho:w.ownsRow base e size v n xs)(hb:∀k,v.ownBlock=some k->¬S k):w'.ownsRow base e size v n xs:=by
 refine⟨ho.1,?_⟩
 rcases ho.2 with hn|⟨g,cap,cur,rfl,hbg,CW,rest⟩
 · exact .inl hn
 refine .inr ⟨g,cap,cur,rfl,hbg,?_,rest⟩
 rw[h.block g (jf.1 CW).1 (hb g rfl)];exact CW
theorem Fr.below(h:Fr S w w'){B:Nat}(hB:∀k,k<B->k<w.heap.size/\¬S k):Below B w w':=⟨h.os,h.tape,h.output,h.size,λk hk=>h.block k (hB k hk).1 (hB k hk).2⟩
theorem Fr.Gd(h:Below w.heap.size w w')(S:Nat->Prop):Fr S w w':=⟨h.os,h.tape,h.output,h.size,λk hk _=>h.block k hk⟩
end
abbrev New(w w':World):Prop:=Fr (λ_=>False) w w'
theorem dN(b o j:Nat):(⟨b,o,none⟩:Addr).add j=⟨b,o+j,none⟩:=by
 unfold Addr.add;split
 · next h=>subst h;rfl
 rfl
theorem aY{p:Addr}(h:w.cell? p=some v)(o:Obj):(w.alloc o).cell? p=some v:=((Fr.refl (λ_=>False) w).alloc o).cell h (λx=>x)
abbrev crV(x:Cr):Value:=.agg #[.int .i64 x.a,.int .i64 x.b,.int .i64 x.c,.int .i64 x.d,.bool x.p]
structure Em(w:World)(bl o:Nat)(x:Cr):Prop where
 a:w.cell? ⟨bl,o,none⟩=some (.int .i64 x.a)
 b:w.cell? ⟨bl,o+1,none⟩=some (.int .i64 x.b)
 c:w.cell? ⟨bl,o+2,none⟩=some (.int .i64 x.c)
 d:w.cell? ⟨bl,o+3,none⟩=some (.int .i64 x.d)
 p:w.cell? ⟨bl,o+4,none⟩=some (.bool x.p)
theorem Fr.Kd{S:Nat->Prop}{w':World}(h:Fr S w w'){b o:Nat}{x:Cr}(hx:Em w b o x)(hb:¬S b):Em w' b o x:=
 ⟨h.cell hx.a hb,h.cell hx.b hb,h.cell hx.c hb,h.cell hx.d hb,h.cell hx.p hb⟩
def bV(w:World)(a:Option Addr)(X:List Cr):Prop:=X=[]\/∃b o,a=some ⟨b,o,none⟩/\∀i,i<X.length->Em w b (o+i*5) (cr X i)
theorem bV.at{w:World}{a:Option Addr}{X:List Cr}(h:bV w a X){k:Nat}(hk:k<X.length):∃b o,a=some ⟨b,o,none⟩/\Em w b (o+k*5) (cr X k):=by
 rcases h with rfl|⟨b,o,rfl,h⟩
 · simp at hk
 exact⟨b,o,rfl,h k hk⟩
theorem New.uh{w':World}(h:New w w')(hx:bV w a X):bV w' a X:=by
 rcases hx with rfl|⟨b,o,rfl,hc⟩
 · exact .inl rfl
 exact .inr ⟨b,o,rfl,λi hi=>h.Kd (hc i hi) (λx=>x)⟩
open Go.RowKit
def wJ(a b c d:Int)(s:Nat):Int:=if s=0 then a else if s=1 then b else if s=2 then c else d
theorem nu(a b c d:Int)(p:Bool)(s:Nat)(w:World)(hs:s<4):
 Calls prog 75 #[.agg #[.int .i64 a,.int .i64 b,.int .i64 c,.int .i64 d,.bool p],.int .i64 s] w λe w'=>e=.returned (.int .i64 (wJ a b c d s))/\New w w':=by
 match s,hs with
 |0,_=>
  have hi:∀w,(index 181 (.agg #[.int .i64 a,.int .i64 b,.int .i64 c,.int .i64 d]) (.int .i64 0)).run prog w=.ok (.int .i64 a) w:=λ_=>by kernel_rfl
  go_enter func75,ntmps75
  go_wp2;go_ret;exact⟨rfl,(Fr.refl _ _).alloc _⟩
 |1,_=>
  have hi:∀w,(index 181 (.agg #[.int .i64 a,.int .i64 b,.int .i64 c,.int .i64 d]) (.int .i64 1)).run prog w=.ok (.int .i64 b) w:=λ_=>by kernel_rfl
  go_enter func75,ntmps75
  go_wp2;go_ret;exact⟨rfl,(Fr.refl _ _).alloc _⟩
 |2,_=>
  have hi:∀w,(index 181 (.agg #[.int .i64 a,.int .i64 b,.int .i64 c,.int .i64 d]) (.int .i64 2)).run prog w=.ok (.int .i64 c) w:=λ_=>by kernel_rfl
  go_enter func75,ntmps75
  go_wp2;go_ret;exact⟨rfl,(Fr.refl _ _).alloc _⟩
 |3,_=>
  have hi:∀w,(index 181 (.agg #[.int .i64 a,.int .i64 b,.int .i64 c,.int .i64 d]) (.int .i64 3)).run prog w=.ok (.int .i64 d) w:=λ_=>by kernel_rfl
  go_enter func75,ntmps75
  go_wp2;go_ret;exact⟨rfl,(Fr.refl _ _).alloc _⟩
theorem LG(a b c d:Int)(p:Bool)(w:World):
 Calls prog 132 #[.agg #[.int .i64 a,.int .i64 b,.int .i64 c,.int .i64 d,.bool p]] w λe w'=>e=.returned (.int .i64 (over p:Nat))/\New w w':=by
 cases p
 · go_enter func132,Tryz.ntmps132
   go_wp2;go_ret;exact⟨rfl,(Fr.refl _ _).alloc _⟩
 go_enter func132,Tryz.ntmps132
 go_wp2;go_ret;exact⟨rfl,(Fr.refl _ _).alloc _⟩
def oz(p:Bool)(s:Nat):Bool:=decide (s=0)||decide (s=over p)
theorem qQ(a b c d:Int)(p:Bool)(s:Nat)(w:World)(hs:s<4):
 Calls prog 113 #[.agg #[.int .i64 a,.int .i64 b,.int .i64 c,.int .i64 d,.bool p],.int .i64 s] w λe w'=>e=.returned (.bool (oz p s))/\New w w':=by
 have key:∀s:Nat,s=0\/¬s=0:=λs=>by omega
 rcases key s with h|h
 · subst h
   go_enter func113,Tryz.ntmps113
   go_wp2;go_ret;exact⟨rfl,(Fr.refl _ _).alloc _⟩
 obtain⟨t,HT⟩:=jb (over p)
 have h0:decide ((s:Int)=0)=false:=by simpa using h
 have H0:=jd h;clear h
 go_enter func113,Tryz.ntmps113
 go_wp2_with (go_at_call 132;refine(LG _ _ _ _ _ _).mono ?_;rintro e w' ⟨rfl,hF⟩;rw[<-HT.o];have HF:=jd hF;clear hF)
 go_ret;refine⟨cq ?_,((Fr.refl _ _).alloc _).trans HF.o⟩;unfold oz;rw[<-HT.o];have:=H0.o
 by_cases c:s=t<;>simp[this,c]
 omega
open Go.RowKit
theorem Tryz.Bd:(prog.info? 109).map (λi=>(i.zero,i.size,i.bytes))=some (some (.agg #[.int .i64 0,.int .i64 0,.int .i64 0,.int .i64 0,.bool false]),5,40):=by kernel_rfl
def wG(X:List Cr)(j:Nat):Value:=
 if j%5=0 then .int .i64 (cr X (j / 5)).a else if j%5=1 then .int .i64 (cr X (j / 5)).b else if j%5=2 then .int .i64 (cr X (j / 5)).c else if j%5=3 then .int .i64 (cr X (j / 5)).d else .bool (cr X (j / 5)).p
def bE(X:List Cr):List Value:=(List.range (X.length*5)).map (wG X)
theorem cD(X:List Cr):(bE X).length=X.length*5:=by simp[bE]
theorem Kc{u:Value}(h:(bE X)[j]?=some u):j<X.length*5/\u=wG X j:=by
 unfold bE at h;rw[List.getElem?_map]at h;by_cases c:j<X.length*5
 · rw[List.getElem?_range c]at h
   simp only[Option.map_some,Option.some.injEq]at h;exact⟨c,h.symm⟩
 rw[List.getElem?_eq_none (by simpa using c)]at h;cases h
theorem fM(h:j<X.length*5):(bE X)[j]?=some (wG X j):=by
 unfold bE
 rw[List.getElem?_map,List.getElem?_range h];rfl
theorem Q8{b o i:Nat}(h:Em w b (o+i*5) (cr X i)){k:Nat}(hk:k<5):w.cell? ⟨b,o+(i*5+k),none⟩=some (wG X (i*5+k)):=by
 unfold wG;rw[show (i*5+k) / 5=i by omega,show (i*5+k)%5=k by omega,<-Nat.add_assoc]
 match k,hk with
 |0,_=>exact h.a
 |1,_=>exact h.b
 |2,_=>exact h.c
 |3,_=>exact h.d
 |4,_=>exact h.p
theorem Zb{b o i:Nat}(h:∀k,k<5->w.cell? ⟨b,o+(i*5+k),none⟩=some (wG X (i*5+k))):Em w b (o+i*5) (cr X i):=by
 have key:∀k,k<5->wG X (i*5+k)=if k=0 then .int .i64 (cr X i).a else if k=1 then .int .i64 (cr X i).b else if k=2 then .int .i64 (cr X i).c else if k=3 then .int .i64 (cr X i).d else .bool (cr X i).p:=λk hk=>by
  unfold wG;rw[show (i*5+k) / 5=i by omega,show (i*5+k)%5=k by omega]
 have h0:=h 0 (by omega);have h1:=h 1 (by omega);have h2:=h 2 (by omega);have h3:=h 3 (by omega);have h4:=h 4 (by omega);rw[key _ (by omega),<-Nat.add_assoc]at h0 h1 h2 h3 h4;exact⟨h0,h1,h2,h3,h4⟩
theorem bV.news{ad:Addr}(h:bV w (some ad) X):∀j u,(bE X)[j]?=some u->w.cell? (ad.add j)=some u:=by
 intro j u hu;obtain⟨hj,rfl⟩:=Kc hu;obtain⟨b,o,e,hc⟩:=h.at (k:=j / 5) (by omega);cases e;rw[dN];have:=Q8 hc (k:=j%5) (by omega)
 rwa [show j / 5*5+j%5=j by omega]at this
theorem Kb(X:List Cr):∀u∈bE X,u.oneCell'=true:=by
 intro u hu;obtain⟨j,_,rfl⟩:=jv.1 hu;unfold wG;split
 · rfl
 split
 · rfl
 split
 · rfl
 split<;>rfl
theorem bV.gu{base:Nat}(h:w.ownsRow base 109 5 v X.length (bE X)):∃a c,v=.slice a X.length c/\bV w a X:=by
 rcases h.2 with⟨rfl,h0⟩|⟨g,cap,cur,rfl,hb,hg,hn,hc,hs,ht⟩
 · rw[h0]
   exact⟨none,0,rfl,.inl (List.length_eq_zero_iff.1 h0)⟩
 refine⟨_,cap,rfl,.inr ⟨g,0,rfl,λi hi=>Zb λk hk=>?_⟩⟩;have:=World.ownsRow.cells h (g:=g) rfl (i*5+k) (wG X (i*5+k)) (fM (by omega))
 rwa [dN]at this
def Pu(X:List Cr)(w:World)(e:Ending)(w':World):Prop:=∃v,e=.returned v/\w'.ownsRow w.heap.size 109 5 v X.length (bE X)/\New w w'
theorem Re(a:Option Addr)(c:Nat)(X:List Cr)(w:World)(hx:bV w a X)(lx:X.length<=1000):
 Calls prog 112 #[.slice a X.length c] w (Pu X w):=by
 have hnil:=fun(w:World) (a:Option Addr) (n c n' c':Nat)=>Lib.run_eql_slice_nil (P:=prog) w 22 109 a n c n' c' Tryz.underlying22
 have HX:=jd hx;clear hx
 cases a with
 |none=>
  have hx0:X=[]:=by
   rcases HX.o with h|⟨b,o,e,_⟩
   · exact h
   cases e
  subst hx0
  go_enter func112,Tryz.ntmps112
  go_wp2;go_ret;exact⟨_,rfl,⟨rfl,.inl ⟨rfl,rfl⟩⟩,Fr.refl _ _⟩
 |some ad=>
  obtain⟨i0,hi,hz0,hz1,hz2⟩:=info_parts Tryz.Bd
  go_enter func112,Tryz.ntmps112
  go_wp2_with (at_builtin;refine wpList_append_own _ rfl _ _ 22 rfl w.heap.size 109 i0 _ 5 40 Tryz.underlying22 hi hz0 hz1 hz2 rfl (by decide) _ 0 [] rfl (World.ownsRow_made _ _ _ ?c0 ?c0b ?c0c) ad X.length c (bE X) rfl ?c1 ?c2 ?c3 ?c4 ?c5 ?c6 ?_)
  case c0=>exact jH _
  case c0b=>exact Nat.zero_le _
  case c0c=>rfl
  case c1=>rw[cD]
  case c2=>exact(New.uh ((Fr.refl _ _).alloc _) HX.o).news
  case c3=>exact Kb X
  case c4=>unfold maxLen;omega
  case c5=>omega
  case c6=>simp
  intro v' w1 hown cN _
  have QP:New w w1:=((Fr.refl (λ_=>False) w).alloc (.cells #[] 109)).grown cN λk e=>by
   right;simp only[Value.ownBlock,Option.some.injEq]at e;omega
  obtain⟨a',c',rfl,h1⟩:=bV.gu hown;have H1:=jd hown;have HF:=jd QP;clear hown cN h1 QP;go_wp2;go_ret;exact⟨_,rfl,H1.o,HF.o⟩
theorem Zd(a:Option Addr)(n c:Nat)(X:List Cr)(w:World)(hx:bV w a X)(hn:n=X.length)(lx:n<=1000):
 Calls prog 112 #[.slice a n c] w (Pu X w):=by
 subst hn;exact Re a c X w hx lx
end Go.Proofs.YtfplmbmenjdlhaaGreatDoor
