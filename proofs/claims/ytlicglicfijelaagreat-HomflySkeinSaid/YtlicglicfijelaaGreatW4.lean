/- Walks: Build. -/
import Derived.Test.YtlicglicfijelaaGreatW3
namespace Go.Proofs.YtlicglicfijelaaGreat
open Go.RowKit

abbrev retNo:Ending:=.returned (.tuple #[.pointer none,.bool false])
def ShNew(B:Nat)(w:World)(b:Nat)(X:List Kn.Cr)(L:Int):Prop:=∃v bi bo base,Sh w b X L v bi bo base (Kn.inP X) (Kn.outP X)∧B≤base
def GaveSh(ok:Bool)(X:List Kn.Cr)(L:Int)(w:World)(e:Ending)(w':World):Prop:=
 New w w'∧((ok=true∧∃b,e=.returned (.tuple #[.pointer (some ⟨b,0,none⟩),.bool true])∧ShAt w' b X L∧w.heap.size≤b∧ShNew w.heap.size w' b X L)∨(ok=false∧e=retNo))

theorem make2(m:Nat)(hm:m≤1000)(w:World):(Instr.makeSlice 50 (.int .i64 (m:Int)) (.int .i64 (m:Int))).run Tryz.prog w=.ok (.slice (some ⟨w.heap.size,0,none⟩) m m) (w.alloc (.cells (madeCells #[.int .i64 0,.int .i64 0] (m*2)) 104)):=by
 obtain⟨i,hi,h1,h2,h3⟩:=info_parts Tryz.info104;have hr:=run_make (P:=Tryz.prog) w 50 104 i _ Tryz.underlying50 hi h1 .i64 .i64 m m (by omega) (Int.le_refl _) (by rw[h3];omega) (by omega);simp only[Int.toNat_natCast,h2]at hr
 exact hr

theorem own_base{w:World}{base base' e sz n:Nat}{v:Value}{xs:List Value}(h:w.ownsRow base e sz v n xs)(hb:base'≤base):w.ownsRow base' e sz v n xs:=by
 refine⟨h.1,?_⟩
 rcases h.2 with hn|⟨g,cap,cur,rfl,hbg,rest⟩
 · exact .inl hn
 · exact .inr ⟨g,cap,cur,rfl,Nat.le_trans hb hbg,rest⟩
theorem sh_made{w:World}{b m:Nat}{X:List Kn.Cr}{L:Int}{v:Value}{bi bo base:Nat}(ho:w.ownsRow base 41 5 v X.length (crCells X))(hi:w.rowIs bi 104 (mArcs X*2) (plFn fun _=>(0,0)))(hj:w.rowIs bo 104 (mArcs X*2) (plFn fun _=>(0,0)))(hne:bi≠bo)
 (hb:b=w.heap.size) (hm:m=mArcs X):Sh (w.alloc (.cells #[v,.int .i64 L,.slice (some ⟨bi,0,none⟩) m m,.slice (some ⟨bo,0,none⟩) m m] 52)) b X L v bi bo base (fun _=>(0,0)) (fun _=>(0,0)):=by
 subst hb hm;have hF:New w (w.alloc (.cells #[v,.int .i64 L,.slice (some ⟨bi,0,none⟩) (mArcs X) (mArcs X),.slice (some ⟨bo,0,none⟩) (mArcs X) (mArcs X)] 52)):=(Fr.refl _ w).alloc _
 exact⟨heap_alloc_new _ _,hF.owns ho (fun _ _ x=>x),hF.row hi fun x=>x,hF.row hj fun x=>x,hne⟩
theorem made2'{w:World}{m b k:Nat}(hb:b=w.heap.size)(hk:m=k):(w.alloc (.cells (madeCells #[.int .i64 0,.int .i64 0] m) 104)).rowIs b 104 k (plFn fun _=>(0,0)):=by subst hb hk;exact rowIs_made2 w m

theorem made1'{w:World}{m b k:Nat}(hb:b=w.heap.size)(hk:m=k):(w.alloc (.cells (madeCells #[.int .i64 0] m) 3)).rowIs b 3 k (numFn fun _=>0):=by subst hb hk;exact World.rowIs_made w _ m 3
def Mid(w w1:World)(X:List Kn.Cr)(L:Int)(s:Value)(wx:World):Prop:=
 ∃b v bi bo,s=.pointer (some ⟨b,0,none⟩)∧Sh wx b X L v bi bo w.heap.size (fun _=>(0,0)) (fun _=>(0,0))∧(w.heap.size≤b∧w.heap.size≤bi∧w.heap.size≤bo)∧New w1 wx
abbrev mPl(m:Nat):Obj:=.cells (madeCells #[.int .i64 0,.int .i64 0] (m*2)) 104
section
variable {w w1 wt:World} {X:List Kn.Cr} {L:Int} {v:Value} {m p q b base:Nat}
theorem mid_mk{wq:World}(hw:w.heap.size≤w1.heap.size)(hq:New w1 wq)(ho:wq.ownsRow base 41 5 v X.length (crCells X))(hb:w.heap.size≤base)(hp:wq.rowIs p 104 (m*2) (plFn fun _=>(0,0)))(hr:wq.rowIs q 104 (m*2) (plFn fun _=>(0,0)))(hne:p≠q)(hm:m=mArcs X)
 (h1:w.heap.size≤p) (h2:w.heap.size≤q) (hbq:b=wq.heap.size):
 Mid w w1 X L (.pointer (some ⟨b,0,none⟩)) (wq.alloc (.cells #[v,.int .i64 L,.slice (some ⟨p,0,none⟩) m m,.slice (some ⟨q,0,none⟩) m m] 52)):=by
 refine⟨b,v,p,q,rfl,sh_made (own_base ho hb) (by rw[←hm];exact hp) (by rw[←hm];exact hr) hne hbq hm,⟨?_,h1,h2⟩,hq.alloc _⟩
 have:=hq.size
 omega
theorem midA(hw:w.heap.size≤w1.heap.size)(hm:m=mArcs X)(ho:wt.ownsRow base 41 5 v X.length (crCells X))(hb:w.heap.size≤base)(hn:New w1 wt)(hpq:p=wt.heap.size∧q=wt.heap.size+1∨p=wt.heap.size+1∧q=wt.heap.size):
 Mid w w1 X L (.pointer (some ⟨wt.heap.size+1+1,0,none⟩)) (((wt.alloc (mPl m)).alloc (mPl m)).alloc (.cells #[v,.int .i64 L,.slice (some ⟨p,0,none⟩) m m,.slice (some ⟨q,0,none⟩) m m] 52)):=by
 have h1:((wt.alloc (mPl m)).alloc (mPl m)).rowIs wt.heap.size 104 (m*2) (plFn fun _=>(0,0)):=(rowIs_made2 wt (m*2)).alloc _;have h2:((wt.alloc (mPl m)).alloc (mPl m)).rowIs (wt.heap.size+1) 104 (m*2) (plFn fun _=>(0,0)):=made2' (by simp) rfl;have hs:=hn.size;have hF:New wt ((wt.alloc (mPl m)).alloc (mPl m)):=((Fr.refl _ _).alloc _).alloc _
 rcases hpq with⟨rfl,rfl⟩|⟨rfl,rfl⟩
 · exact mid_mk hw ((hn.alloc _).alloc _) (hF.owns ho fun _ _ x=>x) hb h1 h2 (by omega) hm (by omega) (by omega) (by simp)
 · exact mid_mk hw ((hn.alloc _).alloc _) (hF.owns ho fun _ _ x=>x) hb h2 h1 (by omega) hm (by omega) (by omega) (by simp)
theorem midB(hw:w.heap.size≤w1.heap.size)(hm:m=mArcs X)(ho:wt.ownsRow base 41 5 v X.length (crCells X))(hb:w.heap.size≤base)(hn:New (w1.alloc (mPl m)) wt)(hpq:p=w1.heap.size∧q=wt.heap.size∨p=wt.heap.size∧q=w1.heap.size):
 Mid w w1 X L (.pointer (some ⟨wt.heap.size+1,0,none⟩)) ((wt.alloc (mPl m)).alloc (.cells #[v,.int .i64 L,.slice (some ⟨p,0,none⟩) m m,.slice (some ⟨q,0,none⟩) m m] 52)):=by
 have h1:(wt.alloc (mPl m)).rowIs w1.heap.size 104 (m*2) (plFn fun _=>(0,0)):=(hn.row (rowIs_made2 w1 (m*2)) fun x=>x).alloc _;have h2:(wt.alloc (mPl m)).rowIs wt.heap.size 104 (m*2) (plFn fun _=>(0,0)):=rowIs_made2 _ _;have hs:=hn.size
 simp at hs
 have hF:New wt (wt.alloc (mPl m)):=(Fr.refl _ _).alloc _;have hn':New w1 wt:=((Fr.refl _ w1).alloc _).trans hn
 rcases hpq with⟨rfl,rfl⟩|⟨rfl,rfl⟩
 · exact mid_mk hw (hn'.alloc _) (hF.owns ho fun _ _ x=>x) hb h1 h2 (by omega) hm (by omega) (by omega) (by simp)
 · exact mid_mk hw (hn'.alloc _) (hF.owns ho fun _ _ x=>x) hb h2 h1 (by omega) hm (by omega) (by omega) (by simp)
theorem midC(hw:w.heap.size≤w1.heap.size)(hm:m=mArcs X)(ho:wt.ownsRow base 41 5 v X.length (crCells X))(hb:w.heap.size≤base)(hn:New ((w1.alloc (mPl m)).alloc (mPl m)) wt)(hpq:p=w1.heap.size∧q=w1.heap.size+1∨p=w1.heap.size+1∧q=w1.heap.size):
 Mid w w1 X L (.pointer (some ⟨wt.heap.size,0,none⟩)) (wt.alloc (.cells #[v,.int .i64 L,.slice (some ⟨p,0,none⟩) m m,.slice (some ⟨q,0,none⟩) m m] 52)):=by
 have h1:wt.rowIs w1.heap.size 104 (m*2) (plFn fun _=>(0,0)):=hn.row ((rowIs_made2 w1 (m*2)).alloc _) fun x=>x
 have h2:wt.rowIs (w1.heap.size+1) 104 (m*2) (plFn fun _=>(0,0)):=hn.row (made2' (by simp) rfl) fun x=>x
 have hn':New w1 wt:=(((Fr.refl _ w1).alloc _).alloc _).trans hn;have hs:=hn'.size
 rcases hpq with⟨rfl,rfl⟩|⟨rfl,rfl⟩
 · exact mid_mk hw hn' ho hb h1 h2 (by omega) hm (by omega) (by omega) rfl
 · exact mid_mk hw hn' ho hb h2 h1 (by omega) hm (by omega) (by omega) rfl
theorem New.undrew{w w':World}(h:New w.drew w'):New w w':=((Fr.refl _ w).drew).trans h
end
def Mid2(w2:World)(X:List Kn.Cr)(s t:Value)(wx:World):Prop:=
 ∃ci co,s=.slice (some ⟨ci,0,none⟩) (mArcs X) (mArcs X)∧t=.slice (some ⟨co,0,none⟩) (mArcs X) (mArcs X)∧(wx.rowIs ci 3 (mArcs X) (numFn fun _=>0)∧wx.rowIs co 3 (mArcs X) (numFn fun _=>0)∧ci≠co∧w2.heap.size≤ci∧w2.heap.size≤co)∧New w2 wx
theorem Mid2.drew{w2 wx:World}{X:List Kn.Cr}{s t:Value}(h:Mid2 w2 X s t wx):Mid2 w2 X s t wx.drew:=by
 obtain⟨ci,co,h1,h2,⟨h3,h4,h5⟩,h6⟩:=h
 exact⟨ci,co,h1,h2,⟨h3.drew,h4.drew,h5⟩,h6.drew⟩
theorem mid2{w2:World}{X:List Kn.Cr}{m:Nat}(hm:m=mArcs X):Mid2 w2 X (.slice (some ⟨w2.heap.size,0,none⟩) m m) (.slice (some ⟨w2.heap.size+1,0,none⟩) m m) ((w2.alloc (.cells (madeCells #[.int .i64 0] m) 3)).alloc (.cells (madeCells #[.int .i64 0] m) 3)):=by
 subst hm
 exact⟨_,_,rfl,rfl,⟨(made1' rfl rfl).alloc _,made1' (by simp) rfl,by omega,by omega,by omega⟩,((Fr.refl _ _).alloc _).alloc _⟩
theorem mid2'{w2:World}{X:List Kn.Cr}{m:Nat}(hm:m=mArcs X):Mid2 w2 X (.slice (some ⟨w2.heap.size+1,0,none⟩) m m) (.slice (some ⟨w2.heap.size,0,none⟩) m m) ((w2.alloc (.cells (madeCells #[.int .i64 0] m) 3)).alloc (.cells (madeCells #[.int .i64 0] m) 3)):=by
 subst hm
 exact⟨_,_,rfl,rfl,⟨made1' (by simp) rfl,(made1' rfl rfl).alloc _,by omega,by omega,by omega⟩,((Fr.refl _ _).alloc _).alloc _⟩
def XBox(w:World)(B:Nat)(x:Kn.Cr):Prop:=w.heap[B]?=some (.cells #[.int .i64 x.a,.int .i64 x.b,.int .i64 x.c,.int .i64 x.d,.bool x.p] 41 (0,0))
theorem XBox.new(w:World)(x:Kn.Cr):XBox (w.alloc (.cells #[.int .i64 x.a,.int .i64 x.b,.int .i64 x.c,.int .i64 x.d,.bool x.p] 41)) w.heap.size x:=heap_alloc_new _ _
theorem XBox.lt{w:World}{B:Nat}{x:Kn.Cr}(h:XBox w B x):B<w.heap.size:=(Array.getElem?_eq_some_iff.1 h).1
theorem XBox.kept{S:Nat→Prop}{w w':World}{B:Nat}{x:Kn.Cr}(h:XBox w B x)(hf:Fr S w w')(hs:¬S B):XBox w' B x:=(hf.block B h.lt hs).trans h
theorem XBox.at{w:World}{B:Nat}{x:Kn.Cr}(h:XBox w B x):CrAt w B 0 x:=
 ⟨cell_of_row _ _ 0 _ 41 (0,0) h,cell_of_row _ _ 1 _ 41 (0,0) h,cell_of_row _ _ 2 _ 41 (0,0) h,cell_of_row _ _ 3 _ 41 (0,0) h,cell_of_row _ _ 4 _ 41 (0,0) h⟩
theorem XBox.ne{w:World}{B:Nat}{x:Kn.Cr}(h:XBox w B x){b t n:Nat}{f:Nat→Value}(hr:w.rowIs b t n f)(ht:41≠t):B≠b:=blk_ne h hr ht
theorem BSt.step_in'{w0 w:World}{X:List Kn.Cr}{L:Int}{b:Nat}{v:Value}{bi bo ci co base k n:Nat}(s:BSt w0 w X L b v bi bo ci co base k)
 (hc:Kn.cm X (Kn.pl k)=true) (ha:Kn.at_ X (Kn.pl k)=(n:Int)) (h1:1≤n) (h2:n≤2*X.length) {c j cn B:Nat} {x:Kn.Cr} (hp:Kn.pl k=(c,j)) (hcn:cn=Kn.cnt X true k n) (hB:XBox w B x):
 BSt w0 (((w.setCell ⟨bi,n*2,none⟩ (.int .i64 (c:Int))).setCell ⟨bi,n*2+1,none⟩ (.int .i64 (j:Int))).setCell ⟨ci,n,none⟩ (.int .i64 ((cn:Int)+1))) X L b v bi bo ci co base (k+1) ∧
 XBox (((w.setCell ⟨bi,n*2,none⟩ (.int .i64 (c:Int))).setCell ⟨bi,n*2+1,none⟩ (.int .i64 (j:Int))).setCell ⟨ci,n,none⟩ (.int .i64 ((cn:Int)+1))) B x:=by
 have:=s.step_in hc ha h1 h2;rw[hp,←hcn]at this
 refine⟨this,?_⟩
 have hF:Fr (fun x=>x=bi∨x=ci) w (((w.setCell ⟨bi,n*2,none⟩ (.int .i64 (c:Int))).setCell ⟨bi,n*2+1,none⟩ (.int .i64 (j:Int))).setCell ⟨ci,n,none⟩ (.int .i64 ((cn:Int)+1))):=
  (((Fr.refl _ w).setCell (.inl (.inl rfl)) _).setCell (.inl (.inl rfl)) _).setCell (.inl (.inr rfl)) _
 exact hB.kept hF fun h=>h.elim (hB.ne s.sh.ri (by decide)) (hB.ne s.rc (by decide))
theorem BSt.step_out'{w0 w:World}{X:List Kn.Cr}{L:Int}{b:Nat}{v:Value}{bi bo ci co base k n:Nat}(s:BSt w0 w X L b v bi bo ci co base k)
 (hc:Kn.cm X (Kn.pl k)=false) (ha:Kn.at_ X (Kn.pl k)=(n:Int)) (h1:1≤n) (h2:n≤2*X.length) {c j cn B:Nat} {x:Kn.Cr} (hp:Kn.pl k=(c,j)) (hcn:cn=Kn.cnt X false k n) (hB:XBox w B x):
 BSt w0 (((w.setCell ⟨bo,n*2,none⟩ (.int .i64 (c:Int))).setCell ⟨bo,n*2+1,none⟩ (.int .i64 (j:Int))).setCell ⟨co,n,none⟩ (.int .i64 ((cn:Int)+1))) X L b v bi bo ci co base (k+1) ∧
 XBox (((w.setCell ⟨bo,n*2,none⟩ (.int .i64 (c:Int))).setCell ⟨bo,n*2+1,none⟩ (.int .i64 (j:Int))).setCell ⟨co,n,none⟩ (.int .i64 ((cn:Int)+1))) B x:=by
 have:=s.step_out hc ha h1 h2;rw[hp,←hcn]at this
 refine⟨this,?_⟩
 have hF:Fr (fun x=>x=bo∨x=co) w (((w.setCell ⟨bo,n*2,none⟩ (.int .i64 (c:Int))).setCell ⟨bo,n*2+1,none⟩ (.int .i64 (j:Int))).setCell ⟨co,n,none⟩ (.int .i64 ((cn:Int)+1))):=
  (((Fr.refl _ w).setCell (.inl (.inl rfl)) _).setCell (.inl (.inl rfl)) _).setCell (.inl (.inr rfl)) _
 exact hB.kept hF fun h=>h.elim (hB.ne s.sh.ro (by decide)) (hB.ne s.rd (by decide))
set_option maxRecDepth 100000 in
set_option maxHeartbeats 2000000 in
theorem build_any(a:Option Addr)(c:Nat)(X:List Kn.Cr)(L:Int)(w:World)(hx:CrsAt w a X)(lx:X.length≤16):
 Calls Tryz.prog 23 #[.agg #[.slice a X.length c,.int .i64 L]] w (GaveSh (Kn.okB X) X L w):=by
 obtain⟨n,hn⟩:∃n,n=X.length:=⟨_,rfl⟩
 rw[←hn]
 have hn16:n≤16:=by omega
 have HN:=Lib.hid hn;have HX:=Lib.hid hx;clear hx lx hn
 have hmk2:∀w,(Instr.makeSlice 50 (.int .i64 (2*(n:Int)+1)) (.int .i64 (2*(n:Int)+1))).run Tryz.prog w=.ok (.slice (some ⟨w.heap.size,0,none⟩) (2*n+1) (2*n+1)) (w.alloc (.cells (madeCells #[.int .i64 0,.int .i64 0] ((2*n+1)*2)) 104)):=fun w=>by
  have:=make2 (2*n+1) (by omega) w
  rwa [show (((2*n+1:Nat)):Int)=2*(n:Int)+1 by omega]at this
 have hmk1:∀w,(Instr.makeSlice 78 (.int .i64 (2*(n:Int)+1)) (.int .i64 (2*(n:Int)+1))).run Tryz.prog w=.ok (.slice (some ⟨w.heap.size,0,none⟩) (2*n+1) (2*n+1)) (w.alloc (.cells (madeCells #[.int .i64 0] (2*n+1)) 3)):=fun w=>by
  have:=run_make_row' (P:=Tryz.prog) 78 3 (.int .i64 0) 8 Tryz.underlying78 Tryz.info3 rfl .i64 .i64 (2*n+1) (by omega) (by omega) w
  rwa [show (((2*n+1:Nat)):Int)=2*(n:Int)+1 by omega]at this
 have z1:IntKind.i64.wrap (2*(n:Int))=2*(n:Int):=IntWalk.i64_in _ (by omega);have z2:IntKind.i64.wrap (2*(n:Int)+1)=2*(n:Int)+1:=IntWalk.i64_in _ (by omega)
 go_enter Tryz.func23,Tryz.ntmps23
 go_wp2;have k1:(w.alloc (.cells #[.slice a n c,.int .i64 L] 24)).cell? ⟨w.heap.size,0,none⟩=some (.slice a n c):=cell_of_row _ _ 0 _ 24 (0,0) (heap_alloc_new _ _);have k2:(w.alloc (.cells #[.slice a n c,.int .i64 L] 24)).cell? ⟨w.heap.size,1,none⟩=some (.int .i64 L):=cell_of_row _ _ 1 _ 24 (0,0) (heap_alloc_new _ _);have HF0:Hid (New w (w.alloc (.cells #[.slice a n c,.int .i64 L] 24))):=Lib.hid ((Fr.refl _ _).alloc _)
 obtain⟨w1,hw1⟩:∃w1,w.alloc (.cells #[.slice a n c,.int .i64 L] 24)=w1:=⟨_,rfl⟩
 rw[hw1]at k1 k2 HF0 ⊢;clear hw1;have k3:=cell_alloc k1;have k4:=cell_alloc k2
 have k5:=fun o=>cell_alloc (k3 o)
 have k6:=fun o=>cell_alloc (k4 o)
 go_cut [5] (fun s5 wx=>Hid (Mid w w1 X L s5 wx))
 case first=>
  go_region_held3 (fun w'=>w'.cell? ⟨w.heap.size,0,none⟩=some (.slice a n c)∧w'.cell? ⟨w.heap.size,1,none⟩=some (.int .i64 L))
   (first|assumption|exact⟨cell_alloc ‹_›,cell_alloc ‹_›⟩|go_keep)
   (first
    |(go_at_call 33;refine(clone_n a n c X _ (New.crs (by repeat (first|exact HF0.out|refine Fr.drew ?_|refine Fr.alloc ?_ _)) HX.out) HN.out (by omega)).mono ?_;rintro e wt ⟨v,rfl,hown,hnt⟩;obtain⟨a',c',rfl,_⟩:=CrsAt.of_owns hown;have q0:New w1 wt:=Fr.trans (by repeat (first|exact Fr.refl _ _|refine Fr.drew ?_|refine Fr.alloc ?_ _)) hnt;have hks:wt.cell? ⟨w.heap.size,0,none⟩=some (.slice a n c)∧wt.cell? ⟨w.heap.size,1,none⟩=some (.int .i64 L):=⟨q0.cell k1 fun x=>x,q0.cell k2 fun x=>x⟩;clear q0;have HOW:=Lib.hid hown;have HNT:=Lib.hid (New.undrew hnt);clear hown hnt))
  all_goals
   go_wp2_with fail
   go_meet
   have s1:=HF0.out.size
   have hm:2*n+1=mArcs X:=by have:=HN.out;unfold mArcs;omega
   refine Lib.hid ?_
   first
    |exact midA s1 hm HOW.out s1 HNT.out (.inl ⟨rfl,rfl⟩)
    |exact midA s1 hm HOW.out s1 HNT.out (.inr ⟨rfl,rfl⟩)
    |exact midB s1 hm HOW.out (Nat.le_trans s1 (Nat.le_succ _)) HNT.out (.inl ⟨rfl,rfl⟩)
    |exact midB s1 hm HOW.out (Nat.le_trans s1 (Nat.le_succ _)) HNT.out (.inr ⟨rfl,rfl⟩)
    |(refine midB s1 hm HOW.out ?_ HNT.out (.inl ⟨rfl,rfl⟩);simp;omega)
    |(refine midB s1 hm HOW.out ?_ HNT.out (.inr ⟨rfl,rfl⟩);simp;omega)
    |(refine midC s1 hm HOW.out ?_ HNT.out (.inl ⟨rfl,rfl⟩);simp;omega)
    |(refine midC s1 hm HOW.out ?_ HNT.out (.inr ⟨rfl,rfl⟩);simp;omega)
 case rest=>
 obtain⟨b,v,bi,bo,rfl,hsh,hlb,hf1⟩:=Hid.out hcut
 obtain⟨w2,rfl⟩:∃w2,w2=wc:=⟨_,rfl⟩
 have HSH:=Lib.hid hsh;have HLB:=Lib.hid hlb;have HF1:=Lib.hid hf1;clear hcut hsh hlb hf1;go_wp2_with fail
 go_cut [6,7] (fun s6 s7 wx=>Hid (Mid2 w2 X s6 s7 wx))
 case first=>
  go_region_held3 (fun _=>True) (trivial) (first|fail)
  all_goals
   go_wp2_with fail
   go_meet
   have hm:2*n+1=mArcs X:=by have:=HN.out;unfold mArcs;omega
   refine Lib.hid ?_
   first
    |exact mid2 hm
    |exact mid2' hm
    |exact(mid2 hm).drew
    |exact(mid2' hm).drew
 case rest=>
 obtain⟨ci,co,rfl,rfl,hr,hf2⟩:=Hid.out hcut
 obtain⟨w3,rfl⟩:∃w2,w2=wc:=⟨_,rfl⟩
 have HR:=Lib.hid hr;have HF2:=Lib.hid hf2
 have k3:=hf2.cell (HF1.out.cell k1 fun x=>x) fun x=>x
 clear hcut hr hf2
 have HB0:Hid (BSt w w3 X L b v bi bo ci co w.heap.size (0*4)):=Lib.hid ⟨HF2.out.sh HSH.out,HR.out.1,HR.out.2.1,HR.out.2.2.1,HLB.out.1,HLB.out.2.1,HLB.out.2.2,
  Nat.le_trans (HF0.out.trans HF1.out).size HR.out.2.2.2.1,Nat.le_trans (HF0.out.trans HF1.out).size HR.out.2.2.2.2,(HF0.out.trans HF1.out).trans HF2.out,fun j hj=>by omega⟩
 have hmn:mArcs X=2*n+1:=by have:=HN.out;unfold mArcs;omega
 rw[hmn];have HMN:=Lib.hid hmn;clear hmn HR HF0 HF1 HF2 HSH HLB k1 k2;go_wp2
 go_loopw [43] (fun i wr=>∃k:Nat,k≤n∧i=.int .i64 k∧Hid (BSt w wr X L b v bi bo ci co w.heap.size (k*4))) (fun i _=>n-(intOf i).toNat)
 case atStart=>exact⟨0,by omega,rfl,HB0⟩
 case round=>
  obtain⟨k,hk,rfl,HB⟩:=hrel
  by_cases hlt:k<n
  · have hkl:k<X.length:=by have:=HN.out;omega
    obtain⟨b',o',rfl,hcx⟩:=(New.crs HB.out.new HX.out).at hkl
    obtain⟨x,HXk⟩:∃x,Hid (x=Kn.cr X k):=⟨_,Lib.hid rfl⟩
    rw[←HXk.out]at hcx;obtain⟨xa,xb,xc,xd,xp⟩:=x;obtain⟨d1,d2,d3,d4,d5⟩:=hcx;simp only at d1 d2 d3 d4 d5
    have i1:(0:Int)≤(k:Int):=by omega
    have i2:(k:Int)<(n:Int):=by omega
    go_wp2;clear d1 d2 d3 d4 d5
    obtain⟨wo,rfl⟩:∃wo,wo=wr:=⟨_,rfl⟩
    go_loopw [48] (fun s wr=>∃j:Nat,j≤4∧s=.int .i64 j∧Hid (BSt w wr X L b v bi bo ci co w.heap.size (k*4+j))∧Hid (XBox wr wo.heap.size ⟨xa,xb,xc,xd,xp⟩)) (fun s _=>4-(intOf s).toNat)
    case atStart=>exact⟨0,by omega,rfl,Lib.hid (New.bst ((Fr.refl _ wo).alloc _) HB.out),Lib.hid (XBox.new wo ⟨xa,xb,xc,xd,xp⟩)⟩
    case round=>
     obtain⟨j,hj,rfl,HBj,HBx⟩:=hrel
     by_cases hlj:j<4
     · obtain⟨q1,q2,q3,q4,q5⟩:=HBx.out.at
       simp only[Nat.zero_add]at q1 q2 q3 q4 q5
       have j1:(0:Int)≤(j:Int):=by omega
       have j2:(j:Int)<4:=by omega
       have hat:Hid (Kn.at_ X (Kn.pl (k*4+j))=arcI xa xb xc xd j):=Lib.hid (by rw[Kn.pl_mk hlj];unfold Kn.at_;simp only;rw[←HXk.out];rfl);have hcm:Hid (Kn.cm X (Kn.pl (k*4+j))=comesB xp j):=Lib.hid (by rw[Kn.pl_mk hlj];unfold Kn.cm;simp only;rw[←HXk.out];rfl)
       by_cases hr:1≤arcI xa xb xc xd j∧arcI xa xb xc xd j≤2*(n:Int)
       · obtain⟨na,hna⟩:∃na:Nat,(na:Int)=arcI xa xb xc xd j:=⟨(arcI xa xb xc xd j).toNat,by omega⟩
         rw[←hna]at hr
         have hna1:1≤na:=by omega
         have hna2:na≤2*n:=by omega
         have l1:(1:Int)≤(na:Int):=by omega
         have l2:(na:Int)≤2*(n:Int):=by omega
         have l3:(na:Int)<2*(n:Int)+1:=by omega
         have l4:na<2*n+1:=by omega
         have HNA:=Lib.hid hna;clear hna hr
         rcases Bool.eq_false_or_eq_true (comesB xp j)with hcv|hcv
         · have hcb:comesB xp j=true:=hcv
           have HCB:=Lib.hid (hcm.out.trans hcv)
           obtain⟨cn,HCN⟩:∃cn,Hid (cn=Kn.cnt X true (k*4+j) na):=⟨_,Lib.hid rfl⟩
           have hcn:cn≤64:=by have:=Kn.cnt_le X true na (k*4+j);rw[←HCN.out]at this;omega
           clear hcv
           go_wp2_with (first
            |(go_at_call 37;refine(arc_any xa xb xc xd xp j _ (by omega)).mono ?_;rintro e w4 ⟨rfl,hF⟩;rw[←HNA.out];have p1:=hF.cell q1 fun x=>x;have p2:=hF.cell q2 fun x=>x;have p3:=hF.cell q3 fun x=>x;have p4:=hF.cell q4 fun x=>x;have p5:=hF.cell q5 fun x=>x;have HF:=Lib.hid hF;clear hF)
            |(go_at_call 43;refine(comes_any xa xb xc xd xp j _ (by omega)).mono ?_;rintro e w5 ⟨rfl,hG⟩;rw[hcb];have HS5:=Lib.hid (New.bst (HF.out.trans hG) HBj.out);have HX5:=Lib.hid (HBx.out.kept (HF.out.trans hG) fun x=>x);clear hG;obtain⟨f1,f2,f3,f4,f5,f6,f7⟩:=HS5.out.facts_in (n:=na) (by have:=HN.out;omega);rw[HMN.out]at f1;rw[←HCN.out]at f6))
           go_roundw
           case rel=>
            obtain⟨g1,g2⟩:=HS5.out.step_in' HCB.out (hat.out.trans HNA.out.symm) hna1 (by have:=HN.out;omega) (Kn.pl_mk hlj) HCN.out HX5.out
            exact⟨j+1,by omega,by go_num,Lib.hid g1,Lib.hid g2⟩
           case measure=>simp[intOf];omega
         · have hcb:comesB xp j=false:=hcv
           have HCB:=Lib.hid (hcm.out.trans hcv)
           obtain⟨cn,HCN⟩:∃cn,Hid (cn=Kn.cnt X false (k*4+j) na):=⟨_,Lib.hid rfl⟩
           have hcn:cn≤64:=by have:=Kn.cnt_le X false na (k*4+j);rw[←HCN.out]at this;omega
           clear hcv
           go_wp2_with (first
            |(go_at_call 37;refine(arc_any xa xb xc xd xp j _ (by omega)).mono ?_;rintro e w4 ⟨rfl,hF⟩;rw[←HNA.out];have p1:=hF.cell q1 fun x=>x;have p2:=hF.cell q2 fun x=>x;have p3:=hF.cell q3 fun x=>x;have p4:=hF.cell q4 fun x=>x;have p5:=hF.cell q5 fun x=>x;have HF:=Lib.hid hF;clear hF)
            |(go_at_call 43;refine(comes_any xa xb xc xd xp j _ (by omega)).mono ?_;rintro e w5 ⟨rfl,hG⟩;rw[hcb];have HS5:=Lib.hid (New.bst (HF.out.trans hG) HBj.out);have HX5:=Lib.hid (HBx.out.kept (HF.out.trans hG) fun x=>x);clear hG;obtain⟨f1,f2,f3,f4,f5,f6,f7⟩:=HS5.out.facts_out (n:=na) (by have:=HN.out;omega);rw[HMN.out]at f1;rw[←HCN.out]at f6))
           go_roundw
           case rel=>
            obtain⟨g1,g2⟩:=HS5.out.step_out' HCB.out (hat.out.trans HNA.out.symm) hna1 (by have:=HN.out;omega) (Kn.pl_mk hlj) HCN.out HX5.out
            exact⟨j+1,by omega,by go_num,Lib.hid g1,Lib.hid g2⟩
           case measure=>simp[intOf];omega
       · obtain⟨y,HY⟩:∃y,Hid (y=arcI xa xb xc xd j):=⟨_,Lib.hid rfl⟩
         rw[←HY.out]at hr
         have hno:Kn.okB X=false:=by
          rw[Bool.eq_false_iff]
          intro h
          have:=((Kn.okB_iff X).1 h).1 (k*4+j) (by omega);rw[hat.out,←HY.out]at this
          unfold Kn.nArcs at this
          have:=HN.out
          omega
         have HNO:=Lib.hid hno;clear hno
         by_cases hy:y<1
         rotate_left
         focus
          have hy2:2*(n:Int)<y:=by omega
         all_goals
          clear hr
          go_wp2_with (go_at_call 37;refine(arc_any xa xb xc xd xp j _ (by omega)).mono ?_;rintro e w4 ⟨rfl,hF⟩;rw[←HY.out];have HF:=Lib.hid hF;clear hF)
          go_ret2
          exact⟨HBj.out.new.trans HF.out,.inr ⟨HNO.out,rfl⟩⟩
     · obtain rfl:j=4:=by omega
       go_wp2
       go_roundw
       case rel=>exact⟨k+1,by omega,by go_num,by rw[Nat.succ_mul];exact HBj⟩
       case measure=>simp[intOf];omega
  · obtain rfl:k=n:=by omega
    have HK:=Lib.hid (show k*4=4*X.length by have:=HN.out;omega);go_wp2
    obtain⟨wo,rfl⟩:∃wo,wo=wr:=⟨_,rfl⟩
    go_loop [12] (fun i=>∃q:Nat,1≤q∧q≤2*k+1∧i=.int .i64 q∧Hid (Kn.once X (q-1))) (fun i=>(2*k+1)-(intOf i).toNat)
    case atStart=>exact⟨1,by omega,by omega,rfl,Lib.hid (fun a h1 h2=>by omega)⟩
    case round=>
     obtain⟨q,hq1,hq2,rfl,HO⟩:=hrel
     by_cases hq:q≤2*k
     · have hc:=HB.out.rc.cell (i:=q) (by have:=HMN.out;omega)
       have hd:=HB.out.rd.cell (i:=q) (by have:=HMN.out;omega)
       obtain⟨c1,HC1⟩:∃c,Hid (c=Kn.cnt X true (k*4) q):=⟨_,Lib.hid rfl⟩
       obtain⟨c2,HC2⟩:∃c,Hid (c=Kn.cnt X false (k*4) q):=⟨_,Lib.hid rfl⟩
       unfold numFn at hc hd
       rw[←HC1.out]at hc;rw[←HC2.out]at hd
       have l1:(0:Int)≤(q:Int):=by omega
       have l2:(q:Int)≤2*(k:Int):=by omega
       have l3:(q:Int)<2*(k:Int)+1:=by omega
       by_cases h1:c1=1
       · have H1:=Lib.hid h1
         subst h1
         by_cases h2:c2=1
         · have H2:=Lib.hid h2
           subst h2;go_wp2
           go_round
           case rel=>
            refine⟨q+1,by omega,by omega,by go_num,Lib.hid fun a h1 h2=>?_⟩
            by_cases e:a=q
            · subst e
              rw[←HK.out]
              exact⟨HC1.out.symm,HC2.out.symm⟩
            · exact HO.out a h1 (by omega)
           case measure=>simp[intOf];omega
         · have e1:((c2:Int) != 1)=true:=by simp;omega
           have hno:Kn.okB X=false:=by
            rw[Bool.eq_false_iff]
            intro h
            have:=((Kn.okB_iff X).1 h).2 q hq1 (by unfold Kn.nArcs;have:=HN.out;omega);rw[←HK.out,←HC2.out]at this
            exact h2 this.2
           have HNO:=Lib.hid hno;clear hno h2;go_wp2;go_ret2
           exact⟨HB.out.new,.inr ⟨HNO.out,rfl⟩⟩
       · have e1:((c1:Int) != 1)=true:=by simp;omega
         have hno:Kn.okB X=false:=by
          rw[Bool.eq_false_iff]
          intro h
          have:=((Kn.okB_iff X).1 h).2 q hq1 (by unfold Kn.nArcs;have:=HN.out;omega);rw[←HK.out,←HC1.out]at this
          exact h1 this.1
         have HNO:=Lib.hid hno;clear hno h1;go_wp2;go_ret2
         exact⟨HB.out.new,.inr ⟨HNO.out,rfl⟩⟩
     · obtain rfl:q=2*k+1:=by omega
       have hyes:Hid (Kn.okB X=true):=Lib.hid ((Kn.okB_iff X).2 ⟨by rw[←HK.out];exact HB.out.rng,by
        have:=HO.out;rw[Nat.add_sub_cancel]at this
        unfold Kn.nArcs
        rw[←HN.out];exact this⟩)
       go_wp2;go_ret2;have hsh:=HB.out.sh;rw[HK.out]at hsh
       exact⟨HB.out.new,.inl ⟨hyes.out,b,rfl,⟨v,bi,bo,w.heap.size,hsh⟩,HB.out.lb,v,bi,bo,w.heap.size,hsh,Nat.le_refl _⟩⟩
end Go.Proofs.YtlicglicfijelaaGreat
