/- Lists in form with the numbers of a diagram: plain mathematics. -/
import Derived.Test.YtlicglicfijelaaGreatK2
import Derived.Test.YtlicglicfijelaaGreatK4
import Derived.Test.YtlicglicfijelaaGreatN8a
import Derived.Test.YtlicglicfijelaaGreatS3
import Derived.Test.YtlicglicfijelaaGreatN9
import Derived.Test.YtlicglicfijelaaGreatMAll
/- Lists in form with the numbers of a diagram: plain mathematics. -/
namespace Go.Proofs.YtlicglicfijelaaGreat
open Go.RowKit
open Kn (E2 L2 cf tt szL exB ofL F2 sumT insT)

structure HomF(X:List Kn.Cr)(L:Nat)(l:L2):Prop where
 form:F2 l
 num:∀a,cf l a=cf (ofL 100 X L) a
theorem HomF.uniq{X:List Kn.Cr}{L:Nat}{l m:L2}(h:HomF X L l)(k:HomF X L m):l=m:=h.form.uniq k.form fun a=>by rw[h.num,k.num]
structure Gd(X:List Kn.Cr)(L:Nat):Prop where
 ok:Kn.Ok X
 pl:Kn.planarB X=true
 len:X.length≤8
 some:0<X.length+L
 few:L≤16
theorem Gd.strands{X:List Kn.Cr}{L:Nat}(h:Gd X L):(Kn.strandsL X).length≤2*X.length∧1≤(Kn.strandsL X).length+L:=by
 obtain⟨h1,h2⟩:=strands_few h.ok;have:=h.some
 refine⟨h1,?_⟩
 by_cases c:X.length=0
 · omega
 · have:=h2 (by omega);omega
theorem HomF.hv{X:List Kn.Cr}{L:Nat}{l:L2}(h:HomF X L l)(g:Gd X L)(a:E2):cf l a=(Kn.hv Kn.K2.toCA g.ok L).1 a:=by
 rw[h.num]
 refine Kn.ofL_hv 100 g.ok L g.pl g.strands.2 ?_ a
 have h1:=g.ok.bX_le;have h2:X.length*X.length≤8*8:=Nat.mul_le_mul g.len g.len;have:=g.len
 omega
theorem HomF.sz{X:List Kn.Cr}{L:Nat}{l:L2}(h:HomF X L l)(g:Gd X L):szL l≤Kn.sN X.length*2 ^ (3*X.length+L):=by
 refine Nat.le_trans (h.form.sz h.num) (Nat.le_trans (Kn.ofL_sz 100 g.ok L).1 (Nat.mul_le_mul (Kn.lv_le g.ok.bX_le) (Nat.pow_le_pow_right (by omega) ?_)))
 have:=g.strands.1
 omega
theorem HomF.ex{X:List Kn.Cr}{L:Nat}{l:L2}(h:HomF X L l)(g:Gd X L):exB 282 l:=by
 refine h.form.ex h.num ((Kn.ofL_sz 100 g.ok L).2.mono ?_)
 have:=g.strands.1;have:=g.len;have:=g.few
 omega
theorem F2.few{R:Nat}{l:L2}(h:F2 l)(he:exB R l):l.length≤(2*R+1)*(2*R+1):=by
 have h1:(l.map Prod.fst).Nodup:=by
  rw[List.nodup_iff_pairwise_ne,List.pairwise_map]
  refine h.ord.imp fun {a b} hab e=>?_
  rw[e]at hab
  exact Kn.lt2_irr _ hab
 have:=pows_few h1 fun p hp=>by
  obtain⟨t,ht,rfl⟩:=List.mem_map.1 hp
  exact he t ht
 simpa using this
theorem sN_two{n m:Nat}(h:n+m≤8):Kn.sN n*Kn.sN m≤109601:=by
 have gen:∀n,n<9→∀m,m<9→n+m≤8→Kn.sN n*Kn.sN m≤109601:=by decide +kernel
 exact gen n (by omega) m (by omega) h
theorem HomF.sz1{X:List Kn.Cr}{L:Nat}{p:L2}(hp:HomF X L p)(g:Gd X L):szL p≤120508569176408064:=by
 have h1:=hp.sz g;have h2:2 ^ (3*X.length+L)≤2 ^ 40:=Nat.pow_le_pow_right (by omega) (by have:=g.len;have:=g.few;omega);have h4:=sN_two (n:=X.length) (m:=0) (by have:=g.len;omega);rw[show Kn.sN 0=1 from rfl,Nat.mul_one]at h4
 exact Nat.le_trans h1 (Nat.le_trans (Nat.mul_le_mul h4 h2) (by decide))
end Go.Proofs.YtlicglicfijelaaGreat

/- Walks: the trefoil. -/
namespace Go.Proofs.YtlicglicfijelaaGreat
open Go.RowKit

set_option maxRecDepth 20000 in
theorem trefoil_any(w:World):
 Calls Tryz.prog 5 #[] w (fun e w'=>∃a c,e=.returned (.agg #[.slice a 3 c,.int .i64 0])∧CrsAt w' a Kn.trefoil∧New w w'):=by
 go_enter Tryz.func5,Tryz.ntmps5
 go_wp2;have hN:=((Fr.refl (fun _=>False) w).alloc (.cells #[.slice (some ⟨w.heap.size+1,0,none⟩) 3 3,.int .i64 0] 24)).alloc (.cells #[.int .i64 1,.int .i64 4,.int .i64 2,.int .i64 5,.bool false,.int .i64 3,.int .i64 6,.int .i64 4,.int .i64 1,.bool false,.int .i64 5,.int .i64 2,.int .i64 6,.int .i64 3,.bool false] 41)
 have hb:=heap_alloc_new (w.alloc (.cells #[.slice (some ⟨w.heap.size+1,0,none⟩) 3 3,.int .i64 0] 24)) (.cells #[.int .i64 1,.int .i64 4,.int .i64 2,.int .i64 5,.bool false,.int .i64 3,.int .i64 6,.int .i64 4,.int .i64 1,.bool false,.int .i64 5,.int .i64 2,.int .i64 6,.int .i64 3,.bool false] 41)
 have hr:=((Fr.refl (fun _=>False) (w.alloc (.cells #[.slice (some ⟨w.heap.size+1,0,none⟩) 3 3,.int .i64 0] 24))).alloc (.cells #[.int .i64 1,.int .i64 4,.int .i64 2,.int .i64 5,.bool false,.int .i64 3,.int .i64 6,.int .i64 4,.int .i64 1,.bool false,.int .i64 5,.int .i64 2,.int .i64 6,.int .i64 3,.bool false] 41)).blk (heap_alloc_new _ _) fun x=>x
 obtain⟨m5,m6,_,_⟩:=box2_c hr;rw[World.size_alloc]at hb
 refine bodyPost_ret (v:=.agg #[.slice (some ⟨w.heap.size+1,0,none⟩) 3 3,.int .i64 0]) (by simp[results,Tryz.results5,go_sem,m5,m6]) rfl ⟨_,_,rfl,?_,hN⟩
 refine .inr ⟨_,_,rfl,fun i hi=>?_⟩
 match i,hi with
 |0,_=>exact⟨cell_of_row _ _ 0 _ 41 (0,0) hb,cell_of_row _ _ 1 _ 41 (0,0) hb,cell_of_row _ _ 2 _ 41 (0,0) hb,cell_of_row _ _ 3 _ 41 (0,0) hb,cell_of_row _ _ 4 _ 41 (0,0) hb⟩
 |1,_=>exact⟨cell_of_row _ _ 5 _ 41 (0,0) hb,cell_of_row _ _ 6 _ 41 (0,0) hb,cell_of_row _ _ 7 _ 41 (0,0) hb,cell_of_row _ _ 8 _ 41 (0,0) hb,cell_of_row _ _ 9 _ 41 (0,0) hb⟩
 |2,_=>exact⟨cell_of_row _ _ 10 _ 41 (0,0) hb,cell_of_row _ _ 11 _ 41 (0,0) hb,cell_of_row _ _ 12 _ 41 (0,0) hb,cell_of_row _ _ 13 _ 41 (0,0) hb,cell_of_row _ _ 14 _ 41 (0,0) hb⟩
end Go.Proofs.YtlicglicfijelaaGreat

/- Words for the laws: picked, Homfly's answer, the trefoil. -/
namespace Go.Proofs.YtlicglicfijelaaGreat
open Go.RowKit
open Kn (E2 L2 cf tt szL exB ofL F2 sumT insT)

def pick(n m:Int):Int:=if n<0 then -(n+1).tmod m else n%m
theorem pick_range{n m:Int}(h0:1≤m):0≤pick n m∧pick n m<m:=by
 unfold pick
 split
 · rw[←Int.neg_tmod]
   exact⟨Int.tmod_nonneg _ (by omega),Int.tmod_lt_of_pos _ (by omega)⟩
 · exact⟨Int.emod_nonneg _ (by omega),Int.emod_lt_of_pos _ (by omega)⟩
set_option maxHeartbeats 400000 in
theorem picked_any(n m:Int)(w:World)(hn:-9223372036854775808≤n)(hn':n≤9223372036854775807)(h0:1≤m)(hm:m≤1000):
 Calls Tryz.prog 8 #[.int .i64 n,.int .i64 m] w fun e w'=>e=.returned (.int .i64 (pick n m))∧w=w':=by
 by_cases h:n<0
 · go_enter Tryz.func8,Tryz.ntmps8
   go_wp2;go_ret
   exact⟨ret_int (by unfold pick;rw[if_pos h]),rfl⟩
 · go_enter Tryz.func8,Tryz.ntmps8
   go_wp2;go_ret
   exact⟨ret_int (by unfold pick;rw[if_neg (by omega)]),rfl⟩
theorem picked_nat(n:Int)(m:Nat)(hn:-9223372036854775808≤n)(hn':n≤9223372036854775807)(h0:1≤m)(hm:m≤1000):
 ∃k:Nat,k<m∧∀w,Calls Tryz.prog 8 #[.int .i64 n,.int .i64 (m:Nat)] w fun e w'=>e=.returned (.int .i64 (k:Nat))∧w'=w:=by
 obtain⟨h1,h2⟩:=pick_range (n:=n) (m:=m) (by omega)
 refine⟨(pick n m).toNat,by omega,fun w=>?_⟩
 rw[show (((pick n m).toNat:Nat):Int)=pick n m by omega]
 exact(picked_any n m w hn hn' (by omega) (by omega)).mono fun _ _ h=>⟨h.1,h.2.symm⟩
theorem T2At.of_owns{w:World}{base m c:Nat}{a:Option Addr}{l:L2}(h:w.ownsRow base 63 3 (.slice a m c) m (tcells l))(hm:m=l.length):T2At w a l:=by
 rcases h.2 with⟨e,h0⟩|⟨g,cap,cur,e,_⟩
 · exact .inl (List.eq_nil_of_length_eq_zero (by omega))
 · injection e with e1 _ _
   subst e1
   refine .inr ⟨g,0,rfl,fun i hi=>?_⟩
   obtain⟨y1,y2,y3⟩:=trow_cell h hi;rw[Nat.zero_add]
   exact⟨y1,y2,y3⟩
theorem ho_gd{X:List Kn.Cr}{L:Int}(h:hoC X L=0):∃Ln:Nat,L=(Ln:Int)∧Gd X Ln∧Kn.mayB X L=true:=by
 obtain⟨h1,h2,h3,h4,h5,h6⟩:=hoC_ok h
 refine⟨L.toNat,by omega,⟨h1,h6,h2,?_,by omega⟩,?_⟩
 · by_cases c:X.length=0
   · have:=h5 c;omega
   · omega
 · unfold Kn.mayB
   have h7:=(Kn.ok_iff X).2 h1
   have h8:X.length≤16:=by omega
   have key:(decide (X.length=0)&&decide (L=0))=false:=by
    by_cases c:X.length=0
    · rw[decide_eq_false (h5 c),Bool.and_false]
    · rw[decide_eq_false c,Bool.false_and]
   rw[h7,key,decide_eq_true h8,decide_eq_true h3,decide_eq_true h4];rfl
theorem gd_ho{X:List Kn.Cr}{L:Nat}(g:Gd X L):hoC X L=0∧Kn.mayB X L=true:=by
 have hm:Kn.mayB X (L:Int)=true:=by
  unfold Kn.mayB
  have h1:=g.some;have h2:=g.len;have h3:=g.few;have h7:=(Kn.ok_iff X).2 g.ok
  have h8:X.length≤16:=by omega
  have h9:(0:Int)≤(L:Int):=by omega
  have h10:(L:Int)≤16:=by omega
  have key:(decide (X.length=0)&&decide ((L:Int)=0))=false:=by
   by_cases c:X.length=0
   · rw[decide_eq_false (show ¬(L:Int)=0 by omega),Bool.and_false]
   · rw[decide_eq_false c,Bool.false_and]
  rw[h7,key,decide_eq_true h8,decide_eq_true h9,decide_eq_true h10];rfl
 refine⟨?_,hm⟩
 have h2:=g.len
 unfold hoC opC
 rw[hm,g.pl,if_pos rfl,if_pos rfl,if_pos rfl,if_neg (by omega)]
def GotT(X:List Kn.Cr)(L:Int)(w:World)(e:Ending)(w':World):Prop:=
 New w w'∧((hoC X L=0∧∃a m c l,e=.returned (.tuple #[.slice a m c,.int .i64 0])∧m≤1000000∧Hid (m=l.length)∧Hid (T2At w' a l)∧Hid (HomF X L.toNat l))∨(hoC X L≠0∧e=.returned (.tuple #[.slice none 0 0,.int .i64 (hoC X L)])))
theorem homfly_got(a:Option Addr)(n c:Nat)(X:List Kn.Cr)(L:Int)(w:World)(hx:CrsAt w a X)(hn:n=X.length)(lx:n≤9223372036854775807)(l1:-9223372036854775808≤L)(l2:L≤9223372036854775807):
 Calls Tryz.prog 4 #[.agg #[.slice a n c,.int .i64 L]] w (GotT X L w):=by
 refine(homfly_any a n c X L w hx hn lx l1 l2).mono ?_;rintro e w' ⟨hF,⟨h1,v,l,rfl,h2,h3,h4⟩|h⟩
 · obtain⟨a',c',rfl,_⟩:=own_shape2 h2.out
   exact⟨hF,.inl ⟨h1,a',l.length,c',l,rfl,h4,Lib.hid rfl,Lib.hid (T2At.of_owns h2.out rfl),Lib.hid ⟨h3.out.1,h3.out.2⟩⟩⟩
 · exact⟨hF,.inr h⟩
theorem tref_gd:Gd Kn.trefoil 0:=⟨(Kn.ok_iff _).1 Kn.trefoil_ok,Kn.trefoil_planar,by decide,by decide,by decide⟩
def trefT:L2:=sumT [] (ofL 100 Kn.trefoil 0) (0,0) 1
theorem trefT_len:trefT.length=3:=by decide +kernel
theorem tref_len{l:L2}(h:HomF Kn.trefoil 0 l):l.length=3:=by
 have:trefT=l:=(Kn.sumT_F2 _ _ _ .nil).uniq h.form fun a=>by
  have e:a-((0,0):E2)=a:=Prod.ext (by show a.1-0=a.1;omega) (by show a.2-0=a.2;omega)
  show cf (sumT [] (ofL 100 Kn.trefoil 0) (0,0) 1) a=_
  rw[Kn.sumT_cf,Int.one_mul,show cf [] a=0 from rfl,Int.zero_add,e,h.num]
 rw[←this,trefT_len]
theorem same_yes(a a':Option Addr)(n n' c c':Nat)(x:L2)(w:World)(hx:T2At w a x)(hy:T2At w a' x)(hn:n=x.length)(hn':n'=x.length)(lx:n≤1000000)(ly:n'≤1000000):
 Calls Tryz.prog 7 #[.slice a n c,.slice a' n' c'] w fun e w'=>e=.returned (.bool true)∧New w w':=by
 refine(sametwos_any a a' n n' c c' x x w hx hy hn hn' lx ly).mono ?_;rintro e w' ⟨rfl,h⟩
 exact⟨by simp,h⟩
end Go.Proofs.YtlicglicfijelaaGreat

/- Walks: Without, where the strands go on. -/
namespace Go.Proofs.YtlicglicfijelaaGreat
open Go.RowKit

theorem tie_val{X:List Kn.Cr}(hX:Kn.Ok X){k:Nat}(hk:k<X.length):tieV (Kn.cr X k)=.agg #[.int .i64 (Kn.arcN X (k,0):Nat),.int .i64 (Kn.arcN X (k,2):Nat),.int .i64 (Kn.arcN X (k,Kn.over (Kn.cr X k).p):Nat),.int .i64 (Kn.arcN X (k,(Kn.over (Kn.cr X k).p+2)%4):Nat)]:=by
 obtain⟨f1,f2,f3,f4,_⟩:=arc_nat hX hk
 unfold tieV upA upB
 cases (Kn.cr X k).p
 · simp only[Bool.false_eq_true,if_false,f1,f2,f3,f4,Kn.over]
 · simp only[if_true,f1,f2,f3,f4,Kn.over]
theorem withoutT_any(b g ng cg:Nat)(gs:List Int)(gone:Nat→Bool)(X:List Kn.Cr)(L:Int)(w:World)(h:ShAt w b X L)(hX:Kn.Ok X)(hl:X.length≤16)(l1:-1000≤L)(l2:L≤1000)(hg:IntsAt w g gs)(hng:ng=gs.length)(hn16:ng≤16)
 (hgone:∀c,c<X.length→gone c=decide ((c:Int)∈gs)):
 Calls Tryz.prog 20 #[.pointer (some ⟨b,0,none⟩),.func (.func 101) #[] #[],.slice (some ⟨g,0,none⟩) ng cg] w (GaveWith (Kn.takeL X gone) (L+Kn.takeN X gone) w):=
 without_any b g ng cg gs gone X L w h hX hl l1 l2 hg hng hn16 hgone 101 (fun args w=>by kernel_rfl) (Kn.classF X gone) (fun k=>Kn.arcN X (k,0)) (fun k=>Kn.arcN X (k,2)) (fun k=>Kn.arcN X (k,Kn.over (Kn.cr X k).p)) (fun k=>Kn.arcN X (k,(Kn.over (Kn.cr X k).p+2)%4))
  rfl (fun k hk=>if_neg (by simp[hk])) (fun k _ hk=>if_pos hk) ⟨_,hX.class_rep gone _ (Nat.le_refl _)⟩
  (fun k _ u hu=>by
   simp only[List.mem_cons,List.not_mem_nil,or_false]at hu
   rcases hu with rfl|rfl|rfl|rfl
   · exact⟨0,by omega,rfl⟩
   · exact⟨2,by omega,rfl⟩
   · exact⟨_,Kn.over_lt _,rfl⟩
   · exact⟨_,Nat.mod_lt _ (by omega),rfl⟩)
  (fun k hk w=>by rw[←tie_val hX hk];exact through_any _ w)
end Go.Proofs.YtlicglicfijelaaGreat

/- Walks: words for a bench; isCross, over, Tail. -/
namespace Go.Proofs.YtlicglicfijelaaGreat
open Go.RowKit

structure BeAt(w:World)(b s:Nat)(fv:Value)(X:List Kn.Cr)(L:Int):Prop where
 blk:w.heap[b]?=some (.cells #[.pointer (some ⟨s,0,none⟩),fv] 90 (0,0))
 sh:ShAt w s X L
theorem BeAt.new{w w':World}{b s:Nat}{fv:Value}{X:List Kn.Cr}{L:Int}(h:BeAt w b s fv X L)(k:New w w'):BeAt w' b s fv X L:=⟨k.blk h.blk fun x=>x,k.shAt h.sh⟩
theorem BeAt.c{w:World}{b s:Nat}{fv:Value}{X:List Kn.Cr}{L:Int}(h:BeAt w b s fv X L):w.cell? ⟨b,0,none⟩=some (.pointer (some ⟨s,0,none⟩))∧w.cell? ⟨b,1,none⟩=some fv:=
 ⟨cell_of_row _ _ 0 _ 90 (0,0) h.blk,cell_of_row _ _ 1 _ 90 (0,0) h.blk⟩
def isCr(X:List Kn.Cr)(c:Int):Bool:=decide (0≤c)&&decide (c<X.length)
set_option maxRecDepth 100000 in
set_option maxHeartbeats 1000000 in
theorem isCross_any(b s:Nat)(fv:Value)(X:List Kn.Cr)(L:Int)(c:Int)(w:World)(h:BeAt w b s fv X L)(hl:X.length≤16):
 Calls Tryz.prog 77 #[.pointer (some ⟨b,0,none⟩),.int .i64 c] w (fun e w'=>e=.returned (.bool (isCr X c))∧w'=w):=by
 obtain⟨a,cc,h0,_,_⟩:=h.sh.crs;obtain⟨c0,_⟩:=h.c
 obtain⟨n,hn⟩:∃n,n=X.length:=⟨_,rfl⟩
 unfold isCr
 rw[←hn]at h0 hl ⊢;clear h hn
 go_enter Tryz.func77,Tryz.ntmps77
 by_cases hc:0≤c
 · have hb:decide (0≤c)=true:=decide_eq_true hc
   go_wp2;go_ret
   exact⟨ret_bool (by simp[hc]),rfl⟩
 · have hb:decide (0≤c)=false:=decide_eq_false hc
   go_wp2;go_ret
   exact⟨ret_bool (by simp[hc]),rfl⟩
def ovA(X:List Kn.Cr)(a:Nat):Bool:=decide ((Kn.inP X a).2%2=1)&&decide ((Kn.outP X a).2%2=1)
def ovB(X:List Kn.Cr)(a:Nat):Bool:=(!decide ((Kn.inP X a).2%2=1)) && !decide ((Kn.outP X a).2%2=1)
theorem emod2(k:Nat):((k:Int)%2==1)=decide (k%2=1):=by
 rw[Bool.eq_iff_iff,beq_iff_eq,decide_eq_true_eq];omega
set_option maxRecDepth 100000 in
set_option maxHeartbeats 2000000 in
theorem over_any(b s:Nat)(fv:Value)(X:List Kn.Cr)(L:Int)(a:Nat)(w:World)(h:BeAt w b s fv X L)(hl:X.length≤16)(ha:Kn.isArc X a):
 Calls Tryz.prog 88 #[.pointer (some ⟨b,0,none⟩),.int .i64 a] w (fun e w'=>e=.returned (.tuple #[.bool (ovA X a),.bool (ovB X a)])∧New w w'):=by
 have hn0:0<X.length:=by have:=ha.1;have:=ha.2;unfold Kn.nArcs at this;omega
 obtain⟨n,bx,ox,cc,bi,bo,r⟩:=h.sh.read hn0
 have hal:a<2*n+1:=by have:=ha.2;unfold Kn.nArcs at this;have:=r.len;omega
 have i1:(0:Int)≤(a:Int):=by omega
 have i2:(a:Int)<2*(n:Int)+1:=by omega
 obtain⟨c0,_⟩:=h.c;obtain⟨g1,g2⟩:=r.pi a hal;obtain⟨k1,k2⟩:=r.po a hal;have g0:=r.c2;have k0:=r.c3
 obtain⟨x,HX⟩:∃x,Hid ((Kn.inP X a).2=x):=⟨_,Lib.hid rfl⟩
 obtain⟨y,HY⟩:∃y,Hid ((Kn.outP X a).2=y):=⟨_,Lib.hid rfl⟩
 rw[HX.out]at g2;rw[HY.out]at k2
 obtain⟨p,HP⟩:∃p,Hid (decide (x%2=1)=p):=⟨_,Lib.hid rfl⟩
 obtain⟨q,HQ⟩:∃q,Hid (decide (y%2=1)=q):=⟨_,Lib.hid rfl⟩
 have hp:((x:Int)%2==1)=p:=(emod2 x).trans HP.out;have hq:((y:Int)%2==1)=q:=(emod2 y).trans HQ.out
 have HR:Hid (ovA X a=(p&&q)∧ovB X a=(!p && !q)):=Lib.hid (by
  unfold ovA ovB
  rw[HX.out,HY.out,HP.out,HQ.out];exact⟨rfl,rfl⟩)
 rw[HR.out.1,HR.out.2];clear r h ha
 go_enter Tryz.func88,Tryz.ntmps88
 obtain⟨r1,H1⟩:∃r,Hid ((p&&q)=r):=⟨_,Lib.hid rfl⟩
 obtain⟨r2,H2⟩:∃r,Hid ((!p && !q)=r):=⟨_,Lib.hid rfl⟩
 rw[H1.out,H2.out]
 cases p<;>cases q
 rotate_left
 rotate_left
 rotate_left
 all_goals
  go_wp2_with fail
  go_quiet (fail)
  go_wp2;go_ret2
  exact⟨by rw[←H1.out,←H2.out];rfl,(Fr.refl _ _).drewN _⟩
theorem tail_any(b a:Nat)(back:Bool)(X:List Kn.Cr)(L:Int)(w:World)(h:ShAt w b X L)(hl:X.length≤16)(ha:Kn.isArc X a):
 Calls Tryz.prog 87 #[.pointer (some ⟨b,0,none⟩),.agg #[.int .i64 a,.bool back]] w (GavePl (Kn.head X (a,!back)) w):=by
 obtain⟨p,HP⟩:∃p,Hid (Kn.head X (a,!back)=p):=⟨_,Lib.hid rfl⟩
 rw[HP.out];obtain⟨x,y⟩:=p;have H:=Lib.hid h;have HA:=Lib.hid ha;clear h ha
 go_enter Tryz.func87,Tryz.ntmps87
 go_wp2_with fail;have hz:=heap_alloc_new (w.alloc (.cells #[.int .i64 (a:Int),.bool back] 26)) (.cells #[.int .i64 0,.int .i64 0] 104);rw[World.size_alloc]at hz;have HZ:=Lib.hid hz;have HN:=Lib.hid (((Fr.refl (fun _=>False) w).alloc (.cells #[.int .i64 (a:Int),.bool back] 26)).alloc (.cells #[.int .i64 0,.int .i64 0] 104));clear hz;refine(head_any b a (!back) X L _ (New.shAt HN.out H.out) hl HA.out).mono ?_;rintro e w4 ⟨rfl,hF⟩;rw[HP.out];have HR:=Lib.hid (hF.blk HZ.out fun x=>x);have HF:=Lib.hid (HN.out.trans hF);clear hF
 obtain⟨m1,m2,m3,m4,m5,m6⟩:=res2 HR.out;go_wp2
 refine bodyPost_ret (v:=.agg #[.int .i64 (x:Int),.int .i64 (y:Int)]) (by simp[results,Tryz.results87,go_sem,m5,m6]) rfl ⟨rfl,?_⟩
 exact(HF.out.setCell (.inr (Nat.le_succ _)) _).setCell (.inr (Nat.le_succ _)) _
end Go.Proofs.YtlicglicfijelaaGreat
