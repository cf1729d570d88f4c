/- Walks: need; what Do defers. -/
import Derived.Defers
import Derived.Recover
import Derived.Test.YtlicglicfijelaaGreatN4
import Derived.Test.YtlicglicfijelaaGreatW9N
import Derived.Test.YtlicglicfijelaaGreatN2
import Derived.Test.YtlicglicfijelaaGreatTK
/- Walks: need; what Do defers. -/
namespace Go.Proofs.YtlicglicfijelaaGreat
open Go.RowKit
theorem need_yes(e:Int)(w:World):Calls Tryz.prog 73 #[.bool true,.int .i64 e] w (fun r w'=>r=.returned (.tuple #[])∧w'=w):=by
 go_enter Tryz.func73,Tryz.ntmps73
 go_wp2;go_end0
 exact⟨rfl,rfl⟩
abbrev wrongP(e:Int):List PanicEntry:=[{ v:=.iface 86 (.agg #[.int .i64 e]),recovered:=false }]
theorem need_no(e:Int)(w:World):Calls Tryz.prog 73 #[.bool false,.int .i64 e] w (fun r w'=>r=.panicked (wrongP e)∧w'=w):=by
 go_enter Tryz.func73,Tryz.ntmps73
 go_wp2
 exact⟨rfl,rfl,rfl⟩
set_option maxRecDepth 100000 in
set_option maxHeartbeats 1000000 in
theorem do1_idle(bo bq:Nat)(w:World):
 CallsD Tryz.prog 32 #[.pointer (some ⟨bo,0,none⟩),.pointer (some ⟨bq,0,none⟩)] .returning w fun e u' w'=>e=.returned (.tuple #[])∧u'=.returning∧w'=w:=by
 refine callsD_of_wpS Tryz.func32 rfl fun c₀ cs hu=>?_
 apply wpS_seq
 apply wpS_region
 simp[wpOpsS,go_sem,recoverD,hu,Tryz.ntmps32,Exit.thenS]
 refine wpS_of_wp ?_
 change Code.wp _ _ _ { tmps:=#[.pointer (some ⟨bo,0,none⟩),.pointer (some ⟨bq,0,none⟩),Value.nilIface,undef,undef,Value.nilIface,undef,undef,undef,undef,undef,undef,undef,undef,undef,undef,undef,undef,undef],defers:=[] } w
 go_wp2
 cases c₀
 simp_all[bodyPostS,results,Tryz.results32]
set_option maxRecDepth 100000 in
set_option maxHeartbeats 1000000 in
theorem do1_panic(bo bq t t':Nat)(e e0:Int)(x0 x1:Value)(w:World)(hne:bo≠bq)(ho:w.heap[bo]?=some (.cells #[x0,x1] t (0,0)))(hq:w.heap[bq]?=some (.cells #[.int .i64 e0] t' (0,0))):
 CallsD Tryz.prog 32 #[.pointer (some ⟨bo,0,none⟩),.pointer (some ⟨bq,0,none⟩)] (.panicking (wrongP e)) w fun r u' w'=>r=.returned (.tuple #[])∧u'=.panicking [{ v:=.iface 86 (.agg #[.int .i64 e]),recovered:=true }]∧Fr (fun k=>k=bo∨k=bq) w w'∧w'.cell? ⟨bo,0,none⟩=some (.slice none 0 0)∧w'.cell? ⟨bo,1,none⟩=some (.int .i64 0)∧w'.cell? ⟨bq,0,none⟩=some (.int .i64 e):=by
 have hta:∀w:World,Sem.run Tryz.prog (Instr.typeAssert (.iface 86 (.agg #[.int .i64 e])) 20 86 true) w=.ok (.tuple #[.agg #[.int .i64 e],.bool true]) w:=fun w=>by kernel_rfl
 refine callsD_of_wpS Tryz.func32 rfl fun c₀ cs hu=>?_
 apply wpS_seq
 apply wpS_region
 simp[wpOpsS,go_sem,recoverD,hu,Tryz.ntmps32,Exit.thenS]
 refine wpS_of_wp ?_
 change Code.wp _ _ _ { tmps:=#[.pointer (some ⟨bo,0,none⟩),.pointer (some ⟨bq,0,none⟩),.iface 86 (.agg #[.int .i64 e]),undef,undef,.iface 86 (.agg #[.int .i64 e]),undef,undef,undef,undef,undef,undef,undef,undef,undef,undef,undef,undef,undef],defers:=[] } w
 go_wp2;have l0:bo<w.heap.size:=(Array.getElem?_eq_some_iff.1 ho).1;have lq:bq<w.heap.size:=(Array.getElem?_eq_some_iff.1 hq).1;have HF0:=(Fr.refl (fun _=>False) w).alloc (.cells #[.int .i64 e] 86)
 have ho1:=HF0.blk ho fun x=>x
 have hq1:=HF0.blk hq fun x=>x
 have hn1:=heap_alloc_new w (.cells #[.int .i64 e] 86)
 obtain⟨w1,HW1⟩:∃w1,w.alloc (.cells #[.int .i64 e] 86)=w1:=⟨_,rfl⟩
 rw[HW1]at ho1 hq1 hn1 HF0 ⊢
 obtain⟨bn,HBN⟩:∃bn,w.heap.size=bn:=⟨_,rfl⟩
 rw[HBN]at hn1 ⊢
 have n1:¬bn=bo:=by omega
 have n2:¬bq=bo:=fun h=>hne h.symm
 have n3:¬bn=bq:=by omega
 have HN0:=Lib.hid HF0;clear HF0 HW1 HBN l0 lq ho hq;obtain⟨m1,m2,m3,m4,m5,m6⟩:=res2 ho1
 have hS:=fun Y Z=>((Fr.refl (fun k=>k=bo) w1).setCell (a:=⟨bo,0,none⟩) (.inl rfl) Y).setCell (a:=⟨bo,1,none⟩) (.inl rfl) Z
 have hS1:=fun Y=>((Fr.refl (fun k=>k=bo) w1).setCell (a:=⟨bo,0,none⟩) (.inl rfl) Y)
 have d0:w1.cell? ⟨bn,0,none⟩=some (.int .i64 e):=cell_of_row _ _ 0 _ 86 (0,0) hn1
 have d1:∀Y,(w1.setCell ⟨bo,0,none⟩ Y).cell? ⟨bn,0,none⟩=some (.int .i64 e):=fun Y=>(hS1 Y).cell d0 n1
 have d2:∀Y Z,((w1.setCell ⟨bo,0,none⟩ Y).setCell ⟨bo,1,none⟩ Z).cell? ⟨bn,0,none⟩=some (.int .i64 e):=fun Y Z=>(hS Y Z).cell d0 n1
 have hq2:=fun Y Z=>(hS Y Z).blk hq1 n2
 have e1:∀Y Z,((w1.setCell ⟨bo,0,none⟩ Y).setCell ⟨bo,1,none⟩ Z).cell? ⟨bq,0,none⟩=some (.int .i64 e0):=fun Y Z=>cell_of_row _ _ 0 _ t' (0,0) (hq2 Y Z)
 have e2:∀Y Z,((w1.setCell ⟨bo,0,none⟩ Y).setCell ⟨bo,1,none⟩ Z).frozen? ⟨bq,0,none⟩=false:=fun Y Z=>by simp[World.frozen?,hq2 Y Z]
 have e3:∀Y Z U,(((w1.setCell ⟨bo,0,none⟩ Y).setCell ⟨bo,1,none⟩ Z).setCell ⟨bq,0,none⟩ U).cell? ⟨bq,0,none⟩=some U:=fun Y Z U=>by
  have:=hq2 Y Z
  simp[World.cell?,World.setCell,Array.getElem?_modify]at this ⊢
  simp[this]
 have HE3:=Lib.hid e3
 have HFF:Hid (∀Y Z U,Fr (fun k=>k=bo∨k=bq) w (((w1.setCell ⟨bo,0,none⟩ Y).setCell ⟨bo,1,none⟩ Z).setCell ⟨bq,0,none⟩ U)):=Lib.hid fun Y Z U=>
  ((((HN0.out.mono fun _ h=>h.elim).setCell (a:=⟨bo,0,none⟩) (.inl (.inl rfl)) Y).setCell (a:=⟨bo,1,none⟩) (.inl (.inl rfl)) Z).setCell (a:=⟨bq,0,none⟩) (.inl (.inr rfl)) U)
 clear hS hS1 hq2 hq1 hn1 ho1 e3
 go_region
 have HP:Hid (Fr (fun k=>k=bo∨k=bq) w (((w1.setCell ⟨bo,0,none⟩ (.slice none 0 0)).setCell ⟨bo,1,none⟩ (.int .i64 0)).setCell ⟨bq,0,none⟩ (.int .i64 e)).drew ∧
  (((w1.setCell ⟨bo,0,none⟩ (.slice none 0 0)).setCell ⟨bo,1,none⟩ (.int .i64 0)).setCell ⟨bq,0,none⟩ (.int .i64 e)).drew.cell? ⟨bo,0,none⟩=some (.slice none 0 0) ∧
  (((w1.setCell ⟨bo,0,none⟩ (.slice none 0 0)).setCell ⟨bo,1,none⟩ (.int .i64 0)).setCell ⟨bq,0,none⟩ (.int .i64 e)).drew.cell? ⟨bo,1,none⟩=some (.int .i64 0) ∧
  (((w1.setCell ⟨bo,0,none⟩ (.slice none 0 0)).setCell ⟨bo,1,none⟩ (.int .i64 0)).setCell ⟨bq,0,none⟩ (.int .i64 e)).drew.cell? ⟨bq,0,none⟩=some (.int .i64 e)):=
  Lib.hid ⟨(HFF.out _ _ _).drew,((Fr.refl (fun k=>k=bq) _).setCell (a:=⟨bq,0,none⟩) (.inl rfl) _).cell (m5 _ _) hne,((Fr.refl (fun k=>k=bq) _).setCell (a:=⟨bq,0,none⟩) (.inl rfl) _).cell (m6 _ _) hne,HE3.out _ _ _⟩
 generalize (((w1.setCell ⟨bo,0,none⟩ (.slice none 0 0)).setCell ⟨bo,1,none⟩ (.int .i64 0)).setCell ⟨bq,0,none⟩ (.int .i64 e)).drew=wz at HP ⊢;clear m1 m2 m3 m4 m5 m6 d0 d1 d2 e1 e2 HE3 HFF;go_wp2
 cases c₀
 simp[bodyPostS,results,Tryz.results32]
 exact HP.out
end Go.Proofs.YtlicglicfijelaaGreat

/- Walks: open. -/
namespace Go.Proofs.YtlicglicfijelaaGreat
open Go.RowKit

def GaveBe(ok:Bool)(X:List Kn.Cr)(L:Int)(w:World)(e:Ending)(w':World):Prop:=
 New w w'∧((ok=true∧∃b s fv,e=.returned (.tuple #[.pointer (some ⟨b,0,none⟩),.bool true])∧BeAt w' b s fv X L∧Rows OwnD 0 118 w' fv (Kn.facesL X)∧w.heap.size≤b∧w.heap.size≤s)∨(ok=false∧e=.returned (.tuple #[.pointer none,.bool false])))
set_option maxRecDepth 100000 in
set_option maxHeartbeats 2000000 in
theorem open_any(a:Option Addr)(n c:Nat)(X:List Kn.Cr)(L:Int)(w:World)(hx:CrsAt w a X)(hn:n=X.length)(lx:n≤9223372036854775807)(l1:-9223372036854775808≤L)(l2:L≤9223372036854775807):
 Calls Tryz.prog 30 #[.agg #[.slice a n c,.int .i64 L]] w (GaveBe (Kn.mayB X L&&Kn.planarB X) X L w):=by
 have HN:=Lib.hid hn;have HX:=Lib.hid hx;clear hx hn
 go_enter Tryz.func30,Tryz.ntmps30
 go_wp2_with fail;refine(new_any a n c X L _ (New.crs ((Fr.refl _ _).alloc _) HX.out) HN.out lx l1 l2).mono ?_;rintro e w4 ⟨hF,h5⟩
 rcases h5 with⟨ho,s,rfl,hs,hlb,_⟩|⟨ho,rfl⟩
 · have HF:Hid (New w w4):=Lib.hid (((Fr.refl _ _).alloc _).trans hF)
   have HO:=Lib.hid ho;have HS:=Lib.hid hs;have HLB:=Lib.hid hlb;have HOK:=Lib.hid (mayB_ok ho);clear hF ho hs hlb
   obtain⟨p,HP⟩:∃p,Hid (Kn.planarB X=p):=⟨_,Lib.hid rfl⟩
   go_wp2_with fail;refine(planar_any s X L _ HS.out HOK.out.1 HOK.out.2).mono ?_;rintro e w5 ⟨rfl,hE⟩;rw[HP.out];have HE:=Lib.hid (HF.out.trans hE);have HS5:=Lib.hid (New.shAt hE HS.out);clear hE
   cases p
   · go_wp2
     go_ret2
     exact⟨HE.out,.inr ⟨by rw[HO.out,HP.out];rfl,rfl⟩⟩
   · go_wp2_with fail
     refine(faces_any s X L _ HS5.out HOK.out.1 HOK.out.2).mono ?_;rintro e w6 ⟨v,rfl,hr,hE⟩;obtain⟨fa,fc,rfl⟩:=hr.sl
     obtain⟨m,hm⟩:∃m,(Kn.facesL X).length=m:=⟨_,rfl⟩
     rw[hm]at hr ⊢;clear hm;have HS6:=Lib.hid (New.shAt hE HS5.out);have HR6:Hid (Rows OwnD 0 118 w6 (.slice fa m fc) (Kn.facesL X)):=Lib.hid (Rows.base0 hr);have HE6:=Lib.hid (HE.out.trans hE);clear hE hr;go_wp2;go_ret2;have hN:New w6 (w6.alloc (.cells #[.pointer (some ⟨s,0,none⟩),(Value.slice fa m fc)] 90)):=(Fr.refl _ _).alloc _
     refine⟨HE6.out.trans hN,.inl ⟨by rw[HO.out,HP.out];rfl,_,s,_,rfl,⟨heap_alloc_new _ _,New.shAt hN HS6.out⟩,RowsD.new HR6.out hN,HE6.out.size,?_⟩⟩
     have:=HLB.out
     simp at this
     omega
 · have HF:Hid (New w w4):=Lib.hid (((Fr.refl _ _).alloc _).trans hF)
   have HO:=Lib.hid ho;clear hF ho;go_wp2;go_ret2
   exact⟨HF.out,.inr ⟨by rw[HO.out];rfl,rfl⟩⟩
end Go.Proofs.YtlicglicfijelaaGreat

/- Walks: take. -/
namespace Go.Proofs.YtlicglicfijelaaGreat
open Go.RowKit

def GaveTake(s:Nat)(Y:List Kn.Cr)(L:Int)(w:World)(e:Ending)(w':World):Prop:=
 Fr (fun k=>k=s) w w'∧((L≤16∧e=.returned (.tuple #[])∧∃a c,w'.cell? ⟨s,0,none⟩=some (.slice a Y.length c)∧w'.cell? ⟨s,1,none⟩=some (.int .i64 L)∧CrsAt w' a Y∧∀ad,a=some ad→w.heap.size≤ad.block)∨(¬L≤16∧e=.panicked (wrongP 2)))
theorem takeN_le(X:List Kn.Cr)(gone:Nat→Bool):Kn.takeN X gone≤Kn.nArcs X:=ringC_le X _ gone _
theorem ShAt.box{w:World}{b:Nat}{X:List Kn.Cr}{L:Int}(h:ShAt w b X L):∃v bi bo,w.heap[b]?=some (.cells #[v,.int .i64 L,.slice (some ⟨bi,0,none⟩) (mArcs X) (mArcs X),.slice (some ⟨bo,0,none⟩) (mArcs X) (mArcs X)] 52 (0,0)):=by
 obtain⟨v,bi,bo,base,s⟩:=h
 exact⟨v,bi,bo,s.blk⟩
theorem four_set2{W:World}{B t:Nat}{a b c d:Value}(h:W.heap[B]?=some (.cells #[a,b,c,d] t (0,0)))(a' b':Value):
 ((W.setCell ⟨B,0,none⟩ a').setCell ⟨B,1,none⟩ b').heap[B]?=some (.cells #[a',b',c,d] t (0,0)):=by
 unfold World.setCell;simp[Array.getElem?_modify,h]
set_option maxRecDepth 100000 in
set_option maxHeartbeats 4000000 in
theorem take_any(b s g ng cg:Nat)(fv:Value)(gs:List Int)(gone:Nat→Bool)(X:List Kn.Cr)(L:Int)(w:World)(h:BeAt w b s fv X L)(hX:Kn.Ok X)(hl:X.length≤16)(l1:0≤L)(l2:L≤16)(hg:IntsAt w g gs)(hng:ng=gs.length)(hn16:ng≤16)
 (hgone:∀c,c<X.length→gone c=decide ((c:Int)∈gs)):
 Calls Tryz.prog 78 #[.pointer (some ⟨b,0,none⟩),.slice (some ⟨g,0,none⟩) ng cg] w (GaveTake s (Kn.takeL X gone) (L+Kn.takeN X gone) w):=by
 have HW:=Lib.hid (withoutT_any s g ng cg gs gone X L w h.sh hX hl (by omega) (by omega) hg hng hn16 hgone);have HH:=Lib.hid h;obtain⟨c0,_⟩:=h.c
 obtain⟨Y,HY⟩:∃Y,Hid (Y=Kn.takeL X gone):=⟨_,Lib.hid rfl⟩
 obtain⟨L',HL⟩:∃q:Int,Hid (q=L+(Kn.takeN X gone:Nat)):=⟨_,Lib.hid rfl⟩
 have hL1:0≤L':=by have:=HL.out;omega
 have hL2:L'≤100:=by have h1:=HL.out;have h2:=takeN_le X gone;unfold Kn.nArcs at h2;omega
 rw[←HY.out,←HL.out]at HW ⊢;clear h hX hg hng hgone
 go_enter Tryz.func78,Tryz.ntmps78
 go_wp2_with fail
 refine HW.out.mono ?_
 rintro e w1 ⟨sc,rfl,hown,hN⟩;obtain⟨a1,c1,rfl,hcr⟩:=CrsAt.of_owns hown
 obtain⟨n,HN⟩:∃n,Hid (n=Y.length):=⟨_,Lib.hid rfl⟩
 rw[←HN.out];have HN1:Hid (New w (w1.alloc (.cells #[.slice a1 n c1,.int .i64 L'] 24))):=Lib.hid (hN.alloc _);have HC1:Hid ((w1.alloc (.cells #[.slice a1 n c1,.int .i64 L'] 24)).ownsRow w.heap.size 41 5 (.slice a1 Y.length c1) Y.length (crCells Y)):=Lib.hid (World.ownsRow.alloc hown _);have HB1:Hid (BeAt (w1.alloc (.cells #[.slice a1 n c1,.int .i64 L'] 24)) b s fv X L):=Lib.hid (HH.out.new HN1.out);have HZ1:=Lib.hid (heap_alloc_new w1 (.cells #[.slice a1 n c1,.int .i64 L'] 24));clear hown hN hcr c0;obtain⟨p0,p1,_,_⟩:=box2_c HZ1.out
 by_cases h16:L'≤16
 · have hd:decide (L'≤16)=true:=decide_eq_true h16
   go_wp2_with fail;refine(need_yes 2 _).mono ?_;rintro e w2 ⟨rfl,hw2⟩;obtain⟨c0,_⟩:=HB1.out.c;obtain⟨vs,bi,bo,hbx⟩:=HB1.out.sh.box;rw[←hw2]at HN1 HC1 HB1 HZ1 p0 p1 c0 hbx;clear hw2;obtain⟨s0,s1,s2,s3,z0,z1,z2,z3⟩:=four_c hbx;have hb2:=four_set2 hbx (.slice a1 n c1) (.int .i64 L')
   have hb1:(w2.setCell ⟨s,0,none⟩ (.slice a1 n c1)).heap[s]?=some (.cells #[.slice a1 n c1,.int .i64 L,.slice (some ⟨bi,0,none⟩) (mArcs X) (mArcs X),.slice (some ⟨bo,0,none⟩) (mArcs X) (mArcs X)] 52 (0,0)):=by
    unfold World.setCell;simp[Array.getElem?_modify,hbx]
   obtain⟨_,y1,_,_,_,x1,_,_⟩:=four_c hb1;have HB2:=Lib.hid hb2;have HNO:=Lib.hid (blk_not_own hbx HC1.out (by decide));clear hb1 hb2 hbx;go_wp2_with fail
   go_region
   all_goals (go_wp2_with fail)
   go_end0
   have hF:Fr (fun k=>k=s) w2 ((w2.setCell ⟨s,0,none⟩ (.slice a1 n c1)).setCell ⟨s,1,none⟩ (.int .i64 L')).drew:=by
    refine Fr.drew (Fr.setCell (Fr.setCell (Fr.refl _ w2) ?_ _) ?_ _)<;>exact .inl rfl
   obtain⟨m0,m1,_,_⟩:=four_c (show ((w2.setCell ⟨s,0,none⟩ (.slice a1 n c1)).setCell ⟨s,1,none⟩ (.int .i64 L')).drew.heap[s]?=_ from HB2.out);obtain⟨a3,c3,e3,h3⟩:=CrsAt.of_owns (hF.owns HC1.out fun k hk e=>HNO.out (e ▸ hk))
   cases e3
   exact⟨(HN1.out.mono fun _ h=>h.elim).trans hF,.inl ⟨h16,rfl,a1,c1,by rw[←HN.out];exact m0,m1,h3,fun ad e=>own_lb HC1.out ad.block (by rw[e];rfl)⟩⟩
 · have hd:decide (L'≤16)=false:=decide_eq_false h16
   go_wp2_with fail;refine(need_no 2 _).mono ?_;rintro e w2 ⟨rfl,rfl⟩;go_wp2
   exact⟨rfl,HN1.out.mono fun _ h=>h.elim,.inr ⟨by omega,rfl⟩⟩
end Go.Proofs.YtlicglicfijelaaGreat

/- Walks: uncurl. -/
namespace Go.Proofs.YtlicglicfijelaaGreat
open Go.RowKit

inductive Out where
 |no (e:Int)
 |ok (Y:List Kn.Cr) (L:Int)
def takeO(X:List Kn.Cr)(L:Int)(gone:Nat→Bool):Out:=if L+(Kn.takeN X gone:Nat)≤16 then .ok (Kn.takeL X gone) (L+(Kn.takeN X gone:Nat))else .no 2
def curlB(X:List Kn.Cr)(c:Nat):Bool:=(List.range 4).any fun s=>decide (Kn.arcN X (c,s)=Kn.arcN X (c,(s+1)%4))
def unO(X:List Kn.Cr)(L:Int)(a:Int):Out:=if isCr X a then(if curlB X a.toNat then takeO X L (Kn.only a.toNat)else .no 8)else .no 3
def GaveO(s:Nat)(o:Out)(w:World)(e:Ending)(w':World):Prop:=
 Fr (fun k=>k=s) w w'∧match o with
  |.no x=>e=.panicked (wrongP x)
  |.ok Y L=>e=.returned (.tuple #[])∧∃a c,w'.cell? ⟨s,0,none⟩=some (.slice a Y.length c)∧w'.cell? ⟨s,1,none⟩=some (.int .i64 L)∧CrsAt w' a Y∧∀ad,a=some ad→w.heap.size≤ad.block
theorem gaveO_take{s:Nat}{X:List Kn.Cr}{L:Int}{gone:Nat→Bool}{w w1 w':World}{e:Ending}(hN:New w w1)(h:GaveTake s (Kn.takeL X gone) (L+(Kn.takeN X gone:Nat)) w1 e w'):GaveO s (takeO X L gone) w e w':=by
 refine⟨(hN.mono fun _ h=>h.elim).trans h.1,?_⟩
 unfold takeO
 rcases h.2 with⟨h1,h2,h3⟩|⟨h1,h2⟩
 · rw[if_pos h1]
   obtain⟨a,c,k1,k2,k3,k4⟩:=h3
   exact⟨h2,a,c,k1,k2,k3,fun ad e=>Nat.le_trans hN.size (k4 ad e)⟩
 · rw[if_neg h1];exact h2
abbrev mvV(k a c u v:Int)(ub vb ov:Bool):Value:=.agg #[.int .i64 k,.int .i64 a,.int .i64 c,.int .i64 u,.bool ub,.int .i64 v,.bool vb,.bool ov]
theorem eight_c{W:World}{B t:Nat}{a b c d e f g h:Value}(hb:W.heap[B]?=some (.cells #[a,b,c,d,e,f,g,h] t (0,0))):
 W.cell? ⟨B,0,none⟩=some a∧W.cell? ⟨B,1,none⟩=some b∧W.cell? ⟨B,2,none⟩=some c∧W.cell? ⟨B,3,none⟩=some d∧W.cell? ⟨B,4,none⟩=some e∧W.cell? ⟨B,5,none⟩=some f∧W.cell? ⟨B,6,none⟩=some g∧W.cell? ⟨B,7,none⟩=some h:=
 ⟨cell_of_row _ _ 0 _ t (0,0) hb,cell_of_row _ _ 1 _ t (0,0) hb,cell_of_row _ _ 2 _ t (0,0) hb,cell_of_row _ _ 3 _ t (0,0) hb,cell_of_row _ _ 4 _ t (0,0) hb,cell_of_row _ _ 5 _ t (0,0) hb,cell_of_row _ _ 6 _ t (0,0) hb,cell_of_row _ _ 7 _ t (0,0) hb⟩
def curlTo(X:List Kn.Cr)(c t:Nat):Bool:=(List.range t).any fun s=>decide (Kn.arcN X (c,s)=Kn.arcN X (c,(s+1)%4))
theorem curlTo_succ(X:List Kn.Cr)(c t:Nat):curlTo X c (t+1)=(curlTo X c t||decide (Kn.arcN X (c,t)=Kn.arcN X (c,(t+1)%4))):=by
 unfold curlTo
 rw[List.range_succ,List.any_append];simp
set_option maxRecDepth 100000 in
set_option maxHeartbeats 8000000 in
theorem uncurl_any(b s:Nat)(fv:Value)(X:List Kn.Cr)(L k a c u v:Int)(ub vb ov:Bool)(w:World)(h:BeAt w b s fv X L)(hX:Kn.Ok X)(hl:X.length≤16)(l1:0≤L)(l2:L≤16):
 Calls Tryz.prog 50 #[.pointer (some ⟨b,0,none⟩),mvV k a c u v ub vb ov] w (GaveO s (unO X L a) w):=by
 obtain⟨r,HR⟩:∃r,Hid (isCr X a=r):=⟨_,Lib.hid rfl⟩
 have HH:=Lib.hid h;have HX:=Lib.hid hX;clear h hX
 go_enter Tryz.func50,Tryz.ntmps50
 have hz:=heap_alloc_new w (.cells #[.int .i64 k,.int .i64 a,.int .i64 c,.int .i64 u,.bool ub,.int .i64 v,.bool vb,.bool ov] 28);obtain⟨p0,p1,_⟩:=eight_c hz;have HZ:=Lib.hid hz;have HN0:Hid (New w (w.alloc (.cells #[.int .i64 k,.int .i64 a,.int .i64 c,.int .i64 u,.bool ub,.int .i64 v,.bool vb,.bool ov] 28))):=Lib.hid ((Fr.refl _ w).alloc _);clear hz;go_wp2_with fail;refine(isCross_any b s fv X L a _ (HH.out.new HN0.out) hl).mono ?_;rintro e w1 ⟨rfl,hw1⟩;rw[HR.out];rw[←hw1]at HN0 HZ p1;clear hw1 p0
 cases r
 · go_wp2_with fail
   refine(need_no 3 _).mono ?_;rintro e w2 ⟨rfl,rfl⟩;go_wp2
   refine⟨rfl,HN0.out.mono fun _ h=>h.elim,?_⟩
   unfold unO;rw[HR.out];rfl
 · obtain⟨cn,rfl,hcn⟩:∃cn:Nat,a=(cn:Int)∧cn<X.length:=by
    have h1:=HR.out
    unfold isCr at h1
    rw[Bool.and_eq_true,decide_eq_true_eq,decide_eq_true_eq]at h1
    exact⟨a.toNat,by omega,by omega⟩
   have HU:Hid (unO X L (cn:Nat)=if curlB X cn then takeO X L (Kn.only cn)else .no 8):=Lib.hid (by unfold unO;rw[HR.out];rfl);go_wp2_with fail;refine(need_yes 3 _).mono ?_;rintro e w2 ⟨rfl,hw2⟩;rw[←hw2]at HN0 HZ p1;clear hw2
   obtain⟨n,HN⟩:∃n,Hid (n=X.length):=⟨_,Lib.hid rfl⟩
   have HB2:=Lib.hid (HH.out.new HN0.out);obtain⟨c0,_⟩:=HB2.out.c;obtain⟨a1,c1,h0,_,hcr⟩:=HB2.out.sh.crs;obtain⟨bx,ox,e0,hx⟩:=hcr.at hcn;subst e0;rw[←HN.out]at h0;obtain⟨xa,xb,xc,xd,xp,HXC⟩:=Kn.cr_parts' X cn;rw[HXC.out]at hx;obtain⟨x1,x2,x3,x4,x5⟩:=hx
   have i1:(0:Int)≤(cn:Int):=by omega
   have i2:(cn:Int)<(n:Int):=by have:=HN.out;omega
   have k1:b<w2.heap.size:=World.block_lt_of_cell? _ _ c0;have k2:s<w2.heap.size:=World.block_lt_of_cell? _ _ h0;have k3:bx<w2.heap.size:=World.block_lt_of_cell? _ _ x1;have k4:w.heap.size<w2.heap.size:=World.block_lt_of_cell? _ _ p1
   have k5:b<w2.heap.size+1:=by omega
   have k6:s<w2.heap.size+1:=by omega
   have k7:bx<w2.heap.size+1:=by omega
   have k8:w.heap.size<w2.heap.size+1:=by omega
   clear hcr;go_wp2_with fail
   go_cut [4] (fun s4 wx=>Hid (s4=.pointer (some ⟨w2.heap.size,0,none⟩)∧New w2 wx∧wx.heap[w2.heap.size]?=some (.cells #[.int .i64 xa,.int .i64 xb,.int .i64 xc,.int .i64 xd,.bool xp] 41 (0,0))))
   case first=>
    go_region
    all_goals (go_wp2_with fail)
    all_goals go_meet
    exact Lib.hid ⟨rfl,((Fr.refl _ w2).alloc _).drew,heap_alloc_new w2 _⟩
   case rest=>
   obtain⟨rfl,hN8,hb8⟩:=Hid.out hcut
   obtain⟨w3,rfl⟩:∃w3,w3=wc:=⟨_,rfl⟩
   have HN8:=Lib.hid (HN0.out.trans hN8);have HB8:=Lib.hid hb8;have HZ8:=Lib.hid (hN8.blk HZ.out fun x=>x)
   obtain⟨Bx,HBX⟩:∃B,Hid (B=w2.heap.size):=⟨_,Lib.hid rfl⟩
   rw[←HBX.out]at HB8 ⊢;clear hcut hN8 hb8 c0 h0 x1 x2 x3 x4 x5 k1 k2 k3 k4 k5 k6 k7 k8 HN0 HZ p1;go_wp2_with fail
   go_loopw [5,24] (fun cb i wr=>∃(t:Nat) (q:Bool),t≤4∧i=.int .i64 t∧cb=.bool q∧Hid (q=curlTo X cn t)∧Hid (New w3 wr)) (fun _ i _=>4-(intOf i).toNat)
   case atStart=>exact⟨0,false,by omega,rfl,rfl,Lib.hid rfl,Lib.hid (Fr.refl _ _)⟩
   case round=>
    obtain⟨t,q,ht,rfl,rfl,HC,HNr⟩:=hrel
    by_cases ht4:t<4
    · cases q
      · obtain⟨t2,HT2⟩:∃t2,Hid (t2=(t+1)%4):=⟨_,Lib.hid rfl⟩
        have ht2:t2<4:=by have:=HT2.out;omega
        have ew:(IntKind.i64.wrap ((t:Int)+1)).tmod 4=(t2:Nat):=by
         rw[IntWalk.i64_in _ (by omega),Int.tmod_eq_emod_of_nonneg (by omega)]
         have:=HT2.out;omega
        obtain⟨ua,HUA⟩:∃z,Hid (z=Kn.arcN X (cn,t)):=⟨_,Lib.hid rfl⟩
        obtain⟨va,HVA⟩:∃z,Hid (z=Kn.arcN X (cn,t2)):=⟨_,Lib.hid rfl⟩
        have har:∀s,s<4→(Kn.cr X cn).arc s=(Kn.arcN X (cn,s):Nat):=fun s hs=>by
         have:=(HX.out.rng (cn,s) ⟨hcn,hs⟩).1
         unfold Kn.arcN
         show Kn.at_ X (cn,s)=((Kn.at_ X (cn,s)).toNat:Int)
         omega
        have HA1:Hid (arcI xa xb xc xd t=(ua:Nat)):=Lib.hid (by rw[HUA.out,←har t ht4,HXC.out];rfl);have HA2:Hid (arcI xa xb xc xd t2=(va:Nat)):=Lib.hid (by rw[HVA.out,←har t2 ht2,HXC.out];rfl)
        obtain⟨d,HD⟩:∃d,Hid (decide (ua=va)=d):=⟨_,Lib.hid rfl⟩
        have hd1:((ua:Int)==(va:Int))=d:=by rw[←HD.out,Bool.eq_iff_iff];simp;omega
        have HB0:Hid (wr.drew.heap[Bx]?=some (.cells #[.int .i64 xa,.int .i64 xb,.int .i64 xc,.int .i64 xd,.bool xp] 41 (0,0))):=Lib.hid (HNr.out.blk HB8.out fun x=>x);have HN0:Hid (New w3 wr.drew):=Lib.hid HNr.out.drew;have hS0:=five_c HB0.out;clear har;go_wp2_with fail
        refine wp_region_held_drew (S:=fun wz=>wz.cell? ⟨Bx,0,none⟩=some (.int .i64 xa)∧wz.cell? ⟨Bx,1,none⟩=some (.int .i64 xb)∧wz.cell? ⟨Bx,2,none⟩=some (.int .i64 xc)∧wz.cell? ⟨Bx,3,none⟩=some (.int .i64 xd)∧wz.cell? ⟨Bx,4,none⟩=some (.bool xp)) (by kernel_rfl) hS0 (fun hHeld=>?_)
        clear hS0;generalize wr.drew=r0 at hHeld HN0 HB0 ⊢
        refine' sq 0 (h:=sq 1 (h:=sq 2 (h:=sq 3 (h:=sq 5 (h:=sq 6 (h:=sq 7 (h:=sq 8 (h:=?_))))))))
        refine rdO (i:=4) (fun K hK=>?_);(try simp only[lq1,lq2,lq3]);go_simp;refine(arc_any xa xb xc xd xp t _ ht4).mono ?_;rintro e r1 ⟨rfl,hF⟩;rw[HA1.out];have HN1:=Lib.hid (HN0.out.trans hF);have HB1:=Lib.hid (hF.blk HB0.out fun x=>x);clear hF;go_wp2_with fail;refine hK.out _ _ (five_c HB1.out) (fun hHeld=>?_);clear hK K;(try simp only[Act.put,lq1,lq2,lq3,lq4,lq5,lq6]);refine rdO (i:=9) (fun K hK=>?_);(try simp only[lq1,lq2,lq3]);rw[if_pos (by rfl)];go_simp;refine(arc_any xa xb xc xd xp t2 _ ht2).mono ?_;rintro e r2 ⟨rfl,hF⟩
        rw[HA2.out];have HN2:=Lib.hid (HN1.out.trans hF);have HB2:=Lib.hid (hF.blk HB1.out fun x=>x);clear hF;go_wp2_with fail;refine hK.out _ _ (five_c HB2.out) (fun hHeld=>?_);clear hK K;(try simp only[Act.put,lq1,lq2,lq3,lq4,lq5,lq6])
        refine' sq 10 (h:=sq 11 (h:=sq 12 (h:=?_)))
        refine wpAnyH_done (by kernel_rfl) ?_ _;go_wp2
        go_roundw
        case rel=>exact⟨t+1,d,by omega,by go_num,rfl,Lib.hid (by rw[curlTo_succ,←HC.out,←HD.out,HUA.out,HVA.out,HT2.out];rfl),HN2⟩
        case measure=>simp[intOf];omega
      · go_wp2_with fail
        go_quiet (fail)
        go_wp2
        go_roundw
        case rel=>exact⟨t+1,true,by omega,by go_num,rfl,Lib.hid (by rw[curlTo_succ,←HC.out];rfl),Lib.hid (HNr.out.drewN _)⟩
        case measure=>simp[intOf];omega
    · obtain rfl:4=t:=by omega
      have HC4:Hid (curlB X cn=q):=Lib.hid HC.out.symm;have HN9:Hid (New w wr):=Lib.hid (HN8.out.trans HNr.out);have p1:=(eight_c (HNr.out.blk HZ8.out fun x=>x)).2.1
      cases q
      · go_wp2_with fail
        refine(need_no 8 _).mono ?_;rintro e w5 ⟨rfl,rfl⟩;go_wp2
        refine⟨rfl,HN9.out.mono fun _ h=>h.elim,?_⟩
        rw[HU.out,HC4.out];rfl
      · go_wp2_with fail
        refine(need_yes 8 _).mono ?_;rintro e w5 ⟨rfl,hw5⟩;rw[←hw5]at HN9 p1;clear hw5;have HNA:Hid (New w (w5.alloc (.cells #[.int .i64 (cn:Nat)] 3))):=Lib.hid (HN9.out.alloc _)
        have HI:Hid (IntsAt (w5.alloc (.cells #[.int .i64 (cn:Nat)] 3)) w5.heap.size [(cn:Int)]):=Lib.hid (fun i hi=>by
         have h0:i=0:=by simpa using hi
         subst h0
         exact cell_of_row _ _ 0 _ 3 (0,0) (heap_alloc_new w5 _))
        go_wp2_with fail;refine(take_any b s _ 1 1 fv [(cn:Int)] (Kn.only cn) X L _ (HH.out.new HNA.out) HX.out hl l1 l2 HI.out rfl (by omega) (fun d _=>?_)).mono ?_
        · rw[Bool.eq_iff_iff];simp;omega
        rintro e w6 hG;have HGO:Hid (GaveO s (takeO X L (Kn.only cn)) w e w6):=Lib.hid (gaveO_take HNA.out hG);have HUO:Hid (unO X L (cn:Nat)=takeO X L (Kn.only cn)):=Lib.hid (by rw[HU.out,HC4.out];rfl)
        obtain⟨o,HO⟩:∃o,Hid (o=takeO X L (Kn.only cn)):=⟨_,Lib.hid rfl⟩
        rw[←HO.out]at HGO HUO;clear hG
        cases o with
        |no x=>
         obtain⟨h1,rfl⟩:=HGO.out;go_wp2
         refine⟨rfl,h1,?_⟩
         rw[HUO.out]
        |ok Y L2=>
         obtain⟨h1,rfl,h2⟩:=HGO.out;have HG1:=Lib.hid h1;have HG2:=Lib.hid h2;clear h1 h2;go_wp2;go_end0
         refine⟨HG1.out,?_⟩
         rw[HUO.out]
         exact⟨rfl,HG2.out⟩
end Go.Proofs.YtlicglicfijelaaGreat
