/- Walks: Other, Left. -/
import Derived.Test.YtlicglicfijelaaGreatW6
/- Walks: Other, Left. -/
namespace Go.Proofs.YtlicglicfijelaaGreat
open Go.RowKit

def CrCells(w:World)(b bx o n cc:Nat)(ad:Nat)(xa xb xc xd:Int)(xp:Bool):Prop:=
 w.cell? ⟨b,0,none⟩=some (.slice (some ⟨bx,o,none⟩) n cc)∧w.cell? ⟨bx,ad,none⟩=some (.int .i64 xa)∧w.cell? ⟨bx,ad+1,none⟩=some (.int .i64 xb)∧w.cell? ⟨bx,ad+2,none⟩=some (.int .i64 xc)∧w.cell? ⟨bx,ad+3,none⟩=some (.int .i64 xd)∧w.cell? ⟨bx,ad+4,none⟩=some (.bool xp)
theorem New.crCells{w w':World}(h:New w w'){b bx o n cc ad:Nat}{xa xb xc xd:Int}{xp:Bool}(s:CrCells w b bx o n cc ad xa xb xc xd xp):CrCells w' b bx o n cc ad xa xb xc xd xp:=
 ⟨h.cell s.1 fun x=>x,h.cell s.2.1 fun x=>x,h.cell s.2.2.1 fun x=>x,h.cell s.2.2.2.1 fun x=>x,h.cell s.2.2.2.2.1 fun x=>x,h.cell s.2.2.2.2.2 fun x=>x⟩
theorem blk_kept{w w':World}(h:New w w'){B:Nat}{o:Obj}(hb:w.heap[B]?=some o):w'.heap[B]?=some o:=(h.block B (Array.getElem?_eq_some_iff.1 hb).1 fun x=>x).trans hb

set_option maxHeartbeats 2000000 in
theorem other_any(b c s:Nat)(X:List Kn.Cr)(L:Int)(w:World)(h:ShAt w b X L)(hX:Kn.Ok X)(hl:X.length≤16)(hc:c<X.length)(hs:s<4):
 Calls Tryz.prog 93 #[.pointer (some ⟨b,0,none⟩),.agg #[.int .i64 c,.int .i64 s]] w (GavePl (Kn.other X (c,s)) w):=by
 obtain⟨pc,ps,hp⟩:∃pc ps,Kn.other X (c,s)=(pc,ps):=⟨_,_,rfl⟩
 rw[hp]
 obtain⟨a,hae⟩:∃a,a=Kn.arcN X (c,s):=⟨_,rfl⟩
 have harc:=hX.isArc (X:=X) (p:=(c,s)) ⟨hc,hs⟩;rw[←hae]at harc;obtain⟨n,bx,ox,cc,bi,bo,r⟩:=h.read (by omega)
 have hal:a<2*n+1:=by have:=harc.2;unfold Kn.nArcs at this;have:=r.len;omega
 have a1:(0:Int)≤(a:Int):=by omega
 have a2:(a:Int)<2*(n:Int)+1:=by omega
 have i1:(0:Int)≤(c:Int):=by omega
 have i2:(c:Int)<(n:Int):=by have:=r.len;omega
 obtain⟨x,hxk⟩:∃x,x=Kn.cr X c:=⟨_,rfl⟩
 have hcr:=r.cr c (by rw[r.len];exact hc);rw[←hxk]at hcr
 have hcm:Kn.cm X (c,s)=comesB x.p s:=by unfold Kn.cm;rw[←hxk];rfl
 obtain⟨xa,xb,xc,xd,xp⟩:=x;have HCC:Hid (CrCells w b bx ox n cc (ox+c*5) xa xb xc xd xp):=Lib.hid ⟨r.c0,hcr.a,hcr.b,hcr.c,hcr.d,hcr.p⟩;simp only at hcm
 have hoth:Kn.endP X (!comesB xp s) a=(pc,ps):=by rw[←hcm,hae];exact hp
 rcases Bool.eq_false_or_eq_true (comesB xp s)with hcb|hcb
 · rw[hcb]at hoth
   have hoe:Kn.outP X a=(pc,ps):=hoth;obtain⟨g1,g2⟩:=r.po a hal;rw[hoe]at g1 g2;simp only at g1 g2;have g0:=r.c3;have HS:=Lib.hid h;have HX:=Lib.hid hX;have HA:=Lib.hid hc;have HAE:=Lib.hid hae;clear hoe hoth hcm hcr hxk r h hX hc hae harc hp
   go_enter Tryz.func93,Tryz.ntmps93
   go_wp2_with fail
   obtain⟨w1,HW1⟩:∃w1,Hid (w1=(w.alloc (.cells #[.int .i64 (c:Int),.int .i64 (s:Int)] 104)).alloc (.cells #[.int .i64 0,.int .i64 0] 104)):=⟨_,Lib.hid rfl⟩
   rw[←HW1.out]
   have hF:New w w1:=by rw[HW1.out];exact((Fr.refl _ _).alloc _).alloc _
   have k1:w1.cell? ⟨w.heap.size,0,none⟩=some (.int .i64 c):=by rw[HW1.out];exact cell_alloc (cell_of_row _ _ 0 _ 104 (0,0) (heap_alloc_new _ _)) _
   have k2:w1.cell? ⟨w.heap.size,1,none⟩=some (.int .i64 s):=by rw[HW1.out];exact cell_alloc (cell_of_row _ _ 1 _ 104 (0,0) (heap_alloc_new _ _)) _
   have HRES:Hid (w1.heap[w.heap.size+1]?=some (.cells #[.int .i64 0,.int .i64 0] 104 (0,0))):=Lib.hid (by
    have:=heap_alloc_new (w.alloc (.cells #[.int .i64 (c:Int),.int .i64 (s:Int)] 104)) (.cells #[.int .i64 0,.int .i64 0] 104)
    rw[World.size_alloc,←HW1.out]at this;exact this)
   have HF:=Lib.hid hF;clear hF
   go_wp2_with (go_at_call 91;refine(at_any b c s X L _ (New.shAt HF.out HS.out) HX.out hl HA.out hs).mono ?_;rintro e w2 ⟨rfl,hG⟩;rw[←HAE.out];have l1:=hG.cell k1 fun x=>x;have l2:=hG.cell k2 fun x=>x;obtain⟨y0,y1,y2,y3,y4,y5⟩:=New.crCells (HF.out.trans hG) HCC.out;have HG:=Lib.hid hG;clear hG)
   clear k1 k2
   go_cut [20] (fun s20 wx=>s20=.bool true∧Hid (New w1 wx))
   case first=>
    go_region_held3 (fun w'=>w'.cell? ⟨b,0,none⟩=some (.slice (some ⟨bx,ox,none⟩) n cc)∧w'.cell? ⟨bx,ox+c*5,none⟩=some (.int .i64 xa)∧w'.cell? ⟨bx,ox+c*5+1,none⟩=some (.int .i64 xb)∧w'.cell? ⟨bx,ox+c*5+2,none⟩=some (.int .i64 xc)∧w'.cell? ⟨bx,ox+c*5+3,none⟩=some (.int .i64 xd)∧w'.cell? ⟨bx,ox+c*5+4,none⟩=some (.bool xp)∧w'.cell? ⟨w.heap.size,0,none⟩=some (.int .i64 c)∧w'.cell? ⟨w.heap.size,1,none⟩=some (.int .i64 s))
     (first|assumption|go_keep)
     (first
      |(go_at_call 43;refine(comes_any xa xb xc xd xp s _ hs).mono ?_;rintro e w4 ⟨rfl,hE⟩;rw[hcb];have hq:w4.cell? ⟨b,0,none⟩=some (.slice (some ⟨bx,ox,none⟩) n cc)∧w4.cell? ⟨bx,ox+c*5,none⟩=some (.int .i64 xa)∧w4.cell? ⟨bx,ox+c*5+1,none⟩=some (.int .i64 xb)∧w4.cell? ⟨bx,ox+c*5+2,none⟩=some (.int .i64 xc)∧w4.cell? ⟨bx,ox+c*5+3,none⟩=some (.int .i64 xd)∧w4.cell? ⟨bx,ox+c*5+4,none⟩=some (.bool xp)∧w4.cell? ⟨w.heap.size,0,none⟩=some (.int .i64 c)∧w4.cell? ⟨w.heap.size,1,none⟩=some (.int .i64 s):=⟨hE.cell y0 fun x=>x,hE.cell y1 fun x=>x,hE.cell y2 fun x=>x,hE.cell y3 fun x=>x,hE.cell y4 fun x=>x,hE.cell y5 fun x=>x,hE.cell l1 fun x=>x,hE.cell l2 fun x=>x⟩;have HE:=Lib.hid (New.undrew hE);clear hE))
    go_wp2_with fail
    go_meet
    exact⟨rfl,Lib.hid (HG.out.trans HE.out)⟩
   case rest=>
   obtain⟨rfl,HW⟩:=hcut
   have q0:=(HF.out.trans HW.out).cell g0 fun x=>x
   have q1:=(HF.out.trans HW.out).cell g1 fun x=>x
   have q2:=(HF.out.trans HW.out).cell g2 fun x=>x
   obtain⟨m1,m2,m3,m4,m5,m6⟩:=res2 (blk_kept HW.out HRES.out);clear g0 g1 g2 l1 l2 y0 y1 y2 y3 y4 y5;go_wp2
   refine bodyPost_ret (v:=.agg #[.int .i64 (pc:Int),.int .i64 (ps:Int)]) (by simp[results,Tryz.results93,go_sem,m5,m6]) rfl ⟨rfl,?_⟩
   exact((HF.out.trans HW.out).setCell (.inr (Nat.le_succ _)) _).setCell (.inr (Nat.le_succ _)) _
 · rw[hcb]at hoth
   have hoe:Kn.inP X a=(pc,ps):=hoth;obtain⟨g1,g2⟩:=r.pi a hal;rw[hoe]at g1 g2;simp only at g1 g2;have g0:=r.c2;have HS:=Lib.hid h;have HX:=Lib.hid hX;have HA:=Lib.hid hc;have HAE:=Lib.hid hae;clear hoe hoth hcm hcr hxk r h hX hc hae harc hp
   go_enter Tryz.func93,Tryz.ntmps93
   go_wp2_with fail
   obtain⟨w1,HW1⟩:∃w1,Hid (w1=(w.alloc (.cells #[.int .i64 (c:Int),.int .i64 (s:Int)] 104)).alloc (.cells #[.int .i64 0,.int .i64 0] 104)):=⟨_,Lib.hid rfl⟩
   rw[←HW1.out]
   have hF:New w w1:=by rw[HW1.out];exact((Fr.refl _ _).alloc _).alloc _
   have k1:w1.cell? ⟨w.heap.size,0,none⟩=some (.int .i64 c):=by rw[HW1.out];exact cell_alloc (cell_of_row _ _ 0 _ 104 (0,0) (heap_alloc_new _ _)) _
   have k2:w1.cell? ⟨w.heap.size,1,none⟩=some (.int .i64 s):=by rw[HW1.out];exact cell_alloc (cell_of_row _ _ 1 _ 104 (0,0) (heap_alloc_new _ _)) _
   have HRES:Hid (w1.heap[w.heap.size+1]?=some (.cells #[.int .i64 0,.int .i64 0] 104 (0,0))):=Lib.hid (by
    have:=heap_alloc_new (w.alloc (.cells #[.int .i64 (c:Int),.int .i64 (s:Int)] 104)) (.cells #[.int .i64 0,.int .i64 0] 104)
    rw[World.size_alloc,←HW1.out]at this;exact this)
   have HF:=Lib.hid hF;clear hF
   go_wp2_with (go_at_call 91;refine(at_any b c s X L _ (New.shAt HF.out HS.out) HX.out hl HA.out hs).mono ?_;rintro e w2 ⟨rfl,hG⟩;rw[←HAE.out];have l1:=hG.cell k1 fun x=>x;have l2:=hG.cell k2 fun x=>x;obtain⟨y0,y1,y2,y3,y4,y5⟩:=New.crCells (HF.out.trans hG) HCC.out;have HG:=Lib.hid hG;clear hG)
   clear k1 k2
   go_cut [20] (fun s20 wx=>s20=.bool false∧Hid (New w1 wx))
   case first=>
    go_region_held3 (fun w'=>w'.cell? ⟨b,0,none⟩=some (.slice (some ⟨bx,ox,none⟩) n cc)∧w'.cell? ⟨bx,ox+c*5,none⟩=some (.int .i64 xa)∧w'.cell? ⟨bx,ox+c*5+1,none⟩=some (.int .i64 xb)∧w'.cell? ⟨bx,ox+c*5+2,none⟩=some (.int .i64 xc)∧w'.cell? ⟨bx,ox+c*5+3,none⟩=some (.int .i64 xd)∧w'.cell? ⟨bx,ox+c*5+4,none⟩=some (.bool xp)∧w'.cell? ⟨w.heap.size,0,none⟩=some (.int .i64 c)∧w'.cell? ⟨w.heap.size,1,none⟩=some (.int .i64 s))
     (first|assumption|go_keep)
     (first
      |(go_at_call 43;refine(comes_any xa xb xc xd xp s _ hs).mono ?_;rintro e w4 ⟨rfl,hE⟩;rw[hcb];have hq:w4.cell? ⟨b,0,none⟩=some (.slice (some ⟨bx,ox,none⟩) n cc)∧w4.cell? ⟨bx,ox+c*5,none⟩=some (.int .i64 xa)∧w4.cell? ⟨bx,ox+c*5+1,none⟩=some (.int .i64 xb)∧w4.cell? ⟨bx,ox+c*5+2,none⟩=some (.int .i64 xc)∧w4.cell? ⟨bx,ox+c*5+3,none⟩=some (.int .i64 xd)∧w4.cell? ⟨bx,ox+c*5+4,none⟩=some (.bool xp)∧w4.cell? ⟨w.heap.size,0,none⟩=some (.int .i64 c)∧w4.cell? ⟨w.heap.size,1,none⟩=some (.int .i64 s):=⟨hE.cell y0 fun x=>x,hE.cell y1 fun x=>x,hE.cell y2 fun x=>x,hE.cell y3 fun x=>x,hE.cell y4 fun x=>x,hE.cell y5 fun x=>x,hE.cell l1 fun x=>x,hE.cell l2 fun x=>x⟩;have HE:=Lib.hid (New.undrew hE);clear hE))
    go_wp2_with fail
    go_meet
    exact⟨rfl,Lib.hid (HG.out.trans HE.out)⟩
   case rest=>
   obtain⟨rfl,HW⟩:=hcut
   have q0:=(HF.out.trans HW.out).cell g0 fun x=>x
   have q1:=(HF.out.trans HW.out).cell g1 fun x=>x
   have q2:=(HF.out.trans HW.out).cell g2 fun x=>x
   obtain⟨m1,m2,m3,m4,m5,m6⟩:=res2 (blk_kept HW.out HRES.out);clear g0 g1 g2 l1 l2 y0 y1 y2 y3 y4 y5;go_wp2
   refine bodyPost_ret (v:=.agg #[.int .i64 (pc:Int),.int .i64 (ps:Int)]) (by simp[results,Tryz.results93,go_sem,m5,m6]) rfl ⟨rfl,?_⟩
   exact((HF.out.trans HW.out).setCell (.inr (Nat.le_succ _)) _).setCell (.inr (Nat.le_succ _)) _

def GaveDt(d:Kn.Dt)(w:World)(e:Ending)(w':World):Prop:=e=.returned (.agg #[.int .i64 (d.1:Nat),.bool d.2])∧New w w'
def LeftS(w':World)(b bx ox n cc pc Q t:Nat)(xa xb xc xd:Int)(xp:Bool):Prop:=w'.cell? ⟨b,0,none⟩=some (.slice (some ⟨bx,ox,none⟩) n cc)∧w'.cell? ⟨bx,ox+pc*5,none⟩=some (.int .i64 xa)∧w'.cell? ⟨bx,ox+pc*5+1,none⟩=some (.int .i64 xb)∧w'.cell? ⟨bx,ox+pc*5+2,none⟩=some (.int .i64 xc)∧w'.cell? ⟨bx,ox+pc*5+3,none⟩=some (.int .i64 xd)∧w'.cell? ⟨bx,ox+pc*5+4,none⟩=some (.bool xp)∧w'.cell? ⟨Q,0,none⟩=some (.int .i64 pc)∧w'.cell? ⟨Q,1,none⟩=some (.int .i64 t)
theorem Fr.leftS{P:Nat→Prop}{w w':World}(h:Fr P w w'){b bx ox n cc pc Q t:Nat}{xa xb xc xd:Int}{xp:Bool}(s:LeftS w b bx ox n cc pc Q t xa xb xc xd xp)(h1:¬P b)(h2:¬P bx)(h3:¬P Q):LeftS w' b bx ox n cc pc Q t xa xb xc xd xp:=
 ⟨h.cell s.1 h1,h.cell s.2.1 h2,h.cell s.2.2.1 h2,h.cell s.2.2.2.1 h2,h.cell s.2.2.2.2.1 h2,h.cell s.2.2.2.2.2.1 h2,h.cell s.2.2.2.2.2.2.1 h3,h.cell s.2.2.2.2.2.2.2 h3⟩
theorem LeftS.set{w:World}{b bx ox n cc pc Q t B:Nat}{xa xb xc xd:Int}{xp:Bool}(s:LeftS w b bx ox n cc pc Q t xa xb xc xd xp)(h1:b≠B)(h2:bx≠B)(h3:Q≠B)(Y Z:Value):
 LeftS ((w.setCell ⟨B,0,none⟩ Y).setCell ⟨B,1,none⟩ Z) b bx ox n cc pc Q t xa xb xc xd xp:=
 (((Fr.refl (fun x=>x=B) w).setCell (.inl rfl) Y).setCell (.inl rfl) Z).leftS s h1 h2 h3

set_option maxHeartbeats 4000000 in
theorem left_any(b a:Nat)(back:Bool)(X:List Kn.Cr)(L:Int)(w:World)(h:ShAt w b X L)(hX:Kn.Ok X)(hl:X.length≤16)(ha:Kn.isArc X a):
 Calls Tryz.prog 72 #[.pointer (some ⟨b,0,none⟩),.agg #[.int .i64 a,.bool back]] w (GaveDt (Kn.left X (a,back)) w):=by
 obtain⟨pc,ps,hp⟩:∃pc ps,Kn.head X (a,back)=(pc,ps):=⟨_,_,rfl⟩
 have hpl:=hX.isPl_head (d:=(a,back)) ha;rw[hp]at hpl;obtain⟨h1,h2⟩:=hpl;simp only at h1 h2;obtain⟨n,bx,ox,cc,bi,bo,r⟩:=h.read (by omega)
 obtain⟨t,ht⟩:∃t,t=(ps+3)%4:=⟨_,rfl⟩
 have ht4:t<4:=by omega
 have j1:(0:Int)≤(ps:Int):=by omega
 have j2:(ps:Int)<4:=by omega
 have z1:((ps:Int)+4-1)%4=(t:Int):=by omega
 have z2:((ps:Int)+4-1).tmod 4=(t:Int):=by rw[Int.tmod_eq_emod_of_nonneg (by omega)];exact z1
 have i1:(0:Int)≤(pc:Int):=by omega
 have i2:(pc:Int)<(n:Int):=by have:=r.len;omega
 obtain⟨x,hxk⟩:∃x,x=Kn.cr X pc:=⟨_,rfl⟩
 have hcr:=r.cr pc (by rw[r.len];exact h1);rw[←hxk]at hcr
 have hcm:Kn.cm X (pc,t)=comesB x.p t:=by unfold Kn.cm;rw[←hxk];rfl
 obtain⟨xa,xb,xc,xd,xp⟩:=x;simp only at hcm;have HCC:Hid (CrCells w b bx ox n cc (ox+pc*5) xa xb xc xd xp):=Lib.hid ⟨r.c0,hcr.a,hcr.b,hcr.c,hcr.d,hcr.p⟩
 obtain⟨na,hna⟩:∃na,na=Kn.arcN X (pc,t):=⟨_,rfl⟩
 obtain⟨nb,hnb⟩:∃nb,nb=comesB xp t:=⟨_,rfl⟩
 have hres:Kn.left X (a,back)=(na,nb):=by unfold Kn.left;rw[hp,←ht,hcm,←hna,←hnb]
 rw[hres];have HNB:=Lib.hid hnb;have HNA:=Lib.hid hna;have HP:=Lib.hid hp;have HS:=Lib.hid h;have HX:=Lib.hid hX;have HA:=Lib.hid h1;have HAR:=Lib.hid ha;have hbl:b<w.heap.size:=World.block_lt_of_cell? w _ r.c0;have hbxl:bx<w.heap.size:=World.block_lt_of_cell? w _ hcr.a;clear hp h hX h1 ha hna hnb hres hcm hxk hcr r ht
 go_enter Tryz.func72,Tryz.ntmps72
 go_wp2_with fail
 obtain⟨w1,HW1⟩:∃w1,Hid (w1=(w.alloc (.cells #[.int .i64 (a:Int),.bool back] 26)).alloc (.cells #[.int .i64 0,.bool false] 26)):=⟨_,Lib.hid rfl⟩
 rw[←HW1.out]
 have hF:New w w1:=by rw[HW1.out];exact((Fr.refl _ _).alloc _).alloc _
 have k1:w1.cell? ⟨w.heap.size,0,none⟩=some (.int .i64 a):=by rw[HW1.out];exact cell_alloc (cell_of_row _ _ 0 _ 26 (0,0) (heap_alloc_new _ _)) _
 have k2:w1.cell? ⟨w.heap.size,1,none⟩=some (.bool back):=by rw[HW1.out];exact cell_alloc (cell_of_row _ _ 1 _ 26 (0,0) (heap_alloc_new _ _)) _
 have HRES:Hid (w1.heap[w.heap.size+1]?=some (.cells #[.int .i64 0,.bool false] 26 (0,0))):=Lib.hid (by
  have:=heap_alloc_new (w.alloc (.cells #[.int .i64 (a:Int),.bool back] 26)) (.cells #[.int .i64 0,.bool false] 26)
  rw[World.size_alloc,←HW1.out]at this;exact this)
 have HSZ:w.heap.size+2≤w1.heap.size:=by rw[HW1.out];simp
 have HF:=Lib.hid hF;clear hF
 go_wp2_with (go_at_call 58;refine(head_any b a back X L _ (New.shAt HF.out HS.out) hl HAR.out).mono ?_;rintro e w2 ⟨rfl,hG⟩;rw[HP.out];have HG:=Lib.hid hG;clear hG)
 have hF3:New w2 ((w2.alloc (.cells #[.int .i64 (pc:Int),.int .i64 (ps:Int)] 104)).alloc (.cells #[.int .i64 (pc:Int),.int .i64 (t:Int)] 104)):=((Fr.refl _ _).alloc _).alloc _
 obtain⟨w3,HW3⟩:∃w3,Hid (w3=(w2.alloc (.cells #[.int .i64 (pc:Int),.int .i64 (ps:Int)] 104)).alloc (.cells #[.int .i64 (pc:Int),.int .i64 (t:Int)] 104)):=⟨_,Lib.hid rfl⟩
 rw[←HW3.out]at hF3 ⊢
 have hq:w3.heap[w2.heap.size+1]?=some (.cells #[.int .i64 (pc:Int),.int .i64 (t:Int)] 104 (0,0)):=by
  have:=heap_alloc_new (w2.alloc (.cells #[.int .i64 (pc:Int),.int .i64 (ps:Int)] 104)) (.cells #[.int .i64 (pc:Int),.int .i64 (t:Int)] 104)
  rw[World.size_alloc,←HW3.out]at this;exact this
 have HF3:Hid (New w w3):=Lib.hid ((HF.out.trans HG.out).trans hF3);have HR3:Hid (w3.heap[w.heap.size+1]?=some (.cells #[.int .i64 0,.bool false] 26 (0,0))):=Lib.hid (blk_kept (HG.out.trans hF3) HRES.out);obtain⟨y0,y1,y2,y3,y4,y5⟩:=New.crCells HF3.out HCC.out;have y6:=cell_of_row w3 _ 0 _ 104 (0,0) hq;have y7:=cell_of_row w3 _ 1 _ 104 (0,0) hq;have HLS:Hid (LeftS w3 b bx ox n cc pc (w2.heap.size+1) t xa xb xc xd xp):=Lib.hid ⟨y0,y1,y2,y3,y4,y5,y6,y7⟩
 have nb1:b≠w.heap.size+1:=by omega
 have nb2:bx≠w.heap.size+1:=by omega
 have nb3:w2.heap.size+1≠w.heap.size+1:=by have:=HG.out.size;omega
 change w3.cell? ⟨w2.heap.size+1,0,none⟩=some (.int .i64 pc)at y6
 change w3.cell? ⟨w2.heap.size+1,1,none⟩=some (.int .i64 t)at y7
 clear hF3 hq k1 k2
 go_region_held3 (fun w'=>w'.cell? ⟨b,0,none⟩=some (.slice (some ⟨bx,ox,none⟩) n cc)∧w'.cell? ⟨bx,ox+pc*5,none⟩=some (.int .i64 xa)∧w'.cell? ⟨bx,ox+pc*5+1,none⟩=some (.int .i64 xb)∧w'.cell? ⟨bx,ox+pc*5+2,none⟩=some (.int .i64 xc)∧w'.cell? ⟨bx,ox+pc*5+3,none⟩=some (.int .i64 xd)∧w'.cell? ⟨bx,ox+pc*5+4,none⟩=some (.bool xp)∧w'.cell? ⟨w2.heap.size+1,0,none⟩=some (.int .i64 pc)∧w'.cell? ⟨w2.heap.size+1,1,none⟩=some (.int .i64 t))
  (first|assumption|exact hs|exact hz _ _|go_keep)
  (first
   |(go_at_call 91;refine(at_any b pc t X L _ (New.shAt (by first|exact(HF3.out.trans HE.out).drew|exact HF3.out.trans HE.out|exact HF3.out.drew) HS.out) HX.out hl HA.out ht4).mono ?_;rintro e w4 ⟨rfl,hE⟩;rw[←HNA.out];have hE':New w3 w4:=Fr.trans (by first|exact HE.out.drew|exact HE.out|exact(Fr.refl _ _).drew|exact Fr.refl _ _) hE;have hs:=hE'.leftS HLS.out (fun x=>x) (fun x=>x) (fun x=>x);have hz:=fun Y Z=>hs.set nb1 nb2 nb3 Y Z;have hr:=res2 (blk_kept hE' HR3.out);have HE:=Lib.hid hE';clear hE hE';unfold LeftS at hs hz;obtain⟨m1,m2,m3,m4,m5,m6⟩:=hr)
   |(go_at_call 43;refine(comes_any xa xb xc xd xp t _ ht4).mono ?_;rintro e w5 ⟨rfl,hE⟩;rw[←HNB.out];have hE':New w3 w5:=Fr.trans (by first|exact HE.out.drew|exact HE.out|exact(Fr.refl _ _).drew|exact Fr.refl _ _) hE;have hs:=hE'.leftS HLS.out (fun x=>x) (fun x=>x) (fun x=>x);have hz:=fun Y Z=>hs.set nb1 nb2 nb3 Y Z;have hr:=res2 (blk_kept hE' HR3.out);have HE:=Lib.hid hE';clear hE hE';unfold LeftS at hs hz;obtain⟨m1,m2,m3,m4,m5,m6⟩:=hr))
 all_goals
  go_wp2
  refine bodyPost_ret (v:=.agg #[.int .i64 (na:Int),.bool nb]) (by simp[results,Tryz.results72,go_sem,m5,m6]) rfl ⟨rfl,?_⟩
  exact(by first|exact(((HF3.out.trans HE.out).setCell (.inr (Nat.le_succ _)) _).setCell (.inr (Nat.le_succ _)) _).drew|exact((HF3.out.trans HE.out).setCell (.inr (Nat.le_succ _)) _).setCell (.inr (Nat.le_succ _)) _)
end Go.Proofs.YtlicglicfijelaaGreat

/- Words for rows of the call's own, and for slices of slices. -/
namespace Go.Proofs.YtlicglicfijelaaGreat
open Go.RowKit

theorem Tryz.info4:(Tryz.prog.info? 4).map (fun i=>(i.zero,i.size,i.bytes))=some (some (.bool false),1,1):=by kernel_rfl
theorem Tryz.info78:(Tryz.prog.info? 78).map (fun i=>(i.zero,i.size,i.bytes))=some (some (.slice none 0 0),1,24):=by kernel_rfl
theorem Tryz.info118:(Tryz.prog.info? 118).map (fun i=>(i.zero,i.size,i.bytes))=some (some (.slice none 0 0),1,24):=by kernel_rfl
structure Els{α:Type}(R:Value→α→Prop)(vs:List Value)(l:List α):Prop where
 len:vs.length=l.length
 at_:∀i (h:i<vs.length) (h':i<l.length),R vs[i] l[i]
section
variable {α:Type} {R R':Value→α→Prop} {vs:List Value} {l:List α}
theorem Els.nil:Els R [] []:=⟨rfl,fun i h=>by simp at h⟩
theorem Els.mono(h:Els R vs l)(hR:∀v x,R v x→R' v x):Els R' vs l:=⟨h.len,fun i h1 h2=>hR _ _ (h.at_ i h1 h2)⟩
theorem Els.snoc(h:Els R vs l){v:Value}{x:α}(hx:R v x):Els R (vs++[v]) (l++[x]):=by
 refine⟨by rw[List.length_append,List.length_append,h.len];rfl,fun i h1 h2=>?_⟩
 by_cases c:i<l.length
 · rw[List.getElem_append_left (by rw[h.len];exact c),List.getElem_append_left c]
   exact h.at_ i _ c
 · rw[List.length_append,List.length_singleton]at h2
   have e:i=l.length:=by omega
   subst e;rw[List.getElem_append_right (by rw[h.len];exact Nat.le_refl _),List.getElem_append_right (Nat.le_refl _)];simp only[h.len,Nat.sub_self,List.getElem_cons_zero]
   exact hx
end
def nums(l:List Nat):List Value:=l.map fun n=>.int .i64 (n:Nat)
theorem nums_length(l:List Nat):(nums l).length=l.length:=by simp[nums]
theorem nums_snoc(l:List Nat)(x:Nat):nums (l++[x])=nums l++[.int .i64 (x:Nat)]:=by simp[nums]
def OwnN(w:World)(v:Value)(l:List Nat):Prop:=w.ownsRow 0 3 1 v l.length (nums l)
def Rows{α:Type}(R:World→Value→α→Prop)(base e:Nat)(w:World)(v:Value)(ll:List α):Prop:=∃vs,w.ownsRow base e 1 v vs.length vs∧Els (R w) vs ll
theorem Rows.nil{α:Type}{R:World→Value→α→Prop}{base e:Nat}{w:World}:Rows R base e w (.slice none 0 0) []:=⟨[],⟨rfl,.inl ⟨rfl,rfl⟩⟩,Els.nil⟩
theorem owns_ne{b b' e e' z z' n n':Nat}{w:World}{v v':Value}{xs ys:List Value}(h:w.ownsRow b e z v n xs)(h':w.ownsRow b' e' z' v' n' ys)(hne:e≠e'):∀k,v.ownBlock=some k→some k≠v'.ownBlock:=by
 intro k hk
 rcases h.2 with⟨rfl,_⟩|⟨g,cap,cur,rfl,_,hgg,_⟩
 · cases hk
 · rcases h'.2 with⟨rfl,_⟩|⟨g',cap',cur',rfl,_,hgg',_⟩
   · intro z;cases z
   · intro z
     cases hk
     cases z
     rw[hgg]at hgg'
     injection hgg' with hgg'
     injection hgg' with _ he
     exact hne he
theorem owns_kept{b e z n:Nat}{w w':World}{row:Option Nat}{v:Value}{ys:List Value}(h:w.ownsRow b e z v n ys)(hg:w.grownBy w' row)(hne:∀k,v.ownBlock=some k→some k≠row):w'.ownsRow b e z v n ys:=by
 refine⟨h.1,?_⟩
 rcases h.2 with hn|⟨g,cap,cur,rfl,hb,hgg,r⟩
 · exact .inl hn
 · exact .inr ⟨g,cap,cur,rfl,hb,(hg.block g (Array.getElem?_eq_some_iff.1 hgg).1 (hne g rfl)).trans hgg,r⟩
theorem own0{base e z n:Nat}{w:World}{v:Value}{ys:List Value}(h:w.ownsRow base e z v n ys):w.ownsRow 0 e z v n ys:=own_base h (Nat.zero_le _)
theorem own_shape{base e n:Nat}{w:World}{v:Value}{ys:List Value}(h:w.ownsRow base e 1 v n ys):∃a c,v=.slice a n c∧n≤c∧(0<n→∃g,a=some ⟨g,0,none⟩∧base≤g∧∀i (hi:i<ys.length),w.cell? ⟨g,i,none⟩=some ys[i]):=by
 rcases h.2 with⟨rfl,rfl⟩|⟨g,cap,cur,rfl,hb,hg,h1,h2,h3,h4⟩
 · exact⟨none,0,rfl,Nat.le_refl _,fun h=>by omega⟩
 · refine⟨_,cap,rfl,h1,fun _=>⟨g,rfl,hb,fun i hi=>?_⟩⟩
   have:=World.ownsRow.cells h (g:=g) rfl i ys[i] (List.getElem?_eq_getElem hi);rw[addr_add,Nat.zero_add]at this
   exact this
theorem one_sl(a:Option Addr)(n c:Nat):∀u∈[Value.slice a n c],u.oneCell'=true:=by
 intro u hu;rw[List.mem_singleton]at hu;subst hu;rfl
theorem one_int(x:Int):∀u∈[Value.int .i64 x],u.oneCell'=true:=by
 intro u hu;rw[List.mem_singleton]at hu;subst hu;rfl
theorem own_app{b b' e e' z z' n n':Nat}{w w':World}{o:Obj}{v v':Value}{xs ys:List Value}(h:w.ownsRow b e z v n xs)(h':w.ownsRow b' e' z' v' n' ys)(hne:e≠e')(hg:(w.alloc o).grownBy w' v'.ownBlock):w'.ownsRow b e z v n xs:=
 owns_kept (World.ownsRow.alloc h o) hg (owns_ne h h' hne)
theorem size_set(w:World)(a:Addr)(v:Value):(w.setCell a v).heap.size=w.heap.size:=by simp[World.setCell]
theorem cell_one'{w:World}{v:Value}{t:TypeId}{B:Nat}(hB:B=w.heap.size):∀(j:Nat) (u:Value),[v][j]?=some u→(w.alloc (.cells #[v] t)).cell? ((⟨B,0,none⟩:Addr).add j)=some u:=by
 subst hB;exact cell_one_new _ _ _
def boolFn(p:Nat→Bool)(j:Nat):Value:=.bool (p j)
theorem marks_made(w:World)(m:Nat):(w.alloc (.cells (madeCells #[.bool false] m) 4)).rowIs w.heap.size 4 m (boolFn fun j=>decide (j∈([]:List Nat))):=
 rowIs_congr (World.rowIs_made w (.bool false) m 4) fun j _=>by unfold boolFn;simp
theorem marks_set{w:World}{b m:Nat}{seen:List Nat}(h:w.rowIs b 4 m (boolFn fun j=>decide (j∈seen)))(x:Nat):(w.setCell ⟨b,x,none⟩ (.bool true)).rowIs b 4 m (boolFn fun j=>decide (j∈seen++[x])):=by
 refine rowIs_congr (h.set _ _) fun j _=>?_
 unfold boolFn
 by_cases c:j=x
 · subst c;simp
 · simp[c]
theorem own_lb{b e z n:Nat}{w:World}{v:Value}{xs:List Value}(h:w.ownsRow b e z v n xs):∀k,v.ownBlock=some k→b≤k:=by
 intro k hk
 rcases h.2 with⟨rfl,_⟩|⟨g,cap,cur,rfl,hb,_,_⟩
 · cases hk
 · cases hk;exact hb
theorem marks_app{b e z n:Nat}{w w':World}{o:Obj}{v:Value}{xs:List Value}{sb m:Nat}{f:Nat→Value}(h:w.rowIs sb 4 m f)(h':w.ownsRow b e z v n xs)(hg:(w.alloc o).grownBy w' v.ownBlock)(he:e≠4:=by decide):w'.rowIs sb 4 m f:=
 (h.alloc o).of_block (hg.block sb (h.alloc o).lt fun hk=>own_ne h' h he sb hk.symm rfl)
def lenV:Value→Nat
 |.slice _ n _=>n
 |_=>0
end Go.Proofs.YtlicglicfijelaaGreat

/- Walks: Rings, Strands. -/
namespace Go.Proofs.YtlicglicfijelaaGreat
open Go.RowKit

structure RInv(w wr:World)(sb:Nat)(X:List Kn.Cr)(k:Nat)(seen:List Nat)(rs:List (List Nat))(o:Value):Prop where
 new:New w wr
 lb:w.heap.size≤sb
 row:wr.rowIs sb 4 (Kn.nArcs X+1) (boolFn fun j=>decide (j∈seen))
 out:Rows OwnN w.heap.size 78 wr o rs
 nd:seen.Nodup
 sub:∀x∈seen,x∈Kn.arcs X
 eq:rs++Kn.rings (Kn.nextA X) (Kn.nArcs X+1) seen ((Kn.arcs X).drop (k-1))=Kn.strandsL X
structure QInv(wo wr:World)(sb:Nat)(X:List Kn.Cr)(k:Nat)(seen r:List Nat)(x:Nat)(s:Value):Prop where
 fr:Fr (fun j=>j=sb) wo wr
 row:wr.rowIs sb 4 (Kn.nArcs X+1) (boolFn fun j=>decide (j∈seen++r))
 ring:wr.ownsRow wo.heap.size 3 1 s r.length (nums r)
 nd:(seen++r).Nodup
 sub:∀x∈seen++r,x∈Kn.arcs X
 arc:Kn.isArc X x
 eq:∃f,f+r.length=Kn.nArcs X+1∧r++Kn.ring (Kn.nextA X) f (seen++r) x=Kn.ring (Kn.nextA X) (Kn.nArcs X+1) seen k
theorem arcs_drop{X:List Kn.Cr}{k:Nat}(h1:1≤k)(h2:k≤Kn.nArcs X):(Kn.arcs X).drop (k-1)=k :: (Kn.arcs X).drop k:=by
 have hl:k-1<(Kn.arcs X).length:=by rw[Kn.arcs_length];omega
 rw[List.drop_eq_getElem_cons hl,show k-1+1=k by omega]
 congr 1
 simp[Kn.arcs];omega
def GaveRows(ll:List (List Nat))(w:World)(e:Ending)(w':World):Prop:=∃v,e=.returned v∧Rows OwnN w.heap.size 78 w' v ll∧New w w'
theorem QInv.snoc{wo wr:World}{sb:Nat}{X:List Kn.Cr}{k:Nat}{seen r:List Nat}{x:Nat}{s:Value}(h:QInv wo wr sb X k seen r x s)(hx:x∉seen++r):
 (seen++(r++[x])).Nodup∧(∀y∈seen++(r++[x]),y∈Kn.arcs X)∧r.length+1≤Kn.nArcs X ∧
 ∃f,f+(r++[x]).length=Kn.nArcs X+1∧(r++[x])++Kn.ring (Kn.nextA X) f (seen++(r++[x])) (Kn.nextA X x)=Kn.ring (Kn.nextA X) (Kn.nArcs X+1) seen k:=by
 have h1:=Kn.nodup_snoc h.nd hx
 have h2:∀y∈seen++(r++[x]),y∈Kn.arcs X:=fun y hy=>by
  rw[←List.append_assoc,List.mem_append,List.mem_singleton]at hy
  rcases hy with hy|rfl
  · exact h.sub y hy
  · exact Kn.mem_arcs.2 h.arc
 rw[List.append_assoc]at h1;have h3:=Kn.nodup_le h1 h2;rw[Kn.arcs_length]at h3;simp only[List.length_append,List.length_singleton]at h3
 refine⟨h1,h2,by omega,?_⟩
 obtain⟨f,hf,he⟩:=h.eq
 obtain⟨f',rfl⟩:∃f',f=f'+1:=⟨f-1,by omega⟩
 refine⟨f',by simp;omega,?_⟩
 rw[Kn.ring_new _ hx,List.append_assoc]at he;rw[List.append_assoc]
 exact he
theorem QInv.done{wo wr:World}{sb:Nat}{X:List Kn.Cr}{k:Nat}{seen r:List Nat}{x:Nat}{s:Value}(h:QInv wo wr sb X k seen r x s)(hx:x∈seen++r):r=Kn.ring (Kn.nextA X) (Kn.nArcs X+1) seen k:=by
 obtain⟨f,_,he⟩:=h.eq;rw[Kn.ring_seen _ hx,List.append_nil]at he
 exact he

theorem RInv.few{w wr:World}{sb:Nat}{X:List Kn.Cr}{k m:Nat}{seen:List Nat}{rs:List (List Nat)}{o:Value}(h:RInv w wr sb X k seen rs o)(hm:m=Kn.nArcs X)(h32:m≤32):rs.length+1≤64:=by
 have h1:=Kn.rings_len (Kn.nextA X) (Kn.nArcs X+1) (Kn.arcs X) [];have h2:=congrArg List.length h.eq
 unfold Kn.strandsL at h2
 rw[List.length_append]at h2;rw[Kn.arcs_length]at h1
 omega
theorem mayB_ok{X:List Kn.Cr}{L:Int}(h:Kn.mayB X L=true):Kn.Ok X∧X.length≤16:=by
 unfold Kn.mayB at h
 simp only[Bool.and_eq_true,decide_eq_true_eq]at h
 exact⟨(Kn.ok_iff X).1 h.2,h.1.1.1.1⟩
theorem arcsN'(b m:Nat)(X:List Kn.Cr)(L:Int)(w:World)(h:ShAt w b X L)(hn:X.length≤16)(hm:m=Kn.nArcs X):
 Calls Tryz.prog 35 #[.pointer (some ⟨b,0,none⟩)] w fun e w'=>e=.returned (.int .i64 (m:Nat))∧w=w':=by
 subst hm;exact arcsN_any b X L w h hn

end Go.Proofs.YtlicglicfijelaaGreat
