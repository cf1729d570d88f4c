/- Walks: Other, Left. -/
import Derived.Test.YtfplmbmenjdlhaaGreatDoorW6
set_option maxRecDepth 100000
set_option maxHeartbeats 16000000
namespace Go.Proofs.YtfplmbmenjdlhaaGreatDoor
open Go.RowKit
open Fr (refl)
open Kn (Cr cm cr left ag Jl)
open Nat (le_succ)
open Go.Proofs.Tryz (func114 prog)
open World (ownsRow size_alloc)
variable {X:List Cr} {xs ys:List Value} {B:Nat} {f:Nat->Value} {v:Value} {w w':World}
def BA(w:World)(b bx o n cc:Nat)(ad:Nat)(xa xb xc xd:Int)(xp:Bool):Prop:=
 w.cell? ⟨b,0,none⟩=some (.slice (some ⟨bx,o,none⟩) n cc)/\w.cell? ⟨bx,ad,none⟩=some (.int .i64 xa)/\w.cell? ⟨bx,ad+1,none⟩=some (.int .i64 xb)/\w.cell? ⟨bx,ad+2,none⟩=some (.int .i64 xc)/\w.cell? ⟨bx,ad+3,none⟩=some (.int .i64 xd)/\w.cell? ⟨bx,ad+4,none⟩=some (.bool xp)
theorem New.bE(h:New w w'){b bx o n cc ad:Nat}{xa xb xc xd:Int}{xp:Bool}(s:BA w b bx o n cc ad xa xb xc xd xp):BA w' b bx o n cc ad xa xb xc xd xp:=
 ⟨h.cell s.1 λx=>x,h.cell s.2.1 λx=>x,h.cell s.2.2.1 λx=>x,h.cell s.2.2.2.1 λx=>x,h.cell s.2.2.2.2.1 λx=>x,h.cell s.2.2.2.2.2 λx=>x⟩
theorem qR(h:New w w'){o:Obj}(hb:w.heap[B]?=some o):w'.heap[B]?=some o:=(h.block B (jf.1 hb).1 λx=>x).trans hb
theorem EM(b c s:Nat)(X:List Cr)(L:Int)(w:World)(h:fS w b X L)(hX:Kn.Ok X)(hl:X.length<=16)(hc:c<X.length)(hs:s<4):
 Calls prog 114 #[.pointer (some ⟨b,0,none⟩),.agg #[.int .i64 c,.int .i64 s]] w (Nt (Kn.other X (c,s)) w):=by
 obtain⟨pc,ps,hp⟩:∃pc ps,Kn.other X (c,s)=(pc,ps):=⟨_,_,rfl⟩
 rw[hp]
 obtain⟨a,hae⟩:∃a,a=Kn.aa X (c,s):=⟨_,rfl⟩
 have MC:=hX.ah (X:=X) (p:=(c,s)) ⟨hc,hs⟩;rw[<-hae]at MC;obtain⟨n,bx,ox,cc,bi,bo,r⟩:=h.read (by omega)
 have JN:a<2*n+1:=by have:=MC.2;unfold ag at this;have:=r.len;omega
 have a1:(0:Int)<=(a:Int):=by omega
 have a2:(a:Int)<2*(n:Int)+1:=by omega
 have i1:(0:Int)<=(c:Int):=by omega
 have i2:(c:Int)<(n:Int):=by have:=r.len;omega
 obtain⟨x,hxk⟩:∃x,x=cr X c:=⟨_,rfl⟩
 have iw:=r.cr c (by rw[r.len];exact hc);rw[<-hxk]at iw
 have hcm:cm X (c,s)=oz x.p s:=by unfold cm;rw[<-hxk];rfl
 obtain⟨xa,xb,xc,xd,xp⟩:=x;have Hw:Hd (BA w b bx ox n cc (ox+c*5) xa xb xc xd xp):=jd ⟨r.c0,iw.a,iw.b,iw.c,iw.d,iw.p⟩;simp only at hcm
 have QK:Kn.aF X (!oz xp s) a=(pc,ps):=by rw[<-hcm,hae];exact hp
 rcases Bool.eq_false_or_eq_true (oz xp s)with hcb|hcb
 · rw[hcb]at QK
   have hoe:Kn.fH X a=(pc,ps):=QK;obtain⟨g1,g2⟩:=r.po a JN;rw[hoe]at g1 g2;simp only at g1 g2;have g0:=r.c3;have HS:=jd h;have HX:=jd hX;have HA:=jd hc;have HAE:=jd hae;clear hoe QK hcm iw hxk r h hX hc hae MC hp
   go_enter func114,Tryz.ntmps114
   go_wp2_with fail;obtain⟨w1,cU⟩:=jb ((w.alloc (.cells #[.int .i64 (c:Int),.int .i64 (s:Int)] 158)).alloc (.cells #[.int .i64 0,.int .i64 0] 158));rw[<-cU.o]
   have hF:New w w1:=by rw[cU.o];exact((refl _ _).alloc _).alloc _
   have k1:w1.cell? ⟨w.heap.size,0,none⟩=some (.int .i64 c):=by rw[cU.o];exact aY (cell_of_row _ _ 0 _ 158 (0,0) (heap_alloc_new _ _)) _
   have k2:w1.cell? ⟨w.heap.size,1,none⟩=some (.int .i64 s):=by rw[cU.o];exact aY (cell_of_row _ _ 1 _ 158 (0,0) (heap_alloc_new _ _)) _
   have Nj:Hd (w1.heap[w.heap.size+1]?=some (.cells #[.int .i64 0,.int .i64 0] 158 (0,0))):=jd (by
    have:=heap_alloc_new (w.alloc (.cells #[.int .i64 (c:Int),.int .i64 (s:Int)] 158)) (.cells #[.int .i64 0,.int .i64 0] 158)
    rw[size_alloc,<-cU.o]at this;exact this)
   have HF:=jd hF;clear hF
   go_wp2_with (go_at_call 109;refine(Du b c s X L _ (New.kM HF.o HS.o) HX.o hl HA.o hs).mono ?_;rintro e w2 ⟨rfl,hG⟩;rw[<-HAE.o];have l1:=hG.cell k1 λx=>x;have l2:=hG.cell k2 λx=>x;obtain⟨y0,y1,y2,y3,y4,y5⟩:=New.bE (HF.o.trans hG) Hw.o;have HG:=jd hG;clear hG)
   clear k1 k2
   go_cut [20] (λs20 wx=>s20=.bool true/\Hd (New w1 wx))
   case first=>
    go_region_held3 (λw'=>w'.cell? ⟨b,0,none⟩=some (.slice (some ⟨bx,ox,none⟩) n cc)/\w'.cell? ⟨bx,ox+c*5,none⟩=some (.int .i64 xa)/\w'.cell? ⟨bx,ox+c*5+1,none⟩=some (.int .i64 xb)/\w'.cell? ⟨bx,ox+c*5+2,none⟩=some (.int .i64 xc)/\w'.cell? ⟨bx,ox+c*5+3,none⟩=some (.int .i64 xd)/\w'.cell? ⟨bx,ox+c*5+4,none⟩=some (.bool xp)/\w'.cell? ⟨w.heap.size,0,none⟩=some (.int .i64 c)/\w'.cell? ⟨w.heap.size,1,none⟩=some (.int .i64 s))
     (first|assumption|go_keep)
     (first
      |(go_at_call 113;refine(qQ xa xb xc xd xp s _ hs).mono ?_;rintro e w4 ⟨rfl,hE⟩;rw[hcb];have hq:w4.cell? ⟨b,0,none⟩=some (.slice (some ⟨bx,ox,none⟩) n cc)/\w4.cell? ⟨bx,ox+c*5,none⟩=some (.int .i64 xa)/\w4.cell? ⟨bx,ox+c*5+1,none⟩=some (.int .i64 xb)/\w4.cell? ⟨bx,ox+c*5+2,none⟩=some (.int .i64 xc)/\w4.cell? ⟨bx,ox+c*5+3,none⟩=some (.int .i64 xd)/\w4.cell? ⟨bx,ox+c*5+4,none⟩=some (.bool xp)/\w4.cell? ⟨w.heap.size,0,none⟩=some (.int .i64 c)/\w4.cell? ⟨w.heap.size,1,none⟩=some (.int .i64 s):=⟨hE.cell y0 λx=>x,hE.cell y1 λx=>x,hE.cell y2 λx=>x,hE.cell y3 λx=>x,hE.cell y4 λx=>x,hE.cell y5 λx=>x,hE.cell l1 λx=>x,hE.cell l2 λx=>x⟩;have HE:=jd (New.FP hE);clear hE))
    go_wp2_with fail;go_meet;exact⟨rfl,jd (HG.o.trans HE.o)⟩
   case rest=>
   obtain⟨rfl,HW⟩:=hcut
   have q0:=(HF.o.trans HW.o).cell g0 λx=>x
   have q1:=(HF.o.trans HW.o).cell g1 λx=>x
   have q2:=(HF.o.trans HW.o).cell g2 λx=>x
   obtain⟨m1,m2,m3,m4,m5,m6⟩:=F3 (qR HW.o Nj.o);clear g0 g1 g2 l1 l2 y0 y1 y2 y3 y4 y5;go_wp2
   refine bodyPost_ret (v:=.agg #[.int .i64 (pc:Int),.int .i64 (ps:Int)]) (by simp[results,Tryz.results114,go_sem,m5,m6]) rfl ⟨rfl,?_⟩
   exact((HF.o.trans HW.o).setCell (.inr (le_succ _)) _).setCell (.inr (le_succ _)) _
 rw[hcb]at QK;have hoe:Kn.oM X a=(pc,ps):=QK;obtain⟨g1,g2⟩:=r.pi a JN;rw[hoe]at g1 g2;simp only at g1 g2;have g0:=r.c2;have HS:=jd h;have HX:=jd hX;have HA:=jd hc;have HAE:=jd hae;clear hoe QK hcm iw hxk r h hX hc hae MC hp
 go_enter func114,Tryz.ntmps114
 go_wp2_with fail;obtain⟨w1,cU⟩:=jb ((w.alloc (.cells #[.int .i64 (c:Int),.int .i64 (s:Int)] 158)).alloc (.cells #[.int .i64 0,.int .i64 0] 158));rw[<-cU.o]
 have hF:New w w1:=by rw[cU.o];exact((refl _ _).alloc _).alloc _
 have k1:w1.cell? ⟨w.heap.size,0,none⟩=some (.int .i64 c):=by rw[cU.o];exact aY (cell_of_row _ _ 0 _ 158 (0,0) (heap_alloc_new _ _)) _
 have k2:w1.cell? ⟨w.heap.size,1,none⟩=some (.int .i64 s):=by rw[cU.o];exact aY (cell_of_row _ _ 1 _ 158 (0,0) (heap_alloc_new _ _)) _
 have Nj:Hd (w1.heap[w.heap.size+1]?=some (.cells #[.int .i64 0,.int .i64 0] 158 (0,0))):=jd (by
  have:=heap_alloc_new (w.alloc (.cells #[.int .i64 (c:Int),.int .i64 (s:Int)] 158)) (.cells #[.int .i64 0,.int .i64 0] 158)
  rw[size_alloc,<-cU.o]at this;exact this)
 have HF:=jd hF;clear hF
 go_wp2_with (go_at_call 109;refine(Du b c s X L _ (New.kM HF.o HS.o) HX.o hl HA.o hs).mono ?_;rintro e w2 ⟨rfl,hG⟩;rw[<-HAE.o];have l1:=hG.cell k1 λx=>x;have l2:=hG.cell k2 λx=>x;obtain⟨y0,y1,y2,y3,y4,y5⟩:=New.bE (HF.o.trans hG) Hw.o;have HG:=jd hG;clear hG)
 clear k1 k2
 go_cut [20] (λs20 wx=>s20=.bool false/\Hd (New w1 wx))
 case first=>
  go_region_held3 (λw'=>w'.cell? ⟨b,0,none⟩=some (.slice (some ⟨bx,ox,none⟩) n cc)/\w'.cell? ⟨bx,ox+c*5,none⟩=some (.int .i64 xa)/\w'.cell? ⟨bx,ox+c*5+1,none⟩=some (.int .i64 xb)/\w'.cell? ⟨bx,ox+c*5+2,none⟩=some (.int .i64 xc)/\w'.cell? ⟨bx,ox+c*5+3,none⟩=some (.int .i64 xd)/\w'.cell? ⟨bx,ox+c*5+4,none⟩=some (.bool xp)/\w'.cell? ⟨w.heap.size,0,none⟩=some (.int .i64 c)/\w'.cell? ⟨w.heap.size,1,none⟩=some (.int .i64 s))
   (first|assumption|go_keep)
   (first
    |(go_at_call 113;refine(qQ xa xb xc xd xp s _ hs).mono ?_;rintro e w4 ⟨rfl,hE⟩;rw[hcb];have hq:w4.cell? ⟨b,0,none⟩=some (.slice (some ⟨bx,ox,none⟩) n cc)/\w4.cell? ⟨bx,ox+c*5,none⟩=some (.int .i64 xa)/\w4.cell? ⟨bx,ox+c*5+1,none⟩=some (.int .i64 xb)/\w4.cell? ⟨bx,ox+c*5+2,none⟩=some (.int .i64 xc)/\w4.cell? ⟨bx,ox+c*5+3,none⟩=some (.int .i64 xd)/\w4.cell? ⟨bx,ox+c*5+4,none⟩=some (.bool xp)/\w4.cell? ⟨w.heap.size,0,none⟩=some (.int .i64 c)/\w4.cell? ⟨w.heap.size,1,none⟩=some (.int .i64 s):=⟨hE.cell y0 λx=>x,hE.cell y1 λx=>x,hE.cell y2 λx=>x,hE.cell y3 λx=>x,hE.cell y4 λx=>x,hE.cell y5 λx=>x,hE.cell l1 λx=>x,hE.cell l2 λx=>x⟩;have HE:=jd (New.FP hE);clear hE))
  go_wp2_with fail;go_meet;exact⟨rfl,jd (HG.o.trans HE.o)⟩
 case rest=>
 obtain⟨rfl,HW⟩:=hcut
 have q0:=(HF.o.trans HW.o).cell g0 λx=>x
 have q1:=(HF.o.trans HW.o).cell g1 λx=>x
 have q2:=(HF.o.trans HW.o).cell g2 λx=>x
 obtain⟨m1,m2,m3,m4,m5,m6⟩:=F3 (qR HW.o Nj.o);clear g0 g1 g2 l1 l2 y0 y1 y2 y3 y4 y5;go_wp2
 refine bodyPost_ret (v:=.agg #[.int .i64 (pc:Int),.int .i64 (ps:Int)]) (by simp[results,Tryz.results114,go_sem,m5,m6]) rfl ⟨rfl,?_⟩
 exact((HF.o.trans HW.o).setCell (.inr (le_succ _)) _).setCell (.inr (le_succ _)) _
def ae0(d:Kn.Dt)(w:World)(e:Ending)(w':World):Prop:=e=.returned (.agg #[.int .i64 (d.1:Nat),.bool d.2])/\New w w'
def Au(w':World)(b bx ox n cc pc Q t:Nat)(xa xb xc xd:Int)(xp:Bool):Prop:=w'.cell? ⟨b,0,none⟩=some (.slice (some ⟨bx,ox,none⟩) n cc)/\w'.cell? ⟨bx,ox+pc*5,none⟩=some (.int .i64 xa)/\w'.cell? ⟨bx,ox+pc*5+1,none⟩=some (.int .i64 xb)/\w'.cell? ⟨bx,ox+pc*5+2,none⟩=some (.int .i64 xc)/\w'.cell? ⟨bx,ox+pc*5+3,none⟩=some (.int .i64 xd)/\w'.cell? ⟨bx,ox+pc*5+4,none⟩=some (.bool xp)/\w'.cell? ⟨Q,0,none⟩=some (.int .i64 pc)/\w'.cell? ⟨Q,1,none⟩=some (.int .i64 t)
theorem Fr.Us{P:Nat->Prop}(h:Fr P w w'){b bx ox n cc pc Q t:Nat}{xa xb xc xd:Int}{xp:Bool}(s:Au w b bx ox n cc pc Q t xa xb xc xd xp)(h1:¬P b)(h2:¬P bx)(h3:¬P Q):Au w' b bx ox n cc pc Q t xa xb xc xd xp:=
 ⟨h.cell s.1 h1,h.cell s.2.1 h2,h.cell s.2.2.1 h2,h.cell s.2.2.2.1 h2,h.cell s.2.2.2.2.1 h2,h.cell s.2.2.2.2.2.1 h2,h.cell s.2.2.2.2.2.2.1 h3,h.cell s.2.2.2.2.2.2.2 h3⟩
theorem Au.set{b bx ox n cc pc Q t B:Nat}{xa xb xc xd:Int}{xp:Bool}(s:Au w b bx ox n cc pc Q t xa xb xc xd xp)(h1:b≠B)(h2:bx≠B)(h3:Q≠B)(Y Z:Value):
 Au ((w.setCell ⟨B,0,none⟩ Y).setCell ⟨B,1,none⟩ Z) b bx ox n cc pc Q t xa xb xc xd xp:=
 (((refl (λx=>x=B) w).setCell (.inl rfl) Y).setCell (.inl rfl) Z).Us s h1 h2 h3
theorem Ur(b a:Nat)(back:Bool)(X:List Cr)(L:Int)(w:World)(h:fS w b X L)(hX:Kn.Ok X)(hl:X.length<=16)(ha:Kn.ah X a):
 Calls prog 90 #[.pointer (some ⟨b,0,none⟩),.agg #[.int .i64 a,.bool back]] w (ae0 (left X (a,back)) w):=by
 obtain⟨pc,ps,hp⟩:∃pc ps,Kn.head X (a,back)=(pc,ps):=⟨_,_,rfl⟩
 have hpl:=hX.bg (d:=(a,back)) ha;rw[hp]at hpl;obtain⟨h1,h2⟩:=hpl;simp only at h1 h2;obtain⟨n,bx,ox,cc,bi,bo,r⟩:=h.read (by omega)
 obtain⟨t,ht⟩:∃t,t=(ps+3)%4:=⟨_,rfl⟩
 have Yv:t<4:=by omega
 have j1:(0:Int)<=(ps:Int):=by omega
 have j2:(ps:Int)<4:=by omega
 have z1:((ps:Int)+4-1)%4=(t:Int):=by omega
 have z2:((ps:Int)+4-1).tmod 4=(t:Int):=by rw[Int.tmod_eq_emod_of_nonneg (by omega)];exact z1
 have i1:(0:Int)<=(pc:Int):=by omega
 have i2:(pc:Int)<(n:Int):=by have:=r.len;omega
 obtain⟨x,hxk⟩:∃x,x=cr X pc:=⟨_,rfl⟩
 have iw:=r.cr pc (by rw[r.len];exact h1);rw[<-hxk]at iw
 have hcm:cm X (pc,t)=oz x.p t:=by unfold cm;rw[<-hxk];rfl
 obtain⟨xa,xb,xc,xd,xp⟩:=x;simp only at hcm;have Hw:Hd (BA w b bx ox n cc (ox+pc*5) xa xb xc xd xp):=jd ⟨r.c0,iw.a,iw.b,iw.c,iw.d,iw.p⟩
 obtain⟨na,hna⟩:∃na,na=Kn.aa X (pc,t):=⟨_,rfl⟩
 obtain⟨nb,hnb⟩:∃nb,nb=oz xp t:=⟨_,rfl⟩
 have hres:left X (a,back)=(na,nb):=by unfold left;rw[hp,<-ht,hcm,<-hna,<-hnb]
 rw[hres];have HNB:=jd hnb;have KG:=jd hna;have HP:=jd hp;have HS:=jd h;have HX:=jd hX;have HA:=jd h1;have HAR:=jd ha;have hbl:b<w.heap.size:=World.block_lt_of_cell? w _ r.c0;have hbxl:bx<w.heap.size:=World.block_lt_of_cell? w _ iw.a;clear hp h hX h1 ha hna hnb hres hcm hxk iw r ht
 go_enter Tryz.func90,Tryz.ntmps90
 go_wp2_with fail;obtain⟨w1,cU⟩:=jb ((w.alloc (.cells #[.int .i64 (a:Int),.bool back] 26)).alloc (.cells #[.int .i64 0,.bool false] 26));rw[<-cU.o]
 have hF:New w w1:=by rw[cU.o];exact((refl _ _).alloc _).alloc _
 have k1:w1.cell? ⟨w.heap.size,0,none⟩=some (.int .i64 a):=by rw[cU.o];exact aY (cell_of_row _ _ 0 _ 26 (0,0) (heap_alloc_new _ _)) _
 have k2:w1.cell? ⟨w.heap.size,1,none⟩=some (.bool back):=by rw[cU.o];exact aY (cell_of_row _ _ 1 _ 26 (0,0) (heap_alloc_new _ _)) _
 have Nj:Hd (w1.heap[w.heap.size+1]?=some (.cells #[.int .i64 0,.bool false] 26 (0,0))):=jd (by
  have:=heap_alloc_new (w.alloc (.cells #[.int .i64 (a:Int),.bool back] 26)) (.cells #[.int .i64 0,.bool false] 26)
  rw[size_alloc,<-cU.o]at this;exact this)
 have Bu:w.heap.size+2<=w1.heap.size:=by rw[cU.o];simp
 have HF:=jd hF;clear hF
 go_wp2_with (go_at_call 81;refine(CX b a back X L _ (New.kM HF.o HS.o) hl HAR.o).mono ?_;rintro e w2 ⟨rfl,hG⟩;rw[HP.o];have HG:=jd hG;clear hG)
 have K6:New w2 ((w2.alloc (.cells #[.int .i64 (pc:Int),.int .i64 (ps:Int)] 158)).alloc (.cells #[.int .i64 (pc:Int),.int .i64 (t:Int)] 158)):=((refl _ _).alloc _).alloc _;obtain⟨w3,Sd⟩:=jb ((w2.alloc (.cells #[.int .i64 (pc:Int),.int .i64 (ps:Int)] 158)).alloc (.cells #[.int .i64 (pc:Int),.int .i64 (t:Int)] 158));rw[<-Sd.o]at K6 ⊢
 have hq:w3.heap[w2.heap.size+1]?=some (.cells #[.int .i64 (pc:Int),.int .i64 (t:Int)] 158 (0,0)):=by
  have:=heap_alloc_new (w2.alloc (.cells #[.int .i64 (pc:Int),.int .i64 (ps:Int)] 158)) (.cells #[.int .i64 (pc:Int),.int .i64 (t:Int)] 158)
  rw[size_alloc,<-Sd.o]at this;exact this
 have qY:Hd (New w w3):=jd ((HF.o.trans HG.o).trans K6);have Fz:Hd (w3.heap[w.heap.size+1]?=some (.cells #[.int .i64 0,.bool false] 26 (0,0))):=jd (qR (HG.o.trans K6) Nj.o);obtain⟨y0,y1,y2,y3,y4,y5⟩:=New.bE qY.o Hw.o;have y6:=cell_of_row w3 _ 0 _ 158 (0,0) hq;have y7:=cell_of_row w3 _ 1 _ 158 (0,0) hq;have HLS:Hd (Au w3 b bx ox n cc pc (w2.heap.size+1) t xa xb xc xd xp):=jd ⟨y0,y1,y2,y3,y4,y5,y6,y7⟩
 have nb1:b≠w.heap.size+1:=by omega
 have nb2:bx≠w.heap.size+1:=by omega
 have nb3:w2.heap.size+1≠w.heap.size+1:=by have:=HG.o.size;omega
 change w3.cell? ⟨w2.heap.size+1,0,none⟩=some (.int .i64 pc)at y6;change w3.cell? ⟨w2.heap.size+1,1,none⟩=some (.int .i64 t)at y7;clear K6 hq k1 k2
 go_region_held3 (λw'=>w'.cell? ⟨b,0,none⟩=some (.slice (some ⟨bx,ox,none⟩) n cc)/\w'.cell? ⟨bx,ox+pc*5,none⟩=some (.int .i64 xa)/\w'.cell? ⟨bx,ox+pc*5+1,none⟩=some (.int .i64 xb)/\w'.cell? ⟨bx,ox+pc*5+2,none⟩=some (.int .i64 xc)/\w'.cell? ⟨bx,ox+pc*5+3,none⟩=some (.int .i64 xd)/\w'.cell? ⟨bx,ox+pc*5+4,none⟩=some (.bool xp)/\w'.cell? ⟨w2.heap.size+1,0,none⟩=some (.int .i64 pc)/\w'.cell? ⟨w2.heap.size+1,1,none⟩=some (.int .i64 t))
  (first|assumption|exact hs|exact hz _ _|go_keep)
  (first
   |(go_at_call 109;refine(Du b pc t X L _ (New.kM (by first|exact(qY.o.trans HE.o).drew|exact qY.o.trans HE.o|exact qY.o.drew) HS.o) HX.o hl HA.o Yv).mono ?_;rintro e w4 ⟨rfl,hE⟩;rw[<-KG.o];have sN:New w3 w4:=Fr.trans (by first|exact HE.o.drew|exact HE.o|exact(refl _ _).drew|exact refl _ _) hE;have hs:=sN.Us HLS.o (λx=>x) (λx=>x) (λx=>x);have hz:=λY Z=>hs.set nb1 nb2 nb3 Y Z;have hr:=F3 (qR sN Fz.o);have HE:=jd sN;clear hE sN;unfold Au at hs hz;obtain⟨m1,m2,m3,m4,m5,m6⟩:=hr)
   |(go_at_call 113;refine(qQ xa xb xc xd xp t _ Yv).mono ?_;rintro e w5 ⟨rfl,hE⟩;rw[<-HNB.o];have sN:New w3 w5:=Fr.trans (by first|exact HE.o.drew|exact HE.o|exact(refl _ _).drew|exact refl _ _) hE;have hs:=sN.Us HLS.o (λx=>x) (λx=>x) (λx=>x);have hz:=λY Z=>hs.set nb1 nb2 nb3 Y Z;have hr:=F3 (qR sN Fz.o);have HE:=jd sN;clear hE sN;unfold Au at hs hz;obtain⟨m1,m2,m3,m4,m5,m6⟩:=hr))
 all_goals
  go_wp2
  refine bodyPost_ret (v:=.agg #[.int .i64 (na:Int),.bool nb]) (by simp[results,Tryz.results90,go_sem,m5,m6]) rfl ⟨rfl,?_⟩
  exact(by first|exact(((qY.o.trans HE.o).setCell (.inr (le_succ _)) _).setCell (.inr (le_succ _)) _).drew|exact((qY.o.trans HE.o).setCell (.inr (le_succ _)) _).setCell (.inr (le_succ _)) _)
open Go.RowKit
theorem Tryz.ahf:(prog.info? 4).map (λi=>(i.zero,i.size,i.bytes))=some (some (.bool false),1,1):=by kernel_rfl
theorem Tryz.ac5:(prog.info? 74).map (λi=>(i.zero,i.size,i.bytes))=some (some (.slice none 0 0),1,24):=by kernel_rfl
theorem Tryz.Ys:(prog.info? 156).map (λi=>(i.zero,i.size,i.bytes))=some (some (.slice none 0 0),1,24):=by kernel_rfl
structure KS{α:Type}(R:Value->α->Prop)(vs:List Value)(l:List α):Prop where
 len:vs.length=l.length
 at_:∀i (h:i<vs.length) (h':i<l.length),R vs[i] l[i]
section
variable {α:Type} {R R':Value->α->Prop} {vs:List Value} {l:List α}
theorem KS.nil:KS R [] []:=⟨rfl,λi h=>by simp at h⟩
theorem KS.mono(h:KS R vs l)(hR:∀v x,R v x->R' v x):KS R' vs l:=⟨h.len,λi h1 h2=>hR _ _ (h.at_ i h1 h2)⟩
theorem KS.snoc(h:KS R vs l){x:α}(hx:R v x):KS R (vs++[v]) (l++[x]):=by
 refine⟨by rw[ju,ju,h.len];rfl,λi h1 h2=>?_⟩;by_cases c:i<l.length
 · rw[List.getElem_append_left (by rw[h.len];exact c),List.getElem_append_left c]
   exact h.at_ i _ c
 rw[ju,List.length_singleton]at h2
 have e:i=l.length:=by omega
 subst e;rw[List.getElem_append_right (by rw[h.len];exact jH _),List.getElem_append_right (jH _)];simp only[h.len,Nat.sub_self,List.getElem_cons_zero];exact hx
end
def j7(l:List Nat):List Value:=l.map λn=>.int .i64 (n:Nat)
theorem Ab(l:List Nat):(j7 l).length=l.length:=by simp[j7]
theorem Qh(l:List Nat)(x:Nat):j7 (l++[x])=j7 l++[.int .i64 (x:Nat)]:=by simp[j7]
def AK(w:World)(v:Value)(l:List Nat):Prop:=w.ownsRow 0 3 1 v l.length (j7 l)
def Rows{α:Type}(R:World->Value->α->Prop)(base e:Nat)(w:World)(v:Value)(ll:List α):Prop:=∃vs,w.ownsRow base e 1 v vs.length vs/\KS (R w) vs ll
theorem Rows.nil{α:Type}{R:World->Value->α->Prop}{base e:Nat}{w:World}:Rows R base e w (.slice none 0 0) []:=⟨[],⟨rfl,.inl ⟨rfl,rfl⟩⟩,KS.nil⟩
theorem N8{b b' e e' z z' n n':Nat}{v':Value}(h:w.ownsRow b e z v n xs)(h':w.ownsRow b' e' z' v' n' ys)(hne:e≠e'):∀k,v.ownBlock=some k->some k≠v'.ownBlock:=by
 intro k hk
 rcases h.2 with⟨rfl,_⟩|⟨g,cap,cur,rfl,_,CW,_⟩
 · cases hk
 rcases h'.2 with⟨rfl,_⟩|⟨g',cap',cur',rfl,_,YJ,_⟩
 · intro z;cases z
 intro z;cases hk;cases z;rw[CW]at YJ
 injection YJ with YJ
 injection YJ with _ he
 exact hne he
theorem P4{b e z n:Nat}{row:Option Nat}(h:w.ownsRow b e z v n ys)(hg:w.grownBy w' row)(hne:∀k,v.ownBlock=some k->some k≠row):w'.ownsRow b e z v n ys:=by
 refine⟨h.1,?_⟩
 rcases h.2 with hn|⟨g,cap,cur,rfl,hb,CW,r⟩
 · exact .inl hn
 exact .inr ⟨g,cap,cur,rfl,hb,(hg.block g (jf.1 CW).1 (hne g rfl)).trans CW,r⟩
theorem P5{base e z n:Nat}(h:w.ownsRow base e z v n ys):w.ownsRow 0 e z v n ys:=qD h (Nat.zero_le _)
theorem jZ{base e n:Nat}(h:w.ownsRow base e 1 v n ys):∃a c,v=.slice a n c/\n<=c/\(0<n->∃g,a=some ⟨g,0,none⟩/\base<=g/\∀i (hi:i<ys.length),w.cell? ⟨g,i,none⟩=some ys[i]):=by
 rcases h.2 with⟨rfl,rfl⟩|⟨g,cap,cur,rfl,hb,hg,h1,h2,h3,h4⟩
 · exact⟨none,0,rfl,jH _,λh=>by omega⟩
 refine⟨_,cap,rfl,h1,λ_=>⟨g,rfl,hb,λi hi=>?_⟩⟩;have:=ownsRow.cells h (g:=g) rfl i ys[i] (je hi);rw[dN,Nat.zero_add]at this;exact this
theorem TT(a:Option Addr)(n c:Nat):∀u∈[Value.slice a n c],u.oneCell'=true:=by
 intro u hu;rw[jB]at hu;subst hu;rfl
theorem Od(x:Int):∀u∈[Value.int .i64 x],u.oneCell'=true:=by
 intro u hu;rw[jB]at hu;subst hu;rfl
theorem N9{b b' e e' z z' n n':Nat}{o:Obj}{v':Value}(h:w.ownsRow b e z v n xs)(h':w.ownsRow b' e' z' v' n' ys)(hne:e≠e')(hg:(w.alloc o).grownBy w' v'.ownBlock):w'.ownsRow b e z v n xs:=
 P4 (ownsRow.alloc h o) hg (N8 h h' hne)
theorem size_set(w:World)(a:Addr)(v:Value):(w.setCell a v).heap.size=w.heap.size:=by simp[World.setCell]
theorem zH{t:TypeId}(hB:B=w.heap.size):∀(j:Nat) (u:Value),[v][j]?=some u->(w.alloc (.cells #[v] t)).cell? ((⟨B,0,none⟩:Addr).add j)=some u:=by
 subst hB;exact cell_one_new _ _ _
def oG(p:Nat->Bool)(j:Nat):Value:=.bool (p j)
theorem LY(w:World)(m:Nat):(w.alloc (.cells (madeCells #[.bool false] m) 4)).rowIs w.heap.size 4 m (oG λj=>decide (j∈([]:List Nat))):=
 bu (World.rowIs_made w (.bool false) m 4) λj _=>by unfold oG;simp
theorem EX{b m:Nat}{seen:List Nat}(h:w.rowIs b 4 m (oG λj=>decide (j∈seen)))(x:Nat):(w.setCell ⟨b,x,none⟩ (.bool true)).rowIs b 4 m (oG λj=>decide (j∈seen++[x])):=by
 refine bu (h.set _ _) λj _=>?_
 unfold oG;by_cases c:j=x
 · subst c;simp
 simp[c]
theorem dR{b e z n:Nat}(h:w.ownsRow b e z v n xs):∀k,v.ownBlock=some k->b<=k:=by
 intro k hk
 rcases h.2 with⟨rfl,_⟩|⟨g,cap,cur,rfl,hb,_,_⟩
 · cases hk
 cases hk;exact hb
theorem EY{b e z n:Nat}{o:Obj}{sb m:Nat}(h:w.rowIs sb 4 m f)(h':w.ownsRow b e z v n xs)(hg:(w.alloc o).grownBy w' v.ownBlock)(he:e≠4:=by decide):w'.rowIs sb 4 m f:=
 (h.alloc o).of_block (hg.block sb (h.alloc o).lt λhk=>eE h' h he sb hk.symm rfl)
def ag0:Value->Nat
 |.slice _ n _=>n
 |_=>0
open Go.RowKit
structure aiO(wo wr:World)(sb:Nat)(X:List Cr)(k:Nat)(seen r:List Nat)(x:Nat)(s:Value):Prop where
 fr:Fr (λj=>j=sb) wo wr
 row:wr.rowIs sb 4 (ag X+1) (oG λj=>decide (j∈seen++r))
 ring:wr.ownsRow wo.heap.size 3 1 s r.length (j7 r)
 nd:(seen++r).Nodup
 sub:∀x∈seen++r,x∈Kn.yA X
 ie:Kn.ah X x
 eq:∃f,f+r.length=ag X+1/\r++Kn.ring (Jl X) f (seen++r) x=Kn.ring (Jl X) (ag X+1) seen k
def WK(ll:List (List Nat))(w:World)(e:Ending)(w':World):Prop:=∃v,e=.returned v/\Rows AK w.heap.size 74 w' v ll/\New w w'
theorem aiO.done{wo wr:World}{sb:Nat}{k:Nat}{seen r:List Nat}{x:Nat}{s:Value}(h:aiO wo wr sb X k seen r x s)(hx:x∈seen++r):r=Kn.ring (Jl X) (ag X+1) seen k:=by
 obtain⟨f,_,he⟩:=h.eq;rw[Kn.fV _ hx,List.append_nil]at he;exact he
theorem gX{L:Int}(h:Kn.gY X L=true):Kn.Ok X/\X.length<=16:=by
 unfold Kn.gY at h;simp only[jp,jh]at h;exact⟨(Kn.Ct X).1 h.2,h.1.1.1.1⟩
theorem M5(b m:Nat)(X:List Cr)(L:Int)(w:World)(h:fS w b X L)(hn:X.length<=16)(hm:m=ag X):
 Calls prog 46 #[.pointer (some ⟨b,0,none⟩)] w λe w'=>e=.returned (.int .i64 (m:Nat))/\w=w':=by
 subst hm;exact u6 b X L w h hn
end Go.Proofs.YtfplmbmenjdlhaaGreatDoor
