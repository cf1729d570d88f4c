/- Walks: Build. -/
import Derived.Test.YtfplmbmenjdlhaaGreatDoorW3
set_option maxRecDepth 100000
set_option maxHeartbeats 16000000
namespace Go.Proofs.YtfplmbmenjdlhaaGreatDoor
open Go.RowKit
open Fr (refl)
open Kn (Cr at_ cm cnt ag okB uN EK)
open Go.Proofs.Tryz (prog)
variable {L:Int} {x:Cr} {X:List Cr} {B m:Nat} {f:Nat->Value} {v:Value} {w w2:World}
abbrev agu:Ending:=.returned (.tuple #[.pointer none,.bool false])
def Dy(B:Nat)(w:World)(b:Nat)(X:List Cr)(L:Int):Prop:=∃v bi bo base,Sh w b X L v bi bo base (Kn.oM X) (Kn.fH X)/\B<=base
def Ns(ok:Bool)(X:List Cr)(L:Int)(w:World)(e:Ending)(w':World):Prop:=
 New w w'/\((ok=true/\∃b,e=.returned (.tuple #[.pointer (some ⟨b,0,none⟩),.bool true])/\fS w' b X L/\w.heap.size<=b/\Dy w.heap.size w' b X L)\/(ok=false/\e=agu))
theorem agZ(m:Nat)(hm:m<=1000)(w:World):(Instr.makeSlice 68 (.int .i64 (m:Int)) (.int .i64 (m:Int))).run prog w=.ok (.slice (some ⟨w.heap.size,0,none⟩) m m) (w.alloc (.cells (madeCells #[.int .i64 0,.int .i64 0] (m*2)) 158)):=by
 obtain⟨i,hi,h1,h2,h3⟩:=info_parts Tryz.Yr;have hr:=run_make (P:=prog) w 68 158 i _ Tryz.underlying68 hi h1 .i64 .i64 m m (by omega) (Int.le_refl _) (by rw[h3];omega) (by omega);simp only[Int.toNat_natCast,h2]at hr;exact hr
theorem qD{base base' e sz n:Nat}{xs:List Value}(h:w.ownsRow base e sz v n xs)(hb:base'<=base):w.ownsRow base' e sz v n xs:=by
 refine⟨h.1,?_⟩
 rcases h.2 with hn|⟨g,cap,cur,rfl,hbg,rest⟩
 · exact .inl hn
 exact .inr ⟨g,cap,cur,rfl,jJ hb hbg,rest⟩
theorem XP{b m:Nat}{bi bo base:Nat}(ho:w.ownsRow base 109 5 v X.length (bE X))(hi:w.rowIs bi 158 (bA X*2) (im λ_=>(0,0)))(hj:w.rowIs bo 158 (bA X*2) (im λ_=>(0,0)))(hne:bi≠bo)
 (hb:b=w.heap.size) (hm:m=bA X):Sh (w.alloc (.cells #[v,.int .i64 L,.slice (some ⟨bi,0,none⟩) m m,.slice (some ⟨bo,0,none⟩) m m] 70)) b X L v bi bo base (λ_=>(0,0)) (λ_=>(0,0)):=by
 subst hb hm;have hF:New w (w.alloc (.cells #[v,.int .i64 L,.slice (some ⟨bi,0,none⟩) (bA X) (bA X),.slice (some ⟨bo,0,none⟩) (bA X) (bA X)] 70)):=(refl _ w).alloc _;exact⟨heap_alloc_new _ _,hF.owns ho (λ_ _ x=>x),hF.row hi λx=>x,hF.row hj λx=>x,hne⟩
theorem Uo{m b k:Nat}(hb:b=w.heap.size)(hk:m=k):(w.alloc (.cells (madeCells #[.int .i64 0,.int .i64 0] m) 158)).rowIs b 158 k (im λ_=>(0,0)):=by subst hb hk;exact mh w m
theorem Gl{m b k:Nat}(hb:b=w.heap.size)(hk:m=k):(w.alloc (.cells (madeCells #[.int .i64 0] m) 3)).rowIs b 3 k (bS λ_=>0):=by subst hb hk;exact World.rowIs_made w _ m 3
def Mid(w w1:World)(X:List Cr)(L:Int)(s:Value)(wx:World):Prop:=
 ∃b v bi bo,s=.pointer (some ⟨b,0,none⟩)/\Sh wx b X L v bi bo w.heap.size (λ_=>(0,0)) (λ_=>(0,0))/\(w.heap.size<=b/\w.heap.size<=bi/\w.heap.size<=bo)/\New w1 wx
abbrev Mb(m:Nat):Obj:=.cells (madeCells #[.int .i64 0,.int .i64 0] (m*2)) 158
section
variable {w w1 wt:World} {X:List Cr} {L:Int} {v:Value} {m p q b base:Nat}
theorem y9{wq:World}(hw:w.heap.size<=w1.heap.size)(hq:New w1 wq)(ho:wq.ownsRow base 109 5 v X.length (bE X))(hb:w.heap.size<=base)(hp:wq.rowIs p 158 (m*2) (im λ_=>(0,0)))(hr:wq.rowIs q 158 (m*2) (im λ_=>(0,0)))(hne:p≠q)(hm:m=bA X)
 (h1:w.heap.size<=p) (h2:w.heap.size<=q) (hbq:b=wq.heap.size):
 Mid w w1 X L (.pointer (some ⟨b,0,none⟩)) (wq.alloc (.cells #[v,.int .i64 L,.slice (some ⟨p,0,none⟩) m m,.slice (some ⟨q,0,none⟩) m m] 70)):=by
 refine⟨b,v,p,q,rfl,XP (qD ho hb) (by rw[<-hm];exact hp) (by rw[<-hm];exact hr) hne hbq hm,⟨?_,h1,h2⟩,hq.alloc _⟩;have:=hq.size;omega
theorem agV(hw:w.heap.size<=w1.heap.size)(hm:m=bA X)(ho:wt.ownsRow base 109 5 v X.length (bE X))(hb:w.heap.size<=base)(hn:New w1 wt)(Mq:p=wt.heap.size/\q=wt.heap.size+1\/p=wt.heap.size+1/\q=wt.heap.size):
 Mid w w1 X L (.pointer (some ⟨wt.heap.size+1+1,0,none⟩)) (((wt.alloc (Mb m)).alloc (Mb m)).alloc (.cells #[v,.int .i64 L,.slice (some ⟨p,0,none⟩) m m,.slice (some ⟨q,0,none⟩) m m] 70)):=by
 have h1:((wt.alloc (Mb m)).alloc (Mb m)).rowIs wt.heap.size 158 (m*2) (im λ_=>(0,0)):=(mh wt (m*2)).alloc _;have h2:((wt.alloc (Mb m)).alloc (Mb m)).rowIs (wt.heap.size+1) 158 (m*2) (im λ_=>(0,0)):=Uo (by simp) rfl;have hs:=hn.size;have hF:New wt ((wt.alloc (Mb m)).alloc (Mb m)):=((refl _ _).alloc _).alloc _
 rcases Mq with⟨rfl,rfl⟩|⟨rfl,rfl⟩
 · exact y9 hw ((hn.alloc _).alloc _) (hF.owns ho λ_ _ x=>x) hb h1 h2 (by omega) hm (by omega) (by omega) (by simp)
 exact y9 hw ((hn.alloc _).alloc _) (hF.owns ho λ_ _ x=>x) hb h2 h1 (by omega) hm (by omega) (by omega) (by simp)
theorem Yi(hw:w.heap.size<=w1.heap.size)(hm:m=bA X)(ho:wt.ownsRow base 109 5 v X.length (bE X))(hb:w.heap.size<=base)(hn:New (w1.alloc (Mb m)) wt)(Mq:p=w1.heap.size/\q=wt.heap.size\/p=wt.heap.size/\q=w1.heap.size):
 Mid w w1 X L (.pointer (some ⟨wt.heap.size+1,0,none⟩)) ((wt.alloc (Mb m)).alloc (.cells #[v,.int .i64 L,.slice (some ⟨p,0,none⟩) m m,.slice (some ⟨q,0,none⟩) m m] 70)):=by
 have h1:(wt.alloc (Mb m)).rowIs w1.heap.size 158 (m*2) (im λ_=>(0,0)):=(hn.row (mh w1 (m*2)) λx=>x).alloc _;have h2:(wt.alloc (Mb m)).rowIs wt.heap.size 158 (m*2) (im λ_=>(0,0)):=mh _ _;have hs:=hn.size;simp at hs;have hF:New wt (wt.alloc (Mb m)):=(refl _ _).alloc _;have Gz:New w1 wt:=((refl _ w1).alloc _).trans hn
 rcases Mq with⟨rfl,rfl⟩|⟨rfl,rfl⟩
 · exact y9 hw (Gz.alloc _) (hF.owns ho λ_ _ x=>x) hb h1 h2 (by omega) hm (by omega) (by omega) (by simp)
 exact y9 hw (Gz.alloc _) (hF.owns ho λ_ _ x=>x) hb h2 h1 (by omega) hm (by omega) (by omega) (by simp)
theorem agU(hw:w.heap.size<=w1.heap.size)(hm:m=bA X)(ho:wt.ownsRow base 109 5 v X.length (bE X))(hb:w.heap.size<=base)(hn:New ((w1.alloc (Mb m)).alloc (Mb m)) wt)(Mq:p=w1.heap.size/\q=w1.heap.size+1\/p=w1.heap.size+1/\q=w1.heap.size):
 Mid w w1 X L (.pointer (some ⟨wt.heap.size,0,none⟩)) (wt.alloc (.cells #[v,.int .i64 L,.slice (some ⟨p,0,none⟩) m m,.slice (some ⟨q,0,none⟩) m m] 70)):=by
 have h1:wt.rowIs w1.heap.size 158 (m*2) (im λ_=>(0,0)):=hn.row ((mh w1 (m*2)).alloc _) λx=>x
 have h2:wt.rowIs (w1.heap.size+1) 158 (m*2) (im λ_=>(0,0)):=hn.row (Uo (by simp) rfl) λx=>x
 have Gz:New w1 wt:=(((refl _ w1).alloc _).alloc _).trans hn;have hs:=Gz.size
 rcases Mq with⟨rfl,rfl⟩|⟨rfl,rfl⟩
 · exact y9 hw Gz ho hb h1 h2 (by omega) hm (by omega) (by omega) rfl
 exact y9 hw Gz ho hb h2 h1 (by omega) hm (by omega) (by omega) rfl
theorem New.FP{w':World}(h:New w.drew w'):New w w':=((refl _ w).drew).trans h
end
def Rx(w2:World)(X:List Cr)(s t:Value)(wx:World):Prop:=
 ∃ci co,s=.slice (some ⟨ci,0,none⟩) (bA X) (bA X)/\t=.slice (some ⟨co,0,none⟩) (bA X) (bA X)/\(wx.rowIs ci 3 (bA X) (bS λ_=>0)/\wx.rowIs co 3 (bA X) (bS λ_=>0)/\ci≠co/\w2.heap.size<=ci/\w2.heap.size<=co)/\New w2 wx
theorem Rx.drew{w2 wx:World}{X:List Cr}{s t:Value}(h:Rx w2 X s t wx):Rx w2 X s t wx.drew:=by
 obtain⟨ci,co,h1,h2,⟨h3,h4,h5⟩,h6⟩:=h;exact⟨ci,co,h1,h2,⟨h3.drew,h4.drew,h5⟩,h6.drew⟩
theorem agW(hm:m=bA X):Rx w2 X (.slice (some ⟨w2.heap.size,0,none⟩) m m) (.slice (some ⟨w2.heap.size+1,0,none⟩) m m) ((w2.alloc (.cells (madeCells #[.int .i64 0] m) 3)).alloc (.cells (madeCells #[.int .i64 0] m) 3)):=by
 subst hm;exact⟨_,_,rfl,rfl,⟨(Gl rfl rfl).alloc _,Gl (by simp) rfl,by omega,by omega,by omega⟩,((refl _ _).alloc _).alloc _⟩
theorem aas(hm:m=bA X):Rx w2 X (.slice (some ⟨w2.heap.size+1,0,none⟩) m m) (.slice (some ⟨w2.heap.size,0,none⟩) m m) ((w2.alloc (.cells (madeCells #[.int .i64 0] m) 3)).alloc (.cells (madeCells #[.int .i64 0] m) 3)):=by
 subst hm;exact⟨_,_,rfl,rfl,⟨Gl (by simp) rfl,(Gl rfl rfl).alloc _,by omega,by omega,by omega⟩,((refl _ _).alloc _).alloc _⟩
def um(w:World)(B:Nat)(x:Cr):Prop:=w.heap[B]?=some (.cells #[.int .i64 x.a,.int .i64 x.b,.int .i64 x.c,.int .i64 x.d,.bool x.p] 109 (0,0))
theorem um.new(w:World)(x:Cr):um (w.alloc (.cells #[.int .i64 x.a,.int .i64 x.b,.int .i64 x.c,.int .i64 x.d,.bool x.p] 109)) w.heap.size x:=heap_alloc_new _ _
theorem um.lt(h:um w B x):B<w.heap.size:=(jf.1 h).1
theorem um.kept{S:Nat->Prop}{w':World}(h:um w B x)(hf:Fr S w w')(hs:¬S B):um w' B x:=(hf.block B h.lt hs).trans h
theorem um.at(h:um w B x):Em w B 0 x:=
 ⟨cell_of_row _ _ 0 _ 109 (0,0) h,cell_of_row _ _ 1 _ 109 (0,0) h,cell_of_row _ _ 2 _ 109 (0,0) h,cell_of_row _ _ 3 _ 109 (0,0) h,cell_of_row _ _ 4 _ 109 (0,0) h⟩
theorem um.ne(h:um w B x){b t n:Nat}(hr:w.rowIs b t n f)(ht:109≠t):B≠b:=dF h hr ht
theorem En.S3{w0:World}{b:Nat}{bi bo ci co base k n:Nat}(s:En w0 w X L b v bi bo ci co base k)
 (hc:cm X (Kn.pl k)=true) (ha:at_ X (Kn.pl k)=(n:Int)) (h1:1<=n) (h2:n<=2*X.length) {c j cn B:Nat} (hp:Kn.pl k=(c,j)) (U9:cn=cnt X true k n) (hB:um w B x):
 En w0 (((w.setCell ⟨bi,n*2,none⟩ (.int .i64 (c:Int))).setCell ⟨bi,n*2+1,none⟩ (.int .i64 (j:Int))).setCell ⟨ci,n,none⟩ (.int .i64 ((cn:Int)+1))) X L b v bi bo ci co base (k+1) /\
 um (((w.setCell ⟨bi,n*2,none⟩ (.int .i64 (c:Int))).setCell ⟨bi,n*2+1,none⟩ (.int .i64 (j:Int))).setCell ⟨ci,n,none⟩ (.int .i64 ((cn:Int)+1))) B x:=by
 have:=s.XL hc ha h1 h2;rw[hp,<-U9]at this;refine⟨this,?_⟩
 have hF:Fr (λx=>x=bi\/x=ci) w (((w.setCell ⟨bi,n*2,none⟩ (.int .i64 (c:Int))).setCell ⟨bi,n*2+1,none⟩ (.int .i64 (j:Int))).setCell ⟨ci,n,none⟩ (.int .i64 ((cn:Int)+1))):=
  (((refl _ w).setCell (.inl (.inl rfl)) _).setCell (.inl (.inl rfl)) _).setCell (.inl (.inr rfl)) _
 exact hB.kept hF λh=>h.elim (hB.ne s.sh.ri (by decide)) (hB.ne s.rc (by decide))
theorem En.PK{w0:World}{b:Nat}{bi bo ci co base k n:Nat}(s:En w0 w X L b v bi bo ci co base k)
 (hc:cm X (Kn.pl k)=false) (ha:at_ X (Kn.pl k)=(n:Int)) (h1:1<=n) (h2:n<=2*X.length) {c j cn B:Nat} (hp:Kn.pl k=(c,j)) (U9:cn=cnt X false k n) (hB:um w B x):
 En w0 (((w.setCell ⟨bo,n*2,none⟩ (.int .i64 (c:Int))).setCell ⟨bo,n*2+1,none⟩ (.int .i64 (j:Int))).setCell ⟨co,n,none⟩ (.int .i64 ((cn:Int)+1))) X L b v bi bo ci co base (k+1) /\
 um (((w.setCell ⟨bo,n*2,none⟩ (.int .i64 (c:Int))).setCell ⟨bo,n*2+1,none⟩ (.int .i64 (j:Int))).setCell ⟨co,n,none⟩ (.int .i64 ((cn:Int)+1))) B x:=by
 have:=s.SZ hc ha h1 h2;rw[hp,<-U9]at this;refine⟨this,?_⟩
 have hF:Fr (λx=>x=bo\/x=co) w (((w.setCell ⟨bo,n*2,none⟩ (.int .i64 (c:Int))).setCell ⟨bo,n*2+1,none⟩ (.int .i64 (j:Int))).setCell ⟨co,n,none⟩ (.int .i64 ((cn:Int)+1))):=
  (((refl _ w).setCell (.inl (.inl rfl)) _).setCell (.inl (.inl rfl)) _).setCell (.inl (.inr rfl)) _
 exact hB.kept hF λh=>h.elim (hB.ne s.sh.ro (by decide)) (hB.ne s.rd (by decide))
theorem Rh(a:Option Addr)(c:Nat)(X:List Cr)(L:Int)(w:World)(hx:bV w a X)(lx:X.length<=16):
 Calls prog 79 #[.agg #[.slice a X.length c,.int .i64 L]] w (Ns (okB X) X L w):=by
 obtain⟨n,hn⟩:∃n,n=X.length:=⟨_,rfl⟩
 rw[<-hn]
 have vo:n<=16:=by omega
 have HN:=jd hn;have HX:=jd hx;clear hx lx hn
 have ahJ:∀w,(Instr.makeSlice 68 (.int .i64 (2*(n:Int)+1)) (.int .i64 (2*(n:Int)+1))).run prog w=.ok (.slice (some ⟨w.heap.size,0,none⟩) (2*n+1) (2*n+1)) (w.alloc (.cells (madeCells #[.int .i64 0,.int .i64 0] ((2*n+1)*2)) 158)):=λw=>by
  have:=agZ (2*n+1) (by omega) w
  rwa [show (((2*n+1:Nat)):Int)=2*(n:Int)+1 by omega]at this
 have hmk1:∀w,(Instr.makeSlice 74 (.int .i64 (2*(n:Int)+1)) (.int .i64 (2*(n:Int)+1))).run prog w=.ok (.slice (some ⟨w.heap.size,0,none⟩) (2*n+1) (2*n+1)) (w.alloc (.cells (madeCells #[.int .i64 0] (2*n+1)) 3)):=λw=>by
  have:=run_make_row' (P:=prog) 74 3 (.int .i64 0) 8 Tryz.underlying74 Tryz.xX rfl .i64 .i64 (2*n+1) (by omega) (by omega) w
  rwa [show (((2*n+1:Nat)):Int)=2*(n:Int)+1 by omega]at this
 have z1:IntKind.i64.wrap (2*(n:Int))=2*(n:Int):=IntWalk.i64_in _ (by omega);have z2:IntKind.i64.wrap (2*(n:Int)+1)=2*(n:Int)+1:=IntWalk.i64_in _ (by omega)
 go_enter Tryz.func79,Tryz.ntmps79
 go_wp2;have k1:(w.alloc (.cells #[.slice a n c,.int .i64 L] 24)).cell? ⟨w.heap.size,0,none⟩=some (.slice a n c):=cell_of_row _ _ 0 _ 24 (0,0) (heap_alloc_new _ _);have k2:(w.alloc (.cells #[.slice a n c,.int .i64 L] 24)).cell? ⟨w.heap.size,1,none⟩=some (.int .i64 L):=cell_of_row _ _ 1 _ 24 (0,0) (heap_alloc_new _ _);have sW:Hd (New w (w.alloc (.cells #[.slice a n c,.int .i64 L] 24))):=jd ((refl _ _).alloc _)
 obtain⟨w1,Gw⟩:∃w1,w.alloc (.cells #[.slice a n c,.int .i64 L] 24)=w1:=⟨_,rfl⟩
 rw[Gw]at k1 k2 sW ⊢;clear Gw;have k3:=aY k1;have k4:=aY k2
 have k5:=λo=>aY (k3 o)
 have k6:=λo=>aY (k4 o)
 go_cut [5] (λs5 wx=>Hd (Mid w w1 X L s5 wx))
 case first=>
  go_region_held3 (λw'=>w'.cell? ⟨w.heap.size,0,none⟩=some (.slice a n c)/\w'.cell? ⟨w.heap.size,1,none⟩=some (.int .i64 L))
   (first|assumption|exact⟨aY ‹_›,aY ‹_›⟩|go_keep)
   (first
    |(go_at_call 112;refine(Zd a n c X _ (New.uh (by repeat (first|exact sW.o|refine Fr.drew ?_|refine Fr.alloc ?_ _)) HX.o) HN.o (by omega)).mono ?_;rintro e wt ⟨v,rfl,hown,hnt⟩;obtain⟨a',c',rfl,_⟩:=bV.gu hown;have q0:New w1 wt:=Fr.trans (by repeat (first|exact refl _ _|refine Fr.drew ?_|refine Fr.alloc ?_ _)) hnt;have hks:wt.cell? ⟨w.heap.size,0,none⟩=some (.slice a n c)/\wt.cell? ⟨w.heap.size,1,none⟩=some (.int .i64 L):=⟨q0.cell k1 λx=>x,q0.cell k2 λx=>x⟩;clear q0;have HOW:=jd hown;have HNT:=jd (New.FP hnt);clear hown hnt))
  all_goals
   go_wp2_with fail;go_meet;have s1:=sW.o.size
   have hm:2*n+1=bA X:=by have:=HN.o;unfold bA;omega
   refine jd ?_
   first
    |exact agV s1 hm HOW.o s1 HNT.o (.inl ⟨rfl,rfl⟩)
    |exact agV s1 hm HOW.o s1 HNT.o (.inr ⟨rfl,rfl⟩)
    |exact Yi s1 hm HOW.o (jJ s1 (Nat.le_succ _)) HNT.o (.inl ⟨rfl,rfl⟩)
    |exact Yi s1 hm HOW.o (jJ s1 (Nat.le_succ _)) HNT.o (.inr ⟨rfl,rfl⟩)
    |(refine Yi s1 hm HOW.o ?_ HNT.o (.inl ⟨rfl,rfl⟩);simp;omega)
    |(refine Yi s1 hm HOW.o ?_ HNT.o (.inr ⟨rfl,rfl⟩);simp;omega)
    |(refine agU s1 hm HOW.o ?_ HNT.o (.inl ⟨rfl,rfl⟩);simp;omega)
    |(refine agU s1 hm HOW.o ?_ HNT.o (.inr ⟨rfl,rfl⟩);simp;omega)
 case rest=>
 obtain⟨b,v,bi,bo,rfl,UY,hlb,Mx⟩:=Hd.o hcut
 obtain⟨w2,rfl⟩:∃w2,w2=wc:=⟨_,rfl⟩
 have HSH:=jd UY;have G9:=jd hlb;have k9:=jd Mx;clear hcut UY hlb Mx;go_wp2_with fail
 go_cut [6,7] (λs6 s7 wx=>Hd (Rx w2 X s6 s7 wx))
 case first=>
  go_region_held3 (λ_=>True) (trivial) (first|fail)
  all_goals
   go_wp2_with fail;go_meet
   have hm:2*n+1=bA X:=by have:=HN.o;unfold bA;omega
   refine jd ?_
   first
    |exact agW hm
    |exact aas hm
    |exact(agW hm).drew
    |exact(aas hm).drew
 case rest=>
 obtain⟨ci,co,rfl,rfl,hr,hf2⟩:=Hd.o hcut
 obtain⟨w3,rfl⟩:∃w2,w2=wc:=⟨_,rfl⟩
 have HR:=jd hr;have sf:=jd hf2
 have k3:=hf2.cell (k9.o.cell k1 λx=>x) λx=>x
 clear hcut hr hf2
 have oY:Hd (En w w3 X L b v bi bo ci co w.heap.size (0*4)):=jd ⟨sf.o.sh HSH.o,HR.o.1,HR.o.2.1,HR.o.2.2.1,G9.o.1,G9.o.2.1,G9.o.2.2,
  jJ (sW.o.trans k9.o).size HR.o.2.2.2.1,jJ (sW.o.trans k9.o).size HR.o.2.2.2.2,(sW.o.trans k9.o).trans sf.o,λj hj=>by omega⟩
 have hmn:bA X=2*n+1:=by have:=HN.o;unfold bA;omega
 rw[hmn];have RK:=jd hmn;clear hmn HR sW k9 sf HSH G9 k1 k2;go_wp2
 go_loopw [43] (λi wr=>∃k:Nat,k<=n/\i=.int .i64 k/\Hd (En w wr X L b v bi bo ci co w.heap.size (k*4))) (λi _=>n-(intOf i).toNat)
 case atStart=>exact⟨0,by omega,rfl,oY⟩
 case round=>
 obtain⟨k,hk,rfl,HB⟩:=hrel;by_cases hlt:k<n;rotate_left
 · obtain rfl:k=n:=by omega
   have HK:=jd (show k*4=4*X.length by have:=HN.o;omega);go_wp2
   obtain⟨wo,rfl⟩:∃wo,wo=wr:=⟨_,rfl⟩
   go_loop [12] (λi=>∃q:Nat,1<=q/\q<=2*k+1/\i=.int .i64 q/\Hd (Kn.once X (q-1))) (λi=>(2*k+1)-(intOf i).toNat)
   case atStart=>exact⟨1,by omega,by omega,rfl,jd (λa h1 h2=>by omega)⟩
   case round=>
   obtain⟨q,hq1,hq2,rfl,HO⟩:=hrel;by_cases hq:q<=2*k;rotate_left
   · obtain rfl:q=2*k+1:=by omega
     have QH:Hd (okB X=true):=jd ((uN X).2 ⟨by rw[<-HK.o];exact HB.o.wN,by
      have:=HO.o;rw[Nat.add_sub_cancel]at this;unfold ag
      rw[<-HN.o];exact this⟩)
     go_wp2;go_ret2;have UY:=HB.o.sh;rw[HK.o]at UY;exact⟨HB.o.new,.inl ⟨QH.out,b,rfl,⟨v,bi,bo,w.heap.size,UY⟩,HB.o.lb,v,bi,bo,w.heap.size,UY,jH _⟩⟩
   have hc:=HB.o.rc.cell (i:=q) (by have:=RK.o;omega);have hd:=HB.o.rd.cell (i:=q) (by have:=RK.o;omega);obtain⟨c1,Bw⟩:=jb (cnt X true (k*4) q);obtain⟨c2,vw⟩:=jb (cnt X false (k*4) q);unfold bS at hc hd;rw[<-Bw.o]at hc;rw[<-vw.o]at hd
   have l1:(0:Int)<=(q:Int):=by omega
   have l2:(q:Int)<=2*(k:Int):=by omega
   have l3:(q:Int)<2*(k:Int)+1:=by omega
   by_cases h1:c1=1;rotate_left
   · have e1:((c1:Int) != 1)=true:=by simp;omega
     have hno:okB X=false:=by
      rw[Bool.eq_false_iff];intro h;have:=((uN X).1 h).2 q hq1 (by unfold ag;have:=HN.o;omega);rw[<-HK.o,<-Bw.o]at this;exact h1 this.1
     have FB:=jd hno;clear hno h1;go_wp2;go_ret2;exact⟨HB.o.new,.inr ⟨FB.o,rfl⟩⟩
   have H1:=jd h1;subst h1;by_cases h2:c2=1
   · have H2:=jd h2
     subst h2;go_wp2
     go_round
     case rel=>
      refine⟨q+1,by omega,by omega,by go_num,jd λa h1 h2=>?_⟩;by_cases e:a=q
      · subst e
        rw[<-HK.o];exact⟨Bw.o.symm,vw.o.symm⟩
      exact HO.o a h1 (by omega)
     case measure=>simp[intOf];omega
   have e1:((c2:Int) != 1)=true:=by simp;omega
   have hno:okB X=false:=by
    rw[Bool.eq_false_iff];intro h;have:=((uN X).1 h).2 q hq1 (by unfold ag;have:=HN.o;omega);rw[<-HK.o,<-vw.o]at this;exact h2 this.2
   have FB:=jd hno;clear hno h2;go_wp2;go_ret2;exact⟨HB.o.new,.inr ⟨FB.o,rfl⟩⟩
 have fY:k<X.length:=by have:=HN.o;omega
 obtain⟨b',o',rfl,hcx⟩:=(New.uh HB.o.new HX.o).at fY;obtain⟨x,HXk⟩:=jb (Kn.cr X k);rw[<-HXk.o]at hcx;obtain⟨xa,xb,xc,xd,xp⟩:=x;obtain⟨d1,d2,d3,d4,d5⟩:=hcx;simp only at d1 d2 d3 d4 d5
 have i1:(0:Int)<=(k:Int):=by omega
 have i2:(k:Int)<(n:Int):=by omega
 go_wp2;clear d1 d2 d3 d4 d5
 obtain⟨wo,rfl⟩:∃wo,wo=wr:=⟨_,rfl⟩
 go_loopw [48] (λs wr=>∃j:Nat,j<=4/\s=.int .i64 j/\Hd (En w wr X L b v bi bo ci co w.heap.size (k*4+j))/\Hd (um wr wo.heap.size ⟨xa,xb,xc,xd,xp⟩)) (λs _=>4-(intOf s).toNat)
 case atStart=>exact⟨0,by omega,rfl,jd (New.bst ((refl _ wo).alloc _) HB.o),jd (um.new wo ⟨xa,xb,xc,xd,xp⟩)⟩
 case round=>
 obtain⟨j,hj,rfl,HBj,HBx⟩:=hrel;by_cases hlj:j<4;rotate_left
 · obtain rfl:j=4:=by omega
   go_wp2;go_roundw
   case rel=>exact⟨k+1,by omega,by go_num,by rw[Nat.succ_mul];exact HBj⟩
   case measure=>simp[intOf];omega
 obtain⟨q1,q2,q3,q4,q5⟩:=HBx.o.at;simp only[Nat.zero_add]at q1 q2 q3 q4 q5
 have j1:(0:Int)<=(j:Int):=by omega
 have j2:(j:Int)<4:=by omega
 have hat:Hd (at_ X (Kn.pl (k*4+j))=wJ xa xb xc xd j):=jd (by rw[EK hlj];unfold at_;simp only;rw[<-HXk.o];rfl);have hcm:Hd (cm X (Kn.pl (k*4+j))=oz xp j):=jd (by rw[EK hlj];unfold cm;simp only;rw[<-HXk.o];rfl);by_cases hr:1<=wJ xa xb xc xd j/\wJ xa xb xc xd j<=2*(n:Int);rotate_left
 · obtain⟨y,HY⟩:=jb (wJ xa xb xc xd j)
   rw[<-HY.o]at hr
   have hno:okB X=false:=by
    rw[Bool.eq_false_iff];intro h;have:=((uN X).1 h).1 (k*4+j) (by omega);rw[hat.out,<-HY.o]at this;unfold ag at this;have:=HN.o;omega
   have FB:=jd hno;clear hno;by_cases hy:y<1;rotate_left
   focus
    have hy2:2*(n:Int)<y:=by omega
   all_goals
    clear hr
    go_wp2_with (go_at_call 75;refine(nu xa xb xc xd xp j _ (by omega)).mono ?_;rintro e w4 ⟨rfl,hF⟩;rw[<-HY.o];have HF:=jd hF;clear hF)
    go_ret2;exact⟨HBj.o.new.trans HF.o,.inr ⟨FB.o,rfl⟩⟩
 obtain⟨na,hna⟩:∃na:Nat,(na:Int)=wJ xa xb xc xd j:=⟨(wJ xa xb xc xd j).toNat,by omega⟩
 rw[<-hna]at hr
 have ahD:1<=na:=by omega
 have hna2:na<=2*n:=by omega
 have l1:(1:Int)<=(na:Int):=by omega
 have l2:(na:Int)<=2*(n:Int):=by omega
 have l3:(na:Int)<2*(n:Int)+1:=by omega
 have l4:na<2*n+1:=by omega
 have KG:=jd hna;clear hna hr
 rcases Bool.eq_false_or_eq_true (oz xp j)with hcv|hcv
 · have hcb:oz xp j=true:=hcv
   have DG:=jd (hcm.out.trans hcv);obtain⟨cn,Hv⟩:=jb (cnt X true (k*4+j) na)
   have U9:cn<=64:=by have:=Kn.MU X true na (k*4+j);rw[<-Hv.o]at this;omega
   clear hcv
   go_wp2_with (first
    |(go_at_call 75;refine(nu xa xb xc xd xp j _ (by omega)).mono ?_;rintro e w4 ⟨rfl,hF⟩;rw[<-KG.o];have p1:=hF.cell q1 λx=>x;have p2:=hF.cell q2 λx=>x;have p3:=hF.cell q3 λx=>x;have p4:=hF.cell q4 λx=>x;have p5:=hF.cell q5 λx=>x;have HF:=jd hF;clear hF)
    |(go_at_call 113;refine(qQ xa xb xc xd xp j _ (by omega)).mono ?_;rintro e w5 ⟨rfl,hG⟩;rw[hcb];have Wj:=jd (New.bst (HF.o.trans hG) HBj.o);have HX5:=jd (HBx.o.kept (HF.o.trans hG) λx=>x);clear hG;obtain⟨f1,f2,f3,f4,f5,f6,f7⟩:=Wj.o.Vn (n:=na) (by have:=HN.o;omega);rw[RK.o]at f1;rw[<-Hv.o]at f6))
   go_roundw
   case rel=>
    obtain⟨g1,g2⟩:=Wj.o.S3 DG.o (hat.out.trans KG.o.symm) ahD (by have:=HN.o;omega) (EK hlj) Hv.o HX5.o;exact⟨j+1,by omega,by go_num,jd g1,jd g2⟩
   case measure=>simp[intOf];omega
 have hcb:oz xp j=false:=hcv;have DG:=jd (hcm.out.trans hcv);obtain⟨cn,Hv⟩:=jb (cnt X false (k*4+j) na)
 have U9:cn<=64:=by have:=Kn.MU X false na (k*4+j);rw[<-Hv.o]at this;omega
 clear hcv
 go_wp2_with (first
  |(go_at_call 75;refine(nu xa xb xc xd xp j _ (by omega)).mono ?_;rintro e w4 ⟨rfl,hF⟩;rw[<-KG.o];have p1:=hF.cell q1 λx=>x;have p2:=hF.cell q2 λx=>x;have p3:=hF.cell q3 λx=>x;have p4:=hF.cell q4 λx=>x;have p5:=hF.cell q5 λx=>x;have HF:=jd hF;clear hF)
  |(go_at_call 113;refine(qQ xa xb xc xd xp j _ (by omega)).mono ?_;rintro e w5 ⟨rfl,hG⟩;rw[hcb];have Wj:=jd (New.bst (HF.o.trans hG) HBj.o);have HX5:=jd (HBx.o.kept (HF.o.trans hG) λx=>x);clear hG;obtain⟨f1,f2,f3,f4,f5,f6,f7⟩:=Wj.o.Q1 (n:=na) (by have:=HN.o;omega);rw[RK.o]at f1;rw[<-Hv.o]at f6))
 go_roundw
 case rel=>
  obtain⟨g1,g2⟩:=Wj.o.PK DG.o (hat.out.trans KG.o.symm) ahD (by have:=HN.o;omega) (EK hlj) Hv.o HX5.o;exact⟨j+1,by omega,by go_num,jd g1,jd g2⟩
 case measure=>simp[intOf];omega
end Go.Proofs.YtfplmbmenjdlhaaGreatDoor
