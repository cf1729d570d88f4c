/- Walks: New, May. -/
import Derived.Test.YtfplmbmenjdlhaaGreatDoorW4
set_option maxRecDepth 100000
set_option maxHeartbeats 16000000
namespace Go.Proofs.YtfplmbmenjdlhaaGreatDoor
open Go.RowKit
open Fr (refl)
open Kn (Cr oM gY ag okB fH)
open Go.Proofs.Tryz (func44 func81 ntmps44 ntmps81 prog)
variable {w:World}
theorem Zn(a:Option Addr)(n c:Nat)(X:List Cr)(L:Int)(w:World)(hx:bV w a X)(hn:n=X.length)(lx:n<=16):Calls prog 79 #[.agg #[.slice a n c,.int .i64 L]] w (Ns (okB X) X L w):=by
 subst hn;exact Rh a c X L w hx lx
theorem Gf(a:Option Addr)(n c:Nat)(X:List Cr)(L:Int)(w:World)(hx:bV w a X)(hn:n=X.length)(lx:n<=9223372036854775807)(l1:-9223372036854775808<=L)(l2:L<=9223372036854775807):
 Calls prog 44 #[.agg #[.slice a n c,.int .i64 L]] w (Ns (gY X L) X L w):=by
 have HN:=jd hn;have HX:=jd hx;clear hx hn;by_cases h:n<=16/\0<=L/\L<=16/\¬((n:Int)+L=0)
 · obtain⟨h1,h2,h3,h4⟩:=h
   have hm:gY X L=okB X:=by
    unfold gY;have e1:=HN.o;rw[jk (by omega:X.length<=16),jk h2,jk h3]
    have:(decide (X.length=0)&&decide (L=0))=false:=by
     rw[Bool.eq_false_iff];intro h;simp only[jp,jh]at h;omega
    rw[this];rfl
   rw[hm];clear hm
   have e4:decide ((n:Int)+L=0)=false:=by simpa using h4
   have e5:((n:Int)+L==0)=false:=by simpa using h4
   go_enter func44,ntmps44
   go_wp2_with (go_at_call 79;refine(Zn a n c X L _ (New.uh ((refl _ _).alloc _) HX.o) HN.o h1).mono ?_;rintro e w4 ⟨hF,h5⟩;rcases h5 with⟨ho,b,rfl,hs,hb,hnw⟩|⟨ho,rfl⟩)
   · have HF:=jd hF
     have HO:=jd ho;have HS:=jd hs
     have yK:Hd (Dy w.heap.size w4 b X L):=jd (by
      obtain⟨v,bi,bo,base,g1,g2⟩:=hnw;rw[World.size_alloc]at g2
      exact⟨v,bi,bo,base,g1,by omega⟩)
     simp at hb;clear hF ho hs hnw;go_wp2;go_ret2;exact⟨((refl _ _).alloc _).trans HF.o,.inl ⟨HO.o,b,rfl,HS.o,by omega,yK.o⟩⟩
   have HF:=jd hF;have HO:=jd ho;clear hF ho;go_wp2;go_ret2;exact⟨((refl _ _).alloc _).trans HF.o,.inr ⟨HO.o,rfl⟩⟩
 have hno:gY X L=false:=by
  rw[Bool.eq_false_iff];intro hh;apply h;unfold gY at hh;simp only[jp,jh,Bool.not_eq_true',Bool.and_eq_false_iff,jF]at hh;have:=HN.o;omega
 rw[hno];clear hno;by_cases h1:n<=16
 · by_cases h2:L<0
   · clear h
     go_enter func44,ntmps44
     go_wp2;go_ret2;exact⟨(refl _ _).alloc _,.inr ⟨rfl,rfl⟩⟩
   by_cases h3:L<=16
   · have h4:(n:Int)+L=0:=js λx=>h ⟨h1,by omega,h3,x⟩
     obtain rfl:n=0:=by omega
     obtain rfl:L=0:=by omega
     clear h h4
     go_enter func44,ntmps44
     go_wp2;go_ret2;exact⟨(refl _ _).alloc _,.inr ⟨rfl,rfl⟩⟩
   have h4:(16:Int)<L:=by omega
   clear h
   go_enter func44,ntmps44
   go_wp2;go_ret2;exact⟨(refl _ _).alloc _,.inr ⟨rfl,rfl⟩⟩
 have h4:(16:Int)<n:=by omega
 clear h
 go_enter func44,ntmps44
 go_wp2;go_ret2;exact⟨(refl _ _).alloc _,.inr ⟨rfl,rfl⟩⟩
open Go.RowKit
structure ShR(w:World)(b n:Nat)(X:List Cr)(bx ox cc bi bo:Nat):Prop where
 c0:w.cell? ⟨b,0,none⟩=some (.slice (some ⟨bx,ox,none⟩) n cc)
 c2:w.cell? ⟨b,2,none⟩=some (.slice (some ⟨bi,0,none⟩) (2*n+1) (2*n+1))
 c3:w.cell? ⟨b,3,none⟩=some (.slice (some ⟨bo,0,none⟩) (2*n+1) (2*n+1))
 cr:∀i,i<n->Em w bx (ox+i*5) (Kn.cr X i)
 pi:∀j,j<2*n+1->w.cell? ⟨bi,j*2,none⟩=some (.int .i64 ((oM X j).1:Nat))/\w.cell? ⟨bi,j*2+1,none⟩=some (.int .i64 ((oM X j).2:Nat))
 po:∀j,j<2*n+1->w.cell? ⟨bo,j*2,none⟩=some (.int .i64 ((fH X j).1:Nat))/\w.cell? ⟨bo,j*2+1,none⟩=some (.int .i64 ((fH X j).2:Nat))
 len:n=X.length
theorem fS.read{b:Nat}{X:List Cr}{L:Int}(h:fS w b X L)(hn:0<X.length):∃n bx ox cc bi bo,ShR w b n X bx ox cc bi bo:=by
 obtain⟨v,bi,bo,base,s⟩:=h;obtain⟨a,c,rfl,hc⟩:=bV.gu s.own
 rcases hc with hc|⟨bx,ox,rfl,hc⟩
 · rw[hc]at hn;simp at hn
 refine⟨X.length,bx,ox,c,bi,bo,s.c2.1,s.c2.2.2.1,s.c2.2.2.2,hc,λj hj=>?_,λj hj=>?_,rfl⟩
 · have h1:=s.ri.cell (i:=j*2) (by unfold bA;omega)
   have h2:=s.ri.cell (i:=j*2+1) (by unfold bA;omega);rw[vY]at h1;rw[vX]at h2;exact⟨h1,h2⟩
 have h1:=s.ro.cell (i:=j*2) (by unfold bA;omega);have h2:=s.ro.cell (i:=j*2+1) (by unfold bA;omega);rw[vY]at h1;rw[vX]at h2;exact⟨h1,h2⟩
theorem u6(b:Nat)(X:List Cr)(L:Int)(w:World)(h:fS w b X L)(hn:X.length<=16):
 Calls prog 46 #[.pointer (some ⟨b,0,none⟩)] w λe w'=>e=.returned (.int .i64 (ag X:Nat))/\w=w':=by
 obtain⟨v,bi,bo,base,s⟩:=h;obtain⟨a,c,rfl,_⟩:=bV.gu s.own;have h0:=s.c2.1
 obtain⟨n,Gz⟩:∃n,n=X.length:=⟨_,rfl⟩
 rw[<-Gz]at h0 hn;have HN:=jd Gz;clear Gz s
 go_enter Tryz.func46,Tryz.ntmps46
 go_wp2;go_ret;exact⟨rG (by unfold ag;rw[<-HN.o];omega),rfl⟩
theorem Du(b c s:Nat)(X:List Cr)(L:Int)(w:World)(h:fS w b X L)(hX:Kn.Ok X)(hl:X.length<=16)(hc:c<X.length)(hs:s<4):
 Calls prog 109 #[.pointer (some ⟨b,0,none⟩),.agg #[.int .i64 c,.int .i64 s]] w λe w'=>e=.returned (.int .i64 (Kn.aa X (c,s):Nat))/\New w w':=by
 obtain⟨n,bx,ox,cc,bi,bo,r⟩:=h.read (by omega);obtain⟨g1,g2,g3,g4,g5⟩:=r.cr c (by rw[r.len];exact hc);have g0:=r.c0
 have i1:(0:Int)<=(c:Int):=by omega
 have i2:(c:Int)<(n:Int):=by have:=r.len;omega
 obtain⟨x,HXk⟩:=jb (Kn.cr X c);rw[<-HXk.o]at g1 g2 g3 g4 g5;obtain⟨xa,xb,xc,xd,xp⟩:=x;simp only at g1 g2 g3 g4 g5
 have har:Hd (wJ xa xb xc xd s=(Kn.aa X (c,s):Nat)):=jd (by
  rw[hX.cT ⟨hc,hs⟩];unfold Kn.at_
  rw[<-HXk.o];rfl)
 have HR:=jd r;clear r h hc
 go_enter Tryz.func109,Tryz.ntmps109
 go_wp2;have p0:=aY g0 (.cells #[.int .i64 (c:Int),.int .i64 (s:Int)] 158);have p1:=aY g1 (.cells #[.int .i64 (c:Int),.int .i64 (s:Int)] 158);have p2:=aY g2 (.cells #[.int .i64 (c:Int),.int .i64 (s:Int)] 158);have p3:=aY g3 (.cells #[.int .i64 (c:Int),.int .i64 (s:Int)] 158);have p4:=aY g4 (.cells #[.int .i64 (c:Int),.int .i64 (s:Int)] 158);have p5:=aY g5 (.cells #[.int .i64 (c:Int),.int .i64 (s:Int)] 158)
 have k1:(w.alloc (.cells #[.int .i64 (c:Int),.int .i64 (s:Int)] 158)).cell? ⟨w.heap.size,0,none⟩=some (.int .i64 c):=cell_of_row _ _ 0 _ 158 (0,0) (heap_alloc_new _ _);have k2:(w.alloc (.cells #[.int .i64 (c:Int),.int .i64 (s:Int)] 158)).cell? ⟨w.heap.size,1,none⟩=some (.int .i64 s):=cell_of_row _ _ 1 _ 158 (0,0) (heap_alloc_new _ _);have sW:Hd (New w (w.alloc (.cells #[.int .i64 (c:Int),.int .i64 (s:Int)] 158))):=jd ((refl _ _).alloc _)
 obtain⟨w1,Gw⟩:∃w1,w.alloc (.cells #[.int .i64 (c:Int),.int .i64 (s:Int)] 158)=w1:=⟨_,rfl⟩
 rw[Gw]at p0 p1 p2 p3 p4 p5 k1 k2 sW ⊢;clear Gw g0 g1 g2 g3 g4 g5
 go_region_held3 (λw'=>w'.cell? ⟨b,0,none⟩=some (.slice (some ⟨bx,ox,none⟩) n cc)/\w'.cell? ⟨bx,ox+c*5,none⟩=some (.int .i64 xa)/\w'.cell? ⟨bx,ox+c*5+1,none⟩=some (.int .i64 xb)/\w'.cell? ⟨bx,ox+c*5+2,none⟩=some (.int .i64 xc)/\w'.cell? ⟨bx,ox+c*5+3,none⟩=some (.int .i64 xd)/\w'.cell? ⟨bx,ox+c*5+4,none⟩=some (.bool xp)/\w'.cell? ⟨w.heap.size,0,none⟩=some (.int .i64 c)/\w'.cell? ⟨w.heap.size,1,none⟩=some (.int .i64 s))
  (first|assumption|go_keep)
  (first
   |(go_at_call 75;refine(nu xa xb xc xd xp s _ hs).mono ?_;rintro e w4 ⟨rfl,hF⟩;rw[har.out];have hq:w4.cell? ⟨b,0,none⟩=some (.slice (some ⟨bx,ox,none⟩) n cc)/\w4.cell? ⟨bx,ox+c*5,none⟩=some (.int .i64 xa)/\w4.cell? ⟨bx,ox+c*5+1,none⟩=some (.int .i64 xb)/\w4.cell? ⟨bx,ox+c*5+2,none⟩=some (.int .i64 xc)/\w4.cell? ⟨bx,ox+c*5+3,none⟩=some (.int .i64 xd)/\w4.cell? ⟨bx,ox+c*5+4,none⟩=some (.bool xp)/\w4.cell? ⟨w.heap.size,0,none⟩=some (.int .i64 c)/\w4.cell? ⟨w.heap.size,1,none⟩=some (.int .i64 s):=⟨hF.cell p0 λx=>x,hF.cell p1 λx=>x,hF.cell p2 λx=>x,hF.cell p3 λx=>x,hF.cell p4 λx=>x,hF.cell p5 λx=>x,hF.cell k1 λx=>x,hF.cell k2 λx=>x⟩;have HF:=jd (New.FP hF);clear hF))
 go_wp2;go_ret;exact⟨rfl,sW.o.trans HF.o⟩
theorem F3{B t:Nat}{x y:Value}(h:w.heap[B]?=some (.cells #[x,y] t (0,0))):
 w.cell? ⟨B,0,none⟩=some x/\w.frozen? ⟨B,0,none⟩=false/\(∀Y,(w.setCell ⟨B,0,none⟩ Y).cell? ⟨B,1,none⟩=some y)/\(∀Y,(w.setCell ⟨B,0,none⟩ Y).frozen? ⟨B,1,none⟩=false) /\
 (∀Y Z,((w.setCell ⟨B,0,none⟩ Y).setCell ⟨B,1,none⟩ Z).cell? ⟨B,0,none⟩=some Y)/\(∀Y Z,((w.setCell ⟨B,0,none⟩ Y).setCell ⟨B,1,none⟩ Z).cell? ⟨B,1,none⟩=some Z):=by
 have hr:w.rowIs B t 2 (λj=>if j=0 then x else y):=⟨_,h,rfl,λi hi=>by
  match i,hi with
  |0,_=>rfl
  |1,_=>rfl⟩
 refine⟨hr.cell (i:=0) (by omega),hr.frozen _,λY=>?_,λY=>(hr.set 0 Y).frozen _,λY Z=>?_,λY Z=>?_⟩
 · have:=(hr.set 0 Y).cell (i:=1) (by omega)
   simpa using this
 · have:=((hr.set 0 Y).set 1 Z).cell (i:=0) (by omega)
   simpa using this
 have:=((hr.set 0 Y).set 1 Z).cell (i:=1) (by omega);simpa using this
def Nt(p:Kn.Pl)(w:World)(e:Ending)(w':World):Prop:=e=.returned (.agg #[.int .i64 (p.1:Nat),.int .i64 (p.2:Nat)])/\New w w'
theorem CX(b a:Nat)(back:Bool)(X:List Cr)(L:Int)(w:World)(h:fS w b X L)(hl:X.length<=16)(ha:Kn.ah X a):
 Calls prog 81 #[.pointer (some ⟨b,0,none⟩),.agg #[.int .i64 a,.bool back]] w (Nt (Kn.head X (a,back)) w):=by
 obtain⟨pc,ps,hp⟩:∃pc ps,Kn.head X (a,back)=(pc,ps):=⟨_,_,rfl⟩
 rw[hp]
 have hn0:0<X.length:=by have:=ha.1;have:=ha.2;unfold ag at this;omega
 obtain⟨n,bx,ox,cc,bi,bo,r⟩:=h.read hn0
 have JN:a<2*n+1:=by have:=ha.2;unfold ag at this;have:=r.len;omega
 have i1:(0:Int)<=(a:Int):=by omega
 have i2:(a:Int)<2*(n:Int)+1:=by omega
 cases back with
 |true=>
  obtain⟨g1,g2⟩:=r.po a JN;have YA:fH X a=(pc,ps):=hp;rw[YA]at g1 g2;simp only at g1 g2;have g0:=r.c3;have HR:=jd r;clear r h hp YA ha
  go_enter func81,ntmps81
  go_wp2;obtain⟨w1,cU⟩:=jb ((w.alloc (.cells #[.int .i64 (a:Int),.bool true] 26)).alloc (.cells #[.int .i64 0,.int .i64 0] 158));rw[<-cU.o]
  have hF:New w w1:=by rw[cU.o];exact((refl _ _).alloc _).alloc _
  have p0:=hF.cell g0 λx=>x
  have p1:=hF.cell g1 λx=>x
  have p2:=hF.cell g2 λx=>x
  have k1:w1.cell? ⟨w.heap.size,0,none⟩=some (.int .i64 a):=by rw[cU.o];exact aY (cell_of_row _ _ 0 _ 26 (0,0) (heap_alloc_new _ _)) _
  have hres:w1.heap[w.heap.size+1]?=some (.cells #[.int .i64 0,.int .i64 0] 158 (0,0)):=by
   have:=heap_alloc_new (w.alloc (.cells #[.int .i64 (a:Int),.bool true] 26)) (.cells #[.int .i64 0,.int .i64 0] 158)
   rw[World.size_alloc,<-cU.o]at this;exact this
  obtain⟨m1,m2,m3,m4,m5,m6⟩:=F3 hres
  have sf:Hd (∀Y Z,New w ((w1.setCell ⟨w.heap.size+1,0,none⟩ Y).setCell ⟨w.heap.size+1,1,none⟩ Z)):=jd λY Z=>(hF.setCell (.inr (Nat.le_succ _)) Y).setCell (.inr (Nat.le_succ _)) Z
  have q0:=λY Z=>(sf.o Y Z).cell g0 λx=>x
  have q1:=λY Z=>(sf.o Y Z).cell g1 λx=>x
  have q2:=λY Z=>(sf.o Y Z).cell g2 λx=>x
  have HF:=jd hF;clear hF hres g0 g1 g2
  go_region_held3 (λw'=>w'.cell? ⟨b,3,none⟩=some (.slice (some ⟨bo,0,none⟩) (2*n+1) (2*n+1))/\w'.cell? ⟨bo,a*2,none⟩=some (.int .i64 pc)/\w'.cell? ⟨bo,a*2+1,none⟩=some (.int .i64 ps)/\w'.cell? ⟨w.heap.size,0,none⟩=some (.int .i64 a)) (first|assumption|go_keep) (first|fail)
  go_wp2
  refine bodyPost_ret (v:=.agg #[.int .i64 (pc:Int),.int .i64 (ps:Int)]) (by simp[results,Tryz.results81,go_sem,m5,m6]) rfl ⟨rfl,?_⟩
  exact(sf.o _ _).drew
 |false=>
  obtain⟨g1,g2⟩:=r.pi a JN;have YA:oM X a=(pc,ps):=hp;rw[YA]at g1 g2;simp only at g1 g2;have g0:=r.c2;have HR:=jd r;clear r h hp YA ha
  go_enter func81,ntmps81
  go_wp2;obtain⟨w1,cU⟩:=jb ((w.alloc (.cells #[.int .i64 (a:Int),.bool false] 26)).alloc (.cells #[.int .i64 0,.int .i64 0] 158));rw[<-cU.o]
  have hF:New w w1:=by rw[cU.o];exact((refl _ _).alloc _).alloc _
  have p0:=hF.cell g0 λx=>x
  have p1:=hF.cell g1 λx=>x
  have p2:=hF.cell g2 λx=>x
  have k1:w1.cell? ⟨w.heap.size,0,none⟩=some (.int .i64 a):=by rw[cU.o];exact aY (cell_of_row _ _ 0 _ 26 (0,0) (heap_alloc_new _ _)) _
  have hres:w1.heap[w.heap.size+1]?=some (.cells #[.int .i64 0,.int .i64 0] 158 (0,0)):=by
   have:=heap_alloc_new (w.alloc (.cells #[.int .i64 (a:Int),.bool false] 26)) (.cells #[.int .i64 0,.int .i64 0] 158)
   rw[World.size_alloc,<-cU.o]at this;exact this
  obtain⟨m1,m2,m3,m4,m5,m6⟩:=F3 hres
  have sf:Hd (∀Y Z,New w ((w1.setCell ⟨w.heap.size+1,0,none⟩ Y).setCell ⟨w.heap.size+1,1,none⟩ Z)):=jd λY Z=>(hF.setCell (.inr (Nat.le_succ _)) Y).setCell (.inr (Nat.le_succ _)) Z
  have q0:=λY Z=>(sf.o Y Z).cell g0 λx=>x
  have q1:=λY Z=>(sf.o Y Z).cell g1 λx=>x
  have q2:=λY Z=>(sf.o Y Z).cell g2 λx=>x
  have HF:=jd hF;clear hF hres g0 g1 g2
  go_region_held3 (λw'=>w'.cell? ⟨b,2,none⟩=some (.slice (some ⟨bi,0,none⟩) (2*n+1) (2*n+1))/\w'.cell? ⟨bi,a*2,none⟩=some (.int .i64 pc)/\w'.cell? ⟨bi,a*2+1,none⟩=some (.int .i64 ps)/\w'.cell? ⟨w.heap.size,0,none⟩=some (.int .i64 a)) (first|assumption|go_keep) (first|fail)
  go_wp2
  refine bodyPost_ret (v:=.agg #[.int .i64 (pc:Int),.int .i64 (ps:Int)]) (by simp[results,Tryz.results81,go_sem,m5,m6]) rfl ⟨rfl,?_⟩
  exact(sf.o _ _).drew
end Go.Proofs.YtfplmbmenjdlhaaGreatDoor
