/- Walks: New, May. -/
import Derived.Test.YtlicglicfijelaaGreatW4
/- Walks: New, May. -/
namespace Go.Proofs.YtlicglicfijelaaGreat
open Go.RowKit

theorem GaveSh.new{ok:Bool}{X:List Kn.Cr}{L:Int}{w w1:World}{e:Ending}{w':World}(h:New w w1)(g:GaveSh ok X L w1 e w'):GaveSh ok X L w e w':=by
 obtain⟨h1,h2⟩:=g
 refine⟨h.trans h1,?_⟩
 rcases h2 with⟨e1,b,e2,h3,h4,v,bi,bo,base,h5,h6⟩|h2
 · exact .inl ⟨e1,b,e2,h3,Nat.le_trans h.size h4,v,bi,bo,base,h5,Nat.le_trans h.size h6⟩
 · exact .inr h2
theorem build_n(a:Option Addr)(n c:Nat)(X:List Kn.Cr)(L:Int)(w:World)(hx:CrsAt w a X)(hn:n=X.length)(lx:n≤16):Calls Tryz.prog 23 #[.agg #[.slice a n c,.int .i64 L]] w (GaveSh (Kn.okB X) X L w):=by
 subst hn;exact build_any a c X L w hx lx

set_option maxHeartbeats 1000000 in
theorem new_any(a:Option Addr)(n c:Nat)(X:List Kn.Cr)(L:Int)(w:World)(hx:CrsAt w a X)(hn:n=X.length)(lx:n≤9223372036854775807)(l1:-9223372036854775808≤L)(l2:L≤9223372036854775807):
 Calls Tryz.prog 41 #[.agg #[.slice a n c,.int .i64 L]] w (GaveSh (Kn.mayB X L) X L w):=by
 have HN:=Lib.hid hn;have HX:=Lib.hid hx;clear hx hn
 by_cases h:n≤16∧0≤L∧L≤16∧¬((n:Int)+L=0)
 · obtain⟨h1,h2,h3,h4⟩:=h
   have hm:Kn.mayB X L=Kn.okB X:=by
    unfold Kn.mayB
    have e1:=HN.out;rw[decide_eq_true (by omega:X.length≤16),decide_eq_true h2,decide_eq_true h3]
    have:(decide (X.length=0)&&decide (L=0))=false:=by
     rw[Bool.eq_false_iff];intro h;simp only[Bool.and_eq_true,decide_eq_true_eq]at h;omega
    rw[this];rfl
   rw[hm];clear hm
   have e4:decide ((n:Int)+L=0)=false:=by simpa using h4
   have e5:((n:Int)+L==0)=false:=by simpa using h4
   go_enter Tryz.func41,Tryz.ntmps41
   go_wp2_with (go_at_call 23;refine(build_n a n c X L _ (New.crs ((Fr.refl _ _).alloc _) HX.out) HN.out h1).mono ?_;rintro e w4 ⟨hF,h5⟩;rcases h5 with⟨ho,b,rfl,hs,hb,hnw⟩|⟨ho,rfl⟩)
   · have HF:=Lib.hid hF
     have HO:=Lib.hid ho;have HS:=Lib.hid hs
     have HNW:Hid (ShNew w.heap.size w4 b X L):=Lib.hid (by
      obtain⟨v,bi,bo,base,g1,g2⟩:=hnw;rw[World.size_alloc]at g2
      exact⟨v,bi,bo,base,g1,by omega⟩)
     simp at hb
     clear hF ho hs hnw;go_wp2;go_ret2
     exact⟨((Fr.refl _ _).alloc _).trans HF.out,.inl ⟨HO.out,b,rfl,HS.out,by omega,HNW.out⟩⟩
   · have HF:=Lib.hid hF
     have HO:=Lib.hid ho;clear hF ho;go_wp2;go_ret2
     exact⟨((Fr.refl _ _).alloc _).trans HF.out,.inr ⟨HO.out,rfl⟩⟩
 · have hno:Kn.mayB X L=false:=by
    rw[Bool.eq_false_iff]
    intro hh
    apply h
    unfold Kn.mayB at hh
    simp only[Bool.and_eq_true,decide_eq_true_eq,Bool.not_eq_true',Bool.and_eq_false_iff,decide_eq_false_iff_not]at hh;have:=HN.out
    omega
   rw[hno];clear hno
   by_cases h1:n≤16
   · by_cases h2:L<0
     · clear h
       go_enter Tryz.func41,Tryz.ntmps41
       go_wp2;go_ret2
       exact⟨(Fr.refl _ _).alloc _,.inr ⟨rfl,rfl⟩⟩
     · by_cases h3:L≤16
       · have h4:(n:Int)+L=0:=Classical.byContradiction fun x=>h ⟨h1,by omega,h3,x⟩
         obtain rfl:n=0:=by omega
         obtain rfl:L=0:=by omega
         clear h h4
         go_enter Tryz.func41,Tryz.ntmps41
         go_wp2;go_ret2
         exact⟨(Fr.refl _ _).alloc _,.inr ⟨rfl,rfl⟩⟩
       · have h4:(16:Int)<L:=by omega
         clear h
         go_enter Tryz.func41,Tryz.ntmps41
         go_wp2;go_ret2
         exact⟨(Fr.refl _ _).alloc _,.inr ⟨rfl,rfl⟩⟩
   · have h4:(16:Int)<n:=by omega
     clear h
     go_enter Tryz.func41,Tryz.ntmps41
     go_wp2;go_ret2
     exact⟨(Fr.refl _ _).alloc _,.inr ⟨rfl,rfl⟩⟩

end Go.Proofs.YtlicglicfijelaaGreat

/- Walks: Arcs, At, Other, Next, Head, Left. -/
namespace Go.Proofs.YtlicglicfijelaaGreat
open Go.RowKit

structure ShR(w:World)(b n:Nat)(X:List Kn.Cr)(bx ox cc bi bo:Nat):Prop where
 c0:w.cell? ⟨b,0,none⟩=some (.slice (some ⟨bx,ox,none⟩) n cc)
 c2:w.cell? ⟨b,2,none⟩=some (.slice (some ⟨bi,0,none⟩) (2*n+1) (2*n+1))
 c3:w.cell? ⟨b,3,none⟩=some (.slice (some ⟨bo,0,none⟩) (2*n+1) (2*n+1))
 cr:∀i,i<n→CrAt w bx (ox+i*5) (Kn.cr X i)
 pi:∀j,j<2*n+1→w.cell? ⟨bi,j*2,none⟩=some (.int .i64 ((Kn.inP X j).1:Nat))∧w.cell? ⟨bi,j*2+1,none⟩=some (.int .i64 ((Kn.inP X j).2:Nat))
 po:∀j,j<2*n+1→w.cell? ⟨bo,j*2,none⟩=some (.int .i64 ((Kn.outP X j).1:Nat))∧w.cell? ⟨bo,j*2+1,none⟩=some (.int .i64 ((Kn.outP X j).2:Nat))
 len:n=X.length
theorem ShAt.read{w:World}{b:Nat}{X:List Kn.Cr}{L:Int}(h:ShAt w b X L)(hn:0<X.length):∃n bx ox cc bi bo,ShR w b n X bx ox cc bi bo:=by
 obtain⟨v,bi,bo,base,s⟩:=h;obtain⟨a,c,rfl,hc⟩:=CrsAt.of_owns s.own
 rcases hc with hc|⟨bx,ox,rfl,hc⟩
 · rw[hc]at hn;simp at hn
 · refine⟨X.length,bx,ox,c,bi,bo,s.c2.1,s.c2.2.2.1,s.c2.2.2.2,hc,fun j hj=>?_,fun j hj=>?_,rfl⟩
   · have h1:=s.ri.cell (i:=j*2) (by unfold mArcs;omega)
     have h2:=s.ri.cell (i:=j*2+1) (by unfold mArcs;omega);rw[plFn_0]at h1;rw[plFn_1]at h2
     exact⟨h1,h2⟩
   · have h1:=s.ro.cell (i:=j*2) (by unfold mArcs;omega)
     have h2:=s.ro.cell (i:=j*2+1) (by unfold mArcs;omega);rw[plFn_0]at h1;rw[plFn_1]at h2
     exact⟨h1,h2⟩

set_option maxHeartbeats 400000 in
theorem arcsN_any(b:Nat)(X:List Kn.Cr)(L:Int)(w:World)(h:ShAt w b X L)(hn:X.length≤16):
 Calls Tryz.prog 35 #[.pointer (some ⟨b,0,none⟩)] w fun e w'=>e=.returned (.int .i64 (Kn.nArcs X:Nat))∧w=w':=by
 obtain⟨v,bi,bo,base,s⟩:=h;obtain⟨a,c,rfl,_⟩:=CrsAt.of_owns s.own;have h0:=s.c2.1
 obtain⟨n,hn'⟩:∃n,n=X.length:=⟨_,rfl⟩
 rw[←hn']at h0 hn;have HN:=Lib.hid hn';clear hn' s
 go_enter Tryz.func35,Tryz.ntmps35
 go_wp2;go_ret
 exact⟨ret_int (by unfold Kn.nArcs;rw[←HN.out];omega),rfl⟩

set_option maxHeartbeats 1000000 in
theorem at_any(b c s:Nat)(X:List Kn.Cr)(L:Int)(w:World)(h:ShAt w b X L)(hX:Kn.Ok X)(hl:X.length≤16)(hc:c<X.length)(hs:s<4):
 Calls Tryz.prog 91 #[.pointer (some ⟨b,0,none⟩),.agg #[.int .i64 c,.int .i64 s]] w fun e w'=>e=.returned (.int .i64 (Kn.arcN X (c,s):Nat))∧New w w':=by
 obtain⟨n,bx,ox,cc,bi,bo,r⟩:=h.read (by omega);obtain⟨g1,g2,g3,g4,g5⟩:=r.cr c (by rw[r.len];exact hc);have g0:=r.c0
 have i1:(0:Int)≤(c:Int):=by omega
 have i2:(c:Int)<(n:Int):=by have:=r.len;omega
 obtain⟨x,HXk⟩:∃x,Hid (x=Kn.cr X c):=⟨_,Lib.hid rfl⟩
 rw[←HXk.out]at g1 g2 g3 g4 g5;obtain⟨xa,xb,xc,xd,xp⟩:=x;simp only at g1 g2 g3 g4 g5
 have har:Hid (arcI xa xb xc xd s=(Kn.arcN X (c,s):Nat)):=Lib.hid (by
  rw[hX.arcN_eq ⟨hc,hs⟩]
  unfold Kn.at_
  rw[←HXk.out];rfl)
 have HR:=Lib.hid r;clear r h hc
 go_enter Tryz.func91,Tryz.ntmps91
 go_wp2;have p0:=cell_alloc g0 (.cells #[.int .i64 (c:Int),.int .i64 (s:Int)] 104);have p1:=cell_alloc g1 (.cells #[.int .i64 (c:Int),.int .i64 (s:Int)] 104);have p2:=cell_alloc g2 (.cells #[.int .i64 (c:Int),.int .i64 (s:Int)] 104);have p3:=cell_alloc g3 (.cells #[.int .i64 (c:Int),.int .i64 (s:Int)] 104);have p4:=cell_alloc g4 (.cells #[.int .i64 (c:Int),.int .i64 (s:Int)] 104);have p5:=cell_alloc g5 (.cells #[.int .i64 (c:Int),.int .i64 (s:Int)] 104)
 have k1:(w.alloc (.cells #[.int .i64 (c:Int),.int .i64 (s:Int)] 104)).cell? ⟨w.heap.size,0,none⟩=some (.int .i64 c):=cell_of_row _ _ 0 _ 104 (0,0) (heap_alloc_new _ _);have k2:(w.alloc (.cells #[.int .i64 (c:Int),.int .i64 (s:Int)] 104)).cell? ⟨w.heap.size,1,none⟩=some (.int .i64 s):=cell_of_row _ _ 1 _ 104 (0,0) (heap_alloc_new _ _);have HF0:Hid (New w (w.alloc (.cells #[.int .i64 (c:Int),.int .i64 (s:Int)] 104))):=Lib.hid ((Fr.refl _ _).alloc _)
 obtain⟨w1,hw1⟩:∃w1,w.alloc (.cells #[.int .i64 (c:Int),.int .i64 (s:Int)] 104)=w1:=⟨_,rfl⟩
 rw[hw1]at p0 p1 p2 p3 p4 p5 k1 k2 HF0 ⊢;clear hw1 g0 g1 g2 g3 g4 g5
 go_region_held3 (fun w'=>w'.cell? ⟨b,0,none⟩=some (.slice (some ⟨bx,ox,none⟩) n cc)∧w'.cell? ⟨bx,ox+c*5,none⟩=some (.int .i64 xa)∧w'.cell? ⟨bx,ox+c*5+1,none⟩=some (.int .i64 xb)∧w'.cell? ⟨bx,ox+c*5+2,none⟩=some (.int .i64 xc)∧w'.cell? ⟨bx,ox+c*5+3,none⟩=some (.int .i64 xd)∧w'.cell? ⟨bx,ox+c*5+4,none⟩=some (.bool xp)∧w'.cell? ⟨w.heap.size,0,none⟩=some (.int .i64 c)∧w'.cell? ⟨w.heap.size,1,none⟩=some (.int .i64 s))
  (first|assumption|go_keep)
  (first
   |(go_at_call 37;refine(arc_any xa xb xc xd xp s _ hs).mono ?_;rintro e w4 ⟨rfl,hF⟩;rw[har.out];have hq:w4.cell? ⟨b,0,none⟩=some (.slice (some ⟨bx,ox,none⟩) n cc)∧w4.cell? ⟨bx,ox+c*5,none⟩=some (.int .i64 xa)∧w4.cell? ⟨bx,ox+c*5+1,none⟩=some (.int .i64 xb)∧w4.cell? ⟨bx,ox+c*5+2,none⟩=some (.int .i64 xc)∧w4.cell? ⟨bx,ox+c*5+3,none⟩=some (.int .i64 xd)∧w4.cell? ⟨bx,ox+c*5+4,none⟩=some (.bool xp)∧w4.cell? ⟨w.heap.size,0,none⟩=some (.int .i64 c)∧w4.cell? ⟨w.heap.size,1,none⟩=some (.int .i64 s):=⟨hF.cell p0 fun x=>x,hF.cell p1 fun x=>x,hF.cell p2 fun x=>x,hF.cell p3 fun x=>x,hF.cell p4 fun x=>x,hF.cell p5 fun x=>x,hF.cell k1 fun x=>x,hF.cell k2 fun x=>x⟩;have HF:=Lib.hid (New.undrew hF);clear hF))
 go_wp2;go_ret
 exact⟨rfl,HF0.out.trans HF.out⟩

theorem res2{w:World}{B t:Nat}{x y:Value}(h:w.heap[B]?=some (.cells #[x,y] t (0,0))):
 w.cell? ⟨B,0,none⟩=some x∧w.frozen? ⟨B,0,none⟩=false∧(∀Y,(w.setCell ⟨B,0,none⟩ Y).cell? ⟨B,1,none⟩=some y)∧(∀Y,(w.setCell ⟨B,0,none⟩ Y).frozen? ⟨B,1,none⟩=false) ∧
 (∀Y Z,((w.setCell ⟨B,0,none⟩ Y).setCell ⟨B,1,none⟩ Z).cell? ⟨B,0,none⟩=some Y)∧(∀Y Z,((w.setCell ⟨B,0,none⟩ Y).setCell ⟨B,1,none⟩ Z).cell? ⟨B,1,none⟩=some Z):=by
 have hr:w.rowIs B t 2 (fun j=>if j=0 then x else y):=⟨_,h,rfl,fun i hi=>by
  match i,hi with
  |0,_=>rfl
  |1,_=>rfl⟩
 refine⟨hr.cell (i:=0) (by omega),hr.frozen _,fun Y=>?_,fun Y=>(hr.set 0 Y).frozen _,fun Y Z=>?_,fun Y Z=>?_⟩
 · have:=(hr.set 0 Y).cell (i:=1) (by omega)
   simpa using this
 · have:=((hr.set 0 Y).set 1 Z).cell (i:=0) (by omega)
   simpa using this
 · have:=((hr.set 0 Y).set 1 Z).cell (i:=1) (by omega)
   simpa using this
def GavePl(p:Kn.Pl)(w:World)(e:Ending)(w':World):Prop:=e=.returned (.agg #[.int .i64 (p.1:Nat),.int .i64 (p.2:Nat)])∧New w w'
set_option maxHeartbeats 1000000 in
theorem head_any(b a:Nat)(back:Bool)(X:List Kn.Cr)(L:Int)(w:World)(h:ShAt w b X L)(hl:X.length≤16)(ha:Kn.isArc X a):
 Calls Tryz.prog 58 #[.pointer (some ⟨b,0,none⟩),.agg #[.int .i64 a,.bool back]] w (GavePl (Kn.head X (a,back)) w):=by
 obtain⟨pc,ps,hp⟩:∃pc ps,Kn.head X (a,back)=(pc,ps):=⟨_,_,rfl⟩
 rw[hp]
 have hn0:0<X.length:=by have:=ha.1;have:=ha.2;unfold Kn.nArcs at this;omega
 obtain⟨n,bx,ox,cc,bi,bo,r⟩:=h.read hn0
 have hal:a<2*n+1:=by have:=ha.2;unfold Kn.nArcs at this;have:=r.len;omega
 have i1:(0:Int)≤(a:Int):=by omega
 have i2:(a:Int)<2*(n:Int)+1:=by omega
 cases back with
 |true=>
  obtain⟨g1,g2⟩:=r.po a hal;have hpi:Kn.outP X a=(pc,ps):=hp;rw[hpi]at g1 g2;simp only at g1 g2;have g0:=r.c3;have HR:=Lib.hid r;clear r h hp hpi ha
  go_enter Tryz.func58,Tryz.ntmps58
  go_wp2
  obtain⟨w1,HW1⟩:∃w1,Hid (w1=(w.alloc (.cells #[.int .i64 (a:Int),.bool true] 26)).alloc (.cells #[.int .i64 0,.int .i64 0] 104)):=⟨_,Lib.hid rfl⟩
  rw[←HW1.out]
  have hF:New w w1:=by rw[HW1.out];exact((Fr.refl _ _).alloc _).alloc _
  have p0:=hF.cell g0 fun x=>x
  have p1:=hF.cell g1 fun x=>x
  have p2:=hF.cell g2 fun x=>x
  have k1:w1.cell? ⟨w.heap.size,0,none⟩=some (.int .i64 a):=by rw[HW1.out];exact cell_alloc (cell_of_row _ _ 0 _ 26 (0,0) (heap_alloc_new _ _)) _
  have hres:w1.heap[w.heap.size+1]?=some (.cells #[.int .i64 0,.int .i64 0] 104 (0,0)):=by
   have:=heap_alloc_new (w.alloc (.cells #[.int .i64 (a:Int),.bool true] 26)) (.cells #[.int .i64 0,.int .i64 0] 104)
   rw[World.size_alloc,←HW1.out]at this;exact this
  obtain⟨m1,m2,m3,m4,m5,m6⟩:=res2 hres
  have HF2:Hid (∀Y Z,New w ((w1.setCell ⟨w.heap.size+1,0,none⟩ Y).setCell ⟨w.heap.size+1,1,none⟩ Z)):=Lib.hid fun Y Z=>(hF.setCell (.inr (Nat.le_succ _)) Y).setCell (.inr (Nat.le_succ _)) Z
  have q0:=fun Y Z=>(HF2.out Y Z).cell g0 fun x=>x
  have q1:=fun Y Z=>(HF2.out Y Z).cell g1 fun x=>x
  have q2:=fun Y Z=>(HF2.out Y Z).cell g2 fun x=>x
  have HF:=Lib.hid hF;clear hF hres g0 g1 g2
  go_region_held3 (fun w'=>w'.cell? ⟨b,3,none⟩=some (.slice (some ⟨bo,0,none⟩) (2*n+1) (2*n+1))∧w'.cell? ⟨bo,a*2,none⟩=some (.int .i64 pc)∧w'.cell? ⟨bo,a*2+1,none⟩=some (.int .i64 ps)∧w'.cell? ⟨w.heap.size,0,none⟩=some (.int .i64 a)) (first|assumption|go_keep) (first|fail)
  go_wp2
  refine bodyPost_ret (v:=.agg #[.int .i64 (pc:Int),.int .i64 (ps:Int)]) (by simp[results,Tryz.results58,go_sem,m5,m6]) rfl ⟨rfl,?_⟩
  exact(HF2.out _ _).drew
 |false=>
  obtain⟨g1,g2⟩:=r.pi a hal;have hpi:Kn.inP X a=(pc,ps):=hp;rw[hpi]at g1 g2;simp only at g1 g2;have g0:=r.c2;have HR:=Lib.hid r;clear r h hp hpi ha
  go_enter Tryz.func58,Tryz.ntmps58
  go_wp2
  obtain⟨w1,HW1⟩:∃w1,Hid (w1=(w.alloc (.cells #[.int .i64 (a:Int),.bool false] 26)).alloc (.cells #[.int .i64 0,.int .i64 0] 104)):=⟨_,Lib.hid rfl⟩
  rw[←HW1.out]
  have hF:New w w1:=by rw[HW1.out];exact((Fr.refl _ _).alloc _).alloc _
  have p0:=hF.cell g0 fun x=>x
  have p1:=hF.cell g1 fun x=>x
  have p2:=hF.cell g2 fun x=>x
  have k1:w1.cell? ⟨w.heap.size,0,none⟩=some (.int .i64 a):=by rw[HW1.out];exact cell_alloc (cell_of_row _ _ 0 _ 26 (0,0) (heap_alloc_new _ _)) _
  have hres:w1.heap[w.heap.size+1]?=some (.cells #[.int .i64 0,.int .i64 0] 104 (0,0)):=by
   have:=heap_alloc_new (w.alloc (.cells #[.int .i64 (a:Int),.bool false] 26)) (.cells #[.int .i64 0,.int .i64 0] 104)
   rw[World.size_alloc,←HW1.out]at this;exact this
  obtain⟨m1,m2,m3,m4,m5,m6⟩:=res2 hres
  have HF2:Hid (∀Y Z,New w ((w1.setCell ⟨w.heap.size+1,0,none⟩ Y).setCell ⟨w.heap.size+1,1,none⟩ Z)):=Lib.hid fun Y Z=>(hF.setCell (.inr (Nat.le_succ _)) Y).setCell (.inr (Nat.le_succ _)) Z
  have q0:=fun Y Z=>(HF2.out Y Z).cell g0 fun x=>x
  have q1:=fun Y Z=>(HF2.out Y Z).cell g1 fun x=>x
  have q2:=fun Y Z=>(HF2.out Y Z).cell g2 fun x=>x
  have HF:=Lib.hid hF;clear hF hres g0 g1 g2
  go_region_held3 (fun w'=>w'.cell? ⟨b,2,none⟩=some (.slice (some ⟨bi,0,none⟩) (2*n+1) (2*n+1))∧w'.cell? ⟨bi,a*2,none⟩=some (.int .i64 pc)∧w'.cell? ⟨bi,a*2+1,none⟩=some (.int .i64 ps)∧w'.cell? ⟨w.heap.size,0,none⟩=some (.int .i64 a)) (first|assumption|go_keep) (first|fail)
  go_wp2
  refine bodyPost_ret (v:=.agg #[.int .i64 (pc:Int),.int .i64 (ps:Int)]) (by simp[results,Tryz.results58,go_sem,m5,m6]) rfl ⟨rfl,?_⟩
  exact(HF2.out _ _).drew
end Go.Proofs.YtlicglicfijelaaGreat
