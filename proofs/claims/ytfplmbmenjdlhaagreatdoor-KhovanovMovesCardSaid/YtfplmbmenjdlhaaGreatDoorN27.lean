/- Walks: Make. -/
import Derived.Test.YtfplmbmenjdlhaaGreatDoorN23
set_option maxRecDepth 100000
set_option maxHeartbeats 16000000
namespace Go.Proofs.YtfplmbmenjdlhaaGreatDoor
open Go.RowKit
open _root_.Array (getElem?_modify)
open Fr (refl)
open Kn (Dt four D6)
open Go.Proofs.Tryz (func100 func94 ntmps94 prog)
open World (size_alloc)
variable {B t:Nat} {W:World}
theorem xI{a b c d e:Value}(h:W.heap[B]?=some (.cells #[a,b,c,d,e] t (0,0))):
 W.cell? ⟨B,0,none⟩=some a/\W.cell? ⟨B,1,none⟩=some b/\W.cell? ⟨B,2,none⟩=some c/\W.cell? ⟨B,3,none⟩=some d/\W.cell? ⟨B,4,none⟩=some e /\
 W.frozen? ⟨B,0,none⟩=false/\W.frozen? ⟨B,1,none⟩=false/\W.frozen? ⟨B,2,none⟩=false/\W.frozen? ⟨B,3,none⟩=false/\W.frozen? ⟨B,4,none⟩=false:=by
 refine⟨cell_of_row _ _ 0 _ t (0,0) h,cell_of_row _ _ 1 _ t (0,0) h,cell_of_row _ _ 2 _ t (0,0) h,cell_of_row _ _ 3 _ t (0,0) h,cell_of_row _ _ 4 _ t (0,0) h,?_,?_,?_,?_,?_⟩<;>simp[World.frozen?,h]
theorem Jp{a b c d e:Value}(h:W.heap[B]?=some (.cells #[a,b,c,d,e] t (0,0)))(v:Value):(W.setCell ⟨B,1,none⟩ v).heap[B]?=some (.cells #[a,v,c,d,e] t (0,0)):=by
 unfold World.setCell;simp[getElem?_modify,h]
theorem Ug{a b c d e:Value}(h:W.heap[B]?=some (.cells #[a,b,c,d,e] t (0,0)))(v:Value):(W.setCell ⟨B,3,none⟩ v).heap[B]?=some (.cells #[a,b,c,v,e] t (0,0)):=by
 unfold World.setCell;simp[getElem?_modify,h]
theorem Oo{a b c d e:Value}(h:W.heap[B]?=some (.cells #[a,b,c,d,e] t (0,0)))(a' b' c' d' e':Value):
 (((((W.setCell ⟨B,0,none⟩ a').setCell ⟨B,1,none⟩ b').setCell ⟨B,2,none⟩ c').setCell ⟨B,3,none⟩ d').setCell ⟨B,4,none⟩ e').heap[B]?=some (.cells #[a',b',c',d',e'] t (0,0)):=by
 unfold World.setCell;simp[getElem?_modify,h]
theorem Uh(W:World)(B:Nat)(a b c d e:Value):Fr (λk=>k=B) W (((((W.setCell ⟨B,0,none⟩ a).setCell ⟨B,1,none⟩ b).setCell ⟨B,2,none⟩ c).setCell ⟨B,3,none⟩ d).setCell ⟨B,4,none⟩ e):=
 (((((refl (λk=>k=B) W).setCell (a:=⟨B,0,none⟩) (.inl rfl) _).setCell (a:=⟨B,1,none⟩) (.inl rfl) _).setCell (a:=⟨B,2,none⟩) (.inl rfl) _).setCell (a:=⟨B,3,none⟩) (.inl rfl) _).setCell (a:=⟨B,4,none⟩) (.inl rfl) _
def WN(x:Kn.Cr)(w:World)(e:Ending)(w':World):Prop:=e=.returned (crV x)/\New w w'
theorem Un(b0 b1 a0 a1:Int)(p:Bool)(w:World):
 Calls prog 94 #[.agg #[.int .i64 b0,.int .i64 b1],.agg #[.int .i64 a0,.int .i64 a1],.bool p] w (WN (Kn.mkC b0 b1 a0 a1 p) w):=by
 cases p
 · go_enter func94,ntmps94
   go_wp2;have HN:=jd ((((refl (λ_=>False) w).alloc (.cells #[.int .i64 b0,.int .i64 b1] 148)).alloc (.cells #[.int .i64 a0,.int .i64 a1] 148)).alloc (.cells #[.int .i64 b0,.int .i64 a0,.int .i64 b1,.int .i64 a1,.bool false] 109) |>.alloc (.cells #[.int .i64 b0,.int .i64 a0,.int .i64 b1,.int .i64 a1,.bool false] 109));have hz:=heap_alloc_new ((w.alloc (.cells #[.int .i64 b0,.int .i64 b1] 148)).alloc (.cells #[.int .i64 a0,.int .i64 a1] 148)) (.cells #[.int .i64 b0,.int .i64 a0,.int .i64 b1,.int .i64 a1,.bool false] 109)
   rw[size_alloc,size_alloc]at hz
   have hz2:=((refl (λ_=>False) _).alloc (.cells #[.int .i64 b0,.int .i64 a0,.int .i64 b1,.int .i64 a1,.bool false] 109)).blk hz λx=>x
   obtain⟨c1,c2,c3,c4,c5,_⟩:=xI hz2;exact bodyPost_ret (v:=.agg #[.int .i64 b0,.int .i64 a0,.int .i64 b1,.int .i64 a1,.bool false]) (by simp[results,Tryz.results94,go_sem,c1,c2,c3,c4,c5]) rfl ⟨rfl,HN.o⟩
 go_enter func94,ntmps94
 go_wp2;have HN:=jd ((((refl (λ_=>False) w).alloc (.cells #[.int .i64 b0,.int .i64 b1] 148)).alloc (.cells #[.int .i64 a0,.int .i64 a1] 148)).alloc (.cells #[.int .i64 0,.int .i64 0,.int .i64 0,.int .i64 0,.bool false] 109) |>.alloc (.cells #[.int .i64 b0,.int .i64 a0,.int .i64 b1,.int .i64 a1,.bool true] 109));have hz:=heap_alloc_new ((w.alloc (.cells #[.int .i64 b0,.int .i64 b1] 148)).alloc (.cells #[.int .i64 a0,.int .i64 a1] 148)) (.cells #[.int .i64 0,.int .i64 0,.int .i64 0,.int .i64 0,.bool false] 109);rw[size_alloc,size_alloc]at hz
 have hz2:=((refl (λ_=>False) _).alloc (.cells #[.int .i64 b0,.int .i64 a0,.int .i64 b1,.int .i64 a1,.bool true] 109)).blk hz λx=>x
 have hy:=heap_alloc_new (w.alloc (.cells #[.int .i64 b0,.int .i64 b1] 148)) (.cells #[.int .i64 a0,.int .i64 a1] 148);rw[size_alloc]at hy
 have hy2:=(((refl (λ_=>False) _).alloc (.cells #[.int .i64 0,.int .i64 0,.int .i64 0,.int .i64 0,.bool false] 109)).alloc (.cells #[.int .i64 b0,.int .i64 a0,.int .i64 b1,.int .i64 a1,.bool true] 109)).blk hy λx=>x
 have hd:=heap_alloc_new (((w.alloc (.cells #[.int .i64 b0,.int .i64 b1] 148)).alloc (.cells #[.int .i64 a0,.int .i64 a1] 148)).alloc (.cells #[.int .i64 0,.int .i64 0,.int .i64 0,.int .i64 0,.bool false] 109)) (.cells #[.int .i64 b0,.int .i64 a0,.int .i64 b1,.int .i64 a1,.bool true] 109);rw[size_alloc,size_alloc,size_alloc]at hd;clear hz hy
 obtain⟨w3,hw3⟩:∃w3,w3=(((w.alloc (.cells #[.int .i64 b0,.int .i64 b1] 148)).alloc (.cells #[.int .i64 a0,.int .i64 a1] 148)).alloc (.cells #[.int .i64 0,.int .i64 0,.int .i64 0,.int .i64 0,.bool false] 109)).alloc (.cells #[.int .i64 b0,.int .i64 a0,.int .i64 b1,.int .i64 a1,.bool true] 109):=⟨_,rfl⟩
 rw[<-hw3]at HN hz2 hy2 hd ⊢;clear hw3
 obtain⟨B1,YO⟩:∃B,B=w.heap.size+1:=⟨_,rfl⟩
 obtain⟨B2,hB2⟩:∃B,B=w.heap.size+1+1:=⟨_,rfl⟩
 obtain⟨B3,hB3⟩:∃B,B=w.heap.size+1+1+1:=⟨_,rfl⟩
 have n13:¬B1=B3:=by omega
 have n23:¬B2=B3:=by omega
 have HL:=jd (show w.heap.size<=B2/\w.heap.size<=B3 by omega);rw[<-hB3]at hd ⊢;rw[<-hB2]at hz2 ⊢;rw[<-YO]at hy2 ⊢;clear YO hB2 hB3;obtain⟨f0,f1,_,_⟩:=ay hy2
 have k9:=λv=>(refl (λk=>k=B3) w3).setCell (a:=⟨B3,1,none⟩) (.inl rfl) v
 have f3:=λv=>(k9 v).cell f0 n13
 obtain⟨_,d1,_,d3,_,_,r1,_,r3,_⟩:=xI hd;obtain⟨_,_,_,e3,_,_,_,_,q3,_⟩:=xI (Jp hd (.int .i64 a1));have HD:=jd (Ug (Jp hd (.int .i64 a1)) (.int .i64 a0));have HZ:=jd (((k9 (.int .i64 a1)).setCell (a:=⟨B3,3,none⟩) (.inl rfl) (.int .i64 a0)).blk hz2 n23);have sf:=jd (HN.o.next ((k9 (.int .i64 a1)).setCell (a:=⟨B3,3,none⟩) (.inl rfl) (.int .i64 a0)) λi hi=>.inr (by rw[hi];exact HL.o.2));clear k9 hy2 hz2 hd
 go_region
 clear f0 f1 f3 d1 d3 r1 r3 e3 q3;have HD4:Hd ((((w3.setCell ⟨B3,1,none⟩ (.int .i64 a1)).setCell ⟨B3,3,none⟩ (.int .i64 a0)).drew).heap[B3]?=some (.cells #[.int .i64 b0,.int .i64 a1,.int .i64 b1,.int .i64 a0,.bool true] 109 (0,0))):=HD;have HZ4:Hd ((((w3.setCell ⟨B3,1,none⟩ (.int .i64 a1)).setCell ⟨B3,3,none⟩ (.int .i64 a0)).drew).heap[B2]?=some (.cells #[.int .i64 0,.int .i64 0,.int .i64 0,.int .i64 0,.bool false] 109 (0,0))):=HZ;have HF4:=jd (Fr.drew sf.o)
 obtain⟨w4,We⟩:∃w4,w4=((w3.setCell ⟨B3,1,none⟩ (.int .i64 a1)).setCell ⟨B3,3,none⟩ (.int .i64 a0)).drew:=⟨_,rfl⟩
 rw[<-We]at HD4 HZ4 HF4 ⊢;clear HD HZ sf HN We;obtain⟨x1,x2,x3,x4,x5,_⟩:=xI HD4.o;obtain⟨q1,q2,q3,q4,q5,q6,q7,q8,q9,q10⟩:=xI HZ4.o;go_wp2;have he:=Oo HZ4.o (.int .i64 b0) (.int .i64 a1) (.int .i64 b1) (.int .i64 a0) (.bool true);have HFE:=jd (HF4.o.next (Uh w4 B2 (.int .i64 b0) (.int .i64 a1) (.int .i64 b1) (.int .i64 a0) (.bool true)) λi hi=>.inr (by rw[hi];exact HL.o.1));obtain⟨y1,y2,y3,y4,y5,_⟩:=xI he
 exact bodyPost_ret (v:=.agg #[.int .i64 b0,.int .i64 a1,.int .i64 b1,.int .i64 a0,.bool true]) (by simp[results,Tryz.results94,go_sem,y1,y2,y3,y4,y5]) rfl ⟨rfl,HFE.o⟩
open Go.RowKit
theorem yl(e n v s:Int)(bl ab:Nat)(w:World)(hb:bl<4)(ha:ab<4):
 Calls prog 103 #[.agg #[.int .i64 e,.int .i64 n,.int .i64 v,.int .i64 s],.int .i64 (bl:Nat),.int .i64 (ab:Nat)] w (WN (D6 (four e n v s) bl ab) w):=by
 obtain⟨w1,cU⟩:=jb (((w.alloc (.cells #[.int .i64 e,.int .i64 n,.int .i64 v,.int .i64 s] 181)).alloc (.cells #[.int .i64 (bl:Nat)] 3)).alloc (.cells #[.int .i64 0,.int .i64 0,.int .i64 0,.int .i64 0,.bool false] 109));obtain⟨B1,eU⟩:=jb w.heap.size;obtain⟨B2,fD⟩:=jb (w.heap.size+1);obtain⟨B3,kQ⟩:=jb (w.heap.size+1+1);have gQ:Hd (New w w1):=jd (by rw[cU.o];exact(((refl _ w).alloc _).alloc _).alloc _)
 have Bw:Hd (w1.heap[B1]?=some (.cells #[.int .i64 e,.int .i64 n,.int .i64 v,.int .i64 s] 181 (0,0))):=jd (by
  have h:=heap_alloc_new w (.cells #[.int .i64 e,.int .i64 n,.int .i64 v,.int .i64 s] 181);rw[cU.o,eU.o]
  exact(((refl (λ_=>False) _).alloc _).alloc _).blk h λx=>x)
 have vw:Hd (w1.heap[B2]?=some (.cells #[.int .i64 (bl:Nat)] 3 (0,0))):=jd (by
  have h:=heap_alloc_new (w.alloc (.cells #[.int .i64 e,.int .i64 n,.int .i64 v,.int .i64 s] 181)) (.cells #[.int .i64 (bl:Nat)] 3);rw[size_alloc]at h;rw[cU.o,fD.o]
  exact((refl (λ_=>False) _).alloc _).blk h λx=>x)
 have AP:Hd (w1.heap[B3]?=some (.cells #[.int .i64 0,.int .i64 0,.int .i64 0,.int .i64 0,.bool false] 109 (0,0))):=jd (by
  have h:=heap_alloc_new ((w.alloc (.cells #[.int .i64 e,.int .i64 n,.int .i64 v,.int .i64 s] 181)).alloc (.cells #[.int .i64 (bl:Nat)] 3)) (.cells #[.int .i64 0,.int .i64 0,.int .i64 0,.int .i64 0,.bool false] 109);rw[size_alloc,size_alloc]at h;rw[cU.o,kQ.o]
  exact h)
 have hb2:w1.drew.cell? ⟨B2,0,none⟩=some (.int .i64 (bl:Nat)):=cell_of_row _ _ 0 _ 3 (0,0) vw.o
 have HR:Hd (∀i,i<4->Calls prog 122 #[.int .i64 (i:Nat),.pointer (some ⟨B1,0,none⟩),.pointer (some ⟨B2,0,none⟩)] w1.drew λr w'=>r=.returned (.int .i64 (four e n v s ((bl+i)%4)))/\w'=w1.drew):=jd λi hi=>uE B1 B2 e n v s bl i w1.drew Bw.o hb2 hb hi
 obtain⟨xa,HXA⟩:=jb (four e n v s bl);obtain⟨xb,HXB⟩:=jb (four e n v s ((bl+1)%4));obtain⟨xc,qV⟩:=jb (four e n v s ((bl+2)%4));obtain⟨xd,HXD⟩:=jb (four e n v s ((bl+3)%4));have r0:=HR.o 0 (by omega);have r1:=HR.o 1 (by omega);have r2:=HR.o 2 (by omega);have r3:=HR.o 3 (by omega);rw[show (bl+0)%4=bl by omega,<-HXA.o]at r0;rw[<-HXB.o]at r1;rw[<-qV.o]at r2;rw[<-HXD.o]at r3;have R0:=jd r0;have R1:=jd r1;have R2:=jd r2;have R3:=jd r3;clear r0 r1 r2 r3;obtain⟨p,HP⟩:=jb (decide (ab=(bl+3)%4))
 have hw:IntKind.i64.wrap ((bl:Int)+3)=(bl:Int)+3:=IntWalk.i64_in _ (by omega)
 have hp:((ab:Int)==((bl:Int)+3).tmod 4)=p:=by
  rw[HP.o,jD,beq_iff_eq,jh,Int.tmod_eq_emod_of_nonneg (by omega)];omega
 have HX:Hd (D6 (four e n v s) bl ab=⟨xa,xb,xc,xd,p⟩):=jd (by
  unfold D6
  rw[HXA.o,HXB.o,qV.o,HXD.o,HP.o])
 rw[HX.o];clear hb ha
 go_enter Tryz.func103,Tryz.ntmps103
 go_wp2_with fail;rw[<-cU.o,<-kQ.o,<-fD.o,<-eU.o]
 refine wp_region_still_tail 14 (by kernel_rfl) (by kernel_rfl) ?_
 simp only[List.take_succ_cons,List.take_zero,List.drop_succ_cons,List.drop_zero]
 still_step
 still_call R0.o
 still_step
 still_call R1.o
 still_step
 still_call R2.o
 still_step
 still_call R3.o
 repeat still_step
 refine wpStill_nil ?_
 change wpList _ _ _ _ _ w1.drew;obtain⟨w2,AM⟩:=jb w1.drew;rw[<-AM.o];have kZ:Hd (New w w2):=jd (by rw[AM.o];exact gQ.o.drew);have Pr:Hd (w2.heap[B3]?=some (.cells #[.int .i64 0,.int .i64 0,.int .i64 0,.int .i64 0,.bool false] 109 (0,0))):=jd (by rw[AM.o];exact AP.o)
 have hB3:w.heap.size<=B3:=by have:=kQ.o;omega
 clear hb2 hw hp R0 R1 R2 R3 HR;obtain⟨x1,x2,x3,x4,x5,q6,q7,q8,q9,q10⟩:=xI Pr.o;have Yw:=Oo Pr.o (.int .i64 xa) (.int .i64 xb) (.int .i64 xc) (.int .i64 xd) (.bool p);obtain⟨y1,y2,y3,y4,y5,_⟩:=xI Yw;obtain⟨_,k2,_,_,_,_,k7,_⟩:=xI (show (w2.setCell ⟨B3,0,none⟩ (.int .i64 xa)).heap[B3]?=some (.cells #[.int .i64 xa,.int .i64 0,.int .i64 0,.int .i64 0,.bool false] 109 (0,0))by unfold World.setCell;simp[getElem?_modify,Pr.o]);go_wp2
 exact bodyPost_ret (v:=.agg #[.int .i64 xa,.int .i64 xb,.int .i64 xc,.int .i64 xd,.bool p]) (by simp[results,Tryz.results103,go_sem,y1,y2,y3,y4,y5]) rfl ⟨rfl,kZ.o.next (Uh w2 B3 (.int .i64 xa) (.int .i64 xb) (.int .i64 xc) (.int .i64 xd) (.bool p)) λi hi=>.inr (by rw[hi];exact hB3)⟩
open Go.RowKit
theorem eX{a b c:Value}(h:W.heap[B]?=some (.cells #[a,b,c] t (0,0))):
 W.cell? ⟨B,0,none⟩=some a/\W.cell? ⟨B,1,none⟩=some b/\W.cell? ⟨B,2,none⟩=some c/\W.frozen? ⟨B,0,none⟩=false/\W.frozen? ⟨B,1,none⟩=false/\W.frozen? ⟨B,2,none⟩=false:=by
 refine⟨cell_of_row _ _ 0 _ t (0,0) h,cell_of_row _ _ 1 _ t (0,0) h,cell_of_row _ _ 2 _ t (0,0) h,?_,?_,?_⟩<;>simp[World.frozen?,h]
theorem gG{a b c:Value}(h:W.heap[B]?=some (.cells #[a,b,c] t (0,0)))(v:Value):(W.setCell ⟨B,0,none⟩ v).heap[B]?=some (.cells #[v,b,c] t (0,0)):=by
 unfold World.setCell;simp[getElem?_modify,h]
theorem nQ{a b c:Value}(h:W.heap[B]?=some (.cells #[a,b,c] t (0,0)))(v:Value):(W.setCell ⟨B,1,none⟩ v).heap[B]?=some (.cells #[a,v,c] t (0,0)):=by
 unfold World.setCell;simp[getElem?_modify,h]
theorem ru{a b c:Value}(h:W.heap[B]?=some (.cells #[a,b,c] t (0,0)))(v:Value):(W.setCell ⟨B,2,none⟩ v).heap[B]?=some (.cells #[a,b,v] t (0,0)):=by
 unfold World.setCell;simp[getElem?_modify,h]
theorem I0(B t c:Nat)(x y z:Int)(w:World)(h:w.heap[B]?=some (.cells #[.int .i64 x,.int .i64 y,.int .i64 z] t (0,0))):
 Calls prog 121 #[.slice (some ⟨B,0,none⟩) 3 c] w λe w'=>e=.returned (.tuple #[])/\Fr (λk=>k=B) w w'/\w'.heap[B]?=some (.cells #[.int .i64 z,.int .i64 y,.int .i64 x] t (0,0)):=by
 have H:=jd h;clear h
 go_enter Tryz.func121,Tryz.ntmps121
 go_wp2
 go_loopw [2,3] (λi j wr=>(i=.int .i64 0/\j=.int .i64 2/\Hd (Fr (λk=>k=B) w wr/\wr.heap[B]?=some (.cells #[.int .i64 x,.int .i64 y,.int .i64 z] t (0,0))))\/(i=.int .i64 1/\j=.int .i64 1/\Hd (Fr (λk=>k=B) w wr/\wr.heap[B]?=some (.cells #[.int .i64 z,.int .i64 y,.int .i64 x] t (0,0))))) (λi _ _=>1-(intOf i).toNat)
 case atStart=>exact .inl ⟨rfl,rfl,jd ⟨refl _ w,H.o⟩⟩
 case round=>
 rcases hrel with⟨rfl,rfl,HI⟩|⟨rfl,rfl,HI⟩
 · obtain⟨c0,_,c2,f0,_,f2⟩:=eX (show wr.drew.heap[B]?=_ from HI.o.2)
   obtain⟨e0,_,e2,k0,_,k2⟩:=eX HI.o.2;go_wp2_with fail
   go_region
   all_goals (go_wp2_with fail)
   go_roundw
   case rel=>
    refine .inr ⟨rfl,rfl,jd ⟨?_,?_⟩⟩
    · exact((HI.o.1.setCell (a:=⟨B,0,none⟩) (.inl rfl) _).setCell (a:=⟨B,2,none⟩) (.inl rfl) _).drew
    exact ru (gG HI.o.2 _) _
   case measure=>simp[intOf]
 go_wp2;go_end0;exact⟨rfl,HI.o.1,HI.o.2⟩
def ais(a nx:Int)(back:Bool):Value:=.agg #[.int .i64 (if back then nx+1 else a),.int .i64 nx,.int .i64 (if back then a else nx+1)]
theorem OZ(a nx:Int)(back:Bool)(w:World)(h1:0<=nx)(h2:nx<=1000):
 Calls prog 100 #[.agg #[.int .i64 a,.bool back],.int .i64 nx] w λe w'=>e=.returned (ais a nx back)/\New w w':=by
 have hw:IntKind.i64.wrap (nx+1)=nx+1:=IntWalk.i64_in _ (by omega);obtain⟨ny,HY⟩:=jb (nx+1);rw[<-HY.o]at hw;unfold ais;rw[<-HY.o];have hy:nx+1=ny:=HY.o.symm;obtain⟨w1,cU⟩:=jb (((w.alloc (.cells #[.int .i64 a,.bool back] 26)).alloc (.cells #[.int .i64 0,.int .i64 0,.int .i64 0] 179)).alloc (.cells #[.int .i64 a,.int .i64 nx,.int .i64 ny] 179));obtain⟨B2,fD⟩:=jb (w.heap.size+1);obtain⟨B3,kQ⟩:=jb (w.heap.size+1+1);have gQ:Hd (New w w1):=jd (by rw[cU.o];exact(((refl _ w).alloc _).alloc _).alloc _)
 have vw:Hd (w1.heap[B2]?=some (.cells #[.int .i64 0,.int .i64 0,.int .i64 0] 179 (0,0))):=jd (by
  have h:=heap_alloc_new (w.alloc (.cells #[.int .i64 a,.bool back] 26)) (.cells #[.int .i64 0,.int .i64 0,.int .i64 0] 179);rw[size_alloc]at h;rw[cU.o,fD.o]
  exact((refl (λ_=>False) _).alloc _).blk h λx=>x)
 have AP:Hd (w1.heap[B3]?=some (.cells #[.int .i64 a,.int .i64 nx,.int .i64 ny] 179 (0,0))):=jd (by
  have h:=heap_alloc_new ((w.alloc (.cells #[.int .i64 a,.bool back] 26)).alloc (.cells #[.int .i64 0,.int .i64 0,.int .i64 0] 179)) (.cells #[.int .i64 a,.int .i64 nx,.int .i64 ny] 179);rw[size_alloc,size_alloc]at h;rw[cU.o,kQ.o]
  exact h)
 cases back
 · go_enter func100,Tryz.ntmps100
   go_wp2_with fail;have hN:New w (((w.alloc (.cells #[.int .i64 a,.bool false] 26)).alloc (.cells #[.int .i64 a,.int .i64 nx,.int .i64 ny] 179)).alloc (.cells #[.int .i64 a,.int .i64 nx,.int .i64 ny] 179)):=(((refl _ w).alloc _).alloc _).alloc _;have h:=heap_alloc_new (w.alloc (.cells #[.int .i64 a,.bool false] 26)) (.cells #[.int .i64 a,.int .i64 nx,.int .i64 ny] 179);rw[size_alloc]at h;obtain⟨y1,y2,y3,_⟩:=eX (((refl (λ_=>False) _).alloc (.cells #[.int .i64 a,.int .i64 nx,.int .i64 ny] 179)).blk h λx=>x)
   exact bodyPost_ret (v:=.agg #[.int .i64 a,.int .i64 nx,.int .i64 ny]) (by simp[results,Tryz.results100,go_sem,y1,y2,y3]) rfl ⟨rfl,hN⟩
 go_enter func100,Tryz.ntmps100
 go_wp2_with fail;rw[<-cU.o,<-kQ.o,<-fD.o];refine(I0 B3 179 3 a nx ny w1 AP.o).mono ?_;rintro e w2 ⟨rfl,hF,hb⟩
 have hB3:w.heap.size<=B3:=by have:=kQ.o;omega
 have h23:¬B2=B3:=by have:=kQ.o;have:=fD.o;omega
 have kZ:=jd (gQ.o.next hF λi hi=>.inr (by rw[hi];exact hB3));have hc2:=hF.blk vw.o h23;have hs:=ru (nQ (gG hc2 (.int .i64 ny)) (.int .i64 nx)) (.int .i64 a)
 have hB2:w.heap.size<=B2:=by have:=fD.o;omega
 have qY:=jd (((((refl (λk=>k=B2) w2).setCell (a:=⟨B2,0,none⟩) (.inl rfl) (.int .i64 ny)).setCell (a:=⟨B2,1,none⟩) (.inl rfl) (.int .i64 nx)).setCell (a:=⟨B2,2,none⟩) (.inl rfl) (.int .i64 a)));obtain⟨x1,x2,x3,_⟩:=eX hb;obtain⟨z1,z2,z3,z4,z5,z6⟩:=eX hc2;obtain⟨y1,y2,y3,_⟩:=eX hs;clear hF hb hc2 hs;go_wp2_with fail;exact bodyPost_ret (v:=.agg #[.int .i64 ny,.int .i64 nx,.int .i64 a]) (by simp[results,Tryz.results100,go_sem,y1,y2,y3]) rfl ⟨by simp,kZ.o.next qY.o λi hi=>.inr (by rw[hi];exact hB2)⟩
open Go.RowKit
theorem Tryz.aoz:prog.eqGuardType prog.depth 26=false:=by kernel_rfl
theorem Tryz.aoy:prog.stoodInHeld 26=false:=by kernel_rfl
theorem Tryz.aox:prog.underlying 26=some (.struct (prog.fieldsOf 26)):=by kernel_rfl
theorem Tryz.aow : (prog.fieldsOf 26).toList.map (λf => (f.type, f.name, f.offset)) = [(3, "Arc", 0), (4, "Back", 1)] := by kernel_rfl
theorem Tryz.ac2:(prog.info? 4).map (λi=>(i.zero,i.size,i.bytes))=some (some (.bool false),1,1):=by kernel_rfl
theorem eqD(w:World)(u v:Nat)(b c r:Bool)(hr:decide (((u,b):Dt)=(v,c))=r):(binOp .eql 26 (.agg #[.int .i64 (u:Nat),.bool b]) (.agg #[.int .i64 (v:Nat),.bool c])).run prog w=.ok (.bool r) w:=by
 subst hr;rw[run_eql_struct,run_equalIn_agg _ _ _ _ _ Tryz.aox Tryz.aoy];have h4:=Tryz.aow
 rcases h:(prog.fieldsOf 26).toList with _|⟨f1,_|⟨f2,_|⟨f3,r⟩⟩⟩<;>simp[h]at h4
 obtain⟨⟨t1,n1,o1⟩,t2,n2,o2⟩:=h4;have hu:=Tryz.underlying3;have hb:=Tryz.underlying4;obtain⟨i0,W7,_,hz2,_⟩:=info_parts Tryz.xX;obtain⟨i1,Sa,_,hz4,_⟩:=info_parts Tryz.ac2
 have key:(decide (((u,b):Dt)=(v,c)))=(((u:Nat):Int)==((v:Nat):Int)&&b==c):=by
  rw[jD];simp[Int.ofNat_inj]
 rw[key];cases h1:((u:Nat):Int)==((v:Nat):Int)
 · simp[go_sem,Op.eqFields,n1,n2,t1,t2,o1,o2,part,sizeOf,typeInfo,W7,hz2,Sa,hz4,run_equalIn_int _ _ _ .i64 .i64 _ _ hu,run_equalIn_bool _ _ _ _ _ hb,h1]
 cases h2:b==c<;>simp[go_sem,Op.eqFields,n1,n2,t1,t2,o1,o2,part,sizeOf,typeInfo,W7,hz2,Sa,hz4,run_equalIn_int _ _ _ .i64 .i64 _ _ hu,run_equalIn_bool _ _ _ _ _ hb,h1,h2]
theorem Mm(v:Value)(l:List Dt)(u:Nat)(ub:Bool)(w:World)(h:kN w v l)(hl:l.length<=64):
 Calls prog 120 #[v,.agg #[.int .i64 (u:Nat),.bool ub]] w (λe w'=>(∃r,e=.returned (.int .i64 r)/\(0<=r↔(u,ub)∈l))/\New w w'):=by
 have hq:=Tryz.aoz;obtain⟨a,c,rfl,hc⟩:=h.cells
 obtain⟨n,hn⟩:∃n,n=l.length:=⟨_,rfl⟩
 rw[<-hn]at hl ⊢;have HN:=jd hn;have HC:=jd hc;clear h hc hn;obtain⟨w0,Se⟩:=jb (w.alloc (.cells #[.int .i64 (u:Nat),.bool ub] 26));obtain⟨B0,oY⟩:=jb w.heap.size;have sW:Hd (New w w0):=jd (by rw[Se.o];exact(refl _ w).alloc _);have Bz:Hd (w0.heap[B0]?=some (.cells #[.int .i64 (u:Nat),.bool ub] 26 (0,0))):=jd (by rw[Se.o,oY.o];exact heap_alloc_new _ _)
 go_enter Tryz.func120,Tryz.ntmps120
 go_wp2_with fail;rw[<-Se.o,<-oY.o]
 go_loopw [8] (λi wr=>∃k:Nat,k<=n/\i=.int .i64 k/\Hd (New w0 wr)/\Hd (∀j (hj:j<l.length),j<k->l[j]≠(u,ub))) (λi _=>n-(intOf i).toNat)
 case atStart=>exact⟨0,by omega,rfl,jd (refl _ _),jd λj _ hj=>by omega⟩
 case round=>
 obtain⟨k,hk,rfl,HW,HT⟩:=hrel;by_cases hlt:k<n;rotate_left
 · obtain rfl:k=n:=by omega
   go_wp2;go_ret;refine⟨⟨_,rfl,?_⟩,sW.o.trans HW.o⟩;constructor
   · intro h;omega
   intro h;obtain⟨i,hi,e⟩:=List.mem_iff_getElem.1 h;exact absurd e (HT.o i hi (by have:=HN.o;omega))
 have fY:k<l.length:=by have:=HN.o;omega
 rcases HC.o with h0|⟨g,rfl,hcs⟩
 · rw[h0]at fY;simp at fY
 obtain⟨d1,d2⟩:=hcs k fY;obtain⟨y,HY⟩:=jb ((l[k]).1);obtain⟨yb,HYB⟩:=jb ((l[k]).2);rw[<-HY.o]at d1;rw[<-HYB.o]at d2;have hN:=sW.o.trans HW.o
 have e1:wr.drew.cell? ⟨g,k*2,none⟩=some (.int .i64 (y:Nat)):=hN.cell d1 λx=>x
 have e2:wr.drew.cell? ⟨g,k*2+1,none⟩=some (.bool yb):=hN.cell d2 λx=>x
 obtain⟨b0,b1,_⟩:=ay (show wr.drew.heap[B0]?=_ from HW.o.blk Bz.o λx=>x)
 have i1:(0:Int)<=(k:Int):=by omega
 have i2:(k:Int)<(n:Int):=by omega
 obtain⟨r,HR⟩:∃r,Hd (decide (((u,ub):Dt)=(y,yb))=r):=⟨_,jd rfl⟩
 have heq:=λw=>eqD w u y ub yb r HR.o
 clear d1 d2 hN hcs;cases r
 · go_wp2_with fail
   go_region
   all_goals (go_wp2_with fail)
   go_roundw
   case rel=>
    refine⟨k+1,by omega,by go_num,jd HW.o.drew,jd λj hj hjk=>?_⟩;by_cases e:j=k
    · subst e
      intro h;have h1:=of_decide_eq_false HR.o;exact h1 (by rw[HY.o,HYB.o];exact h.symm)
    exact HT.o j hj (by omega)
   case measure=>simp[intOf];omega
 go_wp2_with fail
 go_region
 all_goals (go_wp2_with fail)
 go_ret;refine⟨⟨_,rfl,?_⟩,(sW.o.trans HW.o).drew⟩;constructor
 · intro _
   have h1:=jl HR.o;rw[h1,HY.o,HYB.o];exact jM fY
 intro _;omega
theorem vI(v:Value)(l:List Dt)(u:Nat)(ub:Bool)(w:World)(h:kN w v l)(hl:l.length<=64):
 Calls prog 99 #[v,.agg #[.int .i64 (u:Nat),.bool ub]] w (λe w'=>e=.returned (.bool (decide ((u,ub)∈l)))/\New w w'):=by
 have H:=jd h
 obtain⟨r,HR⟩:∃r,Hd (decide ((u,ub)∈l)=r):=⟨_,jd rfl⟩
 rw[HR.o];obtain⟨a,c,rfl,_⟩:=h.cells;clear h
 go_enter Tryz.func99,Tryz.ntmps99
 have HA:Hd (New w (w.alloc (.cells #[.int .i64 (u:Nat),.bool ub] 26))):=jd ((refl _ w).alloc _);go_wp2_with fail;refine(Mm _ l u ub _ (HA.o.owns H.o λ_ _ x=>x) hl).mono ?_;rintro e w' ⟨⟨x,rfl,hx⟩,hN⟩;have HX:Hd (decide (0<=x)=r):=jd (by rw[<-HR.o,jD,jh,jh];exact hx);have HN:=jd (HA.o.trans hN);clear hx hN;go_wp2;go_ret;exact⟨cq HX.o,HN.o⟩
end Go.Proofs.YtfplmbmenjdlhaaGreatDoor
