/- Words for states: bits; the table of ties; a shape's crossings. -/
import Derived.Test.YtfplmbmenjdlhaaGreatDoorJ0
import Derived.Test.YtfplmbmenjdlhaaGreatDoorU1
import Derived.Test.YtfplmbmenjdlhaaGreatDoorTK
set_option maxRecDepth 100000
set_option maxHeartbeats 16000000
namespace Go.Proofs.YtfplmbmenjdlhaaGreatDoor
open Go.RowKit
open Fr (refl)
open IntKind (i64)
open Kn (Cr at_ cr jn2 dG ag o9 rt fB un)
open Go.Proofs.Tryz (prog)
open World (size_alloc)
variable {cB m rB:Nat} {f:Nat->Nat} {W w w' wr:World}
theorem akh(st k:Nat)(hk:k<=16)(w:World):(binOp .shr 3 (.int .i64 (st:Int)) (.int .i64 (k:Int))).run prog w=.ok (.int .i64 ((st / 2 ^ k:Nat):Int)) w:=by
 simp[go_sem,binOp]
theorem Pd:((List.range 4096).all λq=>decide (bits .and .i64 ((q:Nat):Int) 1=((q%2:Nat):Int)))=true:=by decide +kernel
theorem NL:((List.range 17).all λn=>decide (i64.wrap (2 ^ min n 64)=((2 ^ n:Nat):Int)))=true:=by decide +kernel
theorem FY(n:Nat)(hn:n<=16)(w:World):(binOp .shl 3 (.int .i64 1) (.int .i64 (n:Int))).run prog w=.ok (.int .i64 ((2 ^ n:Nat):Int)) w:=by
 have:=jl (List.all_eq_true.1 NL n (jw.2 (by omega)));rw[show min n 64=n by omega]at this;simp[go_sem,binOp]
 rw[this];simp
def rr(i:Nat):Nat:=[0,1,2,3,1,2,3,0].getD i 0
def He(w:World):Prop:=∀i,i<8->w.cell? ⟨1,i,none⟩=some (.int .i64 (rr i:Nat))
theorem New.Y0(h:New w w')(e:He w):He w':=λi hi=>h.cell (e i hi) λx=>x
theorem uW{B t:Nat}{a b c d e:Value}(h:W.heap[B]?=some (.cells #[a,b,c,d,e] t (0,0))):
 W.cell? ⟨B,0,none⟩=some a/\W.cell? ⟨B,1,none⟩=some b/\W.cell? ⟨B,2,none⟩=some c/\W.cell? ⟨B,3,none⟩=some d/\W.cell? ⟨B,4,none⟩=some e:=by
 refine⟨cell_of_row _ _ 0 _ t (0,0) h,cell_of_row _ _ 1 _ t (0,0) h,cell_of_row _ _ 2 _ t (0,0) h,cell_of_row _ _ 3 _ t (0,0) h,cell_of_row _ _ 4 _ t (0,0) h⟩
theorem tk{B t:Nat}{a b:Value}(h:W.heap[B]?=some (.cells #[a,b] t (0,0))):
 W.cell? ⟨B,0,none⟩=some a/\W.cell? ⟨B,1,none⟩=some b:=⟨cell_of_row _ _ 0 _ t (0,0) h,cell_of_row _ _ 1 _ t (0,0) h⟩
theorem Kn.qP(X:List Cr)(k:Nat):∃a b c d p,Hd (cr X k=⟨a,b,c,d,p⟩):=by
 cases h:cr X k with
 |mk a b c d p=>exact⟨a,b,c,d,p,jd rfl⟩
structure K9(w wr:World)(cb n:Nat)(s:Kn.Rt):Prop where
 new:New w wr
 cls:∃c r,Hg wr cb c/\oJ c r/\∀a,a<=2*n->rt s.1 a=r a
 len:s.1.length=2*n+1
theorem aci(l:List Nat)(f:Nat->Nat){a:Nat}(h:a<l.length):rt (l.map f) a=f (rt l a):=by
 unfold rt
 rw[jc,jc,List.getElem?_map,je h];rfl
theorem abR(s:Kn.Rt)(a b:Nat):(un s a b).1.length=s.1.length:=by
 unfold un;split<;>simp
theorem K9.new'{cb n:Nat}{s:Kn.Rt}(h:K9 w wr cb n s)(hf:New wr w'):K9 w w' cb n s:=by
 obtain⟨c,r,h1,h2,h3⟩:=h.cls;exact⟨h.new.trans hf,⟨c,r,hf.row h1 λx=>x,h2,h3⟩,h.len⟩
theorem Rt.start(n:Nat){a:Nat}(h:a<=2*n):rt (Kn.start n).1 a=a:=by
 unfold rt Kn.start
 rw[jc,je (by simp;omega)];simp
open Go.RowKit
theorem ad0(st k:Nat)(h:st<4096):bits BinOp.and i64 ((st:Int) / 2 ^ k) 1=(if st.testBit k then 1 else 0:Int):=by
 have:=jl (List.all_eq_true.1 Pd (st / 2 ^ k) (jw.2 (Nat.lt_of_le_of_lt (Nat.div_le_self _ _) h)))
 have e:((st / 2 ^ k:Nat):Int)=(st:Int) / 2 ^ k:=by simp
 rw[e]at this;rw[this,Nat.testBit_eq_decide_div_mod_eq];by_cases c:st / 2 ^ k%2=1
 · rw[c];simp
 have:st / 2 ^ k%2=0:=by omega
 rw[this];simp
structure UD(w wr:World)(cB rB m:Nat)(f:Nat->Nat):Prop where
 new:New w wr
 cls:wr.heap[cB]?=some (.cells #[.slice (some ⟨rB,0,none⟩) m m] 74 (0,0))
 row:wr.rowIs rB 3 m (bS f)
 lr:w.heap.size<=rB
 lc:w.heap.size<=cB
theorem UD.c1(h:UD w wr cB rB m f):wr.cell? ⟨cB,0,none⟩=some (.slice (some ⟨rB,0,none⟩) m m):=cell_of_row _ _ 0 _ 74 (0,0) h.cls
theorem UD.ne(h:UD w wr cB rB m f):¬cB=rB:=dF h.cls h.row (by decide)
theorem UD.cl(h:UD w wr cB rB m f)(a x:Nat):UD w (wr.setCell ⟨rB,a,none⟩ (.int .i64 (x:Nat))) cB rB m (λy=>if y=a then x else f y):=by
 have hF:Fr (λk=>k=rB) wr (wr.setCell ⟨rB,a,none⟩ (.int .i64 (x:Nat))):=(refl (λk=>k=rB) wr).setCell (a:=⟨rB,a,none⟩) (.inl rfl) _;exact⟨h.new.next hF λi hi=>.inr (by rw[hi];exact h.lr),hF.blk h.cls h.ne,gI h.row a x,h.lr,h.lc⟩
theorem UD.congr{g:Nat->Nat}(h:UD w wr cB rB m f)(hg:∀j,j<m->g j=f j):UD w wr cB rB m g:=
 ⟨h.new,h.cls,bu h.row λj hj=>by unfold bS;rw[hg j hj],h.lr,h.lc⟩
theorem UD.nw(h:UD w wr cB rB m f)(hf:New wr w'):UD w w' cB rB m f:=
 ⟨h.new.trans hf,hf.blk h.cls λx=>x,hf.row h.row λx=>x,h.lr,h.lc⟩
theorem UD.join{g:Nat->Nat}(h:UD w wr cB rB m f)(hF:Fr (λk=>k=rB) wr w')(hr:w'.rowIs rB 3 m (bS g)):UD w w' cB rB m g:=
 ⟨h.new.next hF λi hi=>.inr (by rw[hi];exact h.lr),hF.blk h.cls h.ne,hr,h.lr,h.lc⟩
def ur(X:List Cr)(S:Nat->Bool)(m:Nat)(w:World)(e:Ending)(w':World):Prop:=
 ∃rB gs gl gc,e=.returned (.agg #[.slice (some ⟨rB,0,none⟩) m m,.slice gs gl gc])/\New w w'/\w.heap.size<=rB/\w'.rowIs rB 3 m (bS (fB X S))/\w'.ownsRow w.heap.size 3 1 (.slice gs gl gc) gl (j7 (Kn.aw X S))/\Hd (gl=(Kn.aw X S).length)
def eZ(X:List Cr)(S:Nat->Bool)(k:Nat):List Nat:=((List.range (k-1)).map (· + 1)).filter λa=>decide (fB X S a=a)
theorem F0(X:List Cr)(S:Nat->Bool){k:Nat}(h:1<=k):eZ X S (k+1)=eZ X S k++if fB X S k=k then [k]else []:=by
 unfold eZ
 obtain⟨j,rfl⟩:∃j,k=j+1:=⟨k-1,by omega⟩
 rw[show j+1+1-1=j+1 by omega,show j+1-1=j by omega,jO,jP,List.filter_append]
 congr 1
 by_cases c:fB X S (j+1)=j+1
 · rw[if_pos c];simp[c]
 rw[if_neg c];simp[c]
theorem IV(X:List Cr)(S:Nat->Bool)(k:Nat):(eZ X S k).length<=k:=by
 unfold eZ
 refine jJ (List.length_filter_le _ _) ?_
 simp
structure UL(w wr:World)(cB rB m rb tb B0:Nat)(f:Nat->Nat)(v:Value)(l:List Nat):Prop where
 ud:UD w wr cB rB m f
 res:wr.heap[rb]?=some (.cells #[.slice none 0 0,.slice none 0 0] 76 (0,0))
 st:wr.heap[tb]?=some (.cells #[.slice (some ⟨rB,0,none⟩) m m,v] 76 (0,0))
 own:wr.ownsRow B0 3 1 v l.length (j7 l)
 l1:rB<B0
 l2:w.heap.size<=B0
 l3:B0<=wr.heap.size
 lt:w.heap.size<=tb
 ne:¬rb=tb
theorem UL.app{w7:World}{rb tb B0:Nat}{v:Value}{l:List Nat}{o:Obj}{g c n a:Nat}(h:UL w wr cB rB m rb tb B0 f v l)(hn:n=l.length)(hown:w7.ownsRow B0 3 1 (.slice (some ⟨g,0,none⟩) (n+1) c) (n+1) (j7 l++[.int .i64 (a:Nat)]))
 (hg:(wr.alloc o).grownBy w7 v.ownBlock):
 w7.heap[tb]?=some (.cells #[.slice (some ⟨rB,0,none⟩) m m,v] 76 (0,0))/\UL w (w7.setCell ⟨tb,1,none⟩ (.slice (some ⟨g,0,none⟩) (n+1) c)) cB rB m rb tb B0 f (.slice (some ⟨g,0,none⟩) (n+1) c) (l++[a]):=by
 subst hn
 have hF:Fr (λk=>v.ownBlock=some k) wr w7:=((refl _ wr).alloc o).grown hg λk e=>.inl e
 have ho:w7.ownsRow B0 3 1 (.slice (some ⟨g,0,none⟩) (l.length+1) c) (l++[a]).length (j7 (l++[a])):=by
  rw[show j7 (l++[a])=j7 l++[.int .i64 (a:Nat)]by simp[j7],ju,List.length_singleton];exact hown
 have n1:¬v.ownBlock=some rB:=λe=>by have:=dR h.own _ e;have:=h.l1;omega
 have h1:New w w7:=h.ud.new.next hF λi hi=>.inr (by have:=dR h.own _ hi;have:=h.l2;omega)
 have h2:=hF.blk h.res (aU h.res h.own (by decide));have h3:=hF.blk h.ud.cls (aU h.ud.cls h.own (by decide));have h4:=hF.row h.ud.row n1;have h5:=hF.blk h.st (aU h.st h.own (by decide));have hS:Fr (λk=>k=tb) w7 (w7.setCell ⟨tb,1,none⟩ (.slice (some ⟨g,0,none⟩) (l.length+1) c)):=(refl (λk=>k=tb) w7).setCell (.inl rfl) _
 refine⟨h5,⟨⟨h1.next hS λi hi=>.inr (by rw[hi];exact h.lt),hS.blk h3 (λe=>?_),hS.row h4 (λe=>?_),h.ud.lr,h.ud.lc⟩,hS.blk h2 h.ne,(bD h5 _).2,hS.owns ho (λk hk e=>?_),h.l1,h.l2,?_,h.lt,h.ne⟩⟩
 · subst e;rw[h3]at h5;cases h5
 · exact dF h5 h4 (by decide) e.symm
 · exact aU h5 ho (by decide) (e ▸ hk)
 have:=h.l3;have:=hF.size;rw[size_set];omega
theorem H8(bc b st:Nat)(X:List Cr)(L:Int)(w:World)(hc:w.cell? ⟨bc,0,none⟩=some (.pointer (some ⟨b,0,none⟩)))(h:fS w b X L)(hX:Kn.Ok X)(h6:X.length<=6)(hst:st<4096):
 Calls prog 26 #[.pointer (some ⟨bc,0,none⟩),.int .i64 (st:Nat)] w (ur X st.testBit (ag X+1) w):=by
 obtain⟨n,hn⟩:∃n,n=X.length:=⟨_,rfl⟩
 obtain⟨m,hm⟩:∃m,m=ag X:=⟨_,rfl⟩
 have YE:m<=12:=by rw[hm];unfold ag;omega
 have YC:n<=6:=by omega
 have HN:=jd hn;have HM:=jd hm;have HS:=jd h;have HX:=jd hX;have HC:=jd hc;obtain⟨a0,c0,hs0,hs1,iw⟩:=h.uh;rw[<-hn]at hs0;have WG:=jd iw;have Ph:=jd hs0;rw[<-hm];clear h hX hm hn iw hs0 hs1 hc h6
 have OH:∀w,(Instr.makeSlice 74 (.int .i64 ((m:Int)+1)) (.int .i64 ((m:Int)+1))).run prog w=.ok (.slice (some ⟨w.heap.size,0,none⟩) (m+1) (m+1)) (w.alloc (.cells (madeCells #[.int .i64 0] (m+1)) 3)):=λw=>by
  have:=run_make_row' (P:=prog) 74 3 (.int .i64 0) 8 Tryz.underlying74 Tryz.xX rfl .i64 .i64 (m+1) (by omega) (by omega) w
  rwa [show (((m+1:Nat)):Int)=(m:Int)+1 by omega]at this
 obtain⟨i0,hi,hz0,hz1,hz2⟩:=info_parts Tryz.xX
 have hc0:=((refl (λ_=>False) w).alloc (.cells #[.slice none 0 0,.slice none 0 0] 76)).cell HC.o λx=>x
 go_enter Tryz.func26,Tryz.ntmps26
 go_wp2_with (go_at_call 46;refine(M5 b m X L _ (New.kM ((refl _ _).alloc _) HS.o) (by have:=HN.o;omega) HM.o).mono ?_;rintro e w' ⟨rfl,rfl⟩)
 obtain⟨w1,cU⟩:=jb ((((w.alloc (.cells #[.slice none 0 0,.slice none 0 0] 76)).alloc (.cells (madeCells #[.int .i64 0] (m+1)) 3)).alloc (.cells #[.slice (some ⟨w.heap.size+1,0,none⟩) (m+1) (m+1)] 74)));obtain⟨rb,sV⟩:=jb w.heap.size;obtain⟨rB,Nh⟩:=jb (w.heap.size+1);obtain⟨cB,DG⟩:=jb (w.heap.size+1+1)
 have Ps:Hd (UD w w1 cB rB (m+1) (λx=>if x<0 then x else 0)/\w1.heap[rb]?=some (.cells #[.slice none 0 0,.slice none 0 0] 76 (0,0))):=jd (by
  have h1:=heap_alloc_new w (.cells #[.slice none 0 0,.slice none 0 0] 76);have h2:=World.rowIs_made (w.alloc (.cells #[.slice none 0 0,.slice none 0 0] 76)) (.int .i64 0) (m+1) 3;have h3:=heap_alloc_new ((w.alloc (.cells #[.slice none 0 0,.slice none 0 0] 76)).alloc (.cells (madeCells #[.int .i64 0] (m+1)) 3)) (.cells #[.slice (some ⟨w.heap.size+1,0,none⟩) (m+1) (m+1)] 74);rw[size_alloc]at h2;rw[size_alloc,size_alloc]at h3;rw[cU.o,sV.o,Nh.o,DG.o]
  refine⟨⟨(((refl _ w).alloc _).alloc _).alloc _,h3,((refl (λ_=>False) _).alloc _).row (bu h2 λj _=>?_) (λx=>x),by omega,by omega⟩,(((refl (λ_=>False) _).alloc _).alloc _).blk h1 λx=>x⟩
  unfold bS;simp)
 rw[<-cU.o];rw[<-DG.o,<-Nh.o,<-sV.o];clear cU Nh DG OH hc0
 obtain⟨mm,Ms⟩:∃mm,mm=m+1:=⟨_,rfl⟩
 have U5:(m:Int)+1=(mm:Int):=by omega
 have ahI:mm<=13:=by omega
 rw[U5];rw[<-Ms]at Ps ⊢;have vP:=jd Ms;clear Ms U5;go_wp2
 go_loopw [21] (λi wr=>∃k:Nat,k<=mm/\i=.int .i64 k/\Hd (UD w wr cB rB mm (λx=>if x<k then x else 0)/\wr.heap[rb]?=some (.cells #[.slice none 0 0,.slice none 0 0] 76 (0,0)))) (λi _=>mm-(intOf i).toNat)
 case atStart=>exact⟨0,by omega,rfl,Ps⟩
 case round=>
 obtain⟨k,hk,rfl,HA⟩:=hrel;by_cases hkm:k<mm
 · have hc:=HA.o.1.c1
   have hr:=HA.o.1.row.cell (i:=k) hkm;have hf:=HA.o.1.row.frozen k;simp only[bS]at hr
   have i1:(0:Int)<=(k:Int):=by omega
   have i2:(k:Int)<(mm:Int):=by omega
   go_wp2;go_roundw
   case rel=>
    refine⟨k+1,by omega,by go_num,jd ⟨(HA.o.1.cl k k).congr λj _=>?_,?_⟩⟩
    · by_cases e:j=k
      · rw[if_pos e,if_pos (by omega),e]
      rw[if_neg e];by_cases e2:j<k
      · rw[if_pos e2,if_pos (by omega)]
      rw[if_neg e2,if_neg (by omega)]
    exact((refl (λk=>k=rB) wr).setCell (a:=⟨rB,k,none⟩) (.inl rfl) _).blk HA.o.2 (dF HA.o.2 HA.o.1.row (by decide))
   case measure=>simp[intOf];omega
 obtain rfl:mm=k:=by omega
 have Po:Hd (UD w wr cB rB mm (o9 X st.testBit 0)/\wr.heap[rb]?=some (.cells #[.slice none 0 0,.slice none 0 0] 76 (0,0))):=jd ⟨HA.o.1.congr λj hj=>by rw[if_pos hj];rfl,HA.o.2⟩
 have hcc:=HA.o.1.new.cell HC.o λx=>x
 have hs:=HA.o.1.new.cell Ph.o λx=>x
 clear HA Ps;go_wp2;clear hcc hs
 go_loopw [39] (λi wr=>∃k:Nat,k<=n/\i=.int .i64 k/\Hd (UD w wr cB rB mm (o9 X st.testBit k)/\wr.heap[rb]?=some (.cells #[.slice none 0 0,.slice none 0 0] 76 (0,0)))) (λi _=>n-(intOf i).toNat)
 case atStart=>exact⟨0,by omega,rfl,Po⟩
 case round=>
 obtain⟨k,hk,rfl,HI⟩:=hrel;by_cases hkn:k<n;rotate_left
 · obtain rfl:n=k:=by omega
   obtain⟨fe,HFE⟩:=jb (fB X st.testBit)
   have HUz:Hd (UL w (wr.alloc (.cells #[.slice (some ⟨rB,0,none⟩) mm mm,.slice none 0 0] 76)) cB rB mm rb wr.heap.size (wr.heap.size+1) fe (.slice none 0 0) (eZ X st.testBit 1)):=jd (by
    have hA:=HI.o
    have e1:o9 X st.testBit n=fe:=by rw[HFE.o,HN.o];try rfl
    rw[e1]at hA;have hz:=(jf.1 hA.2).1;refine⟨hA.1.nw ((refl _ _).alloc _),((refl (λ_=>False) wr).alloc _).blk hA.2 λx=>x,heap_alloc_new _ _,World.ownsRow_nil _ _ _ _,?_,?_,?_,hA.1.new.size,?_⟩
    · obtain⟨cs,hcs,-⟩:=hA.1.row
      have:=(jf.1 hcs).1;omega
    · have:=hA.1.new.size;omega
    · rw[size_alloc];omega
    omega)
   have hcc:=HI.o.1.c1;go_wp2;clear hcc;obtain⟨tb,HTB⟩:=jb wr.heap.size;obtain⟨B0,oY⟩:=jb (wr.heap.size+1);rw[<-oY.o,<-HTB.o]at HUz;rw[<-HTB.o]
   go_loopw [11] (λi wr=>∃k:Nat,1<=k/\k<=mm/\i=.int .i64 k/\Hd (∃v,UL w wr cB rB mm rb tb B0 fe v (eZ X st.testBit k))) (λi _=>mm-(intOf i).toNat)
   case atStart=>exact⟨1,by omega,by have:=vP.o;omega,rfl,jd ⟨_,HUz.o⟩⟩
   case round=>
   obtain⟨k,hk1,hk,rfl,HUV⟩:=hrel;obtain⟨v,hu⟩:=HUV.o;have HU:=jd hu;clear HUV hu;by_cases anK:k<mm;rotate_left
   · obtain rfl:mm=k:=by omega
     have hc:=HU.o.ud.c1;obtain⟨y0,y1,y2,y3⟩:=ay HU.o.st;obtain⟨z0,z1,z2,z3⟩:=ay HU.o.res;have hne:=HU.o.ne;have HK:=jd HU.o;obtain⟨av,cv,ev,_⟩:=dr HU.o.own;subst ev;clear HU;go_wp2;obtain⟨z4,z5,_,_⟩:=ay (bD (bD HK.o.res (.slice (some ⟨rB,0,none⟩) mm mm)).1 (.slice av (eZ X st.testBit mm).length cv)).2
     refine bodyPost_ret (v:=.agg #[.slice (some ⟨rB,0,none⟩) mm mm,.slice av (eZ X st.testBit mm).length cv]) (by simp[results,Tryz.results26,go_sem,z4,z5]) rfl ?_
     have hS:Fr (λk=>k=rb) wr ((wr.setCell ⟨rb,0,none⟩ (.slice (some ⟨rB,0,none⟩) mm mm)).setCell ⟨rb,1,none⟩ (.slice av (eZ X st.testBit mm).length cv)):=((refl (λk=>k=rb) wr).setCell (.inl rfl) _).setCell (.inl rfl) _
     have em:eZ X st.testBit mm=Kn.aw X st.testBit:=by rw[vP.o,HM.o];rfl
     rw[<-vP.o];refine⟨rB,av,(eZ X st.testBit mm).length,cv,rfl,HK.o.ud.new.next hS λi hi=>.inr (by rw[hi,sV.o];omega),HK.o.ud.lr,?_,qD (hS.owns (em ▸ HK.o.own) λk hk e=>?_) HK.o.l2,jd (by rw[em])⟩
     · have:=hS.row HK.o.ud.row (λe=>dF HK.o.res HK.o.ud.row (by decide) e.symm)
       rw[HFE.o]at this;exact this
     exact aU HK.o.res HK.o.own (by decide) (e ▸ hk)
   have hc:=HU.o.ud.c1;have hr:=HU.o.ud.row.cell (i:=k) anK;simp only[bS]at hr
   obtain⟨fk,HFK⟩:∃q,Hd (fe k=q):=⟨_,jd rfl⟩
   rw[HFK.o]at hr
   have i1:(0:Int)<=(k:Int):=by omega
   have i2:(k:Int)<(mm:Int):=by omega
   have HRS:=jd (F0 X st.testBit hk1)
   have e9:fB X st.testBit k=fk:=by rw[<-HFE.o];exact HFK.o
   by_cases hfk:fk=k;rotate_left
   · have hfi:¬((fk:Int)=(k:Int)):=by omega
     go_wp2;go_roundw
     case rel=>
      refine⟨k+1,by omega,by omega,by go_num,jd ⟨v,?_⟩⟩
      rw[HRS.o,if_neg (by rw[e9];exact hfk),List.append_nil];exact HU.o
     case measure=>simp[intOf];omega
   obtain⟨av,cv,ev,_⟩:=dr HU.o.own;subst ev;obtain⟨nk,vN⟩:=jb ((eZ X st.testBit k).length)
   have hnk:nk<=16:=by have:=IV X st.testBit k;have:=vN.o;omega
   have hd:=(ay HU.o.st).2.1;have hl3:=HU.o.l3;rw[<-vN.o]at hd;have HOW:=jd HU.o.own;rw[<-vN.o]at HOW;rw[<-vN.o]at HU;subst hfk
   go_wp2_with (at_builtin;refine wpList_append_lies _ rfl _ _ 74 rfl B0 3 i0 (.int .i64 0) 1 8 Tryz.underlying74 hi hz0 hz1 hz2 rfl (by decide) _ nk (j7 (eZ X st.testBit fk)) rfl (World.ownsRow.alloc HOW.o _) ⟨_,0,none⟩ 1 1 [.int .i64 (fk:Int)] rfl rfl (zH (w:=wr) rfl) (Od _) (by decide) (by unfold maxLen;omega) (by omega) (by simp only[size_alloc];omega) _ rfl ?_;intro g' cap' w7 hown cN _ _;obtain⟨QT,hI7⟩:=HU.o.app vN.o hown cN;obtain⟨y0,y1,y2,y3⟩:=ay QT;have HI7:=jd hI7;clear hown cN QT hI7)
   go_roundw
   case rel=>
    have h9:=HI7.o
    have e10:eZ X st.testBit (fk+1)=eZ X st.testBit fk++[fk]:=by rw[HRS.o,if_pos e9]
    rw[<-e10]at h9;exact⟨fk+1,by omega,by omega,by go_num,jd ⟨_,h9⟩⟩
   case measure=>simp[intOf];omega
 have E9:k<X.length:=by have:=HN.o;omega
 obtain⟨bx,ox,rfl,hx⟩:=WG.o.at E9;obtain⟨xa,xb,xc,xd,xp,qV⟩:=Kn.qP X k;rw[qV.o]at hx
 have OD:=HI.o.1.new.Kd hx λx=>x
 obtain⟨x1,x2,x3,x4,x5⟩:=OD;clear hx
 have i1:(0:Int)<=(k:Int):=by omega
 have i2:(k:Int)<(n:Int):=by omega
 have ar:∀s,s<4->∃u:Nat,u=Kn.aa X (k,s)/\at_ X (k,s)=(u:Int)/\u<mm:=λs hs=>by
  have a:=HX.o.ah (p:=(k,s)) ⟨E9,hs⟩;have b:=HX.o.cT (p:=(k,s)) ⟨E9,hs⟩;exact⟨_,rfl,b.symm,by have:=a.2;have:=vP.o;have:=HM.o;omega⟩
 obtain⟨ua,ea,fa,la⟩:=ar 0 (by omega);obtain⟨ub,eb,fb,lb⟩:=ar 1 (by omega);obtain⟨uc,ec,fc,lc⟩:=ar 2 (by omega);obtain⟨ud,ed,fd,ld⟩:=ar 3 (by omega);unfold at_ at fa fb fc fd;rw[qV.o]at fa fb fc fd;have fa:xa=(ua:Int):=fa;have fb:xb=(ub:Int):=fb;have fc:xc=(uc:Int):=fc;have fd:xd=(ud:Int):=fd;subst fa fb fc fd;have WD:=jd ea;have RP:=jd eb;have HEC:=jd ec;have HED:=jd ed;clear ea eb ec ed ar;have hb:=ad0 st k hst;go_upto_region 11 with fail
 obtain⟨wb,Ry⟩:=jb (wr.alloc (.cells #[.int .i64 (ua:Nat),.int .i64 (ub:Nat),.int .i64 (uc:Nat),.int .i64 (ud:Nat),.bool xp] 109));obtain⟨Bx,Bz⟩:=jb wr.heap.size;have HIb:Hd (UD w wb cB rB mm (o9 X st.testBit k)):=jd (by rw[Ry.o];exact HI.o.1.nw ((refl _ _).alloc _));have HRb:Hd (wb.heap[rb]?=some (.cells #[.slice none 0 0,.slice none 0 0] 76 (0,0))):=jd (by rw[Ry.o];exact((refl (λ_=>False) wr).alloc _).blk HI.o.2 λx=>x)
 have HBb:Hd (wb.heap[Bx]?=some (.cells #[.int .i64 (ua:Nat),.int .i64 (ub:Nat),.int .i64 (uc:Nat),.int .i64 (ud:Nat),.bool xp] 109 (0,0))):=jd (by rw[Ry.o,Bz.o];exact heap_alloc_new wr _);rw[<-Ry.o,<-Bz.o];clear x1 x2 x3 x4 x5 i1 i2;obtain⟨fk,HFK⟩:=jb (o9 X st.testBit k);rw[<-HFK.o]at HIb
 have two:∀(wx:World) (g:Nat->Nat) (u v:Nat),u<mm->v<mm->Hd (UD w wx cB rB mm g)->Hd (wx.heap[rb]?=some (.cells #[.slice none 0 0,.slice none 0 0] 76 (0,0)))->Hd (wx.heap[Bx]?=some (.cells #[.int .i64 (ua:Nat),.int .i64 (ub:Nat),.int .i64 (uc:Nat),.int .i64 (ud:Nat),.bool xp] 109 (0,0))) ->
  Calls prog 47 #[.int .i64 (u:Nat),.int .i64 (v:Nat),.pointer (some ⟨cB,0,none⟩)] wx (λe w'=>e=.returned (.tuple #[])/\Hd (UD w w' cB rB mm (dG g u v))/\Hd (w'.heap[rb]?=some (.cells #[.slice none 0 0,.slice none 0 0] 76 (0,0)))/\Hd (w'.heap[Bx]?=some (.cells #[.int .i64 (ua:Nat),.int .i64 (ub:Nat),.int .i64 (uc:Nat),.int .i64 (ud:Nat),.bool xp] 109 (0,0)))):=by
  intro wx g u v hu hv h1 h2 h3;refine(UE cB rB mm u v g wx h1.out.c1 h1.out.row h1.out.ne hu hv (by omega)).mono ?_;rintro e w' ⟨he,hF,hr⟩;exact⟨he,jd (h1.out.join hF hr),jd (hF.blk h2.out (dF h2.out h1.out.row (by decide))),jd (hF.blk h3.out (dF h3.out h1.out.row (by decide)))⟩
 by_cases QS:st.testBit k=true
 · rw[QS]at hb
   have hb1:bits BinOp.and i64 ((st:Int) / 2 ^ k) 1=1:=hb;clear hb;obtain⟨y0,y1,y2,y3,_⟩:=uW HBb.o;go_wp2_with fail;refine(two _ _ ub uc lb lc HIb HRb HBb).mono ?_;rintro e w4 ⟨rfl,HI4,Pk,u9⟩;clear y0 y1 y2 y3;obtain⟨y0,y1,y2,y3,_⟩:=uW u9.o;go_wp2_with fail;refine(two _ _ ud ua ld la HI4 Pk u9).mono ?_;rintro e w5 ⟨rfl,Ww,HR5,Ei⟩;clear y0 y1 y2 y3;go_wp2;go_roundw
   case rel=>
    refine⟨k+1,by omega,by go_num,jd ⟨?_,HR5.o⟩⟩
    have e1:o9 X st.testBit (k+1)=dG (dG fk ub uc) ud ua:=by
     show jn2 X (st.testBit k) (o9 X st.testBit k) k=_
     unfold jn2
     rw[QS,<-HFK.o,WD.o,RP.o,HEC.o,HED.o];rfl
    rw[e1];exact Ww.o
   case measure=>simp[intOf];omega
 have QS:st.testBit k=false:=by simpa using QS
 rw[QS]at hb;have hb1:bits BinOp.and i64 ((st:Int) / 2 ^ k) 1=0:=hb;clear hb;obtain⟨y0,y1,y2,y3,_⟩:=uW HBb.o;go_wp2_with fail;refine(two _ _ ua ub la lb HIb HRb HBb).mono ?_;rintro e w4 ⟨rfl,HI4,Pk,u9⟩;clear y0 y1 y2 y3;obtain⟨y0,y1,y2,y3,_⟩:=uW u9.o;go_wp2_with fail;refine(two _ _ uc ud lc ld HI4 Pk u9).mono ?_;rintro e w5 ⟨rfl,Ww,HR5,Ei⟩;clear y0 y1 y2 y3;go_wp2;go_roundw
 case rel=>
  refine⟨k+1,by omega,by go_num,jd ⟨?_,HR5.o⟩⟩
  have e1:o9 X st.testBit (k+1)=dG (dG fk ua ub) uc ud:=by
   show jn2 X (st.testBit k) (o9 X st.testBit k) k=_
   unfold jn2
   rw[QS,<-HFK.o,WD.o,RP.o,HEC.o,HED.o];rfl
  rw[e1];exact Ww.o
 case measure=>simp[intOf];omega
end Go.Proofs.YtfplmbmenjdlhaaGreatDoor
