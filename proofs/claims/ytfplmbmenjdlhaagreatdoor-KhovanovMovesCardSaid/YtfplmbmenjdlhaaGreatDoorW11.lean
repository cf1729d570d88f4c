/- Walks: Darts and its iterator. -/
import Derived.RangeFuncNested
import Derived.RangeFuncBound
import Derived.Shelf.RegionOpen
import Derived.LoopNIn
import Derived.LoopIn
import Derived.Maps.OwnIn
import Derived.Test.YtfplmbmenjdlhaaGreatDoorW9
import Derived.Maps.Ext
import Derived.DeepKeys4
set_option maxRecDepth 100000
set_option maxHeartbeats 16000000
namespace Go.Proofs.YtfplmbmenjdlhaaGreatDoor
open Go.RowKit Go.Shelf
open Fence (wide)
open Kn (Cr Dt Ed dM)
open Go.Proofs.Tryz (prog)
variable {seen:List Dt} {mb:Nat} {S:Nat->Prop} {W:World}
attribute [local go_sem] Oper.semAt_some
abbrev DX(X:List Cr):={ d:Dt // Kn.ah X d.1 }
abbrev Y1{X:List Cr}(x:DX X):Array Value:=#[.agg #[.int .i64 (x.1.1:Nat),.bool x.1.2]]
def KpB(Bn b:Nat)(W W':World):Prop:=(∀v,W.cell? ⟨Bn,0,none⟩=some v->W'.cell? ⟨Bn,0,none⟩=some v)/\(∀v,W.cell? ⟨b,0,none⟩=some v->W'.cell? ⟨b,0,none⟩=some v)
theorem aav{Bn b:Nat}{A B C:World}(h:KpB Bn b A B)(k:KpB Bn b B C):KpB Bn b A C:=⟨λv x=>k.1 v (h.1 v x),λv x=>k.2 v (h.2 v x)⟩
theorem ag3{Bn b:Nat}(W:World)(l:Nat)(o o':Obj)(h:W.heap[l]?=some o)(ho:o.isCells=false):KpB Bn b W (W.putObj l o'):=
 ⟨λ_ hv=>cell_kept hv (grownBy_putObj' W l o') (λr e=>by cases e;exact⟨o,h,ho⟩),λ_ hv=>cell_kept hv (grownBy_putObj' W l o') (λr e=>by cases e;exact⟨o,h,ho⟩)⟩
theorem Mc{Bn b:Nat}{W':World}(h:Fr S W W')(h1:¬S Bn)(h2:¬S b):KpB Bn b W W':=⟨λ_ hv=>h.cell hv h1,λ_ hv=>h.cell hv h2⟩
theorem Nv{n:Nat}:wide.depth.isSome=true->1<=n:=λh=>by cases h
theorem abd(b m n cc:Nat)(a:Option Addr)(w:World)(h:w.cell? ⟨b,0,none⟩=some (.slice a n cc))(hn:n<=16)(hm:m=2*n):
 Calls prog 46 #[.pointer (some ⟨b,0,none⟩)] w λe w'=>e=.returned (.int .i64 (m:Nat))/\w=w':=by
 have HM:=jd hm;clear hm
 go_enter Tryz.func46,Tryz.ntmps46
 go_wp2;go_ret;exact⟨rG (by rw[HM.o];omega),rfl⟩
theorem Y9(k j:Nat)(hk:1<=k)(hj:j<2):Ed (2*(k-1)+j)=(k,decide (j=1)):=by
 unfold Ed;rw[show (2*(k-1)+j) / 2+1=k by omega,show (2*(k-1)+j)%2=j by omega]
theorem MO(X:List Cr){q:Nat}(h:q<4*X.length):(dM X).take (q+1)=(dM X).take q++[Ed q]:=by
 rw[jq (by rw[Kn.fL];exact h)];simp[dM]
theorem Q7(nn l Bn b n cc:Nat)(a:Option Addr)(X:List Cr)(J Jx:List (DX X)->World->Prop)
 (hY:∀pre x W,J pre W->pre.length<4*X.length->YieldAt wide (nn-1) prog l (Y1 x) W λe W'=>(e=.returned (.bool true)/\J (pre++[x]) W'/\KpB Bn b W W')\/(e=.returned (.bool false)/\Jx (pre++[x]) W'))
 (W:World) (hBn:W.cell? ⟨Bn,0,none⟩=some (.pointer (some ⟨b,0,none⟩))) (hc:W.cell? ⟨b,0,none⟩=some (.slice a n cc)) (hn:n=X.length) (hl:n<=16) (h0:J [] W):
 CallsIn wide nn prog 116 #[.func (.yield l) #[] #[],.pointer (some ⟨Bn,0,none⟩)] W λe W'=>(∃v,e=.returned v)/\((∃ys:List (DX X),ys.map (·.1)=dM X/\J ys W')\/(∃pre,True/\Jx pre W')):=by
 have W7:∀w,(Instr.index 199 (.agg #[.bool false,.bool true]) (.int .i64 0)).run prog w=.ok (.bool false) w:=λ_=>by kernel_rfl
 have Sa:∀w,(Instr.index 199 (.agg #[.bool false,.bool true]) (.int .i64 1)).run prog w=.ok (.bool true) w:=λ_=>by kernel_rfl
 obtain⟨m,hm⟩:∃m,m=2*n:=⟨_,rfl⟩
 have YE:m<=32:=by omega
 have HM:=jd hm;have HN:=jd hn;have HY:=jd hY;clear hm hn hY
 refine callsIn_of_wp Tryz.func116 rfl trivial ?_ rfl
 simp only[Tryz.ntmps116,List.size_toArray,jE,List.length_nil,Nat.reduceAdd,Nat.reduceSub,Array.replicate_succ,Array.replicate_zero,List.push_toArray,List.append_toArray,List.nil_append,List.cons_append]
 gi_wp2
 gi_loopw [3] (λp wr=>∃(k:Nat) (pre:List (DX X)),1<=k/\k<=m+1/\p=.int .i64 k/\Hd (pre.map (·.1)=(dM X).take (2*(k-1)))/\Hd (J pre wr)/\wr.cell? ⟨Bn,0,none⟩=some (.pointer (some ⟨b,0,none⟩))/\wr.cell? ⟨b,0,none⟩=some (.slice a n cc)) (λp _=>(m+1)-(intOf p).toNat)
 case atStart=>exact⟨1,[],by omega,by omega,rfl,jd (by simp),jd h0,hBn,hc⟩
 case round=>
 obtain⟨k,pre,hk1,hk2,rfl,HP,HJ,c1,c2⟩:=hrel;by_cases hkm:k<=m
 · have k2:(k:Int)<=(m:Int):=by omega
   gi_wp2_with (refine⟨trivial,Nv,?_⟩;gi_at_call 46;refine(callsIn_wide.2 (abd b m n cc a _ c2 hl HM.o)).mono ?_;rintro e w' ⟨rfl,rfl⟩)
   gi_loopw [13] (λp wr=>∃(j:Nat) (pre:List (DX X)),j<=2/\p=.int .i64 j/\Hd (pre.map (·.1)=(dM X).take (2*(k-1)+j))/\Hd (J pre wr)/\wr.cell? ⟨Bn,0,none⟩=some (.pointer (some ⟨b,0,none⟩))/\wr.cell? ⟨b,0,none⟩=some (.slice a n cc)) (λp _=>2-(intOf p).toNat)
   case atStart=>exact⟨0,pre,by omega,rfl,HP,HJ,c1,c2⟩
   case round=>
   obtain⟨j,pre,hj,rfl,HP,HJ,c1,c2⟩:=hrel;by_cases hj2:j<2;rotate_left
   · obtain rfl:j=2:=by omega
     gi_wp2
     go_roundw
     case rel=>exact⟨k+1,pre,by omega,by omega,by go_num,by rw[show 2*(k+1-1)=2*(k-1)+2 by omega];exact HP,HJ,c1,c2⟩
     case measure=>simp[intOf];omega
   have hlt:2*(k-1)+j<4*X.length:=by have:=HM.o;have:=HN.o;omega
   have hpl:pre.length<4*X.length:=by
    have:=congrArg List.length HP.o
    rw[jA,List.length_take,Kn.fL]at this;omega
   have hka:Kn.ah X k:=⟨hk1,by unfold Kn.ag;have:=HM.o;have:=HN.o;omega⟩;have adx:=MO X hlt;rw[Y9 k j hk1 hj2,<-HP.o]at adx;have ajO:=jd adx;clear adx
   rcases (show j=0\/j=1 by omega)with rfl|rfl
   · obtain⟨fn,tmps,assign,body,hy,hR⟩:=HY.o pre ⟨(k,false),hka⟩ wr HJ.o hpl
     simp only[Y1]at hy
     gi_wp2
     refine⟨Nv,hR.mono ?_⟩;rintro e W3 (⟨rfl,hJ3,hk3⟩|⟨rfl,adK⟩)
     · have d1:W3.cell? ⟨Bn,0,none⟩=some (.pointer (some ⟨b,0,none⟩)):=hk3.1 _ c1
       have d2:W3.cell? ⟨b,0,none⟩=some (.slice a n cc):=hk3.2 _ c2;have HJ3:=jd hJ3;clear hJ3 hk3 hy hR
       gi_wp2
       go_roundw
       case rel=>exact⟨1,pre++[⟨(k,false),hka⟩],by omega,by go_num,jd (by rw[jP];exact ajO.o.symm),HJ3,d1,d2⟩
       case measure=>simp[intOf]
     gi_wp2
     refine bodyPost_ret (results_none rfl _ _ _) rfl ?_
     exact⟨⟨_,rfl⟩,.inr ⟨pre++[⟨(k,false),hka⟩],trivial,adK⟩⟩
   obtain⟨fn,tmps,assign,body,hy,hR⟩:=HY.o pre ⟨(k,true),hka⟩ wr HJ.o hpl;simp only[Y1]at hy
   gi_wp2
   refine⟨Nv,hR.mono ?_⟩;rintro e W3 (⟨rfl,hJ3,hk3⟩|⟨rfl,adK⟩)
   · have d1:W3.cell? ⟨Bn,0,none⟩=some (.pointer (some ⟨b,0,none⟩)):=hk3.1 _ c1
     have d2:W3.cell? ⟨b,0,none⟩=some (.slice a n cc):=hk3.2 _ c2;have HJ3:=jd hJ3;clear hJ3 hk3 hy hR
     gi_wp2
     go_roundw
     case rel=>exact⟨2,pre++[⟨(k,true),hka⟩],by omega,by go_num,jd (by rw[jP];exact ajO.o.symm),HJ3,d1,d2⟩
     case measure=>simp[intOf]
   gi_wp2
   refine bodyPost_ret (results_none rfl _ _ _) rfl ?_
   exact⟨⟨_,rfl⟩,.inr ⟨pre++[⟨(k,true),hka⟩],trivial,adK⟩⟩
 obtain rfl:k=m+1:=by omega
 gi_wp2_with (refine⟨trivial,Nv,?_⟩;gi_at_call 46;refine(callsIn_wide.2 (abd b m n cc a _ c2 hl HM.o)).mono ?_;rintro e w' ⟨rfl,rfl⟩)
 go_end0;refine⟨⟨_,rfl⟩,.inl ⟨pre,?_,HJ.o⟩⟩;rw[HP.o,List.take_of_length_le]
 rw[Kn.fL];have:=HM.o;have:=HN.o;omega
theorem VA(nn b:Nat)(w:World):
 CallsIn wide nn prog 89 #[.pointer (some ⟨b,0,none⟩)] w λe w'=>e=.returned (.func (.func 116) #[] #[.pointer (some ⟨w.heap.size,0,none⟩)])/\w'=w.alloc (.cells #[.pointer (some ⟨b,0,none⟩)] 61):=by
 refine callsIn_of_wp Tryz.func89 rfl trivial ?_ rfl
 simp only[Tryz.ntmps89,List.size_toArray,jE,List.length_nil,Nat.reduceAdd,Nat.reduceSub,Array.replicate_succ,Array.replicate_zero,List.push_toArray,List.append_toArray,List.nil_append,List.cons_append]
 gi_wp2
 go_ret;exact⟨rfl,rfl⟩
theorem J7(nn Bn b n cc:Nat)(a:Option Addr)(X:List Cr)(w:World)(hB:Bn<w.heap.size)(hBn:w.cell? ⟨Bn,0,none⟩=some (.pointer (some ⟨b,0,none⟩)))(hc:w.cell? ⟨b,0,none⟩=some (.slice a n cc))(hn:n=X.length)(hl:n<=16):
 SeqStopsK wide nn prog 116 #[.pointer (some ⟨Bn,0,none⟩)] (Y1 (X:=X)) (KpB Bn b) (λys=>ys.map (·.1)=dM X) (λ_=>True) (4*X.length) w:=λl J Jx W hW _ _ hY h0=>
 Q7 nn l Bn b n cc a X J Jx hY W ((hW.cell (p:=⟨Bn,0,none⟩) hB).trans hBn) ((hW.cell (p:=⟨b,0,none⟩) (World.block_lt_of_cell? w _ hc)).trans hc) hn hl h0
open Go.RowKit Go.Shelf
theorem Tryz.Mi:(prog.info? 26).map (λi=>(i.zero,i.size,i.bytes))=some (some (.agg #[.int .i64 0,.bool false]),2,16):=by kernel_rfl
theorem Tryz.laidOut:laidOutB prog=true:=by kernel_rfl
theorem Tryz.agt:(26:TypeId)<prog.types.size:=jl (by kernel_rfl)
theorem Tryz.abN:(match prog.underlying 26 with|some (.array _ _)|some (.struct _)=>true|_=>false)=true:=by kernel_rfl
theorem Tryz.ahd:prog.keyTypeAt 2 26=true:=by kernel_rfl
theorem Tryz.Ox:Maps.Keyed prog 26:=Maps.Keyed.of_law (deep_law_laid Tryz.laidOut (m:=2) (by omega) Tryz.agt Tryz.ahd Tryz.abN)
theorem Tryz.aad:prog.underlying 167=some (.map 26 4):=by kernel_rfl
theorem Tryz.ul4:prog.underlying 4=some .bool:=by kernel_rfl
theorem Tryz.Z7(w:World):(zeroValue 4).run prog w=.ok (.bool false) w:=by kernel_rfl
abbrev dv(d:Dt):Value:=.agg #[.int .i64 (d.1:Nat),.bool d.2]
theorem Uz:((List.range 40).all λa=>(keyOf prog 26 (dv (a,true))).isSome&&(keyOf prog 26 (dv (a,false))).isSome)=true:=by kernel_rfl
theorem UA(d:Dt)(h:d.1<40):∃l,keyOf prog 26 (dv d)=some l:=by
 have:=List.all_eq_true.1 Uz d.1 (jw.2 h);rw[jp]at this;obtain⟨a,b⟩:=d;cases b
 · exact Option.isSome_iff_exists.1 this.2
 exact Option.isSome_iff_exists.1 this.1
theorem adS{d e:Dt}(h:dv d=dv e):d=e:=by
 obtain⟨a,b⟩:=d;obtain⟨c,f⟩:=e;simp only[dv,Value.agg.injEq,Array.mk.injEq,List.cons.injEq,Value.int.injEq,true_and,Value.bool.injEq,and_true,Int.ofNat_inj]at h;rw[h.1,h.2]
def eL(W:World)(mb:Nat)(seen:List Dt):Prop:=
 ∃D:DataW Unit,W.ownsMap prog 26 (plainElem prog 4) mb seen.length D/\Maps.IsMap D/\∀d:Dt,∀l,keyOf prog 26 (dv d)=some l->D.atKey l (.lit (.bool false))=.lit (.bool (decide (d∈seen)))
theorem eL.made(w:World):eL (w.alloc (.map #[] 0)) w.heap.size []:=⟨_,World.ownsMap_made _ _ _ _,Maps.isMap_empty,λd l _=>by rw[jm (by simp)];rfl⟩
theorem eL.fr{W':World}(h:eL W mb seen)(hf:Fr S W W')(hs:¬S mb):eL W' mb seen:=by
 obtain⟨D,⟨es,ck,hb,r⟩,h1,h2⟩:=h;exact⟨D,⟨es,ck,(hf.block mb (jf.1 hb).1 hs).trans hb,r⟩,h1,h2⟩
theorem eL.look(h:eL W mb seen)(d:Dt)(hd:d.1<40):(Instr.lookup 167 (.map (some mb)) (dv d) false).run prog W=.ok (.bool (decide (d∈seen))) W:=by
 obtain⟨D,ho,_,h2⟩:=h;obtain⟨l,hl⟩:=UA d hd;obtain⟨v,ps,hrun,hv⟩:=ho.lookup Tryz.Ox Tryz.aad (Tryz.Z7 W) (plainElem_bool Tryz.ul4 false) hl;rw[h2 d l hl]at hv
 have hv':v=.bool (decide (d∈seen)):=by
  unfold plainElem at hv;rw[Tryz.ul4]at hv
  cases v<;>simp at hv
  rw[hv.1]
 rw[hrun,hv']
theorem eL.block(h:eL W mb seen):∃es ck,W.heap[mb]?=some (.map es ck):=by
 obtain⟨D,⟨es,ck,hb,_⟩,_⟩:=h;exact⟨es,ck,hb⟩
theorem eL.put{W':World}{mb:Nat}{seen:List Dt}{D:DataW Unit}{d:Dt}{l:Lit}(h1:Maps.IsMap D)(h2:∀d:Dt,∀l,keyOf prog 26 (dv d)=some l->D.atKey l (.lit (.bool false))=.lit (.bool (decide (d∈seen))))
 (hl:keyOf prog 26 (dv d)=some l) (ho:W'.ownsMap prog 26 (plainElem prog 4) mb (seen.length+1) (D.put l (.lit (.bool true)))):eL W' mb (seen++[d]):=by
 refine⟨_,by rw[ju];exact ho,h1.put _ _,λe k hk=>?_⟩;by_cases c:e=d
 · subst c
   rw[hl]at hk;cases hk
   rw[Maps.atKey_put_same h1 (Tryz.Ox.key hl)];simp
 have hne:k≠l:=λx=>c (adS (Tryz.Ox.inj (x ▸ hk) hl))
 rw[Maps.atKey_put_other hne,h2 e k hk];simp[c]
def lK(l:List Dt):List Value:=l.flatMap λd=>[.int .i64 (d.1:Nat),.bool d.2]
theorem J6(l:List Dt)(d:Dt):lK (l++[d])=lK l++[.int .i64 (d.1:Nat),.bool d.2]:=by simp[lK]
def kN(w:World)(v:Value)(l:List Dt):Prop:=w.ownsRow 0 26 2 v l.length (lK l)
theorem dr{base e sz n:Nat}{w:World}{v:Value}{ys:List Value}(h:w.ownsRow base e sz v n ys):∃a c,v=.slice a n c/\n<=c:=by
 rcases h.2 with⟨rfl,rfl⟩|⟨g,cap,cur,rfl,hb,hg,h1,h2,h3,h4⟩
 · exact⟨none,0,rfl,jH _⟩
 exact⟨_,cap,rfl,h1⟩
end Go.Proofs.YtfplmbmenjdlhaaGreatDoor
