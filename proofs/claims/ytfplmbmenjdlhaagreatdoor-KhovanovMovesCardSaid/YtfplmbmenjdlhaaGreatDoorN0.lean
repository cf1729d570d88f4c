/- One loop has two ranks; what the sum of the ranks and Jones's polynomial tell: plain mathematics. -/
import Derived.Test.YtfplmbmenjdlhaaGreatDoorV15
set_option maxRecDepth 100000
set_option maxHeartbeats 16000000
namespace Go.Proofs.YtfplmbmenjdlhaaGreatDoor
open Kn (oV bM Kh Rk L2 E2 F2 cf)
open Fr (refl)
open Kn (Cr Jw)
open Subtype (val)
open Go.Proofs.Tryz (func15 prog sortF)
open World (size_alloc)
variable {os:Array Obj} {F cur:Array Value} {l:List (Kn.Ve Nat)} {B g t:Nat} {e:TypeId} {W w:World}
theorem XW(h:∀v∈l,v=Kn.vz):Rk l 0:=by
 induction l with
 |nil=>exact .nil
 |cons v l ih=>
  rw[h v (by simp)];exact .in_ .z (ih λu hu=>h u (by simp[hu]))
theorem TV{l:L2}(hF:F2 l)(hl:∀a,cf l a=Kh [] 1 (bM [] 1) a):l.length=2:=by
 have wO:Kn.Ok []:=(Kn.Ct []).1 (by decide)
 have hp:Kn.aJ []=true:=by decide
 have hE:oV [] 1 (2 ^ ([]:List Cr).length)=[(0,0),(0,1)]:=by decide
 have d0:zB [] 1 0 0=(0,-1):=by decide
 have d1:zB [] 1 0 1=(0,1):=by decide
 have kh:∀a,Kh [] 1 (bM [] 1) a=(if ((0,-1):Int×Int)=a then 1 else 0)+(if ((0,1):Int×Int)=a then 1 else 0):=λa=>by
  have z:∀d,Rk ((sO (λp=>zB [] 1 p.1 p.2) (oV [] 1 (2 ^ ([]:List Cr).length)) d).map λp=>l9 (oV [] 1 (2 ^ ([]:List Cr).length)) (wY [] 1 p ([]:List Cr).length)) 0:=λd=>XW λv hv=>by
   obtain⟨p,_,rfl⟩:=jv.1 hv;rfl
  rw[Ux wO hp (by simp) (by omega) a (z a) (z (Kn.pre a)),hE];unfold sO;rw[List.filter_cons,List.filter_cons,List.filter_nil];simp only[d0,d1];by_cases c0:((0,-1):Int×Int)=a
  · have c1:¬((0,1):Int×Int)=a:=by rw[<-c0];decide
    simp[c0,c1]
  by_cases c1:((0,1):Int×Int)=a
  · simp[c0,c1]
  simp[c0,c1]
 have hG:F2 [(((0,-1):E2),(1:Int)),((0,1),1)]:=⟨by
  refine .cons (λt ht=>?_) (.cons (λt ht=>by cases ht) .nil)
  rw[jB.1 ht]
  exact .inr ⟨rfl,by decide⟩,λt ht=>by
  simp only[jy,jz,or_false]at ht
  rcases ht with rfl|rfl<;>decide⟩
 have e:=hF.uniq hG λa=>by
  rw[hl,kh];rw[Kn.r7,Kn.r7]
  show _=_+(_+0)
  simp only
  omega
 rw[e];rfl
open Go.RowKit
open Kn (E2 L2)
theorem acx(g c:Nat)(x y:Int)(w:World)(h0:w.cell? ⟨g,0,none⟩=some (.int .i64 x))(h1:w.cell? ⟨g,1,none⟩=some (.int .i64 y)):
 Calls prog 16 #[.slice (some ⟨g,0,none⟩) 2 c] w (λe w'=>e=.returned (.int .i64 (if x=0 then y else x))/\w'=w):=by
 go_enter Tryz.func16,Tryz.ntmps16
 go_wp2
 go_loopw [8] (λi wr=>∃q:Nat,wr=w/\q<=2/\i=.int .i64 q/\Hd ((0<q->x=0)/\(1<q->y=0))) (λi _=>2-(intOf i).toNat)
 case atStart=>exact⟨0,rfl,by omega,rfl,jd ⟨by omega,by omega⟩⟩
 case round=>
 obtain⟨q,rfl,hq,rfl,HQ⟩:=hrel
 rcases (show q=0\/q=1\/q=2 by omega)with rfl|rfl|rfl
 · by_cases hx:x=0
   · subst hx
     go_wp2;go_roundw
     case rel=>exact⟨1,by trivial,by omega,by first|rfl|trivial,jd (by constructor<;>intro h<;>first|trivial|omega)⟩
     case measure=>simp[intOf]
   go_wp2;go_ret;exact⟨by first|rfl|(rw[if_neg hx];rfl),rfl⟩
 · have hx:=HQ.o.1 (by omega)
   by_cases hy:y=0
   · subst hy
     go_wp2;go_roundw
     case rel=>exact⟨2,by trivial,by omega,by first|rfl|trivial,jd (by constructor<;>intro h<;>first|trivial|omega)⟩
     case measure=>simp[intOf]
   go_wp2;go_ret;exact⟨by first|rfl|(rw[if_pos hx];rfl),rfl⟩
 have hx:=HQ.o.1 (by omega);have hy:=HQ.o.2 (by omega);go_wp2;go_ret;exact⟨by first|rfl|(rw[if_pos hx,hy];rfl),rfl⟩
def Eg(p q:E2):Int:=if p.1-q.1=0 then p.2-q.2 else p.1-q.1
abbrev tmV(t:E2×Int):Value:=.agg #[.int .i64 t.1.1,.int .i64 t.1.2,.int .i64 t.2]
theorem Ik{a b c:Value}(h:W.heap[B]?=some (.cells #[a,b,c] t (0,0))):W.cell? ⟨B,0,none⟩=some a/\W.cell? ⟨B,1,none⟩=some b/\W.cell? ⟨B,2,none⟩=some c:=
 ⟨cell_of_row _ _ 0 _ t (0,0) h,cell_of_row _ _ 1 _ t (0,0) h,cell_of_row _ _ 2 _ t (0,0) h⟩
theorem VN(s t:E2×Int)(w:World)(hs:vZ s.1)(ht:vZ t.1):
 Calls prog 15 #[tmV s,tmV t] w (λe w'=>e=.returned (.int .i64 (Eg s.1 t.1))/\∃n os',w'=Go.Sort.grow (w.drewN n) os'):=by
 obtain⟨⟨a,b⟩,e⟩:=s;obtain⟨⟨c,d⟩,f⟩:=t;obtain⟨⟨h1,h2⟩,h3,h4⟩:=hs;obtain⟨⟨h5,h6⟩,h7,h8⟩:=ht;simp only at h1 h2 h3 h4 h5 h6 h7 h8;obtain⟨w1,cU⟩:=jb ((w.alloc (.cells #[.int .i64 a,.int .i64 b,.int .i64 e] 52)).alloc (.cells #[.int .i64 c,.int .i64 d,.int .i64 f] 52))
 have q1:w1.heap[w.heap.size]?=some (.cells #[.int .i64 a,.int .i64 b,.int .i64 e] 52 (0,0)):=by rw[cU.o];exact(Below.heap_alloc _ _ _ (by simp)).trans (heap_alloc_new _ _)
 have q2:w1.heap[w.heap.size+1]?=some (.cells #[.int .i64 c,.int .i64 d,.int .i64 f] 52 (0,0)):=by
  have:=heap_alloc_new (w.alloc (.cells #[.int .i64 a,.int .i64 b,.int .i64 e] 52)) (.cells #[.int .i64 c,.int .i64 d,.int .i64 f] 52)
  rw[size_alloc,<-cU.o]at this;exact this
 obtain⟨k1,k2,_⟩:=Ik q1;obtain⟨k3,k4,_⟩:=Ik q2;clear q1 q2;rw[cU.o]at k1 k2 k3 k4
 go_enter func15,Tryz.ntmps15
 go_wp2_with fail;have z:=heap_alloc_new ((w.alloc (.cells #[.int .i64 a,.int .i64 b,.int .i64 e] 52)).alloc (.cells #[.int .i64 c,.int .i64 d,.int .i64 f] 52)) (.cells #[.int .i64 (a-c),.int .i64 (b-d)] 3);rw[size_alloc,size_alloc]at z;obtain⟨z1,z2,_,_⟩:=ay z;refine(acx (w.heap.size+1+1) 2 (a-c) (b-d) _ z1 z2).mono ?_;rintro e5 w5 ⟨rfl,rfl⟩;obtain⟨ov,KF⟩:=jb (if a-c=0 then b-d else a-c);rw[<-KF.o];go_wp2;go_ret
 exact⟨by rw[KF.o];rfl,0,_,by rw[Go.Sort.alloc_eq_grow,Go.Sort.alloc_eq_grow,Go.Sort.alloc_eq_grow,Go.Sort.grow_grow,Go.Sort.grow_grow];rfl⟩
open Go.RowKit Go.Sort
open Kn (E2 L2)
theorem holds_of_block(hb:w.heap[g]?=some (.cells cur e (0,0)))(ht:cur.toList.take F.size=F.toList):Holds id w g 0 F:=by
 intro j hj;refine⟨?_,by simp[World.frozen?,hb]⟩
 have h1:(cur.toList.take F.size)[j]?=F.toList[j]?:=by rw[ht]
 rw[List.getElem?_take_of_lt hj]at h1;simp only[World.cell?,hb,Nat.zero_add];simp only[Option.isSome_none,jN,if_false];rw[<-Array.getElem?_toList,h1];simp[hj]
theorem GF{n:Nat}{fr:Nat×Nat}(F:Array Value)(hb:w.heap[g]?=some (.cells cur e fr)):
 (grow (putRow id (Sort.ahead w n) g 0 F) os).heap[g]?=some (.cells (putCells id 0 F cur) e fr):=by
 have hg:g<w.heap.size:=(jf.1 hb).1;rw[heap_grow_old _ _ (by simpa using hg)];simp[putRow,mapBlock,Sort.ahead,Array.getElem?_modify,hb,onCells]
theorem AE{n:Nat}(F:Array Value):w.grownBy (grow (putRow id (Sort.ahead w n) g 0 F) os) (some g):=by
 refine⟨rfl,rfl,rfl,by simp,λk hk hne=>?_⟩;rw[heap_grow_old _ _ (by simpa using hk)]
 have:g≠k:=λe=>hne (by rw[e])
 simp[putRow,mapBlock,Sort.ahead,Array.getElem?_modify,this]
theorem BK(cur:Array Value)(F:Array Value)(h:F.size<=cur.size):(putCells id 0 F cur).toList.take F.size=F.toList:=by
 apply List.ext_getElem?;intro j;by_cases hj:j<F.size
 · rw[List.getElem?_take_of_lt hj,Array.getElem?_toList]
   simp[putCells,hj,show j<cur.size by omega]
 rw[List.getElem?_take_eq_none (by omega),List.getElem?_eq_none (by simp;omega)]
theorem ue{α:Type}(f:α->List Value)(hf:∀x,(f x).length=3):∀(l:List α) (t:Nat) (h:t / 3<l.length),(l.flatMap f)[t]?=(f l[t / 3])[t%3]?
 |[],t,h=>by simp at h
 |x :: l,t,h=>by
  rw[List.flatMap_cons];by_cases c:t<3
  · rw[List.getElem?_append_left (by rw[hf];exact c)]
    have e1:t / 3=0:=by omega
    have e2:t%3=t:=by omega
    simp[e1,e2]
  rw[List.getElem?_append_right (by rw[hf];omega),hf,ue f hf l (t-3) (by simp at h;omega)]
  have e1:t / 3=(t-3) / 3+1:=by omega
  have e2:t%3=(t-3)%3:=by omega
  simp[e1,e2]
theorem JS{α:Type}(f:α->List Value)(hf:∀x,(f x).length=3):∀(l:List α),(l.flatMap f).length=l.length*3
 |[]=>rfl
 |x :: l=>by rw[List.flatMap_cons,ju,hf,JS f hf l,jE];omega
theorem C9{α:Type}[Inhabited α](f:α->List Value)(hf:∀x,(f x).length=3)(d:Array α):(flatK f 3 d).toList=d.toList.flatMap f:=by
 apply List.ext_getElem?;intro t;by_cases c:t<d.size*3
 · have h2:t / 3<d.size:=by omega
   rw[ue f hf d.toList t (by simpa using h2),Array.getElem?_toList,Array.getElem?_eq_getElem (by simpa using c)];have:=get_flatK f 3 d t c;rw[getElem!_pos _ t (by simpa using c),getElem!_pos d _ h2,getElem!_pos _ _ (by rw[hf];omega)]at this;rw[this,je (by rw[hf];omega)];simp
 rw[List.getElem?_eq_none (by simp;omega),List.getElem?_eq_none (by rw[JS f hf];simp;omega)]
abbrev TmS:={t:E2×Int // vZ t.1}
def sF(t:E2×Int):List Value:=[.int .i64 t.1.1,.int .i64 t.1.2,.int .i64 t.2]
abbrev ku(l:L2):List Value:=l.flatMap sF
theorem Bq(a b:E2):Eg a b<0↔Jw a b:=by
 obtain⟨a1,a2⟩:=a;obtain⟨b1,b2⟩:=b;unfold Eg Jw
 simp only
 split<;>omega
theorem O4(a b:E2):Eg a b<=0↔¬Jw b a:=by
 obtain⟨a1,a2⟩:=a;obtain⟨b1,b2⟩:=b;unfold Eg Jw
 simp only
 split<;>omega
theorem amk:SWO (ltOf λx y:TmS=>Eg x.1.1 y.1.1) where
 irrefl x:=by
  simp only[ltOf,jF,Bq];exact Kn.uS _
 trans x y z h1 h2:=by
  simp only[ltOf,jh,Bq]at *;exact Kn.zj h1 h2
 ntrans x y z h1 h2:=by
  simp only[ltOf,jF,Bq]at *;intro h3
  rcases Kn.Gm x.1.1 y.1.1 with h|h|h
  · exact h1 h
  · rw[h]at h3;exact h2 h3
  exact h2 (Kn.zj h h3)
theorem UJ(w:World):(isAgg 52).run prog w=.ok true w:=by kernel_rfl
theorem PS(w:World):(Go.sizeOf 52).run prog w=.ok 3 w:=by kernel_rfl
theorem acy(t:E2×Int):∀u∈sF t,u.oneCell'=true:=by
 intro u hu;simp only[sF,jy,jz,or_false]at hu
 rcases hu with rfl|rfl|rfl<;>rfl
theorem PL(base:Nat)(v:Value)(xs:L2)(w:World)(ho:w.ownsRow base 52 3 v xs.length (ku xs))(hv:∀p∈xs,vZ p.1)(hl:xs.length<=1000000000):
 Calls prog 14 #[v,.func (.func 15) #[] #[]] w λe w'=>e=.returned (.tuple #[])/\∃ys:L2,ys.Perm xs/\ys.Pairwise (λa b=>Eg a.1 b.1<=0)/\w'.ownsRow base 52 3 v ys.length (ku ys)/\w.grownBy w' v.ownBlock:=by
 by_cases R6:xs=[]
 · subst R6
   obtain⟨a,c,rfl,_⟩:=dr ho;refine(AnyF.slices_SortFunc_none sortF a c _ w).mono ?_;rintro e w' ⟨rfl,rfl⟩;exact⟨rfl,[],.refl _,.nil,ho,⟨rfl,rfl,rfl,jH _,λ_ _ _=>rfl⟩⟩
 obtain⟨t0,ht0⟩:∃t,t∈xs:=List.exists_mem_of_ne_nil _ R6
 have hlen:0<xs.length:=List.length_pos_iff.2 R6
 rcases ho.2 with⟨_,h0⟩|⟨g,cap,cur,rfl,hb,hg,h1,h2,h3,h4⟩
 · omega
 haveI:Inhabited TmS:=⟨⟨t0,hv t0 ht0⟩⟩
 obtain⟨L,hL⟩:∃L:List TmS,L.map val=xs:=⟨xs.attachWith (λt:E2×Int=>vZ t.1) hv,List.attachWith_map_subtype_val _⟩
 let enc:TmS->List Value:=λt=>sF t.1
 have hk:∀x,(enc x).length=3:=λ_=>rfl
 have hLl:L.length=xs.length:=by rw[<-hL,jA]
 have aaW:∀M:List TmS,M.flatMap enc=ku (M.map val):=λM=>by unfold ku;rw[List.flatMap_map]
 have hF:(flatK enc 3 L.toArray).toList=ku xs:=by rw[C9 enc hk,aaW,List.toList_toArray,hL]
 have hFs:(flatK enc 3 L.toArray).size=xs.length*3:=by rw[size_flatK];simp[hLl]
 have hH:HoldsK enc 3 w g 0 L.toArray:=holds_of_block hg (by rw[hFs,h4,hF])
 have h1c:∀x,∀u∈enc x,u.oneCell'=true:=λx u hu=>acy _ u hu
 have eg:∀args w,(callFunc 15 args).run prog w=.ok (.enter 15 args) w:=enters_of func15 (by kernel_rfl) rfl
 have an8:CmpLays prog 15 #[] enc 3 (λx y=>Eg x.1.1 y.1.1) g 0 L.toArray.size w:=λm os dk _ x y=>VN x.1 y.1 _ x.2 y.2
 have hcon:=AnyQ.slices_SortFunc sortF 3 UJ PS enc hk h1c (λx y=>Eg x.1.1 y.1.1) amk 15 #[] g 0 cap L.toArray w eg an8 hH (jf.1 hg).1 (by simp;omega);change Calls prog 14 _ _ _ at hcon;rw[List.size_toArray,hLl]at hcon
 refine hcon.mono ?_
 rintro e w' ⟨rfl,d',n,os,⟨p1,_,p3⟩,p4,rfl⟩;clear hcon
 have hs:d'.size=xs.length:=by rw[p1];simp[hLl]
 have hp:d'.toList.Perm L:=by
  rw[Array.extract_eq_self_of_le (by omega),Array.extract_eq_self_of_le (by simp;omega)]at p3;simpa using p3
 have KY:(d'.toList.map val).Perm xs:=by rw[<-hL];exact hp.map _
 refine⟨rfl,d'.toList.map val,KY,?_,?_,AE _⟩
 · rw[List.pairwise_map,List.pairwise_iff_getElem]
   intro i j hi hj wB;have:=p4 i j (Nat.zero_le _) wB (by simpa[hs]using hj);simp only[ltOf,jF]at this;simp only[Array.length_toList]at hi hj;rw[getElem!_pos d' i hi,getElem!_pos d' j hj]at this;simp only[Array.getElem_toList];rw[O4];rw[Bq]at this;exact this
 rw[KY.length_eq]
 have hF':(flatK enc 3 d').toList=ku (d'.toList.map val):=by rw[C9 enc hk,aaW]
 have adM:(flatK enc 3 d').size=xs.length*3:=by rw[size_flatK,hs]
 refine⟨by rw[<-hF',Array.length_toList,adM],.inr ⟨g,cap,_,rfl,hb,GF _ hg,h1,h2,by simp[putCells,h3],?_⟩⟩;rw[<-adM,BK _ _ (by rw[adM,h3];omega),hF']
open Go.RowKit
abbrev SB(a b:Int):Value:=.agg #[.int .i64 a,.int .i64 b]
theorem zV{a b:Value}(h:W.heap[B]?=some (.cells #[a,b] t (0,0))):W.cell? ⟨B,0,none⟩=some a/\W.cell? ⟨B,1,none⟩=some b/\W.frozen? ⟨B,0,none⟩=false/\W.frozen? ⟨B,1,none⟩=false:=by
 refine⟨cell_of_row _ _ 0 _ t (0,0) h,cell_of_row _ _ 1 _ t (0,0) h,?_,?_⟩<;>simp[World.frozen?,h]
theorem mI{a b c d:Value}(h:W.heap[B]?=some (.cells #[a,b,c,d] t (0,0))):
 W.cell? ⟨B,0,none⟩=some a/\W.cell? ⟨B,1,none⟩=some b/\W.cell? ⟨B,2,none⟩=some c/\W.cell? ⟨B,3,none⟩=some d /\
 W.frozen? ⟨B,0,none⟩=false/\W.frozen? ⟨B,1,none⟩=false/\W.frozen? ⟨B,2,none⟩=false/\W.frozen? ⟨B,3,none⟩=false:=by
 refine⟨cell_of_row _ _ 0 _ t (0,0) h,cell_of_row _ _ 1 _ t (0,0) h,cell_of_row _ _ 2 _ t (0,0) h,cell_of_row _ _ 3 _ t (0,0) h,?_,?_,?_,?_⟩<;>simp[World.frozen?,h]
theorem pY{a b c d e:Value}(h:W.heap[B]?=some (.cells #[a,b,c,d,e] t (0,0))):
 W.cell? ⟨B,0,none⟩=some a/\W.cell? ⟨B,1,none⟩=some b/\W.cell? ⟨B,2,none⟩=some c/\W.cell? ⟨B,3,none⟩=some d/\W.cell? ⟨B,4,none⟩=some e:=by
 refine⟨cell_of_row _ _ 0 _ t (0,0) h,cell_of_row _ _ 1 _ t (0,0) h,cell_of_row _ _ 2 _ t (0,0) h,cell_of_row _ _ 3 _ t (0,0) h,cell_of_row _ _ 4 _ t (0,0) h⟩
theorem Vj{a b c d:Value}(h:W.heap[B]?=some (.cells #[a,b,c,d] t (0,0)))(a' b' c' d':Value):
 ((((W.setCell ⟨B,0,none⟩ a').setCell ⟨B,1,none⟩ b').setCell ⟨B,2,none⟩ c').setCell ⟨B,3,none⟩ d').heap[B]?=some (.cells #[a',b',c',d'] t (0,0)):=by
 unfold World.setCell;simp[Array.getElem?_modify,h]
theorem YV(W:World)(B:Nat)(a b c d:Value):Fr (λk=>k=B) W ((((W.setCell ⟨B,0,none⟩ a).setCell ⟨B,1,none⟩ b).setCell ⟨B,2,none⟩ c).setCell ⟨B,3,none⟩ d):=
 ((((refl (λk=>k=B) W).setCell (a:=⟨B,0,none⟩) (.inl rfl) _).setCell (a:=⟨B,1,none⟩) (.inl rfl) _).setCell (a:=⟨B,2,none⟩) (.inl rfl) _).setCell (a:=⟨B,3,none⟩) (.inl rfl) _
theorem Rm(x:Cr)(w:World):Calls prog 135 #[crV x] w (λe w'=>e=.returned (SB x.a x.c)/\New w w'):=by
 obtain⟨a,b,c,d,p⟩:=x
 go_enter Tryz.func135,Tryz.ntmps135
 go_wp2;have HN:=jd (((refl (λ_=>False) w).alloc (.cells #[.int .i64 a,.int .i64 b,.int .i64 c,.int .i64 d,.bool p] 109)).alloc (.cells #[.int .i64 a,.int .i64 c] 148));have hz:=heap_alloc_new (w.alloc (.cells #[.int .i64 a,.int .i64 b,.int .i64 c,.int .i64 d,.bool p] 109)) (.cells #[.int .i64 a,.int .i64 c] 148);rw[size_alloc]at hz;obtain⟨c1,c2,_⟩:=zV hz;exact bodyPost_ret (v:=SB a c) (by simp[results,Tryz.results135,go_sem,c1,c2]) rfl ⟨rfl,HN.o⟩
def upA(x:Cr):Int:=if x.p then x.d else x.b
def upB(x:Cr):Int:=if x.p then x.b else x.d
theorem Rs(x:Cr)(w:World):Calls prog 136 #[crV x] w (λe w'=>e=.returned (SB (upA x) (upB x))/\New w w'):=by
 obtain⟨a,b,c,d,p⟩:=x
 go_enter Tryz.func136,Tryz.ntmps136
 cases p
 · go_wp2
   have HN:=jd (((refl (λ_=>False) w).alloc (.cells #[.int .i64 a,.int .i64 b,.int .i64 c,.int .i64 d,.bool false] 109)).alloc (.cells #[.int .i64 b,.int .i64 d] 148));have hz:=heap_alloc_new (w.alloc (.cells #[.int .i64 a,.int .i64 b,.int .i64 c,.int .i64 d,.bool false] 109)) (.cells #[.int .i64 b,.int .i64 d] 148);rw[size_alloc]at hz;obtain⟨c1,c2,_⟩:=zV hz;exact bodyPost_ret (v:=SB b d) (by simp[results,Tryz.results136,go_sem,c1,c2]) rfl ⟨rfl,HN.o⟩
 go_wp2;have HN:=jd (((refl (λ_=>False) w).alloc (.cells #[.int .i64 a,.int .i64 b,.int .i64 c,.int .i64 d,.bool true] 109)).alloc (.cells #[.int .i64 d,.int .i64 b] 148));have hz:=heap_alloc_new (w.alloc (.cells #[.int .i64 a,.int .i64 b,.int .i64 c,.int .i64 d,.bool true] 109)) (.cells #[.int .i64 d,.int .i64 b] 148);rw[size_alloc]at hz;obtain⟨c1,c2,_⟩:=zV hz;exact bodyPost_ret (v:=SB d b) (by simp[results,Tryz.results136,go_sem,c1,c2]) rfl ⟨rfl,HN.o⟩
abbrev ab1(x:Cr):Value:=.agg #[.int .i64 x.a,.int .i64 x.c,.int .i64 (upA x),.int .i64 (upB x)]
theorem Ii(x:Cr)(w:World):Calls prog 118 #[crV x] w (λe w'=>e=.returned (ab1 x)/\New w w'):=by
 obtain⟨a,b,c,d,p⟩:=x
 obtain⟨ua,Pf⟩:∃ua,Hd (upA ⟨a,b,c,d,p⟩=ua):=⟨_,jd rfl⟩
 obtain⟨ub,HUB⟩:∃ub,Hd (upB ⟨a,b,c,d,p⟩=ub):=⟨_,jd rfl⟩
 go_enter Tryz.func118,Tryz.ntmps118
 go_wp2;obtain⟨w1,cU⟩:=jb ((w.alloc (.cells #[.int .i64 a,.int .i64 b,.int .i64 c,.int .i64 d,.bool p] 109)).alloc (.cells #[.int .i64 0,.int .i64 0,.int .i64 0,.int .i64 0] 149));rw[<-cU.o]
 have Bf:New w w1:=by rw[cU.o];exact((refl _ w).alloc _).alloc _
 have hb1:w1.heap[w.heap.size]?=some (.cells #[.int .i64 a,.int .i64 b,.int .i64 c,.int .i64 d,.bool p] 109 (0,0)):=by
  rw[cU.o];exact((refl (λ_=>False) _).alloc _).blk (heap_alloc_new w _) λx=>x
 have hb2:w1.heap[w.heap.size+1]?=some (.cells #[.int .i64 0,.int .i64 0,.int .i64 0,.int .i64 0] 149 (0,0)):=by
  have h2:=heap_alloc_new (w.alloc (.cells #[.int .i64 a,.int .i64 b,.int .i64 c,.int .i64 d,.bool p] 109)) (.cells #[.int .i64 0,.int .i64 0,.int .i64 0,.int .i64 0] 149);rw[size_alloc]at h2
  rw[cU.o];exact h2
 have kG:(λw':World=>w'.cell? ⟨w.heap.size,0,none⟩=some (.int .i64 a)/\w'.cell? ⟨w.heap.size,1,none⟩=some (.int .i64 b)/\w'.cell? ⟨w.heap.size,2,none⟩=some (.int .i64 c)/\w'.cell? ⟨w.heap.size,3,none⟩=some (.int .i64 d)/\w'.cell? ⟨w.heap.size,4,none⟩=some (.bool p)) w1.drew:=pY (W:=w1.drew) hb1;have sY:Hd (w1.drew.heap[w.heap.size+1]?=some (.cells #[.int .i64 0,.int .i64 0,.int .i64 0,.int .i64 0] 149 (0,0))):=jd hb2;have iu:Hd (New w w1.drew):=jd Bf.drew
 have oY:Hd (w1.drew.heap[w.heap.size]?=some (.cells #[.int .i64 a,.int .i64 b,.int .i64 c,.int .i64 d,.bool p] 109 (0,0))):=jd hb1;clear hb1 hb2 Bf
 refine wp_region_held_drew (S:=λw'=>w'.cell? ⟨w.heap.size,0,none⟩=some (.int .i64 a)/\w'.cell? ⟨w.heap.size,1,none⟩=some (.int .i64 b)/\w'.cell? ⟨w.heap.size,2,none⟩=some (.int .i64 c)/\w'.cell? ⟨w.heap.size,3,none⟩=some (.int .i64 d)/\w'.cell? ⟨w.heap.size,4,none⟩=some (.bool p)) (by kernel_rfl) kG (λhHeld=>?_)
 clear kG;generalize w1.drew=r0 at hHeld sY iu oY ⊢
 refine' sq 0 (h:=sq 2 (h:=?_))
 refine dQ (i:=1) (λK hK=>?_);(try simp only[aR,aP,aO]);go_simp;refine(Rm ⟨a,b,c,d,p⟩ _).mono ?_;rintro e r1 ⟨rfl,hF⟩;have eU:=jd (hF.blk oY.o λx=>x);have qh:=jd (hF.blk sY.o λx=>x);have gQ:=jd (iu.o.trans hF);clear hF;go_wp2_with fail;refine hK.out _ _ (pY eU.o) (λhHeld=>?_);clear hK K;(try simp only[Act.put,aR,aP,aO,bQ,bP,bO]);refine dQ (i:=3) (λK hK=>?_);(try simp only[aR,aP,aO]);go_simp;refine(Rs ⟨a,b,c,d,p⟩ _).mono ?_;rintro e r2 ⟨rfl,hF⟩;rw[Pf.o,HUB.o]
 have fD:=jd (hF.blk eU.o λx=>x);have lO:=jd (hF.blk qh.o λx=>x);have kZ:=jd (gQ.o.trans hF);clear hF;go_wp2_with fail;refine hK.out _ _ (pY fD.o) (λhHeld=>?_);clear hK K;(try simp only[Act.put,aR,aP,aO,bQ,bP,bO])
 refine' sq 4 (h:=?_)
 refine dQ (i:=5) (λK hK=>?_);(try simp only[aR,aP,aO]);obtain⟨q1,q2,q3,q4,q5,q6,q7,q8⟩:=mI lO.o;go_simp;have HE:=jd (Vj lO.o (.int .i64 a) (.int .i64 c) (.int .i64 ua) (.int .i64 ub));have HF:=jd (YV r2 (w.heap.size+1) (.int .i64 a) (.int .i64 c) (.int .i64 ua) (.int .i64 ub));clear q1 q2 q3 q4 q5 q6 q7 q8;refine hK.out _ _ (pY (HF.o.blk fD.o (by omega))) (λhHeld=>?_);clear hK K;(try simp only[Act.put,aR,aP,aO,bQ,bP,bO]);refine wpAnyH_done (by kernel_rfl) ?_ _;obtain⟨q1,q2,q3,q4,_⟩:=mI HE.o
 have vO:Hd (New w _):=jd (kZ.o.next HF.o λi hi=>.inr (by omega));go_wp2;exact bodyPost_ret (v:=.agg #[.int .i64 a,.int .i64 c,.int .i64 ua,.int .i64 ub]) (by simp[results,Tryz.results118,go_sem,q1,q2,q3,q4]) rfl ⟨by rw[<-Pf.o,<-HUB.o],vO.o⟩
end Go.Proofs.YtfplmbmenjdlhaaGreatDoor
