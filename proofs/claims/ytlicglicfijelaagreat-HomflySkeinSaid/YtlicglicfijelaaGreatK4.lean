/- Walks: slices.SortFunc, SortedFunc of powers. -/
import Derived.Test.YtlicglicfijelaaGreatK2
import Derived.Test.YtlicglicfijelaaGreatShelf
import Derived.Test.YtlicglicfijelaaGreatH8
/- Walks: slices.SortFunc, SortedFunc of powers. -/
namespace Go.Proofs.YtlicglicfijelaaGreat
open Go.RowKit Go.Sort
open Kn (E2 L2 cf)

theorem holds_of_block{w:World}{g:Nat}{cur:Array Value}{e:TypeId}{F:Array Value}(hb:w.heap[g]?=some (.cells cur e (0,0)))(ht:cur.toList.take F.size=F.toList):Holds id w g 0 F:=by
 intro j hj
 refine⟨?_,by simp[World.frozen?,hb]⟩
 have h1:(cur.toList.take F.size)[j]?=F.toList[j]?:=by rw[ht]
 rw[List.getElem?_take_of_lt hj]at h1;simp only[World.cell?,hb,Nat.zero_add];simp only[Option.isSome_none,Bool.false_eq_true,if_false];rw[←Array.getElem?_toList,h1]
 simp[hj]
theorem heap_sortedK{w:World}{g n:Nat}{os:Array Obj}{cur:Array Value}{e:TypeId}{fr:Nat×Nat}(F:Array Value)(hb:w.heap[g]?=some (.cells cur e fr)):
 (grow (putRow id (Sort.ahead w n) g 0 F) os).heap[g]?=some (.cells (putCells id 0 F cur) e fr):=by
 have hg:g<w.heap.size:=(Array.getElem?_eq_some_iff.1 hb).1;rw[heap_grow_old _ _ (by simpa using hg)]
 simp[putRow,mapBlock,Sort.ahead,Array.getElem?_modify,hb,onCells]
theorem grownBy_sortedK{w:World}{g n:Nat}{os:Array Obj}(F:Array Value):w.grownBy (grow (putRow id (Sort.ahead w n) g 0 F) os) (some g):=by
 refine⟨rfl,rfl,rfl,by simp,fun k hk hne=>?_⟩
 rw[heap_grow_old _ _ (by simpa using hk)]
 have:g≠k:=fun e=>hne (by rw[e])
 simp[putRow,mapBlock,Sort.ahead,Array.getElem?_modify,this]
theorem take_putCellsK(cur:Array Value)(F:Array Value)(h:F.size≤cur.size):(putCells id 0 F cur).toList.take F.size=F.toList:=by
 apply List.ext_getElem?
 intro j
 by_cases hj:j<F.size
 · rw[List.getElem?_take_of_lt hj,Array.getElem?_toList]
   simp[putCells,hj,show j<cur.size by omega]
 · rw[List.getElem?_take_eq_none (by omega),List.getElem?_eq_none (by simp;omega)]
theorem flat_get{α:Type}(f:α→List Value)(hf:∀x,(f x).length=2):∀(l:List α) (t:Nat) (h:t / 2<l.length),(l.flatMap f)[t]?=(f l[t / 2])[t%2]?
 |[],t,h=>by simp at h
 |x :: l,t,h=>by
  rw[List.flatMap_cons]
  by_cases c:t<2
  · rw[List.getElem?_append_left (by rw[hf];exact c)]
    have e1:t / 2=0:=by omega
    have e2:t%2=t:=by omega
    simp[e1,e2]
  · rw[List.getElem?_append_right (by rw[hf];omega),hf,flat_get f hf l (t-2) (by simp at h;omega)]
    have e1:t / 2=(t-2) / 2+1:=by omega
    have e2:t%2=(t-2)%2:=by omega
    simp[e1,e2]
theorem flat_len{α:Type}(f:α→List Value)(hf:∀x,(f x).length=2):∀(l:List α),(l.flatMap f).length=l.length*2
 |[]=>rfl
 |x :: l=>by rw[List.flatMap_cons,List.length_append,hf,flat_len f hf l,List.length_cons];omega
theorem flatK_list{α:Type}[Inhabited α](f:α→List Value)(hf:∀x,(f x).length=2)(d:Array α):(flatK f 2 d).toList=d.toList.flatMap f:=by
 apply List.ext_getElem?
 intro t
 by_cases c:t<d.size*2
 · have h2:t / 2<d.size:=by omega
   rw[flat_get f hf d.toList t (by simpa using h2),Array.getElem?_toList,Array.getElem?_eq_getElem (by simpa using c)];have:=get_flatK f 2 d t c;rw[getElem!_pos _ t (by simpa using c),getElem!_pos d _ h2,getElem!_pos _ _ (by rw[hf];omega)]at this;rw[this,List.getElem?_eq_getElem (by rw[hf];omega)]
   simp
 · rw[List.getElem?_eq_none (by simp;omega),List.getElem?_eq_none (by rw[flat_len f hf];simp;omega)]

abbrev PwS:={p:E2 // isPw p}
def pcell(p:E2):List Value:=[.int .i64 p.1,.int .i64 p.2]
theorem cmpP_lt(a b:E2):cmpP a b<0↔Kn.lt2 a b:=by
 obtain⟨a1,a2⟩:=a;obtain⟨b1,b2⟩:=b
 unfold cmpP Kn.lt2
 simp only
 split<;>omega
theorem cmpP_le(a b:E2):cmpP a b≤0↔¬Kn.lt2 b a:=by
 obtain⟨a1,a2⟩:=a;obtain⟨b1,b2⟩:=b
 unfold cmpP Kn.lt2
 simp only
 split<;>omega
theorem swoP:SWO (ltOf fun x y:PwS=>cmpP x.1 y.1) where
 irrefl x:=by
  simp only[ltOf,decide_eq_false_iff_not,cmpP_lt];exact Kn.lt2_irr _
 trans x y z h1 h2:=by
  simp only[ltOf,decide_eq_true_eq,cmpP_lt]at *;exact Kn.lt2_trans h1 h2
 ntrans x y z h1 h2:=by
  simp only[ltOf,decide_eq_false_iff_not,cmpP_lt]at *
  intro h3
  rcases Kn.lt2_tri x.1 y.1 with h|h|h
  · exact h1 h
  · rw[h]at h3;exact h2 h3
  · exact h2 (Kn.lt2_trans h h3)
theorem isAgg51(w:World):(isAgg 56).run Tryz.prog w=.ok true w:=by kernel_rfl
theorem sizeOf51(w:World):(Go.sizeOf 56).run Tryz.prog w=.ok 2 w:=by kernel_rfl
set_option maxHeartbeats 2000000 in
theorem sortP_own(base:Nat)(v:Value)(xs:List E2)(w:World)(ho:w.ownsRow base 56 2 v xs.length (pcells xs))(hv:∀p∈xs,isPw p)(hl:xs.length≤1000000000):
 Calls Tryz.prog 28 #[v,.func (.func 16) #[] #[]] w fun e w'=>e=.returned (.tuple #[])∧∃ys:List E2,ys.Perm xs∧ys.Pairwise (fun a b=>cmpP a b≤0)∧w'.ownsRow base 56 2 v ys.length (pcells ys)∧w.grownBy w' v.ownBlock:=by
 by_cases hts:xs=[]
 · subst hts
   obtain⟨a,c,rfl,_⟩:=own_shape2 ho;refine(AnyF.slices_SortFunc_none Tryz.sortF a c _ w).mono ?_;rintro e w' ⟨rfl,rfl⟩
   exact⟨rfl,[],.refl _,.nil,ho,⟨rfl,rfl,rfl,Nat.le_refl _,fun _ _ _=>rfl⟩⟩
 obtain⟨t0,ht0⟩:∃t,t∈xs:=List.exists_mem_of_ne_nil _ hts
 have hlen:0<xs.length:=List.length_pos_iff.2 hts
 rcases ho.2 with⟨_,h0⟩|⟨g,cap,cur,rfl,hb,hg,h1,h2,h3,h4⟩
 · omega
 haveI:Inhabited PwS:=⟨⟨t0,hv t0 ht0⟩⟩
 obtain⟨L,hL⟩:∃L:List PwS,L.map Subtype.val=xs:=⟨xs.attachWith isPw hv,List.attachWith_map_subtype_val _⟩
 let enc:PwS→List Value:=fun t=>pcell t.1
 have hk:∀x,(enc x).length=2:=fun _=>rfl
 have hLl:L.length=xs.length:=by rw[←hL,List.length_map]
 have hflat:∀M:List PwS,M.flatMap enc=pcells (M.map Subtype.val):=fun M=>by unfold pcells;rw[List.flatMap_map];rfl
 have hF:(flatK enc 2 L.toArray).toList=pcells xs:=by rw[flatK_list enc hk,hflat,List.toList_toArray,hL]
 have hFs:(flatK enc 2 L.toArray).size=xs.length*2:=by rw[size_flatK];simp[hLl]
 have hH:HoldsK enc 2 w g 0 L.toArray:=holds_of_block hg (by rw[hFs,h4,hF])
 have h1c:∀x,∀u∈enc x,u.oneCell'=true:=fun x u hu=>one_pow _ _ u hu
 have eg:∀args w,(callFunc 16 args).run Tryz.prog w=.ok (.enter 16 args) w:=enters_of Tryz.func16 (by kernel_rfl) rfl
 have hcmp:CmpLays Tryz.prog 16 #[] enc 2 (fun x y=>cmpP x.1 y.1) g 0 L.toArray.size w:=fun m os dk _ x y=>cmpP_any x.1 y.1 _ x.2 y.2
 have hcon:=AnyQ.slices_SortFunc Tryz.sortF 2 isAgg51 sizeOf51 enc hk h1c (fun x y=>cmpP x.1 y.1) swoP 16 #[] g 0 cap L.toArray w eg hcmp hH (Array.getElem?_eq_some_iff.1 hg).1 (by simp;omega)
 change Calls Tryz.prog 28 _ _ _ at hcon
 rw[List.size_toArray,hLl]at hcon
 refine hcon.mono ?_
 rintro e w' ⟨rfl,d',n,os,⟨p1,_,p3⟩,p4,rfl⟩;clear hcon
 have hs:d'.size=xs.length:=by rw[p1];simp[hLl]
 have hp:d'.toList.Perm L:=by
  rw[Array.extract_eq_self_of_le (by omega),Array.extract_eq_self_of_le (by simp;omega)]at p3
  simpa using p3
 have hps:(d'.toList.map Subtype.val).Perm xs:=by rw[←hL];exact hp.map _
 refine⟨rfl,d'.toList.map Subtype.val,hps,?_,?_,grownBy_sortedK _⟩
 · rw[List.pairwise_map,List.pairwise_iff_getElem]
   intro i j hi hj hij
   have:=p4 i j (Nat.zero_le _) hij (by simpa[hs]using hj);simp only[ltOf,decide_eq_false_iff_not]at this;simp only[Array.length_toList]at hi hj;rw[getElem!_pos d' i hi,getElem!_pos d' j hj]at this;simp only[Array.getElem_toList];rw[cmpP_le];rw[cmpP_lt]at this
   exact this
 · rw[hps.length_eq]
   have hF':(flatK enc 2 d').toList=pcells (d'.toList.map Subtype.val):=by rw[flatK_list enc hk,hflat]
   have hFs':(flatK enc 2 d').size=xs.length*2:=by rw[size_flatK,hs]
   refine⟨by rw[←hF',Array.length_toList,hFs'],.inr ⟨g,cap,_,rfl,hb,heap_sortedK _ hg,h1,h2,by simp[putCells,h3],?_⟩⟩
   rw[←hFs',take_putCellsK _ _ (by rw[hFs',h3];omega),hF']
theorem appendseq_any(Bm b m:Nat)(D:DataW Unit)(L:L2)(w:World)(hB:Bm<w.heap.size)(hm:w.cell? ⟨Bm,0,none⟩=some (.map (some b)))(hown:w.ownsMap Tryz.prog 56 (plainElem Tryz.prog 3) b m D)(hd:PD D L)(hp:∀t∈L,isPw t.1)(hsz:Maps.size D≤1000000000):
 Calls Tryz.prog 45 #[.slice none 0 0,.func (.func 29) #[] #[.pointer (some ⟨Bm,0,none⟩)]] w fun e w'=>∃v xs,e=.returned v∧KeyS L xs∧w'.ownsRow w.heap.size 56 2 v xs.length (pcells xs)∧New w w':=(callsIn_wide (n:=8)).1 (appendseq_in Bm b m D L w hB hm hown hd hp hsz)
theorem keys_any(mb:Nat)(w:World):Calls Tryz.prog 15 #[.map (some mb)] w fun e w'=>e=.returned (.func (.func 29) #[] #[.pointer (some ⟨w.heap.size,0,none⟩)])∧w'=w.alloc (.cells #[.map (some mb)] 48):=(callsIn_wide (n:=8)).1 (keys_in 8 mb w)
set_option maxHeartbeats 1000000 in
theorem sorted_any(Bm b m:Nat)(D:DataW Unit)(L:L2)(w:World)(hB:Bm<w.heap.size)(hm:w.cell? ⟨Bm,0,none⟩=some (.map (some b)))(hown:w.ownsMap Tryz.prog 56 (plainElem Tryz.prog 3) b m D)(hd:PD D L)(hp:∀t∈L,isPw t.1)(hsz:Maps.size D≤1000000000)(hlen:∀xs,KeyS L xs→xs.length≤1000000000):
 Calls Tryz.prog 14 #[.func (.func 29) #[] #[.pointer (some ⟨Bm,0,none⟩)],.func (.func 16) #[] #[]] w fun e w'=>∃v ys,e=.returned v∧KeyS L ys∧ys.Pairwise (fun a b=>cmpP a b≤0)∧w'.ownsRow w.heap.size 56 2 v ys.length (pcells ys)∧New w w':=by
 have hA:=Lib.hid (appendseq_any Bm b m D L w hB hm hown hd hp hsz);have HP:=Lib.hid hp;have HL:=Lib.hid hlen
 have hC:Calls Tryz.prog 27 #[.func (.func 29) #[] #[.pointer (some ⟨Bm,0,none⟩)]] w fun e w'=>∃v xs,e=.returned v∧KeyS L xs∧w'.ownsRow w.heap.size 56 2 v xs.length (pcells xs)∧New w w':=by
  go_enter Tryz.func27,Tryz.ntmps27
  go_wp2_with fail
  refine hA.out.mono ?_
  rintro e w1 ⟨v,xs,rfl,hk,ho,hF⟩;have HK:=Lib.hid hk;have HO:=Lib.hid ho;have HF:=Lib.hid hF;clear hk ho hF;go_wp2;go_ret
  exact⟨v,xs,rfl,HK.out,HO.out,HF.out⟩
 have HC:=Lib.hid hC;clear hm hown hd hp hlen hC hA
 go_enter Tryz.func14,Tryz.ntmps14
 go_wp2_with fail
 refine HC.out.mono ?_
 rintro e w1 ⟨v,xs,rfl,hk,ho,hF⟩;have HS:=Lib.hid (sortP_own w.heap.size v xs w1 ho (fun p hpm=>by obtain⟨t,ht,rfl⟩:=hk.mem p hpm;exact HP.out t ht) (HL.out xs hk));have HO:=Lib.hid ho;have HK:=Lib.hid hk;have HF:=Lib.hid hF;clear hk ho hF;go_wp2_with fail
 refine HS.out.mono ?_
 rintro e w2 ⟨rfl,ys,hp,hpw,ho2,hg⟩;have HY:Hid (KeyS L ys):=Lib.hid ⟨hp.nodup_iff.2 HK.out.nd,fun p h=>HK.out.mem p (hp.mem_iff.1 h),fun p h=>hp.mem_iff.2 (HK.out.all p h)⟩;have HPW:=Lib.hid hpw;have HO2:=Lib.hid ho2;have HF2:Hid (New w w2):=Lib.hid (HF.out.grown hg fun k e=>.inr (own_lb HO.out k e));clear hp hpw ho2 hg;go_wp2;go_ret
 exact⟨v,ys,rfl,HY.out,HPW.out,HO2.out,HF2.out⟩
end Go.Proofs.YtlicglicfijelaaGreat

/- Words for Homfly: few powers; bounds. -/
namespace Go.Proofs.YtlicglicfijelaaGreat
open Go.RowKit
open Kn (E2 L2 cf szL exB ofL)

def pcode(R:Nat)(p:E2):Nat:=(p.1+R).toNat*(2*R+1)+(p.2+R).toNat
theorem pcode_lt{R:Nat}{p:E2}(h:p.1.natAbs≤R∧p.2.natAbs≤R):pcode R p<(2*R+1)*(2*R+1):=by
 unfold pcode
 have h1:(p.1+R).toNat≤2*R:=by omega
 have h2:(p.2+R).toNat≤2*R:=by omega
 have h3:=Nat.mul_le_mul_right (2*R+1) h1
 have h4:(2*R+1)*(2*R+1)=2*R*(2*R+1)+(2*R+1):=by rw[Nat.add_mul,Nat.one_mul]
 omega
theorem pcode_inj{R:Nat}{p q:E2}(hp:p.1.natAbs≤R∧p.2.natAbs≤R)(hq:q.1.natAbs≤R∧q.2.natAbs≤R)(e:pcode R p=pcode R q):p=q:=by
 unfold pcode at e
 obtain⟨a,ha⟩:∃a,a=(p.1+R).toNat:=⟨_,rfl⟩
 obtain⟨b,hb⟩:∃a,a=(p.2+R).toNat:=⟨_,rfl⟩
 obtain⟨c,hc⟩:∃a,a=(q.1+R).toNat:=⟨_,rfl⟩
 obtain⟨d,hd⟩:∃a,a=(q.2+R).toNat:=⟨_,rfl⟩
 rw[←ha,←hb,←hc,←hd]at e
 have hb2:b<2*R+1:=by omega
 have hd2:d<2*R+1:=by omega
 have e1:a=c:=by
  have h1:(a*(2*R+1)+b) / (2*R+1)=a:=by rw[Nat.add_comm,Nat.add_mul_div_right _ _ (by omega),Nat.div_eq_of_lt hb2];omega
  have h2:(c*(2*R+1)+d) / (2*R+1)=c:=by rw[Nat.add_comm,Nat.add_mul_div_right _ _ (by omega),Nat.div_eq_of_lt hd2];omega
  rw[←h1,←h2,e]
 subst e1
 exact Prod.ext (by omega) (by omega)
theorem pows_few{R:Nat}{l:List E2}(hd:l.Nodup)(hl:∀p∈l,p.1.natAbs≤R∧p.2.natAbs≤R):l.length≤(2*R+1)*(2*R+1):=by
 have h1:(l.map (pcode R)).Nodup:=by
  rw[List.nodup_iff_pairwise_ne,List.pairwise_map];rw[List.nodup_iff_pairwise_ne]at hd
  exact List.Pairwise.imp_of_mem (fun ha hb hne e=>hne (pcode_inj (hl _ ha) (hl _ hb) e)) hd
 have:=Kn.nodup_le h1 (m:=List.range ((2*R+1)*(2*R+1))) fun x hx=>by
  obtain⟨y,hy,rfl⟩:=List.mem_map.1 hx
  exact List.mem_range.2 (pcode_lt (hl y hy))
 simpa using this
theorem KeyS.few{R:Nat}{l:L2}{xs:List E2}(h:KeyS l xs)(he:exB R l):xs.length≤(2*R+1)*(2*R+1):=
 pows_few h.nd fun p hp=>by obtain⟨t,ht,rfl⟩:=h.mem p hp;exact he t ht
theorem PD.few{w:World}{b m R:Nat}{D:DataW Unit}{l:L2}(hown:w.ownsMap Tryz.prog 56 (plainElem Tryz.prog 3) b m D)(hd:PD D l)(he:exB R l):Maps.size D≤(2*R+1)*(2*R+1):=by
 obtain⟨es,rfl,hpw,hk⟩:=hown.entries Tryz.law56
 have hkey:∀e∈es,∃p:E2,keyOf Tryz.prog 56 (pV p)=some e.1∧p.1.natAbs≤R∧p.2.natAbs≤R:=fun e hem=>by
  obtain⟨p,h1,t,ht,rfl⟩:=hd.key e.1 (by
   unfold Maps.has
   simp only[List.any_eq_true]
   exact⟨e,hem,Go.WideAt.sameKey_self (hk e hem)⟩)
  exact⟨_,h1,he t ht⟩
 obtain⟨f,hf⟩:∃f:Lit×DataW Unit→E2,∀e∈es,keyOf Tryz.prog 56 (pV (f e))=some e.1∧(f e).1.natAbs≤R∧(f e).2.natAbs≤R:=by
  classical
  exact⟨fun e=>if h:e∈es then Classical.choose (hkey e h)else(0,0),fun e h=>by simp only[dif_pos h];exact Classical.choose_spec (hkey e h)⟩
 have h1:(es.map f).Nodup:=by
  rw[List.nodup_iff_pairwise_ne,List.pairwise_map]
  refine List.Pairwise.imp_of_mem ?_ hpw
  intro a b ha hb hne e
  have h2:=(hf a ha).1;have h3:=(hf b hb).1;rw[e,h3]at h2
  exact hne (Option.some.inj h2).symm
 have:=pows_few h1 fun p hp=>by
  obtain⟨e,hem,rfl⟩:=List.mem_map.1 hp
  exact(hf e hem).2
 rw[List.length_map]at this
 exact this
theorem strands_few{X:List Kn.Cr}(hX:Kn.Ok X):(Kn.strandsL X).length≤2*X.length∧(1≤X.length→1≤(Kn.strandsL X).length):=by
 have hpf:((Kn.strandsL X).flatten).length=2*X.length:=by rw[(Kn.strands_perm hX).length_eq,Kn.arcs_length];rfl
 have gen:∀ll:List (List Nat),(∀r∈ll,r≠[])→ll.length≤ll.flatten.length:=by
  intro ll
  induction ll with
  |nil=>intro _;simp
  |cons r ll ih=>
   intro hr
   have h2:=ih fun r h=>hr r (by simp[h])
   have h3:0<r.length:=List.length_pos_iff.2 (hr r (by simp))
   rw[List.flatten_cons,List.length_append,List.length_cons];omega
 refine⟨by have:=gen _ (Kn.strands_ne X);omega,fun h=>?_⟩
 cases hc:Kn.strandsL X with
 |nil=>rw[hc]at hpf;simp at hpf;omega
 |cons r ll=>simp
end Go.Proofs.YtlicglicfijelaaGreat
