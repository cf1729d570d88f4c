/- Walks: slide's inner function; slides. -/
import Derived.Test.YtlicglicfijelaaGreatN30a
import Derived.Test.YtlicglicfijelaaGreatTK
import Derived.Maps.RangeWalk
import Derived.WideKeyEntry
import Derived.Test.YtlicglicfijelaaGreatN31
/- Walks: slide's inner function; slides. -/
namespace Go.Proofs.YtlicglicfijelaaGreat
open Go.RowKit
abbrev plV(p:Kn.Pl):Value:=.agg #[.int .i64 (p.1:Nat),.int .i64 (p.2:Nat)]
set_option maxRecDepth 100000 in
set_option maxHeartbeats 1000000 in
theorem across_any(c s:Nat)(w:World)(hs:s<4):Calls Tryz.prog 90 #[.agg #[.int .i64 (c:Nat),.int .i64 (s:Nat)]] w fun e w'=>e=.returned (.agg #[.int .i64 (c:Nat),.int .i64 ((s+2)%4:Nat)])∧New w w':=by
 obtain⟨t,HT⟩:∃t,Hid (t=(s+2)%4):=⟨_,Lib.hid rfl⟩
 have hw:IntKind.i64.wrap ((s:Int)+2)=(s:Int)+2:=IntWalk.i64_in _ (by omega)
 have ht:((s:Int)+2).tmod 4=(t:Int):=by rw[Int.tmod_eq_emod_of_nonneg (by omega)];have:=HT.out;omega
 have ht':((s:Int)+2)%4=(t:Int):=by have:=HT.out;omega
 rw[←HT.out]
 go_enter Tryz.func90,Tryz.ntmps90
 go_wp2_with fail;have hN:New w ((w.alloc (.cells #[.int .i64 (c:Nat),.int .i64 (s:Nat)] 104)).alloc (.cells #[.int .i64 (c:Nat),.int .i64 (t:Nat)] 104)):=((Fr.refl _ w).alloc _).alloc _;have h:=heap_alloc_new (w.alloc (.cells #[.int .i64 (c:Nat),.int .i64 (s:Nat)] 104)) (.cells #[.int .i64 (c:Nat),.int .i64 (t:Nat)] 104);rw[World.size_alloc]at h;obtain⟨y1,y2,_⟩:=box2_c h
 exact bodyPost_ret (v:=.agg #[.int .i64 (c:Nat),.int .i64 (t:Nat)]) (by simp[results,Tryz.results90,go_sem,y1,y2]) rfl ⟨rfl,hN⟩
end Go.Proofs.YtlicglicfijelaaGreat

/- Walks: slides. -/
namespace Go.Proofs.YtlicglicfijelaaGreat
open Go.RowKit

def EndsMap(W:World)(mb k:Nat)(N:List Nat):Prop:=
 ∃D:DataW Unit,W.ownsMap Tryz.prog 3 (plainElem Tryz.prog 4) mb k D∧Maps.IsMap D∧Maps.size D=N.length∧∀x:Nat,Maps.has D (.int .i64 (x:Nat))=decide (x∈N)
theorem EndsMap.made(w:World):EndsMap (w.alloc (.map #[] 0)) w.heap.size 0 []:=⟨_,World.ownsMap_made _ _ _ _,Maps.isMap_empty,rfl,fun x=>by rw[decide_eq_false (by simp)];rfl⟩
theorem EndsMap.fr{S:Nat→Prop}{W W':World}{mb k:Nat}{N:List Nat}(h:EndsMap W mb k N)(hf:Fr S W W')(hs:¬S mb):EndsMap W' mb k N:=by
 obtain⟨D,⟨es,ck,hb,r⟩,h1⟩:=h
 exact⟨D,⟨es,ck,(hf.block mb (Array.getElem?_eq_some_iff.1 hb).1 hs).trans hb,r⟩,h1⟩
theorem EndsMap.block{W:World}{mb k:Nat}{N:List Nat}(h:EndsMap W mb k N):∃es ck,W.heap[mb]?=some (.map es ck):=by
 obtain⟨D,⟨es,ck,hb,_⟩,_⟩:=h
 exact⟨es,ck,hb⟩
theorem meet_in{N:List Nat}{x:Nat}(h:x∈N):Kn.meet N x=N:=by unfold Kn.meet;rw[if_pos h]
theorem meet_out{N:List Nat}{x:Nat}(h:x∉N):Kn.meet N x=N++[x]:=by unfold Kn.meet;rw[if_neg h]
theorem EndsMap.put{W':World}{mb k x:Nat}{N:List Nat}{D:DataW Unit}(h1:Maps.IsMap D)(ht:Maps.Tidy D)(hs:Maps.size D=N.length)(h2:∀x:Nat,Maps.has D (.int .i64 (x:Nat))=decide (x∈N))
 (ho:W'.ownsMap Tryz.prog 3 (plainElem Tryz.prog 4) mb (k+1) (D.put (.int .i64 (x:Nat)) (.lit (.bool true)))):EndsMap W' mb (k+1) (Kn.meet N x):=by
 have hk:WideAt.IsKeyLit (.int .i64 (x:Nat)):=trivial
 refine⟨_,ho,h1.put _ _,?_,fun z=>?_⟩
 · rw[Maps.size_put ht,h2 x]
   by_cases c:x∈N
   · rw[decide_eq_true c,if_pos rfl,hs,meet_in c]
   · rw[decide_eq_false c,if_neg (by simp),hs,meet_out c,List.length_append,List.length_singleton]
 · have hm:z∈Kn.meet N x↔z=x∨z∈N:=by
    by_cases c:x∈N
    · rw[meet_in c];exact⟨.inr,fun h=>h.elim (fun e=>e ▸ c) id⟩
    · rw[meet_out c];simp[or_comm]
   by_cases c:z=x
   · subst c
     rw[Maps.has_put_same h1 hk,decide_eq_true (hm.2 (.inl rfl))]
   · have hne:(Lit.int .i64 (z:Nat))≠.int .i64 (x:Nat):=fun e=>c (by injection e with _ e;omega)
     rw[Maps.has_put_other hne,h2 z,decide_eq_decide,hm]
     exact⟨.inr,fun h=>h.elim (fun e=>absurd e c) id⟩
theorem meets_nodup(a b c:Nat):(Kn.meet (Kn.meet (Kn.meet [] a) b) c).length=3↔[a,b,c].Nodup:=by
 unfold Kn.meet
 by_cases h1:b=a
 · subst h1
   by_cases h2:c=b
   · subst h2;simp
   · simp[h2]
 · by_cases h2:c=a
   · subst h2;simp[h1]
   · by_cases h3:c=b
     · subst h3;simp[h1]
     · have h4:¬a=b:=fun e=>h1 e.symm
       have h5:¬a=c:=fun e=>h2 e.symm
       have h6:¬b=c:=fun e=>h3 e.symm
       simp[h1,h2,h3,h4,h5,h6]
def endsTo(X:List Kn.Cr)(f:List Kn.Dt)(k:Nat):List Nat:=(f.take k).foldl (fun N d=>Kn.meet N (Kn.head X (d.1,!d.2)).1) []
theorem endsTo_succ{X:List Kn.Cr}{f:List Kn.Dt}{k:Nat}(h:k<f.length):endsTo X f (k+1)=Kn.meet (endsTo X f k) (Kn.head X ((f[k]).1,!(f[k]).2)).1:=by
 unfold endsTo
 rw[List.take_succ_eq_append_getElem h,List.foldl_append];rfl
def cntA(X:List Kn.Cr)(f:List Kn.Dt)(k:Nat):Nat:=(f.take k).countP fun d=>ovA X d.1
def cntB(X:List Kn.Cr)(f:List Kn.Dt)(k:Nat):Nat:=(f.take k).countP fun d=>ovB X d.1
theorem cntA_succ{X:List Kn.Cr}{f:List Kn.Dt}{k:Nat}(h:k<f.length):cntA X f (k+1)=cntA X f k+if ovA X (f[k]).1 then 1 else 0:=by
 unfold cntA
 rw[List.take_succ_eq_append_getElem h,List.countP_append];simp[List.countP_cons]
theorem cntB_succ{X:List Kn.Cr}{f:List Kn.Dt}{k:Nat}(h:k<f.length):cntB X f (k+1)=cntB X f k+if ovB X (f[k]).1 then 1 else 0:=by
 unfold cntB
 rw[List.take_succ_eq_append_getElem h,List.countP_append];simp[List.countP_cons]
theorem slides_eq{X:List Kn.Cr}{f:List Kn.Dt}(h:f.length=3):Kn.slidesB X f=(decide ((endsTo X f 3).length=3)&&decide (cntA X f 3=1)&&decide (cntB X f 3=1)):=by
 match f,h with
 |[d,e,g],_=>
  unfold Kn.slidesB
  have e1:(endsTo X [d,e,g] 3).length=3↔([d,e,g].map fun d=>(Kn.head X (d.1,!d.2)).1).Nodup:=meets_nodup _ _ _;rw[decide_eq_decide.2 e1]
  rfl
end Go.Proofs.YtlicglicfijelaaGreat

/- Walks: slides, its walk. -/
namespace Go.Proofs.YtlicglicfijelaaGreat
open Go.RowKit
theorem BeAt.kept{w w':World}{b s:Nat}{fv:Value}{X:List Kn.Cr}{L:Int}{mb:Nat}{es:Array MapEntry}{ck:Nat}(h:BeAt w b s fv X L)(hF:Fr (fun k=>k=mb) w w')(hn:∀{B t:Nat} {cs:Array Value},w.heap[B]?=some (.cells cs t (0,0))→¬B=mb)(hmb:w.heap[mb]?=some (.map es ck)):BeAt w' b s fv X L:=by
 obtain⟨v,bi,bo,base,sh⟩:=h.sh
 refine⟨hF.blk h.blk (hn h.blk),v,bi,bo,base,sh.kept hF (hn sh.blk) ?_ ?_ ?_⟩
 · obtain⟨cs,h1,_⟩:=sh.ri;exact hn h1
 · obtain⟨cs,h1,_⟩:=sh.ro;exact hn h1
 · intro k hk e
   subst e
   exact own_not_map sh.own hmb _ hk rfl
set_option maxRecDepth 100000 in
set_option maxHeartbeats 4000000 in
theorem slides_any(b s:Nat)(fv v:Value)(X:List Kn.Cr)(L:Int)(f:List Kn.Dt)(w:World)(h:BeAt w b s fv X L)(hX:Kn.Ok X)(hl:X.length≤16)(ho:OwnD w v f)(hf:∀d∈f,Kn.isArc X d.1):
 Calls Tryz.prog 89 #[.pointer (some ⟨b,0,none⟩),v] w (fun e w'=>e=.returned (.bool (Kn.slidesB X f))∧New w w'):=by
 have HX:=Lib.hid hX;have HH:=Lib.hid h;have HF:=Lib.hid hf;have HO:=Lib.hid ho;obtain⟨a,c,rfl,hcs⟩:=ho.cells;have HCS:=Lib.hid hcs
 obtain⟨n,HN⟩:∃n,Hid (n=f.length):=⟨_,Lib.hid rfl⟩
 rw[←HN.out]at HO ⊢;clear h hX ho hf hcs
 by_cases h3:n=3
 · obtain⟨r,HR⟩:∃r,Hid (Kn.slidesB X f=r):=⟨_,Lib.hid rfl⟩
   rw[HR.out];subst h3;have HF3:Hid (f.length=3):=Lib.hid HN.out.symm;clear HN
   have hfld:∀(x y:Int) (w:World),(Instr.field 104 (.agg #[.int .i64 x,.int .i64 y]) 0).run Tryz.prog w=.ok (.int .i64 x) w:=fun x y w=>by kernel_rfl
   have hmm:=@run_makeMap Tryz.prog
   go_enter Tryz.func89,Tryz.ntmps89
   go_wp2_with fail
   obtain⟨mb,HMB⟩:∃mb,Hid (mb=w.heap.size):=⟨_,Lib.hid rfl⟩
   have hmw:w.heap.size≤mb:=by have:=HMB.out;omega
   obtain⟨w0,HW0⟩:∃w0,Hid (w0=w.alloc (.map #[] 0)):=⟨_,Lib.hid rfl⟩
   have HE:Hid (EndsMap w0 mb 0 []):=Lib.hid (by rw[HW0.out,HMB.out];exact EndsMap.made w);have HNW:Hid (New w w0):=Lib.hid (by rw[HW0.out];exact(Fr.refl _ w).alloc _);rw[←HW0.out,←HMB.out];clear HW0 HMB
   go_loopw [6,7,18] (fun s6 s7 s18 wr=>∃k:Nat,k≤3∧s18=.int .i64 k∧s6=.int .i64 (cntA X f k:Nat)∧s7=.int .i64 (cntB X f k:Nat)∧Hid (EndsMap wr mb k (endsTo X f k))∧Hid (New w wr)) (fun _ _ i _=>3-(intOf i).toNat)
   case atStart=>exact⟨0,by omega,rfl,rfl,rfl,HE,HNW⟩
   case round=>
    obtain⟨k,hk,rfl,rfl,rfl,HE,HNW⟩:=hrel
    obtain⟨ca,HCA⟩:∃z,Hid (z=cntA X f k):=⟨_,Lib.hid rfl⟩
    obtain⟨cb,HCB⟩:∃z,Hid (z=cntB X f k):=⟨_,Lib.hid rfl⟩
    have hca:ca≤3:=by rw[HCA.out];unfold cntA;exact Nat.le_trans (List.countP_le_length ..) (by rw[List.length_take,HF3.out];omega)
    have hcb:cb≤3:=by rw[HCB.out];unfold cntB;exact Nat.le_trans (List.countP_le_length ..) (by rw[List.length_take,HF3.out];omega)
    rw[←HCA.out,←HCB.out]
    by_cases hlt:k<3
    · have hkl:k<f.length:=by rw[HF3.out];exact hlt
      obtain⟨g,rfl,hcell⟩:=HCS.out.resolve_left (fun e=>by rw[e]at hkl;simp at hkl);obtain⟨c1,c2⟩:=hcell k hkl
      obtain⟨x,HXD⟩:∃x,Hid (x=(f[k]).1):=⟨_,Lib.hid rfl⟩
      obtain⟨xb,HXB⟩:∃x,Hid (x=(f[k]).2):=⟨_,Lib.hid rfl⟩
      rw[←HXD.out]at c1;rw[←HXB.out]at c2
      have c1':=HNW.out.cell c1 fun x=>x
      have c2':=HNW.out.cell c2 fun x=>x
      have HAX:Hid (Kn.isArc X x):=Lib.hid (by rw[HXD.out];exact HF.out _ (List.getElem_mem hkl))
      obtain⟨⟨pc,ps⟩,HP⟩:∃p,Hid (Kn.head X (x,!xb)=p):=⟨_,Lib.hid rfl⟩
      have hpc:pc<X.length:=by have:=(HX.out.isPl_head (d:=(x,!xb)) HAX.out).1;rw[HP.out]at this;exact this
      have i1:(0:Int)≤(k:Int):=by omega
      have i2:(k:Int)<3:=by omega
      clear c1 c2 hcell;go_upto_region 8 with fail;clear c1' c2'
      obtain⟨B9,HB9⟩:∃B,Hid (B=wr.heap.size):=⟨_,Lib.hid rfl⟩
      obtain⟨w1,HW1⟩:∃w1,Hid (w1=wr.alloc (.cells #[.int .i64 (x:Nat),.bool xb] 26)):=⟨_,Lib.hid rfl⟩
      have hN1:New wr w1:=by rw[HW1.out];exact(Fr.refl _ wr).alloc _
      have HD:Hid (w1.heap[B9]?=some (.cells #[.int .i64 (x:Nat),.bool xb] 26 (0,0))):=Lib.hid (by rw[HW1.out,HB9.out];exact heap_alloc_new _ _);have HE1:=Lib.hid (HE.out.fr hN1 fun x=>x);have HN1:=Lib.hid (HNW.out.trans hN1);rw[←HW1.out,←HB9.out];clear hN1 HW1 HB9 HE HNW
      have HSS:Hid (∀wz:World,BeAt wz b s fv X L→wz.heap[B9]?=some (.cells #[.int .i64 (x:Nat),.bool xb] 26 (0,0))→wz.cell? ⟨b,0,none⟩=some (.pointer (some ⟨s,0,none⟩))∧wz.cell? ⟨B9,0,none⟩=some (.int .i64 (x:Nat))∧wz.cell? ⟨B9,1,none⟩=some (.bool xb)):=Lib.hid fun wz h1 h2=>by
       obtain⟨k0,k1,_⟩:=box2_c h2
       exact⟨h1.c.1,k0,k1⟩
      have CT:Hid (∀r,BeAt r b s fv X L→Calls Tryz.prog 87 #[.pointer (some ⟨s,0,none⟩),.agg #[.int .i64 (x:Nat),.bool xb]] r (fun e w'=>e=.returned (.agg #[.int .i64 (pc:Nat),.int .i64 (ps:Nat)])∧New r w')):=Lib.hid fun r hr=>by
       have h1:=tail_any s x xb X L r hr.sh hl HAX.out
       rw[HP.out]at h1;exact h1
      go_wp2_with fail;have HN0:Hid (New w w1.drew):=Lib.hid HN1.out.drew;have HB0:Hid (BeAt w1.drew b s fv X L):=Lib.hid (HH.out.new HN0.out);have HD0:Hid (w1.drew.heap[B9]?=some (.cells #[.int .i64 (x:Nat),.bool xb] 26 (0,0))):=Lib.hid HD.out;have HE0:Hid (EndsMap w1.drew mb k (endsTo X f k)):=Lib.hid (HE1.out.fr (Fr.refl (fun _=>False) w1).drew fun x=>x);have hS0:=HSS.out _ HB0.out HD0.out
      refine wp_region_held_drew (S:=fun wz=>wz.cell? ⟨b,0,none⟩=some (.pointer (some ⟨s,0,none⟩))∧wz.cell? ⟨B9,0,none⟩=some (.int .i64 (x:Nat))∧wz.cell? ⟨B9,1,none⟩=some (.bool xb)) (by kernel_rfl) hS0 (fun hHeld=>?_)
      clear hS0 HD HE1 HN1;generalize w1.drew=r0 at hHeld HN0 HB0 HD0 HE0 ⊢
      refine' sq 0 (h:=sq 1 (h:=sq 2 (h:=sq 3 (h:=sq 4 (h:=sq 5 (h:=?_))))))
      refine rdO (i:=6) (fun K hK=>?_);(try simp only[lq1,lq2,lq3]);go_simp;refine(CT.out _ HB0.out).mono ?_;rintro e r1 ⟨rfl,hN⟩;have HN1:=Lib.hid (HN0.out.trans hN);have HB1:=Lib.hid (HB0.out.new hN);have HD1:=Lib.hid (hN.blk HD0.out fun x=>x);have HE1:=Lib.hid (HE0.out.fr hN fun x=>x);clear hN;go_wp2_with fail;refine hK.out _ _ (HSS.out _ HB1.out HD1.out) (fun hHeld=>?_);clear hK K;(try simp only[Act.put,lq1,lq2,lq3,lq4,lq5,lq6])
      refine' sq 7 (h:=?_)
      refine rdO (i:=8) (fun K hK=>?_);(try simp only[lq1,lq2,lq3]);rw[if_pos (by rfl)];obtain⟨es,ck,hmb⟩:=HE1.out.block;obtain⟨DD,hown,h1,hs,h2⟩:=HE1.out;have ht:=hown.tidy Tryz.law3
      refine wp_mapUpdate_own _ _ _ _ 94 rfl 3 4 Tryz.law3 Tryz.ul94 _ mb k _ rfl hown (by unfold maxLen;omega) _ _ _ rfl rfl (Maps.keyOf_int_mk Tryz.underlying3 (wfN (x:=pc) (by omega))) _ [] (plainElem_bool Tryz.ul4 true) ?_
      intro w6 hown6 hg6
      have HE6:Hid (EndsMap w6 mb (k+1) (Kn.meet (endsTo X f k) pc)):=Lib.hid (EndsMap.put h1 ht hs h2 hown6)
      have hF6:Fr (fun k=>k=mb) r1 w6:=(Fr.refl (fun k=>k=mb) r1).grown hg6 fun k e=>.inl (Option.some.inj e).symm
      have hnb:∀{B t:Nat} {cs:Array Value},r1.heap[B]?=some (.cells cs t (0,0))→¬B=mb:=fun hb e=>by subst e;rw[hb]at hmb;cases hmb
      have HB6:Hid (BeAt w6 b s fv X L):=Lib.hid (HB1.out.kept hF6 (fun hb=>hnb hb) hmb);have HD6:=Lib.hid (hF6.blk HD1.out (hnb HD1.out));have HN6:Hid (New w w6):=Lib.hid (HN1.out.next hF6 fun i hi=>.inr (by rw[hi];exact hmw));clear hown h1 hs h2 ht hown6 hg6 hF6 hnb hmb;refine hK.out _ _ (HSS.out _ HB6.out HD6.out) (fun hHeld=>?_);clear hK K;(try simp only[Act.put,lq1,lq2,lq3,lq4,lq5,lq6]);refine wpAnyH_done (by kernel_rfl) ?_ _;(try dsimp only)
      obtain⟨pA,HPA⟩:∃p,Hid (ovA X x=p):=⟨_,Lib.hid rfl⟩
      obtain⟨pB,HPB⟩:∃p,Hid (ovB X x=p):=⟨_,Lib.hid rfl⟩
      obtain⟨k0,k1,_⟩:=box2_c HD6.out
      have hw1:IntKind.i64.wrap ((ca:Int)+1)=((ca+1:Nat):Int):=by rw[IntWalk.i64_in _ (by omega)];rfl
      have hw2:IntKind.i64.wrap ((cb:Int)+1)=((cb+1:Nat):Int):=by rw[IntWalk.i64_in _ (by omega)];rfl
      have HSA:Hid (cntA X f (k+1)=ca+if pA then 1 else 0):=Lib.hid (by rw[cntA_succ hkl,←HCA.out,←HXD.out,HPA.out]);have HSB:Hid (cntB X f (k+1)=cb+if pB then 1 else 0):=Lib.hid (by rw[cntB_succ hkl,←HCB.out,←HXD.out,HPB.out])
      have HSE:Hid (endsTo X f (k+1)=Kn.meet (endsTo X f k) pc):=Lib.hid (by
       rw[endsTo_succ hkl,←HXD.out,←HXB.out,HP.out])
      have HE7:Hid (EndsMap w6 mb (k+1) (endsTo X f (k+1))):=Lib.hid (by rw[HSE.out];exact HE6.out);clear HE6 hHeld;go_wp2_with fail;refine(over_any b s fv X L x w6 HB6.out hl HAX.out).mono ?_;rintro e w7 ⟨rfl,hN⟩;rw[HPA.out,HPB.out];have HN7:=Lib.hid (HN6.out.trans hN);have HE8:=Lib.hid (HE7.out.fr hN fun x=>x);clear hN k0 k1
      cases pA<;>cases pB
      rotate_left
      rotate_left
      rotate_left
      all_goals
       go_wp2_with fail
       go_roundw
       case rel=>exact⟨k+1,by omega,by go_num,by rw[HSA.out];rfl,by rw[HSB.out];rfl,HE8,HN7⟩
       case measure=>simp[intOf];omega
    · obtain rfl:k=3:=by omega
      have HRR:Hid (r=(decide ((endsTo X f 3).length=3)&&decide (ca=1)&&decide (cb=1))):=Lib.hid (by
       rw[←HR.out,slides_eq HF3.out,HCA.out,HCB.out])
      obtain⟨DD,hown,h1,hs,h2⟩:=HE.out;have hlen:=hown.len Tryz.ul94 3;rw[hs]at hlen
      obtain⟨z,HZ⟩:∃z,Hid (z=(endsTo X f 3).length):=⟨_,Lib.hid rfl⟩
      rw[←HZ.out]at hlen HRR;clear hown h1 hs h2
      obtain⟨q1,HQ1⟩:∃q,Hid (decide (z=3)=q):=⟨_,Lib.hid rfl⟩
      obtain⟨q2,HQ2⟩:∃q,Hid (decide (ca=1)=q):=⟨_,Lib.hid rfl⟩
      obtain⟨q3,HQ3⟩:∃q,Hid (decide (cb=1)=q):=⟨_,Lib.hid rfl⟩
      have e1:((z:Int)==3)=q1:=by rw[←HQ1.out,Bool.eq_iff_iff];simp;omega
      have e2:((ca:Int)==1)=q2:=by rw[←HQ2.out,Bool.eq_iff_iff];simp;omega
      have e3:((cb:Int)==1)=q3:=by rw[←HQ3.out,Bool.eq_iff_iff];simp;omega
      rw[HQ1.out,HQ2.out,HQ3.out]at HRR
      cases q1
      · go_wp2
        go_ret
        exact⟨ret_bool (by rw[HRR.out];rfl),HNW.out⟩
      · cases q2
        · go_wp2
          go_ret
          exact⟨ret_bool (by rw[HRR.out];rfl),HNW.out⟩
        · go_wp2
          go_ret
          exact⟨ret_bool (by rw[HRR.out];rfl),HNW.out⟩
 · have hb:((n:Int) != 3)=true:=by simp;omega
   have hs:Kn.slidesB X f=false:=by
    unfold Kn.slidesB
    rw[decide_eq_false (show ¬f.length=3 by have:=HN.out;omega)];rfl
   rw[hs];clear hs
   go_enter Tryz.func89,Tryz.ntmps89
   go_wp2;go_ret
   exact⟨rfl,Fr.refl _ _⟩
end Go.Proofs.YtlicglicfijelaaGreat

/- Walks: words for a map keyed by places. -/
namespace Go.Proofs.YtlicglicfijelaaGreat
open Go.RowKit Go.Shelf
open Go.ChangeMaps (setBlock heap_setBlock_same heap_setBlock_other)
open Go.WideMaps (KeyLaw)
open Go.WideElems (entry_then_store)

theorem Tryz.row104:(104:TypeId)<Tryz.prog.types.size:=of_decide_eq_true (by kernel_rfl)
theorem Tryz.wide104:(match Tryz.prog.underlying 104 with|some (.array _ _)|some (.struct _)=>true|_=>false)=true:=by kernel_rfl
theorem Tryz.key104:Tryz.prog.keyTypeAt 2 104=true:=by kernel_rfl
set_option maxRecDepth 10000 in
theorem Tryz.klaw104:KeyLaw Tryz.prog 104:=deep_law_laid Tryz.laidOut (m:=2) (by omega) Tryz.row104 Tryz.key104 Tryz.wide104
theorem Tryz.law104:Maps.Keyed Tryz.prog 104:=Maps.Keyed.of_law Tryz.klaw104
theorem Tryz.ul154:Tryz.prog.underlying 154=some (.map 104 3):=by kernel_rfl
theorem plKeys_all:((List.range 16).all fun a=>(List.range 4).all fun s=>(keyOf Tryz.prog 104 (plV (a,s))).isSome)=true:=by kernel_rfl
theorem plKey(p:Kn.Pl)(h:p.1<16)(k:p.2<4):∃l,keyOf Tryz.prog 104 (plV p)=some l:=by
 have:=List.all_eq_true.1 (List.all_eq_true.1 plKeys_all p.1 (List.mem_range.2 h)) p.2 (List.mem_range.2 k)
 exact Option.isSome_iff_exists.1 this
theorem plV_inj{p q:Kn.Pl}(h:plV p=plV q):p=q:=by
 obtain⟨a,b⟩:=p;obtain⟨c,d⟩:=q;simp only[plV,Value.agg.injEq,Array.mk.injEq,List.cons.injEq,Value.int.injEq,true_and,and_true,Int.ofNat_inj]at h;rw[h.1,h.2]
structure NowD(D:DataW Unit)(f:Kn.Pl→Option Nat):Prop where
 isMap:Maps.IsMap D
 has:∀p kl,keyOf Tryz.prog 104 (plV p)=some kl→Maps.has D kl=(f p).isSome
 val:∀p kl v,keyOf Tryz.prog 104 (plV p)=some kl→f p=some v→∀zd,D.atKey kl zd=.lit (.int .i64 (v:Nat))
 key:∀kl,Maps.has D kl=true→∃p,keyOf Tryz.prog 104 (plV p)=some kl∧(f p).isSome=true
def NowMap(W:World)(mb n:Nat)(f:Kn.Pl→Option Nat):Prop:=∃D:DataW Unit,W.ownsMap Tryz.prog 104 (plainElem Tryz.prog 3) mb n D∧NowD D f
def putF(f:Kn.Pl→Option Nat)(p:Kn.Pl)(v:Nat)(q:Kn.Pl):Option Nat:=if q=p then some v else f q
theorem NowD.empty:NowD (.map []) (fun _=>none):=⟨Maps.isMap_empty,fun _ _ _=>rfl,(fun _ _ _ _ h=>by cases h),(fun _ h=>by cases h)⟩
theorem NowD.put{D:DataW Unit}{f:Kn.Pl→Option Nat}(h:NowD D f){p:Kn.Pl}{v:Nat}{kl:Lit}(hk:keyOf Tryz.prog 104 (plV p)=some kl):NowD (D.put kl (.lit (.int .i64 (v:Nat)))) (putF f p v):=by
 have hkl:=Tryz.law104.key hk
 have ne:∀q k,keyOf Tryz.prog 104 (plV q)=some k→q≠p→k≠kl:=fun q k hq hn e=>hn (plV_inj (Tryz.law104.inj (e ▸ hq) hk))
 refine⟨h.isMap.put _ _,fun q k hq=>?_,fun q k u hq hu zd=>?_,fun k hx=>?_⟩
 · unfold putF
   by_cases c:q=p
   · subst c
     rw[hk]at hq;cases hq
     rw[Maps.has_put_same h.isMap hkl,if_pos rfl];rfl
   · rw[Maps.has_put_other (ne q k hq c),if_neg c,h.has q k hq]
 · unfold putF at hu
   by_cases c:q=p
   · subst c
     rw[hk]at hq;cases hq
     rw[if_pos rfl]at hu;cases hu
     rw[Maps.atKey_put_same h.isMap hkl]
   · rw[if_neg c]at hu
     rw[Maps.atKey_put_other (ne q k hq c),h.val q k u hq hu]
 · by_cases c:k=kl
   · subst c
     exact⟨p,hk,by unfold putF;rw[if_pos rfl];rfl⟩
   · rw[Maps.has_put_other c]at hx
     obtain⟨q,hq,hs⟩:=h.key k hx
     refine⟨q,hq,?_⟩
     unfold putF
     split
     · rfl
     · exact hs
theorem NowMap.made(w:World):NowMap (w.alloc (.map #[] 0)) w.heap.size 0 fun _=>none:=⟨_,World.ownsMap_made _ _ _ _,NowD.empty⟩
theorem NowMap.fr{S:Nat→Prop}{W W':World}{mb n:Nat}{f:Kn.Pl→Option Nat}(h:NowMap W mb n f)(hf:Fr S W W')(hs:¬S mb):NowMap W' mb n f:=by
 obtain⟨D,⟨es,ck,hb,r⟩,h1⟩:=h
 exact⟨D,⟨es,ck,(hf.block mb (Array.getElem?_eq_some_iff.1 hb).1 hs).trans hb,r⟩,h1⟩
theorem NowMap.block{W:World}{mb n:Nat}{f:Kn.Pl→Option Nat}(h:NowMap W mb n f):∃es ck,W.heap[mb]?=some (.map es ck):=by
 obtain⟨D,⟨es,ck,hb,_⟩,_⟩:=h
 exact⟨es,ck,hb⟩
theorem NowMap.entry{W:World}{mb n:Nat}{f:Kn.Pl→Option Nat}(h:NowMap W mb n f)(hn:n<maxLen){p:Kn.Pl}(h1:p.1<16)(h2:p.2<4)(v:Nat)(hv:v≤1000):
 ∃(v0:Value) (st:Int) (W1 W2:World),(Instr.mapEntry 154 (.map (some mb)) (plV p)).run Tryz.prog W=.ok (.tuple #[v0,.int .i64 st]) W1∧Fr (fun k=>k=mb) W W1∧(∃es ck,W1.heap[mb]?=some (.map es ck)) ∧
  (Instr.entryStore 154 (.map (some mb)) (.int .i64 st) (.int .i64 (v:Nat))).run Tryz.prog W1=.ok () W2∧NowMap W2 mb (n+1) (putF f p v)∧Fr (fun k=>k=mb) W W2:=by
 obtain⟨D,hown,hd⟩:=h;obtain⟨kl,hk⟩:=plKey p h1 h2;have hpl:plainElem (H:=Unit) Tryz.prog 3 (.int .i64 (v:Nat))=some (.lit (.int .i64 (v:Nat)),[]):=plainElem_int Tryz.underlying3 (wfN (x:=v) (by omega));obtain⟨w',hrun,ho',hg'⟩:=hown.update Tryz.law104 Tryz.ul154 hn hk hpl;obtain⟨es,ck,hb,F,_⟩:=hown;obtain⟨v0,st,es1,ck1,hr1,_,hst⟩:=entry_then_store (w:=W) Tryz.klaw104 Tryz.ul154 (fun u=>Tryz.zero3' u) hb F hk;have hb1:(setBlock W mb (.map es1 ck1)).heap[mb]?=some (.map es1 ck1):=heap_setBlock_same hb _
 obtain⟨es',ck',hr2,hr3⟩:=hst (setBlock W mb (.map es1 ck1)) (.int .i64 (v:Nat)) hb1;rw[setBlock_twice]at hr2
 have e:w'=setBlock W mb (.map es' ck'):=by
  rw[hrun]at hr3;cases hr3;rfl
 have hF:∀o,Fr (fun k=>k=mb) W (setBlock W mb o):=fun o=>⟨rfl,rfl,rfl,by simp[setBlock],fun i _ hi=>heap_setBlock_other hb _ (fun e=>hi e)⟩
 refine⟨v0,st,_,_,hr1,hF _,⟨_,_,hb1⟩,hr2,⟨_,?_,hd.put hk⟩,hF _⟩
 rw[←e];exact ho'
end Go.Proofs.YtlicglicfijelaaGreat

/- What the map of a slide tells: plain mathematics. -/
namespace Go.Proofs.YtlicglicfijelaaGreat
open Kn

def nowS(X:List Cr)(f:Pl→Option Nat)(e:Nat):Pl→Option Nat:=
 putF (putF (putF (putF f (inP X e) (arcN X (acr (outP X e)))) (acr (inP X e)) e) (acr (outP X e)) e) (outP X e) (arcN X (acr (inP X e)))
def nowF(X:List Cr)(es:List Nat):Pl→Option Nat:=es.foldl (nowS X) fun _=>none
theorem nowF_snoc(X:List Cr)(es:List Nat)(e:Nat):nowF X (es++[e])=nowS X (nowF X es) e:=by unfold nowF;rw[List.foldl_append];rfl
section
variable {X:List Cr} {D:Nat→Dt} {es:List Nat}
theorem nowS_eq(h:Tri X D)(i:Nat)(f:Pl→Option Nat)(p:Pl):nowS X f (D i).1 p=if onE X (D i).1 p then some (arcN X (tau1 X (D i).1 p))else f p:=by
 have ha:=h.arc i;have a1:arcN X (inP X (D i).1)=(D i).1:=h.ok.arc_end (io:=true) ha;have a2:arcN X (outP X (D i).1)=(D i).1:=h.ok.arc_end (io:=false) ha;have e5:triP X D (i+2) (3+2)=triP X D (i+2) 1:=h.pmod rfl (by omega)
 have n:∀{i j k l},(i%3≠j%3∨k%4≠l%4)→triP X D i k≠triP X D j l:=fun c e=>by
  have:=h.pinj e;omega
 have d1:acr (inP X (D i).1)≠inP X (D i).1∧acr (outP X (D i).1)≠inP X (D i).1∧acr (outP X (D i).1)≠acr (inP X (D i).1)∧outP X (D i).1≠inP X (D i).1∧outP X (D i).1≠acr (inP X (D i).1)∧outP X (D i).1≠acr (outP X (D i).1):=by
  rcases h.ends i with⟨e1,e2⟩|⟨e1,e2⟩<;>rw[e1,e2,Tri.acr',Tri.acr',e5]
  · exact⟨n (by omega),n (by omega),n (by omega),n (by omega),n (by omega),n (by omega)⟩
  · exact⟨n (by omega),n (by omega),n (by omega),n (by omega),n (by omega),n (by omega)⟩
 obtain⟨n1,n2,n3,n4,n5,n6⟩:=d1
 unfold nowS putF
 by_cases c1:p=outP X (D i).1
 · have ho:onE X (D i).1 p:=.inr (.inr (.inr c1))
   rw[if_pos c1,if_pos ho,c1]
   unfold tau1
   rw[if_neg n4,if_neg n5,if_neg n6]
 · rw[if_neg c1]
   by_cases c2:p=acr (outP X (D i).1)
   · have ho:onE X (D i).1 p:=.inr (.inr (.inl c2))
     rw[if_pos c2,if_pos ho,c2]
     unfold tau1
     rw[if_neg n2,if_neg n3,if_pos rfl,a1]
   · rw[if_neg c2]
     by_cases c3:p=acr (inP X (D i).1)
     · have ho:onE X (D i).1 p:=.inr (.inl c3)
       rw[if_pos c3,if_pos ho,c3]
       unfold tau1
       rw[if_neg n1,if_pos rfl,a2]
     · rw[if_neg c3]
       by_cases c4:p=inP X (D i).1
       · have ho:onE X (D i).1 p:=.inl c4
         rw[if_pos c4,if_pos ho,c4]
         unfold tau1
         rw[if_pos rfl]
       · have ho:¬onE X (D i).1 p:=by
          unfold onE;rintro(k|k|k|k)
          · exact c4 k
          · exact c3 k
          · exact c2 k
          · exact c1 k
         rw[if_neg c4,if_neg ho]
theorem fold_now(h:Tri X D)(p:Pl):∀(es:List Nat) (f:Pl→Option Nat),(∀e∈es,∃i,e=(D i).1) →
 (∀e∈es,onE X e p→es.foldl (nowS X) f p=some (arcN X (tau1 X e p)))∧((∀e∈es,¬onE X e p)→es.foldl (nowS X) f p=f p)
 |[],f,_=>⟨(fun e he=>by cases he),fun _=>rfl⟩
 |a :: es,f,hs=>by
  obtain⟨i,hi⟩:=hs a (by simp)
  have ih:=fold_now h p es (nowS X f a) fun e he=>hs e (by simp[he])
  have hstep:=nowS_eq h i f p;rw[←hi]at hstep
  refine⟨fun e he ho=>?_,fun hn=>?_⟩
  · by_cases c:∃e'∈es,onE X e' p
    · obtain⟨e',he',ho'⟩:=c
      have:e=e':=by
       obtain⟨j,rfl⟩:=hs e he;obtain⟨k,rfl⟩:=hs e' (by simp[he']);rw[h.mod (h.uniq ho ho')]
      rw[List.foldl_cons,this]
      exact ih.1 e' he' ho'
    · have hn:∀e'∈es,¬onE X e' p:=fun e' he' ho'=>c ⟨e',he',ho'⟩
      rw[List.foldl_cons,ih.2 hn,hstep]
      rcases List.mem_cons.1 he with rfl|he
      · rw[if_pos ho]
      · exact absurd ho (hn e he)
  · rw[List.foldl_cons,ih.2 fun e he=>hn e (by simp[he]),hstep,if_neg (hn a (by simp))]
theorem slide_done(h:Tri X D)(he:IsEs D es){Z:List Cr}(hl:Z.length=X.length)(hp:∀c,c<X.length→(cr Z c).p=(cr X c).p)
 (hz:∀p,isPl X p→at_ Z p=match nowF X es p with|some v=>((v:Nat):Int)|none=>at_ X p):Z=slideL X es:=by
 have hs:∀e∈es,∃i,e=(D i).1:=fun e k=>(he e).1 k
 refine list_cr (by rw[hl,slideL_len]) fun c hc=>cr_ext (fun s k=>?_) ?_
 · rw[slideL_len]at hc
   have hpl:isPl X (c,s):=⟨hc,k⟩
   show at_ Z (c,s)=at_ (slideL X es) (c,s)
   rw[hz _ hpl,slideL_at hpl]
   by_cases q:∃e∈es,onE X e (c,s)
   · obtain⟨e,he',ho⟩:=q
     have h1:=(fold_now h (c,s) es (fun _=>none) hs).1 e he' ho;have h2:nowF X es (c,s)=some (arcN X (tau1 X e (c,s))):=h1;obtain⟨i,rfl⟩:=hs e he';have h3:=h.tauL1 he i ho;rw[h2,←h3]
     exact h.ok.arcN_eq (h.tau_pl he hpl)
   · have hn:∀e∈es,¬onE X e (c,s):=fun e k o=>q ⟨e,k,o⟩
     have h2:nowF X es (c,s)=none:=(fold_now h (c,s) es (fun _=>none) hs).2 hn;rw[h2,tauL_out hn]
 · rw[slideL_len]at hc
   rw[hp c hc,slideL_cr hc]
theorem nowF_in(hX:Ok X):∀(es:List Nat),(∀e∈es,isArc X e)→∀p v,nowF X es p=some v→isPl X p∧isArc X v:=by
 have key:∀(es:List Nat) (f:Pl→Option Nat),(∀p v,f p=some v→isPl X p∧isArc X v)→(∀e∈es,isArc X e)→∀p v,es.foldl (nowS X) f p=some v→isPl X p∧isArc X v:=fun es=>by
  induction es with
  |nil=>exact fun f hf _ p v h=>hf p v h
  |cons a es ih=>
   intro f hf hs p v h
   rw[List.foldl_cons]at h
   refine ih (nowS X f a) (fun q u hq=>?_) (fun e he=>hs e (by simp[he])) p v h
   have ha:=hs a (by simp);have p1:isPl X (inP X a):=hX.isPl_end (io:=true) ha;have p2:isPl X (outP X a):=hX.isPl_end (io:=false) ha;have p3:isPl X (acr (inP X a)):=isPl_turn p1 2;have p4:isPl X (acr (outP X a)):=isPl_turn p2 2
   unfold nowS putF at hq
   split at hq
   · rename_i c;cases hq;exact⟨c ▸ p2,hX.isArc p3⟩
   · split at hq
     · rename_i c;cases hq;exact⟨c ▸ p4,ha⟩
     · split at hq
       · rename_i c;cases hq;exact⟨c ▸ p3,ha⟩
       · split at hq
         · rename_i c;cases hq;exact⟨c ▸ p1,hX.isArc p4⟩
         · exact hf q u hq
 exact fun es hs p v h=>key es (fun _=>none) (fun _ _ h=>by cases h) hs p v h
end
end Go.Proofs.YtlicglicfijelaaGreat
