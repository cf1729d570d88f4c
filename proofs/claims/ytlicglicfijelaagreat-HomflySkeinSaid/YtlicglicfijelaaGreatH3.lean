/- Walks: add. -/
import Derived.Test.YtlicglicfijelaaGreatH1
import Derived.Test.YtlicglicfijelaaGreatTK
import Derived.Maps.OwnOps
import Derived.Test.YtlicglicfijelaaGreatMAll
/- Walks: add. -/
namespace Go.Proofs.YtlicglicfijelaaGreat
open Go.RowKit
open Kn (E2 L2 cf szL sl exB)

theorem two_cc{W:World}{B t:Nat}{a b:Value}(h:W.heap[B]?=some (.cells #[a,b] t (0,0))):
 W.cell? ⟨B,0,none⟩=some a∧W.cell? ⟨B,1,none⟩=some b:=⟨cell_of_row _ _ 0 _ t (0,0) h,cell_of_row _ _ 1 _ t (0,0) h⟩
theorem one_mul_abs{a c:Int}(hc:c=1∨c = -1):(a*c).natAbs=a.natAbs:=by
 rcases hc with rfl|rfl<;>simp
theorem sl_app(d:E2)(c:Int)(l m:L2):sl d c (l++m)=sl d c l++sl d c m:=by unfold Kn.sl;exact List.map_append
set_option maxRecDepth 100000 in
set_option maxHeartbeats 4000000 in
theorem add_any(mb vb n m:Nat)(l l':L2)(d1 d2 c:Int)(w:World)(h:PMap w mb n l)(h':PMap w vb m l')(hne:mb≠vb)(hc:c=1∨c = -1)(hd1:-10≤d1∧d1≤10)(hd2:-10≤d2∧d2≤10)
 (he:exB 1000000 l') (hs:szL l+szL l'≤4000000000000000000) (hn:n+m<4000000000000000000):
 Calls Tryz.prog 26 #[.map (some mb),.map (some vb),.agg #[.int .i64 d1,.int .i64 d2],.int .i64 c] w fun e w'=>e=.returned (.tuple #[])∧PMap w' mb (n+m) (l++sl (d1,d2) c l')∧Fr (fun k=>k=mb) w w':=by
 obtain⟨D,ho,hd⟩:=h';have hbv:=ho.lt;have hbm:=h.lt;have HM:=Lib.hid h;have HO:=Lib.hid ho;have HD:=Lib.hid hd;have HE:=Lib.hid he;have HS:=Lib.hid hs;have HC:=Lib.hid hc;have HZ:Hid (Maps.size D≤m):=Lib.hid ho.size_le;clear h ho hd he hs hc
 obtain⟨B,HB⟩:∃B,Hid (B=w.heap.size):=⟨_,Lib.hid rfl⟩
 obtain⟨wa,HWA⟩:∃z,Hid (z=w.alloc (.cells #[.int .i64 d1,.int .i64 d2] 56)):=⟨_,Lib.hid rfl⟩
 have HNa:Hid (New w wa):=Lib.hid (by rw[HWA.out];exact(Fr.refl _ _).alloc _);have HBa:Hid (wa.heap[B]?=some (.cells #[.int .i64 d1,.int .i64 d2] 56 (0,0))):=Lib.hid (by rw[HWA.out,HB.out];exact heap_alloc_new w _);have HOa:Hid (wa.ownsMap Tryz.prog 56 (plainElem Tryz.prog 3) vb m D):=Lib.hid (by rw[HWA.out];exact HO.out.alloc _);have HMa:Hid (PMap wa mb n l):=Lib.hid (HM.out.fr HNa.out fun x=>x)
 obtain⟨r,HR⟩:∃z,Hid (z=wa.heap.size):=⟨_,Lib.hid rfl⟩
 have hBm:B≠mb:=by have:=HB.out;omega
 have hrw:w.heap.size<r:=by rw[HR.out,HWA.out,World.size_alloc];omega
 have hrm:r≠mb:=by omega
 go_enter Tryz.func26,Tryz.ntmps26
 go_wp2_with (first
  |(at_range;rw[←HWA.out];refine wpList_range_own _ rfl _ 48 rfl 56 3 Tryz.law56 Tryz.ul48 _ vb m D rfl HOa.out ?_;intro w0 hrg0 hg0 hs0)
  |go_in)
 go_frame;rw[←HR.out]at hrg0 ⊢;rw[←HB.out];have HG0:Hid (New wa w0):=Lib.hid ((Fr.refl _ _).grown hg0 fun k ek=>by cases ek)
 have HM0:Hid (PMap w0 mb n (l++sl (d1,d2) c [])):=Lib.hid (by
  have e:l++sl (d1,d2) c []=l:=by simp[Kn.sl]
  rw[e];exact HMa.out.fr HG0.out fun x=>x)
 have HB0:Hid (w0.heap[B]?=some (.cells #[.int .i64 d1,.int .i64 d2] 56 (0,0))):=Lib.hid (HG0.out.blk HBa.out fun x=>x);have HF0:Hid (Fr (fun k=>k=mb) w w0):=Lib.hid ((HNa.out.trans HG0.out).mono fun _ x=>x.elim);have HRG0:=Lib.hid hrg0;have HP0:Hid (PPart D l' (Maps.has D) []):=Lib.hid (PPart.start HD.out);clear hrg0 hg0 hs0
 go_loopw [8,9] (fun _ _ wr=>∃(left:Lit→Bool) (cnt k:Nat) (done:L2),k+cnt≤n+m∧Hid (PRg wr vb r m D left cnt)∧Hid (PPart D l' left done)∧Hid (PMap wr mb k (l++sl (d1,d2) c done))∧Hid (Fr (fun k=>k=mb) w wr)∧Hid (wr.heap[B]?=some (.cells #[.int .i64 d1,.int .i64 d2] 56 (0,0)))) (fun _ _ wr=>wr.rangeLeft vb r)
 case atStart=>exact⟨_,_,n,[],by have:=HZ.out;omega,HRG0,HP0,HM0,HF0,HB0⟩
 case round=>
  obtain⟨left,cnt,k,done,hk,HRG,HPP,HMP,HFr,HBr⟩:=hrel
  go_wp2_with (first
   |(at_next;refine wpList_next_pw rfl _ rfl vb r m D l' left cnt done rfl HRG.out HPP.out ?_ ?_)
   |go_in)
  · intro hl0
    have HL0:=Lib.hid hl0;clear hl0;go_wp2;go_end0
    refine⟨rfl,(HMP.out.mono (by omega)).congr (fun a=>?_) fun t ht=>?_,HFr.out⟩
    · rw[Kn.cf_app,Kn.cf_app,Kn.cf_sl,Kn.cf_sl,HPP.out.cf HL0.out fun t ht=>by have:=HE.out t ht;unfold isPw;omega]
    · rcases List.mem_append.1 ht with ht|ht
      · exact⟨t,by simp[ht],rfl⟩
      · unfold Kn.sl at ht
        obtain⟨s,hs,rfl⟩:=List.mem_map.1 ht;obtain⟨u,hu,e⟩:=HPP.out.mem s hs
        exact⟨_,List.mem_append_right _ (List.mem_map_of_mem hu),by rw[e]⟩
  · intro m1 m2 cc kl w2 cnt2 hmem hcc hrg hlt hpp hF2 hen
    obtain⟨t,ht⟩:=hmem.out;have hex:=HE.out _ ht;obtain⟨e1,e2⟩:=hex;simp only at e1 e2;have hsz:=hpp.size

    clear ht hmem
    have hq1:cc.natAbs≤szL l':=by rw[hcc.out];exact Kn.cf_sz _ _
    have hq2:(cc*c).natAbs≤szL l':=by rw[one_mul_abs HC.out];exact hq1
    obtain⟨q,HQ⟩:∃q,Hid (q=cc*c):=⟨_,Lib.hid rfl⟩
    obtain⟨x,HX⟩:∃q,Hid (q=m1+d1):=⟨_,Lib.hid rfl⟩
    obtain⟨z,HZZ⟩:∃q,Hid (q=m2+d2):=⟨_,Lib.hid rfl⟩
    have hpw:isPw (x,z):=by
     rw[HX.out,HZZ.out]
     unfold isPw
     simp only
     omega
    have HPW:=Lib.hid hpw
    have hs1:(cf (l++sl (d1,d2) c done) (x,z)).natAbs≤szL l+szL l':=by
     refine Nat.le_trans (Kn.cf_sz _ _) ?_
     rw[Kn.szL_app,Kn.szL_sl _ (by rcases HC.out with e|e<;>rw[e]<;>rfl)];have:=HPP.out.size
     omega
    obtain⟨v,HV⟩:∃q,Hid (q=cf (l++sl (d1,d2) c done) (x,z)):=⟨_,Lib.hid rfl⟩
    rw[←HV.out]at hs1;rw[←HQ.out]at hq2;have hS:=HS.out
    have b1:-4000000000000000000≤v:=by omega
    have b2:v≤4000000000000000000:=by omega
    have b3:-4000000000000000000≤q:=by omega
    have b4:q≤4000000000000000000:=by omega
    have x1:IntKind.i64.wrap (m1+d1)=x:=by rw[IntWalk.i64_in _ (by omega),HX.out]
    have x2:IntKind.i64.wrap (m2+d2)=z:=by rw[IntWalk.i64_in _ (by omega),HZZ.out]
    have x3:IntKind.i64.wrap (cc*c)=q:=by rw[←HQ.out,IntWalk.i64_in _ (by omega)]
    have x4:IntKind.i64.wrap (v+q)=v+q:=IntWalk.i64_in _ (by omega);have HX1:=Lib.hid x1;have HX2:=Lib.hid x2;have HX3:=Lib.hid x3;have HX4:=Lib.hid x4;have HRG2:=Lib.hid hrg;have HLT:=Lib.hid hlt;have HPP2:=Lib.hid hpp
    have hF2':Fr (fun k=>k=mb) w w2:=HFr.out.next hF2 fun i hi=>.inr (by rw[hi];omega)
    have HM2:Hid (PMap w2 mb k (l++sl (d1,d2) c done)):=Lib.hid (HMP.out.fr hF2 fun e=>hrm e.symm);have HB2:Hid (w2.heap[B]?=some (.cells #[.int .i64 d1,.int .i64 d2] 56 (0,0))):=Lib.hid (hF2.blk HBr.out fun e=>by have:=HB.out;omega);clear hrg hlt hpp hF2 hsz hq1 hq2 hs1 x1 x2 x3 x4 hpw hcc hS
    obtain⟨kb,HKB⟩:∃z,Hid (z=w2.heap.size):=⟨_,Lib.hid rfl⟩
    obtain⟨wk,HWK⟩:∃z,Hid (z=w2.alloc (.cells #[.int .i64 m1,.int .i64 m2] 56)):=⟨_,Lib.hid rfl⟩
    have HNk:Hid (New w2 wk.drew):=Lib.hid (by rw[HWK.out];exact((Fr.refl _ _).alloc _).drew);have HKBk:Hid (wk.drew.heap[kb]?=some (.cells #[.int .i64 m1,.int .i64 m2] 56 (0,0))):=Lib.hid (by rw[HWK.out,HKB.out];exact heap_alloc_new w2 _)
    have hkm:kb≠mb:=by rw[HKB.out];have:=HM2.out.lt;omega
    obtain⟨y0,HY0⟩:∃z,Hid (z=wk.drew):=⟨_,Lib.hid rfl⟩
    rw[←HY0.out]at HNk HKBk;have HMk:=Lib.hid (HM2.out.fr HNk.out fun x=>x);have HBk:=Lib.hid (HNk.out.blk HB2.out fun x=>x);have HFk:Hid (Fr (fun k=>k=mb) w y0):=Lib.hid (hF2'.trans (HNk.out.mono fun _ x=>x.elim));have hSS:y0.cell? ⟨kb,0,none⟩=some (.int .i64 m1)∧y0.cell? ⟨B,0,none⟩=some (.int .i64 d1)∧y0.cell? ⟨kb,1,none⟩=some (.int .i64 m2)∧y0.cell? ⟨B,1,none⟩=some (.int .i64 d2):=⟨(two_cc HKBk.out).1,(two_cc HBk.out).1,(two_cc HKBk.out).2,(two_cc HBk.out).2⟩;rw[HY0.out]at hSS;go_wp2_with fail;rw[←HWK.out,←HKB.out]
    clear hen hF2'
    refine wp_region_held_drew (S:=fun wz=>wz.cell? ⟨kb,0,none⟩=some (.int .i64 m1)∧wz.cell? ⟨B,0,none⟩=some (.int .i64 d1)∧wz.cell? ⟨kb,1,none⟩=some (.int .i64 m2)∧wz.cell? ⟨B,1,none⟩=some (.int .i64 d2)) (by kernel_rfl) hSS (fun hHeld=>?_)
    rw[←HY0.out]at hHeld ⊢;clear hSS
    refine' sq 0 (h:=sq 1 (h:=sq 2 (h:=sq 3 (h:=sq 4 (h:=sq 5 (h:=?_))))))
    rw[HX1.out]
    refine' sq 6 (h:=sq 7 (h:=sq 8 (h:=sq 9 (h:=sq 10 (h:=?_)))))
    rw[HX2.out]
    refine' sq 11 (h:=sq 13 (h:=sq 14 (h:=sq 15 (h:=?_))))
    rw[HX3.out];obtain⟨v0,st,W1,W2,hme,hF1,hlk1,hes,hk2,hFW⟩:=HMk.out.entry (by unfold maxLen;omega) HPW.out (c:=q) (by rw[←HV.out];omega);have hlk0:=HMk.out.look HPW.out;rw[←HV.out]at hlk0 hlk1 hes;have HLK0:Hid ((Instr.lookup 48 (.map (some mb)) (.agg #[.int .i64 x,.int .i64 z]) false).run Tryz.prog y0=.ok (.int .i64 v) y0):=Lib.hid hlk0;have HME:Hid ((Instr.mapEntry 48 (.map (some mb)) (.agg #[.int .i64 x,.int .i64 z])).run Tryz.prog y0=.ok (.tuple #[v0,.int .i64 st]) W1):=Lib.hid hme
    have HLK1:Hid ((Instr.lookup 48 (.map (some mb)) (.agg #[.int .i64 x,.int .i64 z]) false).run Tryz.prog W1=.ok (.int .i64 v) W1):=Lib.hid hlk1;have HES:=Lib.hid hes;have hS1:W1.cell? ⟨kb,0,none⟩=some (.int .i64 m1)∧W1.cell? ⟨B,0,none⟩=some (.int .i64 d1)∧W1.cell? ⟨kb,1,none⟩=some (.int .i64 m2)∧W1.cell? ⟨B,1,none⟩=some (.int .i64 d2):=⟨hF1.cell hHeld.1 hkm,hF1.cell hHeld.2.1 hBm,hF1.cell hHeld.2.2.1 hkm,hF1.cell hHeld.2.2.2 hBm⟩
    have hS2:W2.cell? ⟨kb,0,none⟩=some (.int .i64 m1)∧W2.cell? ⟨B,0,none⟩=some (.int .i64 d1)∧W2.cell? ⟨kb,1,none⟩=some (.int .i64 m2)∧W2.cell? ⟨B,1,none⟩=some (.int .i64 d2):=⟨hFW.cell hHeld.1 hkm,hFW.cell hHeld.2.1 hBm,hFW.cell hHeld.2.2.1 hkm,hFW.cell hHeld.2.2.2 hBm⟩;have HS1:=Lib.hid hS1;have HS2:=Lib.hid hS2;have HFW:=Lib.hid hFW;have HK2:=Lib.hid hk2;clear hme hlk0 hlk1 hes hS1 hS2 hF1 hFW hk2
    refine wpAnyH_ready (rs:=[12,17]) (by kernel_rfl) (by simp) ?_
    refine AllReadyH.cons rfl (fun K hK=>?_) (AllReadyH.cons rfl (fun K hK=>?_) AllReadyH.nil)
    focus
     skip
     (try simp only[lq1,lq2,lq3]);have heq:=HLK0.out;go_simp;clear heq;refine hK.out _ _ hHeld (fun hHeld=>?_);clear hK K;(try simp only[Act.put,lq1,lq2,lq3,lq4,lq5,lq6])
     refine' sq 16 (h:=?_)
     rw[HX4.out];refine rdO (i:=17) (fun K hK=>?_);(try simp only[lq1,lq2,lq3]);have heq:=HME.out;go_simp;clear heq;refine hK.out _ _ HS1.out (fun hHeld=>?_);clear hK K;(try simp only[Act.put,lq1,lq2,lq3,lq4,lq5,lq6])
     refine' sq 18 (h:=?_)
    rotate_left
    focus
     skip
     (try simp only[lq1,lq2,lq3]);have heq:=HME.out;go_simp;clear heq;refine hK.out _ _ HS1.out (fun hHeld=>?_);clear hK K;(try simp only[Act.put,lq1,lq2,lq3,lq4,lq5,lq6])
     refine' sq 18 (h:=?_)
     refine rdO (i:=12) (fun K hK=>?_);(try simp only[lq1,lq2,lq3]);have heq:=HLK1.out;go_simp;clear heq;refine hK.out _ _ HS1.out (fun hHeld=>?_);clear hK K;(try simp only[Act.put,lq1,lq2,lq3,lq4,lq5,lq6])
     refine' sq 16 (h:=?_)
     rw[HX4.out]
    all_goals
     refine rdO (i:=19) (fun K hK=>?_);(try simp only[lq1,lq2,lq3]);have heq:=HES.out;go_simp;clear heq;refine hK.out _ _ HS2.out (fun hHeld=>?_);clear hK K;(try simp only[Act.put,lq1,lq2,lq3,lq4,lq5,lq6]);refine wpAnyH_done (by kernel_rfl) ?_ _;go_wp2
     go_roundw
     case rel=>
      refine⟨_,cnt2,k+1,_,by have:=HLT.out;omega,Lib.hid (((HRG2.out.fr HNk.out (fun x=>x) (fun x=>x)).fr HFW.out (fun e=>hne e.symm) hrm)),HPP2,Lib.hid ?_,Lib.hid (HFk.out.trans HFW.out),Lib.hid (HFW.out.blk HBk.out hBm)⟩
      have e:l++sl (d1,d2) c (done++[((m1,m2),cc)])=l++sl (d1,d2) c done++[((x,z),q)]:=by
       rw[sl_app,List.append_assoc,HX.out,HZZ.out,HQ.out,Int.mul_comm cc c];rfl
      rw[e];exact HK2.out
     case measure=>
      have h1:=(HRG2.out.fr HNk.out (fun x=>x) (fun x=>x)).fr HFW.out (fun e=>hne e.symm) hrm
      rw[h1.left_eq,HRG.out.left_eq];exact HLT.out
end Go.Proofs.YtlicglicfijelaaGreat

/- Walks: rings. -/
namespace Go.Proofs.YtlicglicfijelaaGreat
open Go.RowKit
open Kn (E2 L2 cf szL sl exB rgL)
open Go.Maps (Keyed)

theorem wpList_insert_own{H:Type}{P:Program}(w:World){ops:Array Oper}{rest:List Oper}{o:Oper}{a:Act}{Q:Exit→Act→World→Prop}
 (hg:o.guard=none) (m x v:Operand) (t:TypeId) (hop:o.op=Op.insert t m x v)
 (k e:TypeId) (K:Keyed P k) (ht:P.underlying t=some (.map k e)) (R:Value→Option (DataW H×List MemPlace)) (b n:Nat) (D:DataW H)
 (hm:a.eval m=.map (some b)) (hown:w.ownsMap P k R b n D) (hn:n<maxLen) (key val:Value) (kl:Lit) (hx:a.eval x=key) (hv:a.eval v=val) (hkey:keyOf P k key=some kl)
 (d:DataW H) (ps:List MemPlace) (hval:R val=some (d,ps))
 (hK:∀w',w'.ownsMap P k R b (n+1) (D.put kl d)→w.grownBy w' (some b)→wpList P ops Q rest (a.put o.dst undef) w'):
 wpList P ops Q (o :: rest) a w:=by
 refine wpList_plain hg fun K' hK'=>?_
 obtain⟨w',hrun,r1,r2⟩:=hown.update K ht hn hkey hval
 unfold Oper.wp
 simp[execOp,hop,hm,hx,hv,hrun,Result.andThen]
 exact hK' _ _ (hK w' r1 r2)
set_option maxRecDepth 100000 in
set_option maxHeartbeats 4000000 in
theorem rgs_any(n:Nat)(hn:1≤n)(hn2:n≤50)(w:World):
 Calls Tryz.prog 25 #[.int .i64 n] w fun e w'=>∃mb,e=.returned (.map (some mb))∧Hid (PMap w' mb (szL (rgL n (n-1))) (rgL n (n-1)))∧New w w':=by
 have hmm:=@run_makeMap Tryz.prog
 obtain⟨mb,HMB⟩:∃cb,Hid (cb=w.heap.size):=⟨_,Lib.hid rfl⟩
 obtain⟨wa,HWA⟩:∃z,Hid (z=w.alloc (.map #[] 0)):=⟨_,Lib.hid rfl⟩
 obtain⟨z,HZ⟩:∃z:Int,Hid (z=1-(n:Int)):=⟨_,Lib.hid rfl⟩
 have x1:IntKind.i64.wrap (1-(n:Int))=z:=by rw[IntWalk.i64_in _ (by omega),HZ.out]
 have HOa:Hid (wa.ownsMap (H:=Unit) Tryz.prog 56 (plainElem Tryz.prog 3) mb 0 (.map [])):=Lib.hid (by rw[HWA.out,HMB.out];exact World.ownsMap_made _ _ _ _);have HNa:Hid (New w wa):=Lib.hid (by rw[HWA.out];exact(Fr.refl _ _).alloc _);obtain⟨kl,hkl⟩:=pKey (p:=(0,z)) (by rw[HZ.out];unfold isPw;simp only;omega);have HKL:=Lib.hid hkl;clear hkl
 go_enter Tryz.func25,Tryz.ntmps25
 go_wp2_with (first
  |(rw[←HWA.out,←HMB.out];refine wpList_insert_own _ rfl _ _ _ 48 rfl 56 3 Tryz.law56 Tryz.ul48 _ _ 0 _ rfl HOa.out (by unfold maxLen;omega) _ _ _ rfl rfl HKL.out _ [] (plainElem_int Tryz.underlying3 (wf64 (by omega))) ?_;intro w3 hown2 hg2;have HO3:=Lib.hid hown2;have HN3:Hid (New w w3):=(Lib.hid (HNa.out.grown hg2 fun k ek=>.inr (by cases ek;rw[HMB.out];exact Nat.le_refl _)));clear hown2 hg2)
  |go_in)
 have HP3:Hid (PMap w3 mb (szL (rgL n 0)) (rgL n 0)):=Lib.hid ⟨_,HO3.out,by
  have h:=PD.put (c:=1) PD.empty HKL.out
  have e:cf [] ((0,z):E2)+1=1:=by simp[cf,Kn.tt_nil]
  rw[e]at h
  have e2:rgL n 0=[]++[(((0,z):E2),(1:Int))]:=by rw[HZ.out];rfl
  rw[e2];exact h⟩
 have hn1:IntKind.i64.wrap ((n:Int)-1)=(n:Int)-1:=IntWalk.i64_in _ (by omega)
 have h1n:(1:Int)≤(n:Int):=by omega
 go_loopw [3,4,12] (fun ov _ i wr=>∃(j b:Nat),j+1≤n∧i=.int .i64 j∧ov=.map (some b)∧Hid (PMap wr b (szL (rgL n j)) (rgL n j))∧Hid (New w wr)) (fun _ _ i _=>n-(intOf i).toNat)
 case atStart=>exact⟨0,mb,by omega,rfl,rfl,HP3,HN3⟩
 case round=>
  obtain⟨j,b,hj,rfl,rfl,HP,HF⟩:=hrel
  by_cases hlt:j+1<n
  · have hlt':(j:Int)<(n:Int)-1:=by omega
    obtain⟨b2,HB2⟩:∃z,Hid (z=wr.heap.size):=⟨_,Lib.hid rfl⟩
    obtain⟨l,HL⟩:∃z,Hid (z=rgL n j):=⟨_,Lib.hid rfl⟩
    obtain⟨sz,HSS⟩:∃z,Hid (z=szL l):=⟨_,Lib.hid rfl⟩
    obtain⟨u0,HU0⟩:∃z,Hid (z=wr.alloc (.map #[] 0)):=⟨_,Lib.hid rfl⟩
    have hbb:b2≠b:=by rw[HB2.out];have:=HP.out.lt;omega
    have HNu:Hid (New wr u0):=Lib.hid (by rw[HU0.out];exact(Fr.refl _ _).alloc _);have HP0:Hid (PMap u0 b2 0 []):=Lib.hid (by rw[HU0.out,HB2.out];exact PMap.made wr);have HPb:Hid (PMap u0 b sz l):=Lib.hid (by rw[HSS.out,HL.out];exact HP.out.fr HNu.out fun x=>x)
    have hsz:sz≤1125899906842624:=by rw[HSS.out,HL.out,Kn.rgL_sz];exact Nat.le_trans (Nat.pow_le_pow_right (by decide) (show j≤50 by omega)) (by decide)
    have hex:exB 1000000 l:=by rw[HL.out];exact(Kn.rgL_ex n j).mono (by omega)
    have HEX:=Lib.hid hex;clear hex HP;go_wp2_with fail;rw[←HU0.out,←HB2.out];refine(add_any b2 b 0 sz [] l 1 0 1 u0 HP0.out HPb.out hbb (.inl rfl) (by omega) (by omega) HEX.out (by have e:szL []=0:=rfl;rw[e,←HSS.out];omega) (by omega)).mono ?_;rintro e w4 ⟨rfl,hP,hF⟩;rw[Nat.zero_add,List.nil_append]at hP;have HP4:=Lib.hid hP;have HPb4:Hid (PMap w4 b sz l):=Lib.hid (HPb.out.fr hF fun e=>hbb e.symm);have HF4:Hid (New w w4):=Lib.hid ((HF.out.trans HNu.out).next hF fun i hi=>.inr (by rw[hi,HB2.out];exact HF.out.size))
    have HG4:Hid (Fr (fun k=>k=b2) u0 w4):=Lib.hid hF;clear hP hF;go_wp2_with fail;refine(add_any b2 b sz sz (sl (1,0) 1 l) l (-1) 0 (-1) w4 HP4.out HPb4.out hbb (.inr rfl) (by omega) (by omega) HEX.out (by rw[Kn.szL_sl _ rfl,←HSS.out];omega) (by omega)).mono ?_;rintro e w5 ⟨rfl,hP,hF⟩
    have HP5:Hid (PMap w5 b2 (szL (rgL n (j+1))) (rgL n (j+1))):=Lib.hid (by
     have e1:rgL n (j+1)=sl (1,0) 1 l++sl (-1,0) (-1) l:=by rw[HL.out];rfl
     have e2:szL (rgL n (j+1))=sz+sz:=by rw[e1,Kn.szL_app,Kn.szL_sl _ rfl,Kn.szL_sl _ rfl,←HSS.out]
     rw[e2,e1];exact hP)
    have HF5:Hid (New w w5):=Lib.hid (HF4.out.next hF fun i hi=>.inr (by rw[hi,HB2.out];exact HF.out.size));clear hP hF;go_wp2_with fail
    go_roundw
    case rel=>exact⟨j+1,b2,by omega,by go_num,rfl,HP5,HF5⟩
    case measure=>simp[intOf];omega
  · have hnl:¬(j:Int)<(n:Int)-1:=by omega
    go_wp2;go_ret
    obtain rfl:j=n-1:=by omega
    exact⟨b,rfl,HP,HF.out⟩
end Go.Proofs.YtlicglicfijelaaGreat
