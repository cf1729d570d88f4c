/- Walks: pull. -/
import Derived.Test.YtlicglicfijelaaGreatN11
import Derived.ChangeMaps4
import Derived.Test.YtlicglicfijelaaGreatTK
import Derived.Test.YtlicglicfijelaaGreatMAll
/- Walks: pull. -/
namespace Go.Proofs.YtlicglicfijelaaGreat
open Go.RowKit

theorem facesOk{X:List Kn.Cr}(hX:Kn.Ok X)(hl:X.length≤16):FacesOk X (Kn.facesL X):=by
 have hp:=Kn.faces_perm hX;have hlen:=hp.length_eq
 have hd:(Kn.darts X).length≤64:=by rw[Kn.darts_length];omega
 refine⟨?_,fun f hf=>⟨?_,fun d hd=>?_⟩⟩
 · have:=hX.euler.1
   have:=pieces_few X hX
   omega
 · have:=(List.sublist_flatten_of_mem hf).length_le
   omega
 · exact Kn.mem_darts.1 (hp.mem_iff.1 (List.mem_flatten.2 ⟨f,hf,hd⟩))
def pullO(X:List Kn.Cr)(L x y:Int):Out:=if (isCr X x&&isCr X y)&&decide (x≠y)then(if (Kn.facesL X).any (bigF X x y)then takeO X L (Kn.both x.toNat y.toNat)else .no 8)else .no 3
set_option maxRecDepth 100000 in
set_option maxHeartbeats 8000000 in
theorem pull_any(b s:Nat)(fv:Value)(X:List Kn.Cr)(L k x y u v:Int)(ub vb ov:Bool)(w:World)(h:BeAt w b s fv X L)(hr:Rows OwnD 0 118 w fv (Kn.facesL X))(hX:Kn.Ok X)(hl:X.length≤16)(l1:0≤L)(l2:L≤16):
 Calls Tryz.prog 52 #[.pointer (some ⟨b,0,none⟩),mvV k x y u v ub vb ov] w (GaveO s (pullO X L x y) w):=by
 have HH:=Lib.hid h;have HX:=Lib.hid hX;have HR:=Lib.hid hr;have HFO:=Lib.hid (facesOk hX hl)
 obtain⟨r1,HR1⟩:∃r,Hid (isCr X x=r):=⟨_,Lib.hid rfl⟩
 obtain⟨r2,HR2⟩:∃r,Hid (isCr X y=r):=⟨_,Lib.hid rfl⟩
 obtain⟨r3,HR3⟩:∃r,Hid (decide (x≠y)=r):=⟨_,Lib.hid rfl⟩
 have hd1:(x != y)=r3:=by rw[←HR3.out,Bool.eq_iff_iff];simp
 clear h hX hr
 go_enter Tryz.func52,Tryz.ntmps52
 obtain⟨w1,HW1⟩:∃w1,Hid (w1=(w.alloc (.cells #[.pointer (some ⟨b,0,none⟩)] 79)).alloc (.cells #[.int .i64 k,.int .i64 x,.int .i64 y,.int .i64 u,.bool ub,.int .i64 v,.bool vb,.bool ov] 28)):=⟨_,Lib.hid rfl⟩
 have hz0:=((Fr.refl (fun _=>False) (w.alloc (.cells #[.pointer (some ⟨b,0,none⟩)] 79))).alloc (.cells #[.int .i64 k,.int .i64 x,.int .i64 y,.int .i64 u,.bool ub,.int .i64 v,.bool vb,.bool ov] 28)).blk (heap_alloc_new w (.cells #[.pointer (some ⟨b,0,none⟩)] 79)) fun x=>x
 have hz:=heap_alloc_new (w.alloc (.cells #[.pointer (some ⟨b,0,none⟩)] 79)) (.cells #[.int .i64 k,.int .i64 x,.int .i64 y,.int .i64 u,.bool ub,.int .i64 v,.bool vb,.bool ov] 28)
 have hn:New w w1:=by rw[HW1.out];exact((Fr.refl _ w).alloc _).alloc _
 rw[World.size_alloc]at hz;rw[←HW1.out]at hz hz0;have HN:=Lib.hid hn;have HZ0:=Lib.hid hz0;have HZ:=Lib.hid hz;have p0:=cell_of_row _ _ 0 _ 79 (0,0) hz0;obtain⟨_,p1,p2,_⟩:=eight_c hz;clear hn hz hz0
 have HNO:Hid (¬((r1&&r2)&&r3)=true→pullO X L x y=.no 3):=Lib.hid (fun hno=>by
  unfold pullO
  rw[HR1.out,HR2.out,HR3.out,if_neg hno])
 have HYES:Hid (((r1&&r2)&&r3)=true→pullO X L x y=if (Kn.facesL X).any (bigF X x y)then takeO X L (Kn.both x.toNat y.toNat)else .no 8):=Lib.hid (fun hyes=>by
  unfold pullO
  rw[HR1.out,HR2.out,HR3.out,if_pos hyes])
 go_wp2_with fail;rw[←HW1.out]
 obtain⟨B1,HB1⟩:∃B,Hid (B=w.heap.size):=⟨_,Lib.hid rfl⟩
 obtain⟨B2,HB2⟩:∃B,Hid (B=w.heap.size+1):=⟨_,Lib.hid rfl⟩
 rw[←HB2.out]at p1 p2 HZ ⊢;rw[←HB1.out]at p0 HZ0 ⊢;clear HW1;refine(isCross_any b s fv X L x _ (HH.out.new HN.out) hl).mono ?_;rintro e w2 ⟨rfl,rfl⟩;rw[HR1.out]
 cases r1
 · go_wp2_with fail
   refine(need_no 3 _).mono ?_;rintro e w3 ⟨rfl,rfl⟩;go_wp2
   refine⟨rfl,HN.out.mono fun _ h=>h.elim,?_⟩
   rw[HNO.out (by simp)]
 · go_wp2_with fail
   refine(isCross_any b s fv X L y _ (HH.out.new HN.out) hl).mono ?_;rintro e w3 ⟨rfl,rfl⟩;rw[HR2.out]
   cases r2
   · go_wp2_with fail
     refine(need_no 3 _).mono ?_;rintro e w3 ⟨rfl,rfl⟩;go_wp2
     refine⟨rfl,HN.out.mono fun _ h=>h.elim,?_⟩
     rw[HNO.out (by simp)]
   · cases r3
     · go_wp2_with fail
       refine(need_no 3 _).mono ?_;rintro e w3 ⟨rfl,rfl⟩;go_wp2
       refine⟨rfl,HN.out.mono fun _ h=>h.elim,?_⟩
       rw[HNO.out (by simp)]
     · go_wp2_with fail
       refine(need_yes 3 _).mono ?_;rintro e w3 ⟨rfl,rfl⟩
       obtain⟨cx,rfl,hcx⟩:∃c:Nat,x=(c:Int)∧c<X.length:=by
        have h1:=HR1.out
        unfold isCr at h1
        rw[Bool.and_eq_true,decide_eq_true_eq,decide_eq_true_eq]at h1
        exact⟨x.toNat,by omega,by omega⟩
       obtain⟨cy,rfl,hcy⟩:∃c:Nat,y=(c:Int)∧c<X.length:=by
        have h1:=HR2.out
        unfold isCr at h1
        rw[Bool.and_eq_true,decide_eq_true_eq,decide_eq_true_eq]at h1
        exact⟨y.toNat,by omega,by omega⟩
       have HU:Hid (pullO X L (cx:Nat) (cy:Nat)=if (Kn.facesL X).any (bigF X cx cy)then takeO X L (Kn.both cx cy)else .no 8):=Lib.hid (HYES.out rfl);have HBE:=Lib.hid (HH.out.new HN.out);obtain⟨c0,c1⟩:=HBE.out.c
       obtain⟨q,HQ⟩:∃q,Hid ((Kn.facesL X).any (bigF X cx cy)=q):=⟨_,Lib.hid rfl⟩
       have HCF:=Lib.hid (containsF_any b s B1 B2 fv fv X L cx cy (Kn.facesL X) w3 ⟨HBE.out,p0,p1,p2⟩ hl HFO.out (RowsD.new HR.out HN.out));rw[HQ.out]at HCF;go_wp2_with fail
       refine HCF.out.mono ?_
       rintro e w4 ⟨rfl,hN⟩;have HN4:=Lib.hid (HN.out.trans hN)
       have p0':=hN.cell p0 fun x=>x
       have p1':=hN.cell p1 fun x=>x
       have p2':=hN.cell p2 fun x=>x
       clear hN p0 p1 p2 c0 c1 hd1
       cases q
       · go_wp2_with fail
         refine(need_no 8 _).mono ?_;rintro e w5 ⟨rfl,rfl⟩;go_wp2
         refine⟨rfl,HN4.out.mono fun _ h=>h.elim,?_⟩
         rw[HU.out,HQ.out];rfl
       · go_wp2_with fail
         refine(need_yes 8 _).mono ?_;rintro e w5 ⟨rfl,rfl⟩;have HNA:Hid (New w (w5.alloc (.cells #[.int .i64 (cx:Nat),.int .i64 (cy:Nat)] 3))):=Lib.hid (HN4.out.alloc _)
         have HI:Hid (IntsAt (w5.alloc (.cells #[.int .i64 (cx:Nat),.int .i64 (cy:Nat)] 3)) w5.heap.size [(cx:Int),(cy:Int)]):=Lib.hid (fun i hi=>by
          have hz:=heap_alloc_new w5 (.cells #[.int .i64 (cx:Nat),.int .i64 (cy:Nat)] 3)
          match i,hi with
          |0,_=>exact cell_of_row _ _ 0 _ 3 (0,0) hz
          |1,_=>exact cell_of_row _ _ 1 _ 3 (0,0) hz)
         go_wp2_with fail;refine(take_any b s _ 2 2 fv [(cx:Int),(cy:Int)] (Kn.both cx cy) X L _ (HH.out.new HNA.out) HX.out hl l1 l2 HI.out rfl (by omega) (fun d _=>?_)).mono ?_
         · rw[Bool.eq_iff_iff];simp;omega
         rintro e w6 hG;have HGO:Hid (GaveO s (takeO X L (Kn.both cx cy)) w e w6):=Lib.hid (gaveO_take HNA.out hG);have HUO:Hid (pullO X L (cx:Nat) (cy:Nat)=takeO X L (Kn.both cx cy)):=Lib.hid (by rw[HU.out,HQ.out];rfl)
         obtain⟨o,HO⟩:∃o,Hid (o=takeO X L (Kn.both cx cy)):=⟨_,Lib.hid rfl⟩
         rw[←HO.out]at HGO HUO;clear hG
         cases o with
         |no x=>
          obtain⟨h1,rfl⟩:=HGO.out;go_wp2
          refine⟨rfl,h1,?_⟩
          rw[HUO.out]
         |ok Y L2=>
          obtain⟨h1,rfl,h2⟩:=HGO.out;have HG1:=Lib.hid h1;have HG2:=Lib.hid h2;clear h1 h2;go_wp2;go_end0
          refine⟨HG1.out,?_⟩
          rw[HUO.out]
          exact⟨rfl,HG2.out⟩
end Go.Proofs.YtlicglicfijelaaGreat

/- Walks: kinds: the moves by their kinds. -/
namespace Go.Proofs.YtlicglicfijelaaGreat
open Go.RowKit Go.ChangeMaps

theorem Tryz.ul83:Tryz.prog.underlying 83=some (.map 3 82):=by kernel_rfl
abbrev kEnt(k f:Nat):MapEntry:={ key:=.int .i64 (k:Nat),val:=.func (.func f) #[] #[],born:=k-1 }
def kEs:Nat→Array MapEntry
 |0=>#[]
 |1=>#[kEnt 1 49]
 |2=>#[kEnt 1 49,kEnt 2 50]
 |3=>#[kEnt 1 49,kEnt 2 50,kEnt 3 51]
 |4=>#[kEnt 1 49,kEnt 2 50,kEnt 3 51,kEnt 4 52]
 |_=>#[kEnt 1 49,kEnt 2 50,kEnt 3 51,kEnt 4 52,kEnt 5 53]
theorem setBlock_get{w:World}{b:Nat}{o o':Obj}(hb:w.heap[b]?=some o):(setBlock w b o').heap[b]?=some o':=by
 have:=(Array.getElem?_eq_some_iff.1 hb).1
 unfold setBlock
 simp[this]
theorem setBlock_fr(w:World)(b:Nat)(o:Obj):Fr (fun k=>k=b) w (setBlock w b o):=by
 refine⟨rfl,rfl,rfl,by unfold setBlock;simp,fun k hk hs=>?_⟩
 unfold setBlock
 simp only[Array.getElem?_setIfInBounds];rw[if_neg fun e:b=k=>hs e.symm]
set_option maxRecDepth 100000 in
theorem kins0(w:World)(b:Nat)(hb:w.heap[b]?=some (.map (kEs 0) 0)):(Instr.mapUpdate 83 (.map (some b)) (.int .i64 1) (.func (.func 49) #[] #[])).run Tryz.prog w=.ok () (setBlock w b (.map (kEs 1) 1)):=by
 have hc:(Instr.checkKey false 10000 3 (.int .i64 1)).run Tryz.prog w=.ok () w:=by kernel_rfl
 have hf:(Instr.findKey 3 (.int .i64 1) (kEs 0).toList).run Tryz.prog w=.ok none w:=by kernel_rfl
 simp[Instr.mapUpdate,run_underlying Tryz.ul83,MapKept.run_getObj_map hb,hc,hf,MapKept.run_setObj_map _ hb,Result.andThen,setBlock]
 rfl
set_option maxRecDepth 100000 in
theorem kins1(w:World)(b:Nat)(hb:w.heap[b]?=some (.map (kEs 1) 1)):(Instr.mapUpdate 83 (.map (some b)) (.int .i64 2) (.func (.func 50) #[] #[])).run Tryz.prog w=.ok () (setBlock w b (.map (kEs 2) 2)):=by
 have hc:(Instr.checkKey false 10000 3 (.int .i64 2)).run Tryz.prog w=.ok () w:=by kernel_rfl
 have hf:(Instr.findKey 3 (.int .i64 2) (kEs 1).toList).run Tryz.prog w=.ok none w:=by kernel_rfl
 simp[Instr.mapUpdate,run_underlying Tryz.ul83,MapKept.run_getObj_map hb,hc,hf,MapKept.run_setObj_map _ hb,Result.andThen,setBlock]
 rfl
set_option maxRecDepth 100000 in
theorem kins2(w:World)(b:Nat)(hb:w.heap[b]?=some (.map (kEs 2) 2)):(Instr.mapUpdate 83 (.map (some b)) (.int .i64 3) (.func (.func 51) #[] #[])).run Tryz.prog w=.ok () (setBlock w b (.map (kEs 3) 3)):=by
 have hc:(Instr.checkKey false 10000 3 (.int .i64 3)).run Tryz.prog w=.ok () w:=by kernel_rfl
 have hf:(Instr.findKey 3 (.int .i64 3) (kEs 2).toList).run Tryz.prog w=.ok none w:=by kernel_rfl
 simp[Instr.mapUpdate,run_underlying Tryz.ul83,MapKept.run_getObj_map hb,hc,hf,MapKept.run_setObj_map _ hb,Result.andThen,setBlock]
 rfl
set_option maxRecDepth 100000 in
theorem kins3(w:World)(b:Nat)(hb:w.heap[b]?=some (.map (kEs 3) 3)):(Instr.mapUpdate 83 (.map (some b)) (.int .i64 4) (.func (.func 52) #[] #[])).run Tryz.prog w=.ok () (setBlock w b (.map (kEs 4) 4)):=by
 have hc:(Instr.checkKey false 10000 3 (.int .i64 4)).run Tryz.prog w=.ok () w:=by kernel_rfl
 have hf:(Instr.findKey 3 (.int .i64 4) (kEs 3).toList).run Tryz.prog w=.ok none w:=by kernel_rfl
 simp[Instr.mapUpdate,run_underlying Tryz.ul83,MapKept.run_getObj_map hb,hc,hf,MapKept.run_setObj_map _ hb,Result.andThen,setBlock]
 rfl
set_option maxRecDepth 100000 in
theorem kins4(w:World)(b:Nat)(hb:w.heap[b]?=some (.map (kEs 4) 4)):(Instr.mapUpdate 83 (.map (some b)) (.int .i64 5) (.func (.func 53) #[] #[])).run Tryz.prog w=.ok () (setBlock w b (.map (kEs 5) 5)):=by
 have hc:(Instr.checkKey false 10000 3 (.int .i64 5)).run Tryz.prog w=.ok () w:=by kernel_rfl
 have hf:(Instr.findKey 3 (.int .i64 5) (kEs 4).toList).run Tryz.prog w=.ok none w:=by kernel_rfl
 simp[Instr.mapUpdate,run_underlying Tryz.ul83,MapKept.run_getObj_map hb,hc,hf,MapKept.run_setObj_map _ hb,Result.andThen,setBlock]
 rfl
set_option maxRecDepth 100000 in
theorem klook1(w:World)(b:Nat)(hb:w.heap[b]?=some (.map (kEs 5) 5)):(Instr.lookup 83 (.map (some b)) (.int .i64 1) false).run Tryz.prog w=.ok (.func (.func 49) #[] #[]) w:=by
 have hc:(Instr.checkKey false 10000 3 (.int .i64 1)).run Tryz.prog w=.ok () w:=by kernel_rfl
 have hf:(Instr.findKey 3 (.int .i64 1) (kEs 5).toList).run Tryz.prog w=.ok (some (0,.func (.func 49) #[] #[])) w:=by kernel_rfl
 have he:(kEs 5).isEmpty=false:=rfl
 simp[Instr.lookup,run_underlying Tryz.ul83,MapKept.run_getObj_map hb,hc,hf,he,Result.andThen]
set_option maxRecDepth 100000 in
theorem klook2(w:World)(b:Nat)(hb:w.heap[b]?=some (.map (kEs 5) 5)):(Instr.lookup 83 (.map (some b)) (.int .i64 2) false).run Tryz.prog w=.ok (.func (.func 50) #[] #[]) w:=by
 have hc:(Instr.checkKey false 10000 3 (.int .i64 2)).run Tryz.prog w=.ok () w:=by kernel_rfl
 have hf:(Instr.findKey 3 (.int .i64 2) (kEs 5).toList).run Tryz.prog w=.ok (some (1,.func (.func 50) #[] #[])) w:=by kernel_rfl
 have he:(kEs 5).isEmpty=false:=rfl
 simp[Instr.lookup,run_underlying Tryz.ul83,MapKept.run_getObj_map hb,hc,hf,he,Result.andThen]
set_option maxRecDepth 100000 in
theorem klook3(w:World)(b:Nat)(hb:w.heap[b]?=some (.map (kEs 5) 5)):(Instr.lookup 83 (.map (some b)) (.int .i64 3) false).run Tryz.prog w=.ok (.func (.func 51) #[] #[]) w:=by
 have hc:(Instr.checkKey false 10000 3 (.int .i64 3)).run Tryz.prog w=.ok () w:=by kernel_rfl
 have hf:(Instr.findKey 3 (.int .i64 3) (kEs 5).toList).run Tryz.prog w=.ok (some (2,.func (.func 51) #[] #[])) w:=by kernel_rfl
 have he:(kEs 5).isEmpty=false:=rfl
 simp[Instr.lookup,run_underlying Tryz.ul83,MapKept.run_getObj_map hb,hc,hf,he,Result.andThen]
set_option maxRecDepth 100000 in
theorem klook4(w:World)(b:Nat)(hb:w.heap[b]?=some (.map (kEs 5) 5)):(Instr.lookup 83 (.map (some b)) (.int .i64 4) false).run Tryz.prog w=.ok (.func (.func 52) #[] #[]) w:=by
 have hc:(Instr.checkKey false 10000 3 (.int .i64 4)).run Tryz.prog w=.ok () w:=by kernel_rfl
 have hf:(Instr.findKey 3 (.int .i64 4) (kEs 5).toList).run Tryz.prog w=.ok (some (3,.func (.func 52) #[] #[])) w:=by kernel_rfl
 have he:(kEs 5).isEmpty=false:=rfl
 simp[Instr.lookup,run_underlying Tryz.ul83,MapKept.run_getObj_map hb,hc,hf,he,Result.andThen]
set_option maxRecDepth 100000 in
theorem klook5(w:World)(b:Nat)(hb:w.heap[b]?=some (.map (kEs 5) 5)):(Instr.lookup 83 (.map (some b)) (.int .i64 5) false).run Tryz.prog w=.ok (.func (.func 53) #[] #[]) w:=by
 have hc:(Instr.checkKey false 10000 3 (.int .i64 5)).run Tryz.prog w=.ok () w:=by kernel_rfl
 have hf:(Instr.findKey 3 (.int .i64 5) (kEs 5).toList).run Tryz.prog w=.ok (some (4,.func (.func 53) #[] #[])) w:=by kernel_rfl
 have he:(kEs 5).isEmpty=false:=rfl
 simp[Instr.lookup,run_underlying Tryz.ul83,MapKept.run_getObj_map hb,hc,hf,he,Result.andThen]
def GaveKinds(w:World)(e:Ending)(w':World):Prop:=∃mb,e=.returned (.map (some mb))∧New w w'∧w'.heap[mb]?=some (.map (kEs 5) 5)
set_option maxRecDepth 100000 in
set_option maxHeartbeats 2000000 in
theorem kinds_any(w:World):Calls Tryz.prog 31 #[] w (GaveKinds w):=by
 have hmm:=@run_makeMap Tryz.prog
 go_enter Tryz.func31,Tryz.ntmps31
 obtain⟨w0,hw0⟩:∃w0,w0=w.alloc (.map #[] 0):=⟨_,rfl⟩
 have h0:w0.heap[w.heap.size]?=some (.map (kEs 0) 0):=by rw[hw0];exact heap_alloc_new _ _
 have hn0:New w w0:=by rw[hw0];exact(Fr.refl _ w).alloc _
 have k0:=kins0 w0 w.heap.size h0
 obtain⟨w1,hw1⟩:∃w',w'=setBlock w0 w.heap.size (.map (kEs 1) 1):=⟨_,rfl⟩
 have h1:w1.heap[w.heap.size]?=some (.map (kEs 1) 1):=by rw[hw1];exact setBlock_get h0
 have hn1:New w w1:=by rw[hw1];exact hn0.next (setBlock_fr _ _ _) fun i hi=>.inr (by rw[hi];exact Nat.le_refl _)
 rw[←hw1]at k0;have k1:=kins1 w1 w.heap.size h1
 obtain⟨w2,hw2⟩:∃w',w'=setBlock w1 w.heap.size (.map (kEs 2) 2):=⟨_,rfl⟩
 have h2:w2.heap[w.heap.size]?=some (.map (kEs 2) 2):=by rw[hw2];exact setBlock_get h1
 have hn2:New w w2:=by rw[hw2];exact hn1.next (setBlock_fr _ _ _) fun i hi=>.inr (by rw[hi];exact Nat.le_refl _)
 rw[←hw2]at k1;have k2:=kins2 w2 w.heap.size h2
 obtain⟨w3,hw3⟩:∃w',w'=setBlock w2 w.heap.size (.map (kEs 3) 3):=⟨_,rfl⟩
 have h3:w3.heap[w.heap.size]?=some (.map (kEs 3) 3):=by rw[hw3];exact setBlock_get h2
 have hn3:New w w3:=by rw[hw3];exact hn2.next (setBlock_fr _ _ _) fun i hi=>.inr (by rw[hi];exact Nat.le_refl _)
 rw[←hw3]at k2;have k3:=kins3 w3 w.heap.size h3
 obtain⟨w4,hw4⟩:∃w',w'=setBlock w3 w.heap.size (.map (kEs 4) 4):=⟨_,rfl⟩
 have h4:w4.heap[w.heap.size]?=some (.map (kEs 4) 4):=by rw[hw4];exact setBlock_get h3
 have hn4:New w w4:=by rw[hw4];exact hn3.next (setBlock_fr _ _ _) fun i hi=>.inr (by rw[hi];exact Nat.le_refl _)
 rw[←hw4]at k3;have k4:=kins4 w4 w.heap.size h4
 obtain⟨w5,hw5⟩:∃w',w'=setBlock w4 w.heap.size (.map (kEs 5) 5):=⟨_,rfl⟩
 have h5:w5.heap[w.heap.size]?=some (.map (kEs 5) 5):=by rw[hw5];exact setBlock_get h4
 have hn5:New w w5:=by rw[hw5];exact hn4.next (setBlock_fr _ _ _) fun i hi=>.inr (by rw[hi];exact Nat.le_refl _)
 rw[←hw5]at k4;rw[hw0]at k0;have HN:=Lib.hid hn5;have HH:=Lib.hid h5;clear h0 h1 h2 h3 h4 h5 hn0 hn1 hn2 hn3 hn4 hn5 hw1 hw2 hw3 hw4 hw5 hw0;go_wp2;go_ret
 exact⟨_,rfl,HN.out,HH.out⟩
end Go.Proofs.YtlicglicfijelaaGreat

/- Walks: Do, of what takes crossings out. -/
namespace Go.Proofs.YtlicglicfijelaaGreat
open Go.RowKit

def GaveDo(o:Out)(w:World)(e:Ending)(w':World):Prop:=
 New w w'∧match o with
  |.no x=>e=.returned (.tuple #[.agg #[.slice none 0 0,.int .i64 0],.int .i64 x])
  |.ok Y L=>∃a c,e=.returned (.tuple #[.agg #[.slice a Y.length c,.int .i64 L],.int .i64 0])∧CrsAt w' a Y∧∀ad,a=some ad→w.heap.size≤ad.block
theorem one_c{W:World}{B t:Nat}{a:Value}(h:W.heap[B]?=some (.cells #[a] t (0,0))):W.cell? ⟨B,0,none⟩=some a∧W.frozen? ⟨B,0,none⟩=false:=by
 refine⟨cell_of_row _ _ 0 _ t (0,0) h,?_⟩
 simp[World.frozen?,h]
theorem one_set{W:World}{B t:Nat}{a:Value}(h:W.heap[B]?=some (.cells #[a] t (0,0)))(v:Value):(W.setCell ⟨B,0,none⟩ v).heap[B]?=some (.cells #[v] t (0,0)):=by
 unfold World.setCell;simp[Array.getElem?_modify,h]
theorem cell_in{W:World}{B t:Nat}{cs:Array Value}(h:W.heap[B]?=some (.cells cs t (0,0))){j:Nat}{v:Value}(hc:W.cell? ⟨B,j,none⟩=some v):j<cs.size:=by
 have h1:=cell_of_row W B j cs t (0,0) h;rw[h1]at hc
 exact(Array.getElem?_eq_some_iff.1 hc).1
theorem CrsAt.off{w w':World}{B2 B3:Nat}{p q e:Value}{a:Option Addr}{Y:List Kn.Cr}(h:CrsAt w a Y)(hR:w.heap[B2]?=some (.cells #[p,q] 24 (0,0)))(hE:w.heap[B3]?=some (.cells #[e] 30 (0,0)))(hF:Fr (fun k=>k=B2∨k=B3) w w'):CrsAt w' a Y:=by
 rcases h with h0|⟨g,o,h1,h2⟩
 · exact .inl h0
 · refine .inr ⟨g,o,h1,fun i hi=>hF.crAt (h2 i hi) ?_⟩
   have hc:=(h2 i hi).p;rintro(rfl|rfl)
   · have:=cell_in hR hc
     simp at this
     omega
   · have:=cell_in hE hc
     simp at this
theorem wp_only{P:Program}{c:Code}{Q:Exit→Act→World→Prop}{a:Act}{w:World}(h:c.wp P (fun e a' w'=>match e with | .normal=>Q .normal a' w' | _=>False) a w):c.wp P Q a w:=
 wp_mono h fun e _ _ h=>by
  cases e
  case normal=>exact h
  all_goals exact h.elim
structure Sto(w:World)(B2 B3:Nat)(V1 V2 V3:Value):Prop where
 a1:∃p,w.cell? ⟨B2,0,none⟩=some p
 a2:w.frozen? ⟨B2,0,none⟩=false
 b1:∃p,(w.setCell ⟨B2,0,none⟩ V1).cell? ⟨B2,1,none⟩=some p
 b2:(w.setCell ⟨B2,0,none⟩ V1).frozen? ⟨B2,1,none⟩=false
 c1:∃p,((w.setCell ⟨B2,0,none⟩ V1).setCell ⟨B2,1,none⟩ V2).cell? ⟨B3,0,none⟩=some p
 c2:((w.setCell ⟨B2,0,none⟩ V1).setCell ⟨B2,1,none⟩ V2).frozen? ⟨B3,0,none⟩=false
 d1:(((w.setCell ⟨B2,0,none⟩ V1).setCell ⟨B2,1,none⟩ V2).setCell ⟨B3,0,none⟩ V3).cell? ⟨B2,0,none⟩=some V1
 d2:(((w.setCell ⟨B2,0,none⟩ V1).setCell ⟨B2,1,none⟩ V2).setCell ⟨B3,0,none⟩ V3).cell? ⟨B2,1,none⟩=some V2
 d3:(((w.setCell ⟨B2,0,none⟩ V1).setCell ⟨B2,1,none⟩ V2).setCell ⟨B3,0,none⟩ V3).cell? ⟨B3,0,none⟩=some V3
 fr:Fr (fun k=>k=B2∨k=B3) w (((w.setCell ⟨B2,0,none⟩ V1).setCell ⟨B2,1,none⟩ V2).setCell ⟨B3,0,none⟩ V3)
theorem sto{w:World}{B2 B3:Nat}{p q e:Value}(hR:w.heap[B2]?=some (.cells #[p,q] 24 (0,0)))(hE:w.heap[B3]?=some (.cells #[e] 30 (0,0)))(hne:¬B3=B2)(V1 V2 V3:Value):Sto w B2 B3 V1 V2 V3:=by
 have hb1:=(box2_set hR V1).1;have hb2:=(box2_set hb1 V2).2
 have hS:Fr (fun k=>k=B2) w ((w.setCell ⟨B2,0,none⟩ V1).setCell ⟨B2,1,none⟩ V2):=by refine Fr.setCell (Fr.setCell (Fr.refl _ w) ?_ _) ?_ _<;>exact .inl rfl
 have hE2:=hS.blk hE hne;have hT:Fr (fun k=>k=B3) ((w.setCell ⟨B2,0,none⟩ V1).setCell ⟨B2,1,none⟩ V2) (((w.setCell ⟨B2,0,none⟩ V1).setCell ⟨B2,1,none⟩ V2).setCell ⟨B3,0,none⟩ V3):=(Fr.refl (fun k=>k=B3) _).setCell (.inl rfl) _
 have hb3:=hT.blk hb2 fun e=>hne e.symm
 have hE3:=one_set hE2 V3;obtain⟨r0,_,r2,_⟩:=box2_c hR;obtain⟨_,s1,_,s3⟩:=box2_c hb1;obtain⟨t0,t1⟩:=one_c hE2;obtain⟨u0,u1,_,_⟩:=box2_c hb3
 exact⟨⟨_,r0⟩,r2,⟨_,s1⟩,s3,⟨_,t0⟩,t1,u0,u1,(one_c hE3).1,(hS.mono fun _ h=>.inl h).trans (hT.mono fun _ h=>.inr h)⟩
def doO(X:List Kn.Cr)(L:Int)(o:Out):Out:=if Kn.mayB X L&&Kn.planarB X then o else .no 7
end Go.Proofs.YtlicglicfijelaaGreat

/- What comes of a move is planar and smaller: plain mathematics. -/
namespace Go.Proofs.YtlicglicfijelaaGreat
open Kn

def Good(X:List Cr)(L:Int):Prop:=mayB X L=true∧planarB X=true
theorem takeO_good{X Y:List Cr}{L N:Int}{gone:Nat→Bool}(hg:Good X L)(h1:Ok (takeL X gone)∧(planarB X=true→planarB (takeL X gone)=true))(h2:(kept X.length gone).length<X.length)(h:takeO X L gone=.ok Y N):Good Y N∧Y.length<X.length:=by
 unfold takeO at h
 split at h
 · rename_i h16
   cases h
   have hok:=mayB_ok hg.1
   have hL:0≤L:=by
    have h3:=hg.1
    unfold mayB at h3
    simp only[Bool.and_eq_true,decide_eq_true_eq]at h3
    exact h3.1.1.1.2
   have hlen:=takeL_len (X:=X) gone
   refine⟨⟨?_,h1.2 hg.2⟩,by omega⟩
   have h4:=(ok_iff _).2 h1.1
   unfold mayB
   simp only[Bool.and_eq_true,decide_eq_true_eq,Bool.not_eq_true',Bool.and_eq_false_iff,decide_eq_false_iff_not]
   refine⟨⟨⟨⟨by omega,by omega⟩,h16⟩,?_⟩,h4⟩
   by_cases c:(takeL X gone).length=0
   · right
     have:=hok.1.takeN_pos gone (by omega) (List.length_eq_zero_iff.1 c)
     omega
   · exact .inl c
 · cases h
theorem face_two{X:List Cr}(hX:Ok X){d e:Dt}(hf:[d,e]∈facesL X):Kn.isArc X d.1∧Kn.isArc X e.1∧left X d=e∧left X e=d:=by
 have hp:=faces_perm hX;have hd:Kn.isArc X d.1:=mem_darts.1 (hp.mem_iff.1 (List.mem_flatten.2 ⟨_,hf,by simp⟩));have he:Kn.isArc X e.1:=mem_darts.1 (hp.mem_iff.1 (List.mem_flatten.2 ⟨_,hf,by simp⟩));have hnd:(facesL X).flatten.Nodup:=hp.nodup_iff.2 (darts_nodup X)
 have hde:d≠e:=by
  have:=(List.pairwise_flatten.1 hnd).1 _ hf
  simp at this
  exact this
 have hm:[pk (head X d),pk (head X e)]∈(facesL X).map (List.map fun d=>pk (head X d)):=List.mem_map.2 ⟨_,hf,rfl⟩;have key:=hX.faces_is _ hm
 have inj:∀{a b:Dt},Kn.isArc X a.1→Kn.isArc X b.1→pk (head X a)=pk (head X b)→a=b:=fun ha hb h=>hX.head_inj ha hb (pk_inj (hX.isPl_head ha).2 (hX.isPl_head hb).2 h)
 have orb1:∀{x:Dt},Kn.isArc X x.1→Orb (fac X) (pk (head X x)) (pk (head X (left X x))):=fun {x} hx=>⟨1,hX.fac_head hx⟩
 have m1:left X d=d∨left X d=e:=by
  have:=(key _ (by simp) _).2 (orb1 hd)
  rcases List.mem_cons.1 this with h|h
  · exact .inl (inj (hX.isArc_left hd) hd h)
  · exact .inr (inj (hX.isArc_left hd) he (List.mem_singleton.1 h))
 have m2:left X e=d∨left X e=e:=by
  have:=(key _ (by simp) _).2 (orb1 he)
  rcases List.mem_cons.1 this with h|h
  · exact .inl (inj (hX.isArc_left he) hd h)
  · exact .inr (inj (hX.isArc_left he) he (List.mem_singleton.1 h))
 have m3:left X d≠d:=fun h=>by
  have hfix:∀n,it (fac X) n (pk (head X d))=pk (head X d):=fun n=>by
   induction n with
   |zero=>rfl
   |succ n ih=>
    have h2:=hX.fac_head hd;rw[h]at h2
    first
     |(show fac X (it (fac X) n _)=_;rw[ih,h2])
     |(show it (fac X) n (fac X _)=_;rw[h2,ih])
  have:=(key (pk (head X d)) (by simp) (pk (head X e))).1 (by simp);obtain⟨n,hn⟩:=this;rw[hfix n]at hn
  exact hde (inj hd he hn)
 have h1:=m1.resolve_left m3
 refine⟨hd,he,h1,m2.resolve_right fun h=>?_⟩
 have a1:=hX.fac_head hd;have a2:=hX.fac_head he;rw[h1]at a1;rw[h]at a2;have:=hX.fac_pm.inj _ _ (a1.trans a2.symm)
 exact hde (inj hd he this)
theorem tail_left{X:List Cr}(hX:Ok X){d:Dt}(hd:Kn.isArc X d.1):head X ((left X d).1,!(left X d).2)=((head X d).1,((head X d).2+3)%4):=by
 have hq:isPl X ((head X d).1,((head X d).2+3)%4):=isPl_turn (hX.isPl_head hd) 3;have:=hX.end_eq hq
 show endP X (!!(cm X ((head X d).1,((head X d).2+3)%4))) (arcN X ((head X d).1,((head X d).2+3)%4))=_
 rw[Bool.not_not];exact this
theorem both_comm(x y:Nat):both x y=both y x:=by funext d;simp[Bool.or_comm]
theorem unO_good{X Y:List Cr}{L N:Int}{c:Nat}(hg:Good X L)(h:unO X L c=.ok Y N):Good Y N∧Y.length<X.length:=by
 unfold unO at h
 split at h
 · rename_i hc
   split at h
   · rename_i hcu
     have hcl:c<X.length:=by
      unfold isCr at hc
      simp only[Bool.and_eq_true,decide_eq_true_eq]at hc
      omega
     simp only[Int.toNat_natCast]at h hcu
     unfold curlB at hcu
     rw[List.any_eq_true]at hcu;obtain⟨s,hs,hcs⟩:=hcu
     refine takeO_good hg ((mayB_ok hg.1).1.take_kink hcl (List.mem_range.1 hs) (of_decide_eq_true hcs)) ?_ h
     have:=kept_only (n:=X.length) hcl
     omega
   · cases h
 · cases h
theorem pullO_good{X Y:List Cr}{L N:Int}{a b:Nat}(hg:Good X L)(h:pullO X L a b=.ok Y N):Good Y N∧Y.length<X.length:=by
 unfold pullO at h
 split at h
 · rename_i hc
   split at h
   · rename_i hf
     simp only[Bool.and_eq_true,decide_eq_true_eq]at hc;obtain⟨⟨ha,hb⟩,hab⟩:=hc
     have hal:a<X.length:=by unfold isCr at ha;simp only[Bool.and_eq_true,decide_eq_true_eq]at ha;omega
     have hbl:b<X.length:=by unfold isCr at hb;simp only[Bool.and_eq_true,decide_eq_true_eq]at hb;omega
     have hne:a≠b:=fun e=>hab (by rw[e])
     simp only[Int.toNat_natCast]at h;have hX:=(mayB_ok hg.1).1;rw[List.any_eq_true]at hf;obtain⟨f,hf1,hf2⟩:=hf
     match f,hf1,hf2 with
     |[d,e],hf1,hf2=>
      obtain⟨hd,he,h1,h2⟩:=face_two hX hf1;obtain⟨b1,b2⟩:=hX.bigon_of hd h1 h2;have t1:=tail_left hX hd;have t2:=tail_left hX he;rw[h1]at t1;rw[h2]at t2
      unfold bigF at hf2
      simp only[t1,t2,Bool.and_eq_true,Bool.or_eq_true,decide_eq_true_eq]at hf2;have hxl:(head X e).1<X.length:=(hX.isPl_head he).1;have hyl:(head X d).1<X.length:=(hX.isPl_head hd).1;have hs4:((head X e).2+3)%4<4:=Nat.mod_lt _ (by omega)
      have hxy:(head X e).1≠(head X d).1:=by omega
      have oB:other X ((head X e).1,(((head X e).2+3)%4+1)%4)=((head X d).1,((head X d).2+3)%4):=by
       have h4:=(hX.isPl_head he).2;rw[show (((head X e).2+3)%4+1)%4=(head X e).2 by omega]
       exact b2
      have hk:=hX.take_bigon hxl hyl hxy hs4 (hX.isPl_head hd).2 b1 oB
      have hgone:both a b=both (head X e).1 (head X d).1:=by
       rcases hf2.1 with h|h
       · rw[show (head X e).1=a by omega,show (head X d).1=b by omega]
       · rw[show (head X e).1=b by omega,show (head X d).1=a by omega,both_comm]
      rw[←hgone]at hk
      refine takeO_good hg hk ?_ h
      have:=kept_both (n:=X.length) hal hbl hne
      omega
   · cases h
 · cases h
end Go.Proofs.YtlicglicfijelaaGreat
