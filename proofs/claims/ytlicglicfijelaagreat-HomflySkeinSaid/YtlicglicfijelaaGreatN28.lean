/- Walks: Reverse of three numbers, cut. -/
import Derived.Test.YtlicglicfijelaaGreatN25
import Derived.Laws.StructEq
import Derived.Test.YtlicglicfijelaaGreatN4
/- Walks: Reverse of three numbers, cut. -/
namespace Go.Proofs.YtlicglicfijelaaGreat
open Go.RowKit
theorem three_c{W:World}{B t:Nat}{a b c:Value}(h:W.heap[B]?=some (.cells #[a,b,c] t (0,0))):
 W.cell? ⟨B,0,none⟩=some a∧W.cell? ⟨B,1,none⟩=some b∧W.cell? ⟨B,2,none⟩=some c∧W.frozen? ⟨B,0,none⟩=false∧W.frozen? ⟨B,1,none⟩=false∧W.frozen? ⟨B,2,none⟩=false:=by
 refine⟨cell_of_row _ _ 0 _ t (0,0) h,cell_of_row _ _ 1 _ t (0,0) h,cell_of_row _ _ 2 _ t (0,0) h,?_,?_,?_⟩<;>simp[World.frozen?,h]
theorem three_set0{W:World}{B t:Nat}{a b c:Value}(h:W.heap[B]?=some (.cells #[a,b,c] t (0,0)))(v:Value):(W.setCell ⟨B,0,none⟩ v).heap[B]?=some (.cells #[v,b,c] t (0,0)):=by
 unfold World.setCell;simp[Array.getElem?_modify,h]
theorem three_set1{W:World}{B t:Nat}{a b c:Value}(h:W.heap[B]?=some (.cells #[a,b,c] t (0,0)))(v:Value):(W.setCell ⟨B,1,none⟩ v).heap[B]?=some (.cells #[a,v,c] t (0,0)):=by
 unfold World.setCell;simp[Array.getElem?_modify,h]
theorem three_set2{W:World}{B t:Nat}{a b c:Value}(h:W.heap[B]?=some (.cells #[a,b,c] t (0,0)))(v:Value):(W.setCell ⟨B,2,none⟩ v).heap[B]?=some (.cells #[a,b,v] t (0,0)):=by
 unfold World.setCell;simp[Array.getElem?_modify,h]
set_option maxRecDepth 100000 in
set_option maxHeartbeats 2000000 in
theorem reverse_any(B t c:Nat)(x y z:Int)(w:World)(h:w.heap[B]?=some (.cells #[.int .i64 x,.int .i64 y,.int .i64 z] t (0,0))):
 Calls Tryz.prog 104 #[.slice (some ⟨B,0,none⟩) 3 c] w fun e w'=>e=.returned (.tuple #[])∧Fr (fun k=>k=B) w w'∧w'.heap[B]?=some (.cells #[.int .i64 z,.int .i64 y,.int .i64 x] t (0,0)):=by
 have H:=Lib.hid h;clear h
 go_enter Tryz.func104,Tryz.ntmps104
 go_wp2
 go_loopw [2,3] (fun i j wr=>(i=.int .i64 0∧j=.int .i64 2∧Hid (Fr (fun k=>k=B) w wr∧wr.heap[B]?=some (.cells #[.int .i64 x,.int .i64 y,.int .i64 z] t (0,0))))∨(i=.int .i64 1∧j=.int .i64 1∧Hid (Fr (fun k=>k=B) w wr∧wr.heap[B]?=some (.cells #[.int .i64 z,.int .i64 y,.int .i64 x] t (0,0))))) (fun i _ _=>1-(intOf i).toNat)
 case atStart=>exact .inl ⟨rfl,rfl,Lib.hid ⟨Fr.refl _ w,H.out⟩⟩
 case round=>
  rcases hrel with⟨rfl,rfl,HI⟩|⟨rfl,rfl,HI⟩
  · obtain⟨c0,_,c2,f0,_,f2⟩:=three_c (show wr.drew.heap[B]?=_ from HI.out.2)
    obtain⟨e0,_,e2,k0,_,k2⟩:=three_c HI.out.2;go_wp2_with fail
    go_region
    all_goals (go_wp2_with fail)
    go_roundw
    case rel=>
     refine .inr ⟨rfl,rfl,Lib.hid ⟨?_,?_⟩⟩
     · exact((HI.out.1.setCell (a:=⟨B,0,none⟩) (.inl rfl) _).setCell (a:=⟨B,2,none⟩) (.inl rfl) _).drew
     · exact three_set2 (three_set0 HI.out.2 _) _
    case measure=>simp[intOf]
  · go_wp2
    go_end0
    exact⟨rfl,HI.out.1,HI.out.2⟩
def cutV(a nx:Int)(back:Bool):Value:=.agg #[.int .i64 (if back then nx+1 else a),.int .i64 nx,.int .i64 (if back then a else nx+1)]
set_option maxRecDepth 100000 in
set_option maxHeartbeats 2000000 in
theorem cut_any(a nx:Int)(back:Bool)(w:World)(h1:0≤nx)(h2:nx≤1000):
 Calls Tryz.prog 82 #[.agg #[.int .i64 a,.bool back],.int .i64 nx] w fun e w'=>e=.returned (cutV a nx back)∧New w w':=by
 have hw:IntKind.i64.wrap (nx+1)=nx+1:=IntWalk.i64_in _ (by omega)
 obtain⟨ny,HY⟩:∃ny,Hid (ny=nx+1):=⟨_,Lib.hid rfl⟩
 rw[←HY.out]at hw
 unfold cutV
 rw[←HY.out];have hy:nx+1=ny:=HY.out.symm
 obtain⟨w1,HW1⟩:∃w1,Hid (w1=((w.alloc (.cells #[.int .i64 a,.bool back] 26)).alloc (.cells #[.int .i64 0,.int .i64 0,.int .i64 0] 146)).alloc (.cells #[.int .i64 a,.int .i64 nx,.int .i64 ny] 146)):=⟨_,Lib.hid rfl⟩
 obtain⟨B2,HB2⟩:∃B,Hid (B=w.heap.size+1):=⟨_,Lib.hid rfl⟩
 obtain⟨B3,HB3⟩:∃B,Hid (B=w.heap.size+1+1):=⟨_,Lib.hid rfl⟩
 have HN1:Hid (New w w1):=Lib.hid (by rw[HW1.out];exact(((Fr.refl _ w).alloc _).alloc _).alloc _)
 have HC2:Hid (w1.heap[B2]?=some (.cells #[.int .i64 0,.int .i64 0,.int .i64 0] 146 (0,0))):=Lib.hid (by
  have h:=heap_alloc_new (w.alloc (.cells #[.int .i64 a,.bool back] 26)) (.cells #[.int .i64 0,.int .i64 0,.int .i64 0] 146);rw[World.size_alloc]at h;rw[HW1.out,HB2.out]
  exact((Fr.refl (fun _=>False) _).alloc _).blk h fun x=>x)
 have HC3:Hid (w1.heap[B3]?=some (.cells #[.int .i64 a,.int .i64 nx,.int .i64 ny] 146 (0,0))):=Lib.hid (by
  have h:=heap_alloc_new ((w.alloc (.cells #[.int .i64 a,.bool back] 26)).alloc (.cells #[.int .i64 0,.int .i64 0,.int .i64 0] 146)) (.cells #[.int .i64 a,.int .i64 nx,.int .i64 ny] 146);rw[World.size_alloc,World.size_alloc]at h;rw[HW1.out,HB3.out]
  exact h)
 cases back
 · go_enter Tryz.func82,Tryz.ntmps82
   go_wp2_with fail;have hN:New w (((w.alloc (.cells #[.int .i64 a,.bool false] 26)).alloc (.cells #[.int .i64 a,.int .i64 nx,.int .i64 ny] 146)).alloc (.cells #[.int .i64 a,.int .i64 nx,.int .i64 ny] 146)):=(((Fr.refl _ w).alloc _).alloc _).alloc _;have h:=heap_alloc_new (w.alloc (.cells #[.int .i64 a,.bool false] 26)) (.cells #[.int .i64 a,.int .i64 nx,.int .i64 ny] 146);rw[World.size_alloc]at h;obtain⟨y1,y2,y3,_⟩:=three_c (((Fr.refl (fun _=>False) _).alloc (.cells #[.int .i64 a,.int .i64 nx,.int .i64 ny] 146)).blk h fun x=>x)
   exact bodyPost_ret (v:=.agg #[.int .i64 a,.int .i64 nx,.int .i64 ny]) (by simp[results,Tryz.results82,go_sem,y1,y2,y3]) rfl ⟨rfl,hN⟩
 · go_enter Tryz.func82,Tryz.ntmps82
   go_wp2_with fail;rw[←HW1.out,←HB3.out,←HB2.out];refine(reverse_any B3 146 3 a nx ny w1 HC3.out).mono ?_;rintro e w2 ⟨rfl,hF,hb⟩
   have hB3:w.heap.size≤B3:=by have:=HB3.out;omega
   have h23:¬B2=B3:=by have:=HB3.out;have:=HB2.out;omega
   have HN2:=Lib.hid (HN1.out.next hF fun i hi=>.inr (by rw[hi];exact hB3));have hc2:=hF.blk HC2.out h23;have hs:=three_set2 (three_set1 (three_set0 hc2 (.int .i64 ny)) (.int .i64 nx)) (.int .i64 a)
   have hB2:w.heap.size≤B2:=by have:=HB2.out;omega
   have HF3:=Lib.hid (((((Fr.refl (fun k=>k=B2) w2).setCell (a:=⟨B2,0,none⟩) (.inl rfl) (.int .i64 ny)).setCell (a:=⟨B2,1,none⟩) (.inl rfl) (.int .i64 nx)).setCell (a:=⟨B2,2,none⟩) (.inl rfl) (.int .i64 a)));obtain⟨x1,x2,x3,_⟩:=three_c hb;obtain⟨z1,z2,z3,z4,z5,z6⟩:=three_c hc2;obtain⟨y1,y2,y3,_⟩:=three_c hs;clear hF hb hc2 hs;go_wp2_with fail
   exact bodyPost_ret (v:=.agg #[.int .i64 ny,.int .i64 nx,.int .i64 a]) (by simp[results,Tryz.results82,go_sem,y1,y2,y3]) rfl ⟨by simp,HN2.out.next HF3.out fun i hi=>.inr (by rw[hi];exact hB2)⟩
end Go.Proofs.YtlicglicfijelaaGreat

/- Walks: Index and Contains of darts; push's inner function, and faces asked by it. -/
namespace Go.Proofs.YtlicglicfijelaaGreat
open Go.RowKit

theorem Tryz.eqDa:Tryz.prog.eqGuardType Tryz.prog.depth 26=false:=by kernel_rfl
theorem Tryz.eqDb:Tryz.prog.stoodInHeld 26=false:=by kernel_rfl
theorem Tryz.eqDc:Tryz.prog.underlying 26=some (.struct (Tryz.prog.fieldsOf 26)):=by kernel_rfl
theorem Tryz.eqDd : (Tryz.prog.fieldsOf 26).toList.map (fun f => (f.type, f.name, f.offset)) = [(3, "Arc", 0), (4, "Back", 1)] := by kernel_rfl
theorem Tryz.infoB':(Tryz.prog.info? 4).map (fun i=>(i.zero,i.size,i.bytes))=some (some (.bool false),1,1):=by kernel_rfl
theorem eqD(w:World)(u v:Nat)(b c r:Bool)(hr:decide (((u,b):Kn.Dt)=(v,c))=r):(binOp .eql 26 (.agg #[.int .i64 (u:Nat),.bool b]) (.agg #[.int .i64 (v:Nat),.bool c])).run Tryz.prog w=.ok (.bool r) w:=by
 subst hr;rw[run_eql_struct,run_equalIn_agg _ _ _ _ _ Tryz.eqDc Tryz.eqDb];have h4:=Tryz.eqDd
 rcases h:(Tryz.prog.fieldsOf 26).toList with _|⟨f1,_|⟨f2,_|⟨f3,r⟩⟩⟩<;>simp[h]at h4
 obtain⟨⟨t1,n1,o1⟩,t2,n2,o2⟩:=h4;have hu:=Tryz.underlying3;have hb:=Tryz.underlying4;obtain⟨i0,hi0,_,hz2,_⟩:=info_parts Tryz.info3;obtain⟨i1,hi1,_,hz4,_⟩:=info_parts Tryz.infoB'
 have key:(decide (((u,b):Kn.Dt)=(v,c)))=(((u:Nat):Int)==((v:Nat):Int)&&b==c):=by
  rw[Bool.eq_iff_iff];simp[Int.ofNat_inj]
 rw[key]
 cases h1:((u:Nat):Int)==((v:Nat):Int)
 · simp[go_sem,Op.eqFields,n1,n2,t1,t2,o1,o2,part,sizeOf,typeInfo,hi0,hz2,hi1,hz4,run_equalIn_int _ _ _ .i64 .i64 _ _ hu,run_equalIn_bool _ _ _ _ _ hb,h1]
 cases h2:b==c<;>simp[go_sem,Op.eqFields,n1,n2,t1,t2,o1,o2,part,sizeOf,typeInfo,hi0,hz2,hi1,hz4,run_equalIn_int _ _ _ .i64 .i64 _ _ hu,run_equalIn_bool _ _ _ _ _ hb,h1,h2]
set_option maxRecDepth 100000 in
set_option maxHeartbeats 2000000 in
theorem indexD_any(v:Value)(l:List Kn.Dt)(u:Nat)(ub:Bool)(w:World)(h:OwnD w v l)(hl:l.length≤64):
 Calls Tryz.prog 103 #[v,.agg #[.int .i64 (u:Nat),.bool ub]] w (fun e w'=>(∃r,e=.returned (.int .i64 r)∧(0≤r↔(u,ub)∈l))∧New w w'):=by
 have hq:=Tryz.eqDa;obtain⟨a,c,rfl,hc⟩:=h.cells
 obtain⟨n,hn⟩:∃n,n=l.length:=⟨_,rfl⟩
 rw[←hn]at hl ⊢;have HN:=Lib.hid hn;have HC:=Lib.hid hc;clear h hc hn
 obtain⟨w0,HW0⟩:∃w0,Hid (w0=w.alloc (.cells #[.int .i64 (u:Nat),.bool ub] 26)):=⟨_,Lib.hid rfl⟩
 obtain⟨B0,HB0⟩:∃B,Hid (B=w.heap.size):=⟨_,Lib.hid rfl⟩
 have HF0:Hid (New w w0):=Lib.hid (by rw[HW0.out];exact(Fr.refl _ w).alloc _);have HBX:Hid (w0.heap[B0]?=some (.cells #[.int .i64 (u:Nat),.bool ub] 26 (0,0))):=Lib.hid (by rw[HW0.out,HB0.out];exact heap_alloc_new _ _)
 go_enter Tryz.func103,Tryz.ntmps103
 go_wp2_with fail;rw[←HW0.out,←HB0.out]
 go_loopw [8] (fun i wr=>∃k:Nat,k≤n∧i=.int .i64 k∧Hid (New w0 wr)∧Hid (∀j (hj:j<l.length),j<k→l[j]≠(u,ub))) (fun i _=>n-(intOf i).toNat)
 case atStart=>exact⟨0,by omega,rfl,Lib.hid (Fr.refl _ _),Lib.hid fun j _ hj=>by omega⟩
 case round=>
  obtain⟨k,hk,rfl,HW,HT⟩:=hrel
  by_cases hlt:k<n
  · have hkl:k<l.length:=by have:=HN.out;omega
    rcases HC.out with h0|⟨g,rfl,hcs⟩
    · rw[h0]at hkl;simp at hkl
    · obtain⟨d1,d2⟩:=hcs k hkl
      obtain⟨y,HY⟩:∃y,Hid (y=(l[k]).1):=⟨_,Lib.hid rfl⟩
      obtain⟨yb,HYB⟩:∃y,Hid (y=(l[k]).2):=⟨_,Lib.hid rfl⟩
      rw[←HY.out]at d1;rw[←HYB.out]at d2;have hN:=HF0.out.trans HW.out
      have e1:wr.drew.cell? ⟨g,k*2,none⟩=some (.int .i64 (y:Nat)):=hN.cell d1 fun x=>x
      have e2:wr.drew.cell? ⟨g,k*2+1,none⟩=some (.bool yb):=hN.cell d2 fun x=>x
      obtain⟨b0,b1,_⟩:=box2_c (show wr.drew.heap[B0]?=_ from HW.out.blk HBX.out fun x=>x)
      have i1:(0:Int)≤(k:Int):=by omega
      have i2:(k:Int)<(n:Int):=by omega
      obtain⟨r,HR⟩:∃r,Hid (decide (((u,ub):Kn.Dt)=(y,yb))=r):=⟨_,Lib.hid rfl⟩
      have heq:=fun w=>eqD w u y ub yb r HR.out
      clear d1 d2 hN hcs
      cases r
      · go_wp2_with fail
        go_region
        all_goals (go_wp2_with fail)
        go_roundw
        case rel=>
         refine⟨k+1,by omega,by go_num,Lib.hid HW.out.drew,Lib.hid fun j hj hjk=>?_⟩
         by_cases e:j=k
         · subst e
           intro h
           have h1:=of_decide_eq_false HR.out
           exact h1 (by rw[HY.out,HYB.out];exact h.symm)
         · exact HT.out j hj (by omega)
        case measure=>simp[intOf];omega
      · go_wp2_with fail
        go_region
        all_goals (go_wp2_with fail)
        go_ret
        refine⟨⟨_,rfl,?_⟩,(HF0.out.trans HW.out).drew⟩
        constructor
        · intro _
          have h1:=of_decide_eq_true HR.out;rw[h1,HY.out,HYB.out]
          exact List.getElem_mem hkl
        · intro _;omega
  · obtain rfl:k=n:=by omega
    go_wp2;go_ret
    refine⟨⟨_,rfl,?_⟩,HF0.out.trans HW.out⟩
    constructor
    · intro h;omega
    · intro h
      obtain⟨i,hi,e⟩:=List.mem_iff_getElem.1 h
      exact absurd e (HT.out i hi (by have:=HN.out;omega))
theorem containsD_any(v:Value)(l:List Kn.Dt)(u:Nat)(ub:Bool)(w:World)(h:OwnD w v l)(hl:l.length≤64):
 Calls Tryz.prog 81 #[v,.agg #[.int .i64 (u:Nat),.bool ub]] w (fun e w'=>e=.returned (.bool (decide ((u,ub)∈l)))∧New w w'):=by
 have H:=Lib.hid h
 obtain⟨r,HR⟩:∃r,Hid (decide ((u,ub)∈l)=r):=⟨_,Lib.hid rfl⟩
 rw[HR.out];obtain⟨a,c,rfl,_⟩:=h.cells;clear h
 go_enter Tryz.func81,Tryz.ntmps81
 have HA:Hid (New w (w.alloc (.cells #[.int .i64 (u:Nat),.bool ub] 26))):=Lib.hid ((Fr.refl _ w).alloc _);go_wp2_with fail;refine(indexD_any _ l u ub _ (HA.out.owns H.out fun _ _ x=>x) hl).mono ?_;rintro e w' ⟨⟨x,rfl,hx⟩,hN⟩;have HX:Hid (decide (0≤x)=r):=Lib.hid (by rw[←HR.out,Bool.eq_iff_iff,decide_eq_true_eq,decide_eq_true_eq];exact hx);have HN:=Lib.hid (HA.out.trans hN);clear hx hN;go_wp2;go_ret
 exact⟨ret_bool HX.out,HN.out⟩
end Go.Proofs.YtlicglicfijelaaGreat

/- Walks: push's inner function; faces asked by it. -/
namespace Go.Proofs.YtlicglicfijelaaGreat
open Go.RowKit

def twoF(x y:Kn.Dt)(f:List Kn.Dt):Bool:=decide (x∈f)&&decide (y∈f)
structure TwoD(w:World)(B2:Nat)(x y:Kn.Dt):Prop where
 u:w.cell? ⟨B2,3,none⟩=some (.int .i64 (x.1:Nat))
 ub:w.cell? ⟨B2,4,none⟩=some (.bool x.2)
 v:w.cell? ⟨B2,5,none⟩=some (.int .i64 (y.1:Nat))
 vb:w.cell? ⟨B2,6,none⟩=some (.bool y.2)
theorem TwoD.new{w w':World}{B2:Nat}{x y:Kn.Dt}(h:TwoD w B2 x y)(k:New w w'):TwoD w' B2 x y:=⟨k.cell h.u fun x=>x,k.cell h.ub fun x=>x,k.cell h.v fun x=>x,k.cell h.vb fun x=>x⟩
set_option maxRecDepth 100000 in
set_option maxHeartbeats 1000000 in
theorem push1_any(B2:Nat)(v:Value)(x y:Kn.Dt)(f:List Kn.Dt)(w:World)(h:TwoD w B2 x y)(ho:OwnD w v f)(hl:f.length≤64):
 Calls Tryz.prog 80 #[v,.pointer (some ⟨B2,0,none⟩)] w (fun e w'=>e=.returned (.bool (twoF x y f))∧New w w'):=by
 obtain⟨x1,x2⟩:=x;obtain⟨y1,y2⟩:=y;have H:=Lib.hid h;have HO:=Lib.hid ho;obtain⟨a,c,rfl,_⟩:=ho.cells
 obtain⟨p,HP⟩:∃p,Hid (decide ((x1,x2)∈f)=p):=⟨_,Lib.hid rfl⟩
 obtain⟨q,HQ⟩:∃q,Hid (decide ((y1,y2)∈f)=q):=⟨_,Lib.hid rfl⟩
 unfold twoF
 rw[HP.out,HQ.out];obtain⟨c1,c2,c3,c4⟩:=h;simp only at c1 c2 c3 c4;clear ho
 obtain⟨n,HN⟩:∃n,Hid (n=f.length):=⟨_,Lib.hid rfl⟩
 rw[←HN.out]at HO ⊢
 go_enter Tryz.func80,Tryz.ntmps80
 go_wp2_with fail;refine(containsD_any _ f x1 x2 _ HO.out hl).mono ?_;rintro e w1 ⟨rfl,hN⟩;rw[HP.out];have HN1:=Lib.hid hN;have HO1:=Lib.hid (hN.owns HO.out fun _ _ x=>x);obtain⟨_,_,d3,d4⟩:=H.out.new hN;simp only at d3 d4;clear hN c1 c2 c3 c4
 cases p
 · go_wp2
   go_ret
   exact⟨rfl,HN1.out⟩
 · go_wp2_with fail
   refine(containsD_any _ f y1 y2 _ HO1.out hl).mono ?_;rintro e w2 ⟨rfl,hN⟩;rw[HQ.out];have HN2:=Lib.hid (HN1.out.trans hN);clear hN d3 d4;go_wp2;go_ret
   exact⟨rfl,HN2.out⟩
set_option maxRecDepth 100000 in
set_option maxHeartbeats 2000000 in
theorem indexU_any(B2:Nat)(v:Value)(x y:Kn.Dt)(F:List (List Kn.Dt))(w:World)(h:TwoD w B2 x y)(hF:∀f∈F,f.length≤64)(hF2:F.length≤64)(hr:Rows OwnD 0 118 w v F):
 Calls Tryz.prog 102 #[v,.func (.func 80) #[] #[.pointer (some ⟨B2,0,none⟩)]] w (fun e w'=>(∃r,e=.returned (.int .i64 r)∧(0≤r↔F.any (twoF x y)=true))∧New w w'):=by
 obtain⟨a,c,rfl⟩:=hr.sl
 obtain⟨n,hn⟩:∃n,n=F.length:=⟨_,rfl⟩
 rw[←hn]at hr ⊢;have HN:=Lib.hid hn;have H:=Lib.hid h;have HFO:=Lib.hid hF;have HR:=Lib.hid hr
 have hn64:n≤64:=by rw[hn];exact hF2
 clear hn h hF hF2 hr
 go_enter Tryz.func102,Tryz.ntmps102
 go_wp2
 go_loopw [8] (fun i wr=>∃k:Nat,k≤n∧i=.int .i64 k∧Hid (New w wr)∧Hid ((F.take k).any (twoF x y)=false)) (fun i _=>n-(intOf i).toNat)
 case atStart=>exact⟨0,by omega,rfl,Lib.hid (Fr.refl _ _),Lib.hid rfl⟩
 case round=>
  obtain⟨k,hk,rfl,HW,HT⟩:=hrel
  by_cases hlt:k<n
  · have hkl:k<F.length:=by have:=HN.out;omega
    obtain⟨g,c',u,he,hcell,hown⟩:=(RowsD.new HR.out HW.out).at hkl;rw[←HN.out]at he
    cases he
    have HB:=HFO.out _ (List.getElem_mem hkl)
    obtain⟨z,HZ⟩:∃z,Hid (twoF x y F[k]=z):=⟨_,Lib.hid rfl⟩
    have CC:=Lib.hid (push1_any B2 u x y F[k] wr (H.out.new HW.out) hown HB);rw[HZ.out]at CC;have hown2:=hown.cells;obtain⟨ua,uc,rfl,_⟩:=hown2
    have i1:(0:Int)≤(k:Int):=by omega
    have i2:(k:Int)<(n:Int):=by omega
    have HL:=Lib.hid HB
    have HT2:Hid ((F.take (k+1)).any (twoF x y)=z):=Lib.hid (by
     rw[List.take_succ_eq_append_getElem hkl,List.any_append,HT.out,List.any_cons,List.any_nil,HZ.out];simp)
    clear hown HB HT HZ;go_wp2_with fail
    refine CC.out.mono ?_
    rintro e w1 ⟨rfl,hn1⟩;have HF1:Hid (New w w1):=Lib.hid (HW.out.trans hn1);clear hn1 hcell
    cases z
    · go_wp2
      go_roundw
      case rel=>exact⟨k+1,by omega,by go_num,HF1,HT2⟩
      case measure=>simp[intOf];omega
    · go_wp2
      go_ret
      refine⟨⟨_,rfl,?_⟩,HF1.out⟩
      constructor
      · intro _
        have:=HT2.out;rw[List.any_eq_true]at this ⊢;obtain⟨f,h1,h2⟩:=this
        exact⟨f,List.mem_of_mem_take h1,h2⟩
      · intro _;omega
  · obtain rfl:k=n:=by omega
    go_wp2;go_ret
    refine⟨⟨_,rfl,?_⟩,HW.out⟩
    have:=HT.out;rw[List.take_of_length_le (by have:=HN.out;omega)]at this;rw[this]
    constructor
    · intro h;omega
    · intro h;cases h
set_option maxRecDepth 100000 in
set_option maxHeartbeats 1000000 in
theorem containsU_any(B2:Nat)(v:Value)(x y:Kn.Dt)(F:List (List Kn.Dt))(w:World)(h:TwoD w B2 x y)(hF:∀f∈F,f.length≤64)(hF2:F.length≤64)(hr:Rows OwnD 0 118 w v F):
 Calls Tryz.prog 79 #[v,.func (.func 80) #[] #[.pointer (some ⟨B2,0,none⟩)]] w (fun e w'=>e=.returned (.bool (F.any (twoF x y)))∧New w w'):=by
 have CC:=Lib.hid (indexU_any B2 v x y F w h hF hF2 hr)
 obtain⟨r,HR⟩:∃r,Hid (F.any (twoF x y)=r):=⟨_,Lib.hid rfl⟩
 rw[HR.out];clear h hF hF2 hr
 go_enter Tryz.func79,Tryz.ntmps79
 go_wp2_with fail
 refine CC.out.mono ?_
 rintro e w1 ⟨⟨z,rfl,hz⟩,hn1⟩;have HN:=Lib.hid hn1;have HX:Hid (decide (0≤z)=r):=Lib.hid (by rw[←HR.out,Bool.eq_iff_iff,decide_eq_true_eq];exact hz);clear hn1 hz;go_wp2;go_ret
 exact⟨ret_bool HX.out,HN.out⟩
end Go.Proofs.YtlicglicfijelaaGreat
