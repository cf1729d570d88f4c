/- Walks: low. -/
import Derived.Test.YtlicglicfijelaaGreatW9N
import Derived.Test.YtlicglicfijelaaGreatN8
import Derived.Test.YtlicglicfijelaaGreatMAll
import Derived.Test.YtlicglicfijelaaGreatTK
import Derived.Test.YtlicglicfijelaaGreatW12
/- Walks: low. -/
namespace Go.Proofs.YtlicglicfijelaaGreat
open Go.RowKit

def scanB:List Nat→List Nat→Option Nat
 |_,[]=>none
 |l,a :: F=>if a / 2∉l∧a%2=0 then some (a / 2)else scanB (l++[a / 2]) F
theorem scan_fv:∀(F seen l:List Nat),(∀c,c∈seen↔c∈l)→((Kn.fv seen F).find? Kn.evB).map (· / 2)=scanB l F
 |[],_,_,_=>rfl
 |a :: F,seen,l,h=>by
  rw[Kn.fv,scanB]
  by_cases c:a / 2∈seen
  · rw[if_pos c,if_neg fun k=>k.1 ((h _).1 c)]
    refine scan_fv F seen _ fun d=>?_
    rw[List.mem_append,←h d,List.mem_singleton]
    exact⟨.inl,fun k=>k.elim (fun k=>k) fun k=>by rw[k];exact c⟩
  · rw[if_neg c]
    have c':a / 2∉l:=fun k=>c ((h _).2 k)
    by_cases e:a%2=0
    · rw[if_pos ⟨c',e⟩,List.find?_cons_of_pos (by simp[Kn.evB,e])];rfl
    · rw[if_neg fun k=>e k.2,List.find?_cons_of_neg (by simp[Kn.evB,e])]
      refine scan_fv F _ _ fun d=>?_
      rw[List.mem_cons,List.mem_append,←h d,List.mem_singleton]
      exact⟨fun k=>k.elim .inr .inl,fun k=>k.elim .inr .inl⟩
theorem low_scan(X:List Kn.Cr):Kn.lowX X=scanB [] ((Kn.strandsL X).flatten.map (Kn.la X)):=scan_fv _ [] [] fun c=>by simp
def lowZ(X:List Kn.Cr):Int:=match Kn.lowX X with
 |none=>-1
 |some k=>(k:Nat)
set_option maxRecDepth 100000 in
set_option maxHeartbeats 4000000 in
theorem low_any(b:Nat)(X:List Kn.Cr)(L:Int)(w:World)(h:ShAt w b X L)(hX:Kn.Ok X)(hl:X.length≤16):
 Calls Tryz.prog 24 #[.pointer (some ⟨b,0,none⟩)] w fun e w'=>e=.returned (.tuple #[.int .i64 (lowZ X),.int .i64 ((Kn.strandsL X).length:Nat)])∧New w w':=by
 have HS:=Lib.hid h;have HX:=Lib.hid hX;have hmm:=@run_makeMap Tryz.prog
 obtain⟨np,HNP⟩:∃np,Hid (np=(Kn.strandsL X).length):=⟨_,Lib.hid rfl⟩
 have hpf:((Kn.strandsL X).flatten).length=2*X.length:=by rw[(Kn.strands_perm hX).length_eq,Kn.arcs_length];rfl
 have hnp:np≤1000:=by
  have h1:(Kn.strandsL X).length≤((Kn.strandsL X).flatten).length:=by
   have gen:∀ll:List (List Nat),(∀r∈ll,r≠[])→ll.length≤ll.flatten.length:=by
    intro ll
    induction ll with
    |nil=>intro _;simp
    |cons r ll ih=>
     intro hr
     have h2:=ih fun r h=>hr r (by simp[h])
     have h3:0<r.length:=List.length_pos_iff.2 (hr r (by simp))
     rw[List.flatten_cons,List.length_append,List.length_cons];omega
   exact gen _ (Kn.strands_ne X)
  have:=HNP.out
  omega
 have HPF:=Lib.hid hpf;clear h hX hpf
 obtain⟨mb,HMB⟩:∃z,Hid (z=w.heap.size):=⟨_,Lib.hid rfl⟩
 obtain⟨wa,HWA⟩:∃z,Hid (z=w.alloc (.map #[] 0)):=⟨_,Lib.hid rfl⟩
 have HNa:Hid (New w wa):=Lib.hid (by rw[HWA.out];exact(Fr.refl _ _).alloc _);have HLa:Hid (LeftMap wa mb []):=Lib.hid (by rw[HWA.out,HMB.out];exact LeftMap.made w)
 go_enter Tryz.func24,Tryz.ntmps24
 go_wp2_with fail;rw[←HWA.out,←HMB.out];refine(strands_any b X L _ (New.shAt HNa.out HS.out) HX.out hl).mono ?_;rintro e w1 ⟨v,rfl,hr,hF⟩;obtain⟨a1,c1,rfl⟩:=hr.sl;rw[←HNP.out];have HR1:Hid (Rows OwnN 0 78 w1 (.slice a1 np c1) (Kn.strandsL X)):=Lib.hid (by rw[HNP.out];exact hr.base0);have HN1:Hid (New w w1):=Lib.hid (HNa.out.trans hF);have HL1:Hid (LeftMap w1 mb []):=Lib.hid (HLa.out.fr hF fun x=>x);clear hr hF;go_wp2_with fail
 go_loopw [16] (fun i wr=>∃(q:Nat) (l:List Nat),q≤np∧i=.int .i64 q∧l.length+(((Kn.strandsL X).drop q).flatten).length≤64∧Hid (LeftMap wr mb l)∧Hid (Fr (fun k=>k=mb) w1 wr)∧Hid (Kn.lowX X=scanB l ((((Kn.strandsL X).drop q).flatten).map (Kn.la X)))) (fun i _=>np-(intOf i).toNat)
 case atStart=>exact⟨0,[],by omega,rfl,by rw[List.drop_zero,HPF.out];simp;omega,HL1,Lib.hid (Fr.refl _ _),Lib.hid (low_scan X)⟩
 case round=>
  obtain⟨q,l,hq,rfl,hlen,HL,HF,HSC⟩:=hrel
  by_cases hlt:q<np
  · have hqP:q<(Kn.strandsL X).length:=by have:=HNP.out;omega
    have hrr:Rows OwnN 0 78 wr (.slice a1 np c1) (Kn.strandsL X):=by
     obtain⟨es,ck,hb⟩:=HL1.out.block
     exact RowsN.map HR1.out hb HF.out
    obtain⟨g,c,u,he,hcell,hown⟩:=hrr.at hqP;rw[←HNP.out]at he
    cases he
    obtain⟨a2,c2,rfl⟩:=hown.sl
    obtain⟨m,HM⟩:∃m,Hid (m=(Kn.strandsL X)[q].length):=⟨_,Lib.hid rfl⟩
    rw[←HM.out]at hcell hown
    obtain⟨R,HRR⟩:∃R,Hid (R=((Kn.strandsL X).drop (q+1)).flatten):=⟨_,Lib.hid rfl⟩
    have e1:((Kn.strandsL X).drop q).flatten=(Kn.strandsL X)[q]++R:=by rw[List.drop_eq_getElem_cons hqP,List.flatten_cons,HRR.out]
    rw[e1]at hlen;have HSC0:Hid (Kn.lowX X=scanB l (((Kn.strandsL X)[q].drop 0++R).map (Kn.la X))):=Lib.hid (by rw[List.drop_zero,←e1];exact HSC.out);have HOWN:=Lib.hid hown
    have i1:(0:Int)≤(q:Int):=by omega
    have i2:(q:Int)<(np:Int):=by omega
    have hm64:m≤64:=by rw[List.length_append]at hlen;have:=HM.out;omega
    have hlen0:l.length+((Kn.strandsL X)[q].drop 0++R).length≤64:=by rw[List.drop_zero];exact hlen
    clear hown hrr e1 hlen;go_wp2;clear hcell
    obtain⟨wo,rfl⟩:∃wo,wo=wr:=⟨_,rfl⟩
    go_loopw [22] (fun i wr=>∃(k:Nat) (l:List Nat),k≤m∧i=.int .i64 k∧l.length+((Kn.strandsL X)[q].drop k++R).length≤64∧Hid (LeftMap wr mb l)∧Hid (Fr (fun k=>k=mb) w1 wr)∧Hid (OwnN wr (.slice a2 m c2) (Kn.strandsL X)[q])∧Hid (Kn.lowX X=scanB l (((Kn.strandsL X)[q].drop k++R).map (Kn.la X)))) (fun i _=>m-(intOf i).toNat)
    case atStart=>exact⟨0,l,by omega,rfl,hlen0,HL,HF,HOWN,HSC0⟩
    case round=>
     obtain⟨k,l',hk,rfl,hln,HLk,HFk,HOk,HSk⟩:=hrel
     by_cases hkm:k<m
     · have hkP:k<(Kn.strandsL X)[q].length:=by have:=HM.out;omega
       obtain⟨g3,c3,he3,hc3⟩:=(show OwnN wr (.slice a2 m c2) (Kn.strandsL X)[q]from HOk.out).at hkP;rw[←HM.out]at he3
       cases he3
       obtain⟨x,HXx⟩:∃x,Hid (x=(Kn.strandsL X)[q][k]):=⟨_,Lib.hid rfl⟩
       rw[←HXx.out]at hc3;have hxa:Kn.isArc X x:=Kn.strands_arc HX.out (List.getElem_mem hqP) (by rw[HXx.out];exact List.getElem_mem hkP)
       have e2:(Kn.strandsL X)[q].drop k++R=x :: ((Kn.strandsL X)[q].drop (k+1)++R):=by rw[List.drop_eq_getElem_cons hkP,HXx.out];rfl
       rw[e2]at hln;have HS2:Hid (Kn.lowX X=scanB l' ((x :: ((Kn.strandsL X)[q].drop (k+1)++R)).map (Kn.la X))):=Lib.hid (by rw[←e2];exact HSk.out)
       obtain⟨pc,ps,hpp⟩:∃pc ps,Kn.endP X true x=(pc,ps):=⟨_,_,rfl⟩
       have hpl:Kn.isPl X (pc,ps):=by rw[←hpp];exact HX.out.isPl_end hxa
       have hpc:pc<X.length:=hpl.1
       have hla:Kn.la X x=2*pc+if ps=0 then 0 else 1:=by unfold Kn.la;rw[hpp];rfl
       have hd1:Kn.la X x / 2=pc:=by rw[hla];split<;>omega
       have hd2:Kn.la X x%2=0↔ps=0:=by rw[hla];split<;>simp_all<;>omega
       have HD1:=Lib.hid hd1;have HD2:=Lib.hid hd2
       have hNw:New w wr:=HN1.out.next HFk.out fun i hi=>.inr (by rw[hi,HMB.out];exact Nat.le_refl _)
       obtain⟨sv,bi,bo,base,s⟩:=New.shAt hNw HS.out;have s2:=s.c2.2.2.1;have hxm:x≤2*X.length:=hxa.2;have s3:=s.ri.cell (i:=x*2) (by unfold mArcs;omega);have s4:=s.ri.cell (i:=x*2+1) (by unfold mArcs;omega);have hin:Kn.inP X x=(pc,ps):=hpp;rw[plFn_0,hin]at s3;rw[plFn_1,hin]at s4;simp only at s3 s4
       obtain⟨ma,hma⟩:∃ma,ma=mArcs X:=⟨_,rfl⟩
       have i5:(0:Int)≤(x:Int):=by omega
       have i6:(x:Int)<(ma:Int):=by rw[hma];unfold mArcs;omega
       rw[←hma]at s2
       have i3:(0:Int)≤(k:Int):=by omega
       have i4:(k:Int)<(m:Int):=by omega
       have HNw:=Lib.hid hNw
       obtain⟨pz,hpz⟩:∃pz:Int,pz=(ps:Int):=⟨_,rfl⟩
       rw[←hpz]at s4;have HPZ:=Lib.hid hpz;clear hNw hma hla hd1 hd2 hpl hpp hin hxm e2 s hpz;have HLw:Hid (LeftMap (wr.alloc (.cells #[.int .i64 pc,.int .i64 pz] 104)) mb l'):=Lib.hid (HLk.out.fr ((Fr.refl (fun _=>False) _).alloc _) fun x=>x);have hlk:=HLw.out.look (x:=pc) (by omega)
       by_cases hret:pc∉l'∧ps=0
       · obtain⟨hr1,hr2⟩:=hret
         have hzb:(pz==0)=true:=by rw[HPZ.out,hr2];rfl
         rw[decide_eq_false hr1]at hlk;go_wp2;go_ret2
         have e:lowZ X=(pc:Nat):=by
          unfold lowZ
          rw[HS2.out,List.map_cons,scanB,if_pos ⟨by rw[HD1.out];exact hr1,HD2.out.2 hr2⟩,HD1.out]
         rw[e,←HNP.out]
         exact⟨rfl,HNw.out.alloc _⟩
       · have HRT:=Lib.hid hret
         have HX2:Hid (Kn.lowX X=scanB (l'++[pc]) (((Kn.strandsL X)[q].drop (k+1)++R).map (Kn.la X))):=Lib.hid (by
          rw[HS2.out,List.map_cons,scanB,if_neg (by rw[HD1.out,HD2.out];exact HRT.out),HD1.out])
         have hcase:pc∈l'∨(pc∉l'∧¬ps=0):=by
          by_cases c:pc∈l'
          · exact .inl c
          · exact .inr ⟨c,fun k=>hret ⟨c,k⟩⟩
         have hln':l'.length+1+((Kn.strandsL X)[q].drop (k+1)++R).length≤64:=by rw[List.length_cons]at hln;omega
         have hpc1:pc≤1000:=by omega
         obtain⟨D,hown,hm1,hm2⟩:=HLw.out;have HOWM:=Lib.hid hown;have HM1:=Lib.hid hm1;have HM2:=Lib.hid hm2;clear hret hown hm1 hm2 hln
         rcases hcase with hcm|⟨hcm,hps⟩
         focus
          rw[decide_eq_true hcm]at hlk
         rotate_left
         focus
          rw[decide_eq_false hcm]at hlk
          have hzb:(pz==0)=false:=by rw[HPZ.out];simp;exact hps
         all_goals
          go_wp2_with (at_mapUpdate;refine wpList_mapUpdate_own _ rfl _ _ _ 94 rfl 3 4 Tryz.law3 Tryz.ul94 _ mb l'.length _ rfl HOWM.out (by unfold maxLen;omega) _ _ _ rfl rfl (Maps.keyOf_int_mk Tryz.underlying3 (wfN hpc1)) _ [] (plainElem_bool Tryz.ul4 true) ?_;intro w5 hown5 hg5;have HO5:=Lib.hid hown5;have HG5:=Lib.hid hg5;clear hown5 hg5)
          go_roundw
          case rel=>
           have hF5:Fr (fun i=>i=mb) wr w5:=((Fr.refl (fun i=>i=mb) wr).alloc _).grown HG5.out fun j e=>.inl (Option.some.inj e).symm
           obtain⟨es,ck,hmb⟩:=HLk.out.block
           exact⟨k+1,l'++[pc],by omega,by go_num,by rw[List.length_append,List.length_singleton];omega,Lib.hid (LeftMap.put HM1.out HM2.out HO5.out),Lib.hid (HFk.out.trans hF5),Lib.hid (hF5.owns HOk.out (own_not_map (show wr.ownsRow 0 3 1 _ _ _ from HOk.out) hmb)),HX2⟩
          case measure=>simp[intOf];omega
     · obtain rfl:k=m:=by omega
       go_wp2
       go_roundw
       case rel=>
        have e0:(Kn.strandsL X)[q].drop k++R=((Kn.strandsL X).drop (q+1)).flatten:=by rw[List.drop_eq_nil_of_le (by have:=HM.out;omega),HRR.out];rfl
        exact⟨q+1,l',by omega,by go_num,by rw[←e0];exact hln,HLk,HFk,Lib.hid (by rw[←e0];exact HSk.out)⟩
       case measure=>simp[intOf];omega
  · obtain rfl:q=np:=by omega
    have HE:Hid (Kn.lowX X=none):=Lib.hid (by rw[HSC.out,List.drop_eq_nil_of_le (by have:=HNP.out;omega)];rfl);go_wp2;go_ret2
    have e:lowZ X = -1:=by unfold lowZ;rw[HE.out]
    rw[e,←HNP.out]
    exact⟨rfl,HN1.out.next HF.out fun i hi=>.inr (by rw[hi,HMB.out];exact Nat.le_refl _)⟩
end Go.Proofs.YtlicglicfijelaaGreat

/- Walks: Turned (and its inner function). -/
namespace Go.Proofs.YtlicglicfijelaaGreat
open Go.RowKit

abbrev Bx6(w:World)(B1 B2:Nat)(a b c d:Int)(p:Bool)(k:Nat):Prop:=
 w.cell? ⟨B1,0,none⟩=some (.int .i64 a)∧w.cell? ⟨B1,1,none⟩=some (.int .i64 b)∧w.cell? ⟨B1,2,none⟩=some (.int .i64 c)∧w.cell? ⟨B1,3,none⟩=some (.int .i64 d)∧w.cell? ⟨B1,4,none⟩=some (.bool p)∧w.cell? ⟨B2,0,none⟩=some (.int .i64 (k:Nat))
set_option maxHeartbeats 1000000 in
theorem turn1_any(i:Int)(s B1 B2:Nat)(a b c d:Int)(p:Bool)(k:Nat)(w:World)(h:Bx6 w B1 B2 a b c d p k)(h0:0≤i)(hi:i<4)(hk:k<4)(hs:(i+(k:Nat))%4=(s:Nat)):
 Calls Tryz.prog 92 #[.int .i64 i,.pointer (some ⟨B1,0,none⟩),.pointer (some ⟨B2,0,none⟩)] w (fun e w'=>e=.returned (.int .i64 (arcI a b c d s))∧New w w'∧Bx6 w' B1 B2 a b c d p k):=by
 have H:=Lib.hid h;obtain⟨h1,h2,h3,h4,h5,h6⟩:=h
 have hs4:s<4:=by omega
 have e2:(i+(k:Nat)).tmod 4=(s:Nat):=by rw[Int.tmod_eq_emod_of_nonneg (by omega)];exact hs
 go_enter Tryz.func92,Tryz.ntmps92
 go_wp2_with (go_at_call 37;refine(arc_any a b c d p s _ hs4).mono ?_;rintro e w4 ⟨rfl,hF⟩;have HF:=Lib.hid hF;clear hF)
 go_ret;obtain⟨g1,g2,g3,g4,g5,g6⟩:=H.out
 exact⟨rfl,HF.out,HF.out.cell g1 fun x=>x,HF.out.cell g2 fun x=>x,HF.out.cell g3 fun x=>x,HF.out.cell g4 fun x=>x,HF.out.cell g5 fun x=>x,HF.out.cell g6 fun x=>x⟩
theorem arcI_turn(a b c d:Int)(p:Bool)(k:Nat):Kn.turnC ⟨a,b,c,d,p⟩ k=⟨arcI a b c d (k%4),arcI a b c d ((1+k)%4),arcI a b c d ((2+k)%4),arcI a b c d ((3+k)%4),p⟩:=rfl

theorem fr5(W:World)(B:Nat)(a b c d e:Value):Fr (fun k=>k=B) W (((((W.setCell ⟨B,0,none⟩ a).setCell ⟨B,1,none⟩ b).setCell ⟨B,2,none⟩ c).setCell ⟨B,3,none⟩ d).setCell ⟨B,4,none⟩ e):=
 (((((Fr.refl (fun k=>k=B) W).setCell (a:=⟨B,0,none⟩) (.inl rfl) _).setCell (a:=⟨B,1,none⟩) (.inl rfl) _).setCell (a:=⟨B,2,none⟩) (.inl rfl) _).setCell (a:=⟨B,3,none⟩) (.inl rfl) _).setCell (a:=⟨B,4,none⟩) (.inl rfl) _
theorem Bx6.fr{w w':World}{B B1 B2:Nat}{a b c d:Int}{p:Bool}{k:Nat}(h:Bx6 w B1 B2 a b c d p k)(hF:Fr (fun j=>j=B) w w')(h1:¬B1=B)(h2:¬B2=B):Bx6 w' B1 B2 a b c d p k:=
 ⟨hF.cell h.1 h1,hF.cell h.2.1 h1,hF.cell h.2.2.1 h1,hF.cell h.2.2.2.1 h1,hF.cell h.2.2.2.2.1 h1,hF.cell h.2.2.2.2.2 h2⟩
theorem box5_c{W:World}{B t:Nat}{a b c d e:Value}(h:W.heap[B]?=some (.cells #[a,b,c,d,e] t (0,0))):
 W.cell? ⟨B,0,none⟩=some a∧W.cell? ⟨B,1,none⟩=some b∧W.cell? ⟨B,2,none⟩=some c∧W.cell? ⟨B,3,none⟩=some d∧W.cell? ⟨B,4,none⟩=some e ∧
 W.frozen? ⟨B,0,none⟩=false∧W.frozen? ⟨B,1,none⟩=false∧W.frozen? ⟨B,2,none⟩=false∧W.frozen? ⟨B,3,none⟩=false∧W.frozen? ⟨B,4,none⟩=false:=by
 refine⟨cell_of_row _ _ 0 _ t (0,0) h,cell_of_row _ _ 1 _ t (0,0) h,cell_of_row _ _ 2 _ t (0,0) h,cell_of_row _ _ 3 _ t (0,0) h,cell_of_row _ _ 4 _ t (0,0) h,?_,?_,?_,?_,?_⟩<;>simp[World.frozen?,h]
theorem box5_set{W:World}{B t:Nat}{a b c d e:Value}(h:W.heap[B]?=some (.cells #[a,b,c,d,e] t (0,0)))(a' b' c' d' e':Value):
 (((((W.setCell ⟨B,0,none⟩ a').setCell ⟨B,1,none⟩ b').setCell ⟨B,2,none⟩ c').setCell ⟨B,3,none⟩ d').setCell ⟨B,4,none⟩ e').heap[B]?=some (.cells #[a',b',c',d',e'] t (0,0)):=by
 unfold World.setCell;simp[Array.getElem?_modify,h]

set_option maxRecDepth 100000 in
set_option maxHeartbeats 4000000 in
theorem turned_any(a b c d:Int)(p:Bool)(k:Nat)(w:World)(hk:k<4):
 Calls Tryz.prog 54 #[.agg #[.int .i64 a,.int .i64 b,.int .i64 c,.int .i64 d,.bool p],.int .i64 (k:Nat)] w (fun e w'=>e=.returned (crV (Kn.turnC ⟨a,b,c,d,p⟩ k))∧New w w'):=by
 go_enter Tryz.func54,Tryz.ntmps54
 go_wp2
 obtain⟨w1,HW1⟩:∃w1,Hid (w1=((w.alloc (.cells #[.int .i64 a,.int .i64 b,.int .i64 c,.int .i64 d,.bool p] 41)).alloc (.cells #[.int .i64 (k:Nat)] 3)).alloc (.cells #[.int .i64 0,.int .i64 0,.int .i64 0,.int .i64 0,.bool false] 41)):=⟨_,Lib.hid rfl⟩
 rw[←HW1.out]
 have hN1:New w w1:=by rw[HW1.out];exact(((Fr.refl _ w).alloc _).alloc _).alloc _
 have hb1:w1.heap[w.heap.size]?=some (.cells #[.int .i64 a,.int .i64 b,.int .i64 c,.int .i64 d,.bool p] 41 (0,0)):=by
  rw[HW1.out]
  exact(((Fr.refl (fun _=>False) (w.alloc (.cells #[.int .i64 a,.int .i64 b,.int .i64 c,.int .i64 d,.bool p] 41))).alloc _).alloc _).blk (heap_alloc_new w _) fun x=>x
 have hb2:w1.heap[w.heap.size+1]?=some (.cells #[.int .i64 (k:Nat)] 3 (0,0)):=by
  have h2:=heap_alloc_new (w.alloc (.cells #[.int .i64 a,.int .i64 b,.int .i64 c,.int .i64 d,.bool p] 41)) (.cells #[.int .i64 (k:Nat)] 3);rw[World.size_alloc]at h2;rw[HW1.out]
  exact((Fr.refl (fun _=>False) _).alloc _).blk h2 fun x=>x
 have hb3:w1.heap[w.heap.size+1+1]?=some (.cells #[.int .i64 0,.int .i64 0,.int .i64 0,.int .i64 0,.bool false] 41 (0,0)):=by
  have h2:=heap_alloc_new ((w.alloc (.cells #[.int .i64 a,.int .i64 b,.int .i64 c,.int .i64 d,.bool p] 41)).alloc (.cells #[.int .i64 (k:Nat)] 3)) (.cells #[.int .i64 0,.int .i64 0,.int .i64 0,.int .i64 0,.bool false] 41);rw[World.size_alloc,World.size_alloc]at h2;rw[HW1.out]
  exact h2
 have hS:Bx6 w1.drew w.heap.size (w.heap.size+1) a b c d p k:=⟨cell_of_row _ _ 0 _ 41 (0,0) hb1,cell_of_row _ _ 1 _ 41 (0,0) hb1,cell_of_row _ _ 2 _ 41 (0,0) hb1,cell_of_row _ _ 3 _ 41 (0,0) hb1,cell_of_row _ _ 4 _ 41 (0,0) hb1,cell_of_row _ _ 0 _ 3 (0,0) hb2⟩;have HR0:Hid (w1.drew.heap[w.heap.size+1+1]?=some (.cells #[.int .i64 0,.int .i64 0,.int .i64 0,.int .i64 0,.bool false] 41 (0,0))):=Lib.hid hb3;have HN0:Hid (New w w1.drew):=Lib.hid hN1.drew;clear hb1 hb2 hb3 hN1;have hS0:Bx6 w1.drew w.heap.size (w.heap.size+1) a b c d p k:=hS
 refine wp_region_held_drew (S:=fun w'=>w'.cell? ⟨w.heap.size,0,none⟩=some (.int .i64 a)∧w'.cell? ⟨w.heap.size,1,none⟩=some (.int .i64 b)∧w'.cell? ⟨w.heap.size,2,none⟩=some (.int .i64 c)∧w'.cell? ⟨w.heap.size,3,none⟩=some (.int .i64 d)∧w'.cell? ⟨w.heap.size,4,none⟩=some (.bool p)∧w'.cell? ⟨w.heap.size+1,0,none⟩=some (.int .i64 (k:Nat))) (by kernel_rfl) hS0 (fun hHeld=>?_)
 have HS0:=Lib.hid hS0;clear hS0 hS;generalize w1.drew=r0 at hHeld HR0 HN0 HS0 ⊢;refine' tkO (i:=0) ?_;simp only[Act.put,List.getElem_toArray,List.getElem_cons_zero,List.setIfInBounds_toArray,List.set_cons_zero,List.set_cons_succ]
 refine' sq 2 (h:=sq 4 (h:=sq 6 (h:=sq 8 (h:=sq 9 (h:=?_)))))
 refine rdO (i:=1) (fun K hK=>?_);(try simp only[lq1,lq2,lq3]);go_simp;refine(turn1_any 0 (k%4) _ _ a b c d p k _ HS0.out (by omega) (by omega) hk (by omega)).mono ?_;rintro e r1 ⟨rfl,hF,hq⟩;have HS1:=Lib.hid hq;have HR1:=Lib.hid (hF.blk HR0.out fun x=>x);have HN1:=Lib.hid (HN0.out.trans hF);clear hF hq;go_wp2_with fail;refine hK.out _ _ HS1.out (fun hHeld=>?_);clear hK K;(try simp only[Act.put,lq1,lq2,lq3,lq4,lq5,lq6]);refine rdO (i:=3) (fun K hK=>?_);(try simp only[lq1,lq2,lq3]);go_simp
 refine(turn1_any 1 ((1+k)%4) _ _ a b c d p k _ HS1.out (by omega) (by omega) hk (by omega)).mono ?_;rintro e r2 ⟨rfl,hF,hq⟩;have HS2:=Lib.hid hq;have HR2:=Lib.hid (hF.blk HR1.out fun x=>x);have HN2:=Lib.hid (HN1.out.trans hF);clear hF hq;go_wp2_with fail;refine hK.out _ _ HS2.out (fun hHeld=>?_);clear hK K;(try simp only[Act.put,lq1,lq2,lq3,lq4,lq5,lq6]);refine rdO (i:=5) (fun K hK=>?_);(try simp only[lq1,lq2,lq3]);go_simp;refine(turn1_any 2 ((2+k)%4) _ _ a b c d p k _ HS2.out (by omega) (by omega) hk (by omega)).mono ?_
 rintro e r3 ⟨rfl,hF,hq⟩;have HS3:=Lib.hid hq;have HR3:=Lib.hid (hF.blk HR2.out fun x=>x);have HN3:=Lib.hid (HN2.out.trans hF);clear hF hq;go_wp2_with fail;refine hK.out _ _ HS3.out (fun hHeld=>?_);clear hK K;(try simp only[Act.put,lq1,lq2,lq3,lq4,lq5,lq6]);refine rdO (i:=7) (fun K hK=>?_);(try simp only[lq1,lq2,lq3]);go_simp;refine(turn1_any 3 ((3+k)%4) _ _ a b c d p k _ HS3.out (by omega) (by omega) hk (by omega)).mono ?_;rintro e r4 ⟨rfl,hF,hq⟩;have HS4:=Lib.hid hq;have HR4:=Lib.hid (hF.blk HR3.out fun x=>x)
 have HN4:=Lib.hid (HN3.out.trans hF);clear hF hq;go_wp2_with fail;refine hK.out _ _ HS4.out (fun hHeld=>?_);clear hK K;(try simp only[Act.put,lq1,lq2,lq3,lq4,lq5,lq6])
 refine' sq 10 (h:=?_)
 refine rdO (i:=11) (fun K hK=>?_);(try simp only[lq1,lq2,lq3]);obtain⟨q1,q2,q3,q4,q5,q6,q7,q8,q9,q10⟩:=box5_c HR4.out;go_simp;have HE:=Lib.hid (box5_set HR4.out (.int .i64 (arcI a b c d (k%4))) (.int .i64 (arcI a b c d ((1+k)%4))) (.int .i64 (arcI a b c d ((2+k)%4))) (.int .i64 (arcI a b c d ((3+k)%4))) (.bool p));have HF:=Lib.hid (fr5 r4 (w.heap.size+1+1) (.int .i64 (arcI a b c d (k%4))) (.int .i64 (arcI a b c d ((1+k)%4))) (.int .i64 (arcI a b c d ((2+k)%4))) (.int .i64 (arcI a b c d ((3+k)%4))) (.bool p))
 clear q1 q2 q3 q4 q5 q6 q7 q8 q9 q10;refine hK.out _ _ (Bx6.fr HS4.out HF.out (by omega) (by omega)) (fun hHeld=>?_);clear hK K;(try simp only[Act.put,lq1,lq2,lq3,lq4,lq5,lq6]);refine wpAnyH_done (by kernel_rfl) ?_ _;obtain⟨q1,q2,q3,q4,q5,_⟩:=box5_c HE.out;have HN5:Hid (New w _):=Lib.hid (HN4.out.next HF.out fun i hi=>.inr (by omega));go_wp2
 exact bodyPost_ret (v:=crV (Kn.turnC ⟨a,b,c,d,p⟩ k)) (by simp[results,Tryz.results54,go_sem,q1,q2,q3,q4,q5,arcI_turn]) rfl ⟨rfl,HN5.out⟩
end Go.Proofs.YtlicglicfijelaaGreat
