/- Walks: Planar. -/
import Derived.Test.YtlicglicfijelaaGreatW14
import Derived.Test.YtlicglicfijelaaGreatW9
/- Walks: Planar. -/
namespace Go.Proofs.YtlicglicfijelaaGreat
open Go.RowKit

def doneL(P:List (List Nat))(i k:Nat):List Nat:=(P.take i).flatten++((P.getD i []).take k)
theorem doneL_step{P:List (List Nat)}{i k:Nat}(hi:i<P.length)(hk:k<P[i].length):doneL P i (k+1)=doneL P i k++[P[i][k]]:=by
 unfold doneL
 rw[List.getD_eq_getElem?_getD,List.getElem?_eq_getElem hi];simp only[Option.getD_some];rw[List.take_succ_eq_append_getElem hk,List.append_assoc]
theorem doneL_next{P:List (List Nat)}{i:Nat}(hi:i<P.length):doneL P i P[i].length=doneL P (i+1) 0:=by
 unfold doneL
 rw[List.getD_eq_getElem?_getD,List.getElem?_eq_getElem hi];simp only[Option.getD_some];rw[List.take_length,List.take_zero,List.append_nil,List.take_succ_eq_append_getElem hi,List.flatten_append]
 simp
def faceN(X:List Kn.Cr)(q i:Nat):Nat:=((Kn.facesL X).take q).countP fun f=>decide (Kn.pieceAt X (Kn.head X (f.headD (0,false))).1=i)
theorem faceN_succ{X:List Kn.Cr}{q i:Nat}(hq:q<(Kn.facesL X).length):faceN X (q+1) i=faceN X q i+if Kn.pieceAt X (Kn.head X ((Kn.facesL X)[q].headD (0,false))).1=i then 1 else 0:=by
 unfold faceN
 rw[List.take_succ_eq_append_getElem hq,List.countP_append]
 simp[List.countP_cons]
theorem faceN_le(X:List Kn.Cr)(q i:Nat):faceN X q i≤q:=by
 unfold faceN
 exact Nat.le_trans List.countP_le_length (by rw[List.length_take];omega)
structure PlA(w wr:World)(mb:Nat)(X:List Kn.Cr)(done:List Nat)(v:Value):Prop where
 new:New w wr
 map:NumMap wr mb done.length done (Kn.pieceAt X)
 rows:Rows OwnN 0 78 wr v (Kn.piecesL X)
theorem Rows.base0{α:Type}{R:World→Value→α→Prop}{base e:Nat}{w:World}{v:Value}{ll:List α}(h:Rows R base e w v ll):Rows R 0 e w v ll:=by
 obtain⟨vs,h1,h2⟩:=h
 exact⟨vs,own0 h1,h2⟩
theorem RowsN.map{w w':World}{mb:Nat}{v:Value}{ll:List (List Nat)}{es:Array MapEntry}{ck:Nat}(h:Rows OwnN 0 78 w v ll)(hm:w.heap[mb]?=some (.map es ck))(hf:Fr (fun k=>k=mb) w w'):Rows OwnN 0 78 w' v ll:=by
 obtain⟨vs,h1,h2⟩:=h
 exact⟨vs,hf.owns h1 (own_not_map h1 hm),h2.mono fun v l hn=>hf.owns hn (own_not_map (show w.ownsRow 0 3 1 v l.length (nums l)from hn) hm)⟩
theorem RowsN.new{w w':World}{b:Nat}{v:Value}{ll:List (List Nat)}(h:Rows OwnN b 78 w v ll)(hf:New w w'):Rows OwnN b 78 w' v ll:=h.new hf fun _ _ x=>hf.owns x fun _ _ y=>y
theorem RowsD.new{w w':World}{b:Nat}{v:Value}{ll:List (List Kn.Dt)}(h:Rows OwnD b 118 w v ll)(hf:New w w'):Rows OwnD b 118 w' v ll:=h.new hf fun _ _ x=>hf.owns x fun _ _ y=>y
theorem done_few{X:List Kn.Cr}(hX:Kn.Ok X){i k:Nat}(hi:i≤(Kn.piecesL X).length):(doneL (Kn.piecesL X) i k).length≤X.length:=by
 have h1:=hX.pieces_perm.length_eq;rw[List.length_range]at h1
 have:(doneL (Kn.piecesL X) i k).length≤(Kn.piecesL X).flatten.length:=by
  unfold doneL
  by_cases c:i<(Kn.piecesL X).length
  · conv=>rhs;rw[←List.take_append_drop i (Kn.piecesL X),List.flatten_append,List.drop_eq_getElem_cons c,List.flatten_cons]
    rw[List.getD_eq_getElem?_getD,List.getElem?_eq_getElem c];simp only[List.length_append,Option.getD_some,List.length_take]
    omega
  · rw[List.getD_eq_getElem?_getD,List.getElem?_eq_none (by omega)]
    simp only[Option.getD_none,List.take_nil,List.append_nil];rw[List.take_of_length_le (by omega)]
    exact Nat.le_refl _
 omega

set_option maxRecDepth 100000 in
set_option maxHeartbeats 8000000 in
theorem planar_any(b:Nat)(X:List Kn.Cr)(L:Int)(w:World)(h:ShAt w b X L)(hX:Kn.Ok X)(hl:X.length≤16):
 Calls Tryz.prog 42 #[.pointer (some ⟨b,0,none⟩)] w fun e w'=>e=.returned (.bool (Kn.planarB X))∧New w w':=by
 have hmm:=@run_makeMap Tryz.prog;have HS:=Lib.hid h;have HX:=Lib.hid hX;have hpf:=pieces_few X hX
 obtain⟨np,HNP⟩:∃np,Hid (np=(Kn.piecesL X).length):=⟨_,Lib.hid rfl⟩
 have hnp:np≤16:=by have:=HNP.out;omega
 clear h hX hpf
 have hmk:∀w,(Instr.makeSlice 78 (.int .i64 (np:Int)) (.int .i64 (np:Int))).run Tryz.prog w=.ok (.slice (some ⟨w.heap.size,0,none⟩) np np) (w.alloc (.cells (madeCells #[.int .i64 0] np) 3)):=fun w=>
  run_make_row' (P:=Tryz.prog) 78 3 (.int .i64 0) 8 Tryz.underlying78 Tryz.info3 rfl .i64 .i64 np (by omega) (by omega) w
 have hfld:∀(x y:Int) (w:World),(Instr.field 104 (.agg #[.int .i64 x,.int .i64 y]) 0).run Tryz.prog w=.ok (.int .i64 x) w:=fun x y w=>by kernel_rfl
 go_enter Tryz.func42,Tryz.ntmps42
 go_wp2_with (go_at_call 57;refine(pieces_any b X L _ (New.shAt ((Fr.refl _ _).alloc _) HS.out) HX.out hl).mono ?_;rintro e w1 ⟨v,rfl,hr,hF⟩;obtain⟨a1,c1,rfl⟩:=hr.sl;rw[←HNP.out];have HR:=Lib.hid hr.base0;have HF:=Lib.hid hF;clear hr hF)
 have HA0:Hid (PlA w w1 w.heap.size X [] (.slice a1 np c1)):=Lib.hid ⟨((Fr.refl _ _).alloc _).trans HF.out,(NumMap.made w (Kn.pieceAt X)).fr (S:=fun _=>False) HF.out (fun x=>x),by rw[HNP.out];exact HR.out⟩
 go_loopw [19] (fun i wr=>∃q:Nat,q≤np∧i=.int .i64 q∧Hid (PlA w wr w.heap.size X (doneL (Kn.piecesL X) q 0) (.slice a1 np c1))) (fun i _=>np-(intOf i).toNat)
 case atStart=>exact⟨0,by omega,rfl,HA0⟩
 case round=>
  obtain⟨q,hq,rfl,HA⟩:=hrel
  by_cases hlt:q<np
  · have hqP:q<(Kn.piecesL X).length:=by have:=HNP.out;omega
    obtain⟨g,c,u,he,hcell,hown⟩:=HA.out.rows.at hqP;rw[←HNP.out]at he
    cases he
    obtain⟨a2,c2,rfl⟩:=hown.sl;have HOWN:=Lib.hid hown
    obtain⟨m,HM⟩:∃m,Hid (m=(Kn.piecesL X)[q].length):=⟨_,Lib.hid rfl⟩
    rw[←HM.out]at hcell
    have i1:(0:Int)≤(q:Int):=by omega
    have i2:(q:Int)<(np:Int):=by omega
    have hm16:m≤16:=by
     have h1:=(HX.out.pieces_is _ (List.getElem_mem hqP)).le;have:=HM.out
     omega
    clear hown;go_wp2;clear hcell
    obtain⟨wo,rfl⟩:∃wo,wo=wr:=⟨_,rfl⟩
    go_loopw [26] (fun i wr=>∃k:Nat,k≤m∧i=.int .i64 k∧Hid (PlA w wr w.heap.size X (doneL (Kn.piecesL X) q k) (.slice (some ⟨g,0,none⟩) np c1))∧Hid (OwnN wr (.slice a2 m c2) (Kn.piecesL X)[q])) (fun i _=>m-(intOf i).toNat)
    case atStart=>exact⟨0,by omega,rfl,HA,by rw[HM.out];exact HOWN⟩
    case round=>
     obtain⟨k,hk,rfl,HAk,HOk⟩:=hrel
     by_cases hkm:k<m
     · have hkP:k<(Kn.piecesL X)[q].length:=by have:=HM.out;omega
       obtain⟨g3,c3,he3,hc3⟩:=HOk.out.at hkP;rw[←HM.out]at he3
       cases he3
       obtain⟨x,HXx⟩:∃x,Hid (x=(Kn.piecesL X)[q][k]):=⟨_,Lib.hid rfl⟩
       rw[←HXx.out]at hc3
       have hxm:x∈(Kn.piecesL X)[q]:=by rw[HXx.out];exact List.getElem_mem hkP
       have hpa:Kn.pieceAt X x=q:=pieceAt_eq HX.out hqP hxm
       have hx16:x≤1000:=by have:=piece_lt HX.out hqP hxm;omega
       have HPA:=Lib.hid hpa;obtain⟨D,hown,hm1,hm2⟩:=HAk.out.map;have hdl:=done_few HX.out (i:=q) (k:=k) (by omega)
       have hdl2:(doneL (Kn.piecesL X) q k).length<maxLen:=by unfold maxLen;omega
       have HDL:=Lib.hid hdl2;have HOWM:=Lib.hid hown;have HM1:=Lib.hid hm1;have HM2:=Lib.hid hm2;have HW:=Lib.hid (wfN hx16);have HWq:=Lib.hid (wfN (x:=q) (by omega))
       have i3:(0:Int)≤(k:Int):=by omega
       have i4:(k:Int)<(m:Int):=by omega
       clear hxm hpa hown hm1 hm2 hdl hdl2
       go_wp2_with (at_mapUpdate;refine wpList_mapUpdate_own _ rfl _ _ _ 117 rfl 3 3 Tryz.law3 Tryz.ul117 _ w.heap.size (doneL (Kn.piecesL X) q k).length _ rfl HOWM.out HDL.out _ _ _ rfl rfl (Maps.keyOf_int_mk Tryz.underlying3 HW.out) _ [] (plainElem_int Tryz.underlying3 HWq.out) ?_;intro w5 hown5 hg5;have HO5:=Lib.hid hown5;have HG5:=Lib.hid hg5;clear hown5 hg5)
       go_roundw
       case rel=>
        obtain⟨es,ck,hmb⟩:=HAk.out.map.block
        have hF5:Fr (fun k=>k=w.heap.size) wr w5:=(Fr.refl _ wr).grown HG5.out fun j e=>.inl (Option.some.inj e).symm
        refine⟨k+1,by omega,by go_num,Lib.hid ⟨HAk.out.new.next hF5 fun i hi=>.inr (by rw[hi];exact Nat.le_refl _),?_,RowsN.map HAk.out.rows hmb hF5⟩,Lib.hid (hF5.owns HOk.out (own_not_map (show wr.ownsRow 0 3 1 _ _ _ from HOk.out) hmb))⟩
        rw[doneL_step hqP hkP,←HXx.out,List.length_append,List.length_singleton];have:=HO5.out
        exact NumMap.put HM1.out HM2.out (by rw[HPA.out];exact this)
       case measure=>simp[intOf];omega
     · obtain rfl:k=m:=by omega
       go_wp2
       go_roundw
       case rel=>exact⟨q+1,by omega,by go_num,by rw[←doneL_next hqP,←HM.out];exact HAk⟩
       case measure=>simp[intOf];omega
  · obtain rfl:q=np:=by omega
    obtain⟨wm,rfl⟩:∃wm,wm=wr:=⟨_,rfl⟩
    obtain⟨nf,HNF⟩:∃nf,Hid (nf=(Kn.facesL X).length):=⟨_,Lib.hid rfl⟩
    have hnf:nf≤64:=by
     have h1:=Kn.rings_len (Kn.left X) (4*X.length+1) (Kn.darts X) [];rw[Kn.darts_length]at h1;have:=HNF.out
     unfold Kn.facesL at this
     omega
    go_wp2_with (go_at_call 48;refine(faces_any b X L _ (New.shAt (HA.out.new.alloc _) HS.out) HX.out hl).mono ?_;rintro e w2 ⟨vf,rfl,hrf,hF2⟩;obtain⟨af,cf,rfl⟩:=hrf.sl;rw[←HNF.out];have HRF:=Lib.hid hrf;have HF2:=Lib.hid hF2;clear hrf hF2)
    have HM2:Hid (New wm w2):=Lib.hid (((Fr.refl _ wm).alloc _).trans HF2.out);have HR2:Hid (w2.rowIs wm.heap.size 3 q (numFn (faceN X 0))):=Lib.hid (rowIs_congr (HF2.out.row (World.rowIs_made wm (.int .i64 0) q 3) fun x=>x) fun j _=>rfl)
    go_loopw [41] (fun i wr=>∃k:Nat,k≤nf∧i=.int .i64 k∧Hid (Fr (fun j=>j=wm.heap.size) w2 wr)∧Hid (wr.rowIs wm.heap.size 3 q (numFn (faceN X k)))) (fun i _=>nf-(intOf i).toNat)
    case atStart=>exact⟨0,by omega,rfl,Lib.hid (Fr.refl _ _),HR2⟩
    case round=>
     obtain⟨k,hk,rfl,HFr,HRow⟩:=hrel;have HNw:Hid (New wm wr):=Lib.hid (HM2.out.next HFr.out fun i hi=>.inr (by rw[hi];exact Nat.le_refl _))
     by_cases hkf:k<nf
     · have hkF:k<(Kn.facesL X).length:=by have:=HNF.out;omega
       have hrows:Rows OwnD 0 118 wr (.slice af nf cf) (Kn.facesL X):=by
        obtain⟨vs,h1,h2⟩:=HRF.out;rw[←HNF.out]at h1
        exact⟨vs,own0 (HFr.out.owns h1 (own_ne h1 HR2.out (by decide))),h2.mono fun v l hn=>HFr.out.owns hn (own_ne (show w2.ownsRow 0 26 2 v l.length (dcells l)from hn) HR2.out (by decide))⟩
       obtain⟨g,c,u,he,hcell,hown⟩:=hrows.at hkF;rw[←HNF.out]at he
       cases he
       obtain⟨d,rest,hd⟩:∃d rest,(Kn.facesL X)[k]=d :: rest:=by
        have hne:=Kn.rings_ne (Kn.left X) (N:=4*X.length+1) (by omega) (Kn.darts X) [] _ (List.getElem_mem hkF)
        cases hq:(Kn.facesL X)[k]with
        |nil=>exact absurd hq hne
        |cons d rest=>exact⟨d,rest,rfl⟩
       have hda:Kn.isArc X d.1:=Kn.mem_darts.1 ((Kn.faces_perm HX.out).mem_iff.1 (List.mem_flatten.2 ⟨_,List.getElem_mem hkF,by rw[hd];simp⟩));rw[hd]at hown;obtain⟨g2,c2,rfl,hc1,hc2⟩:=hown.first;obtain⟨da,db⟩:=d;simp only at hc1 hc2 hda
       obtain⟨hcr,hs,hhd⟩:∃hcr hs,Kn.head X (da,db)=(hcr,hs):=⟨_,_,rfl⟩
       have hcl:hcr<X.length:=by
        have:=(HX.out.isPl_head (d:=(da,db)) hda).1;rw[hhd]at this
        exact this
       obtain⟨pi,hpi⟩:∃pi,pi=Kn.pieceAt X hcr:=⟨_,rfl⟩
       have hmem:hcr∈(Kn.piecesL X).flatten:=(HX.out.pieces_perm.mem_iff).2 (List.mem_range.2 hcl)
       have hpl:pi<q:=by
        rw[hpi,HNP.out]
        unfold Kn.pieceAt
        rw[List.findIdx_lt_length];obtain⟨l,h1,h2⟩:=List.mem_flatten.1 hmem
        exact⟨l,h1,by simpa using h2⟩
       have hrow:=HRow.out.cell (i:=pi) hpl
       obtain⟨cn,HCN⟩:∃cn,Hid (cn=faceN X k pi):=⟨_,Lib.hid rfl⟩
       unfold numFn at hrow
       rw[←HCN.out]at hrow
       have hcn:cn≤64:=by have:=faceN_le X k pi;have:=HCN.out;omega
       have hdone:hcr∈doneL (Kn.piecesL X) q 0:=by
        unfold doneL
        rw[List.take_of_length_le (by have:=HNP.out;omega)];simp only[List.take_zero,List.append_nil]
        exact hmem
       have HDONE:=Lib.hid hdone;have HPI:=Lib.hid hpi;have HHD:=Lib.hid hhd;have HD:=Lib.hid hd;have HDA:=Lib.hid hda;have HCL:=Lib.hid hcl
       have i1:(0:Int)≤(k:Int):=by omega
       have i2:(k:Int)<(nf:Int):=by omega
       have i3:(0:Int)≤(pi:Int):=by omega
       have i4:(pi:Int)<(q:Int):=by omega
       have i5:0<rest.length+1:=by omega
       clear hown hrows hd hda hhd hcl hpi hmem hdone
       go_wp2_with (go_at_call 58;refine(head_any b da db X L _ (New.shAt (HA.out.new.trans HNw.out) HS.out) hl HDA.out).mono ?_;rintro e w5 ⟨rfl,hE⟩;rw[HHD.out];have hrun:=((HA.out.map.fr HNw.out fun x=>x).fr hE fun x=>x).look HDONE.out (by have:=HCL.out;omega);rw[←HPI.out]at hrun;have hr5:=hE.cell hrow fun x=>x;have hf5:=(hE.row HRow.out fun x=>x).frozen pi;have HE:=Lib.hid hE;clear hE)
       go_roundw
       case rel=>
        have hrow5:=HE.out.row HRow.out fun x=>x
        refine⟨k+1,by omega,by go_num,Lib.hid ((HFr.out.trans (HE.out.mono fun _ h=>h.elim)).setCell (.inl rfl) _),Lib.hid (rowIs_congr (rowIs_setN hrow5 pi (cn+1)) fun j _=>?_)⟩
        have hpp:Kn.pieceAt X (Kn.head X ((Kn.facesL X)[k].headD (0,false))).1=pi:=by
         have e1:((Kn.facesL X)[k].headD (0,false))=(da,db):=by rw[HD.out];rfl
         rw[e1,HHD.out,HPI.out]
        unfold numFn
        rw[faceN_succ hkF,hpp]
        by_cases e:j=pi
        · subst e;simp[HCN.out]
        · have e2:¬pi=j:=fun h=>e h.symm
          rw[if_neg e2];simp only[if_neg e];rfl
       case measure=>simp[intOf];omega
     · obtain rfl:k=nf:=by omega
       have hrow4:wr.rowIs wm.heap.size 3 q (numFn fun i=>Kn.facesAt X i):=rowIs_congr HRow.out fun j _=>by
        unfold numFn faceN Kn.facesAt
        rw[List.take_of_length_le (by have:=HNF.out;omega)]
       have HR4:=Lib.hid hrow4;have hprow:=RowsN.new HA.out.rows HNw.out;have HPR:=Lib.hid hprow;clear hrow4 hprow;go_wp2
       obtain⟨wz,rfl⟩:∃wz,wz=wr:=⟨_,rfl⟩
       go_loop [61] (fun i=>∃j:Nat,j≤q∧i=.int .i64 j∧Hid (∀x,x<j→Kn.facesAt X x=((Kn.piecesL X).getD x []).length+2)) (fun i=>q-(intOf i).toNat)
       case atStart=>exact⟨0,by omega,rfl,Lib.hid fun x hx=>by omega⟩
       case round=>
        obtain⟨j,hj,rfl,HAll⟩:=hrel
        by_cases hjq:j<q
        · have hjP:j<(Kn.piecesL X).length:=by have:=HNP.out;omega
          obtain⟨g5,c5,u5',he5,hcell5,hown5⟩:=HPR.out.at hjP;rw[←HNP.out]at he5
          cases he5
          obtain⟨a6,c6,rfl⟩:=hown5.sl
          obtain⟨m,HM⟩:∃m,Hid (m=(Kn.piecesL X)[j].length):=⟨_,Lib.hid rfl⟩
          rw[←HM.out]at hcell5
          have hm16:m≤16:=by
           have h1:=(HX.out.pieces_is _ (List.getElem_mem hjP)).le;have:=HM.out
           omega
          have hfc:=HR4.out.cell (i:=j) hjq
          obtain⟨fa,HFA⟩:∃fa,Hid (fa=Kn.facesAt X j):=⟨_,Lib.hid rfl⟩
          simp only[numFn]at hfc;rw[←HFA.out]at hfc
          have hgd:((Kn.piecesL X).getD j []).length=m:=by rw[List.getD_eq_getElem?_getD,List.getElem?_eq_getElem hjP,HM.out];rfl
          have HGD:=Lib.hid hgd
          have i1:(0:Int)≤(j:Int):=by omega
          have i2:(j:Int)<(q:Int):=by omega
          clear hown5 hgd
          by_cases hfm:fa=m+2
          · have HFM:=Lib.hid hfm
            subst hfm
            have e0:(((m+2:Nat):Int) != (m:Int)+2)=false:=by simp
            have e0':((m:Int)+2 != (m:Int)+2)=false:=by simp
            go_wp2
            go_round
            case rel=>
             refine⟨j+1,by omega,by go_num,Lib.hid fun x hx=>?_⟩
             by_cases e:x=j
             · subst e
               rw[HGD.out,←HFA.out]
             · exact HAll.out x (by omega)
            case measure=>simp[intOf];omega
          · have e0:((fa:Int) != (m:Int)+2)=true:=by simp;omega
            have hno:Kn.planarB X=false:=by
             rw[Bool.eq_false_iff]
             intro hp
             have:=List.all_eq_true.1 hp j (List.mem_range.2 hjP);rw[decide_eq_true_eq,HGD.out,←HFA.out]at this
             exact hfm this
            have HNO:=Lib.hid hno;clear hno hfm;go_wp2;go_ret
            exact⟨ret_bool HNO.out.symm,HA.out.new.trans HNw.out⟩
        · obtain rfl:j=q:=by omega
          have hyes:Kn.planarB X=true:=List.all_eq_true.2 fun x hx=>decide_eq_true (HAll.out x (by have:=List.mem_range.1 hx;have:=HNP.out;omega))
          have HY:=Lib.hid hyes;clear hyes;go_wp2;go_ret
          exact⟨ret_bool HY.out.symm,HA.out.new.trans HNw.out⟩
end Go.Proofs.YtlicglicfijelaaGreat

/- Walks: Next, Rings, Strands. -/
namespace Go.Proofs.YtlicglicfijelaaGreat
open Go.RowKit
set_option maxHeartbeats 1000000 in
theorem next_any(b a:Nat)(X:List Kn.Cr)(L:Int)(w:World)(h:ShAt w b X L)(hX:Kn.Ok X)(hl:X.length≤16)(ha:Kn.isArc X a):
 Calls Tryz.prog 60 #[.pointer (some ⟨b,0,none⟩),.int .i64 a] w fun e w'=>e=.returned (.int .i64 (Kn.nextA X a:Nat))∧New w w':=by
 have hpl:=hX.isPl_end (io:=true) ha
 obtain⟨pc,ps,hp⟩:∃pc ps,Kn.endP X true a=(pc,ps):=⟨_,_,rfl⟩
 rw[hp]at hpl;obtain⟨h1,h2⟩:=hpl;simp only at h1 h2;obtain⟨n,bx,ox,cc,bi,bo,r⟩:=h.read (by omega)
 have hal:a<2*n+1:=by have:=ha.2;unfold Kn.nArcs at this;have:=r.len;omega
 obtain⟨g1,g2⟩:=r.pi a hal;have hpi:Kn.inP X a=(pc,ps):=hp;rw[hpi]at g1 g2;simp only at g1 g2;have g0:=r.c2
 have i1:(0:Int)≤(a:Int):=by omega
 have i2:(a:Int)<2*(n:Int)+1:=by omega
 obtain⟨t,ht⟩:∃t,t=(ps+2)%4:=⟨_,rfl⟩
 have j1:(0:Int)≤(ps:Int):=by omega
 have j2:(ps:Int)<4:=by omega
 have z1:((ps:Int)+2)%4=(t:Int):=by omega
 have z2:((ps:Int)+2).tmod 4=(t:Int):=by rw[Int.tmod_eq_emod_of_nonneg (by omega)];exact z1
 have ht4:t<4:=by omega
 have hres:Hid (Kn.nextA X a=Kn.arcN X (pc,t)):=Lib.hid (by unfold Kn.nextA;rw[hp,ht]);have HS:=Lib.hid h;have HX:=Lib.hid hX;have HA:=Lib.hid h1;have HR:=Lib.hid r;clear h hX hp hpi ht r ha h1
 go_enter Tryz.func60,Tryz.ntmps60
 go_wp2_with (go_at_call 91;refine(at_any b pc t X L _ (New.shAt ((Fr.refl _ _).alloc _) HS.out) HX.out hl HA.out ht4).mono ?_;rintro e w4 ⟨rfl,hF⟩;rw[←hres.out];have HF:=Lib.hid hF;clear hF)
 go_ret
 exact⟨rfl,((Fr.refl _ _).alloc _).trans HF.out⟩

set_option maxRecDepth 100000 in
set_option maxHeartbeats 4000000 in
theorem rings_any(b:Nat)(X:List Kn.Cr)(L:Int)(w:World)(h:ShAt w b X L)(hX:Kn.Ok X)(hl:X.length≤16):
 Calls Tryz.prog 59 #[.pointer (some ⟨b,0,none⟩),.func (.func 60) #[.pointer (some ⟨b,0,none⟩)] #[]] w (GaveRows (Kn.strandsL X) w):=by
 obtain⟨m,hm⟩:∃m,m=Kn.nArcs X:=⟨_,rfl⟩
 have hm32:m≤32:=by rw[hm];unfold Kn.nArcs;omega
 have HM:=Lib.hid hm;have HS:=Lib.hid h;have HX:=Lib.hid hX;clear h hX hm
 have hmk:∀w,(Instr.makeSlice 156 (.int .i64 ((m:Int)+1)) (.int .i64 ((m:Int)+1))).run Tryz.prog w=.ok (.slice (some ⟨w.heap.size,0,none⟩) (m+1) (m+1)) (w.alloc (.cells (madeCells #[.bool false] (m+1)) 4)):=fun w=>by
  have:=run_make_row' (P:=Tryz.prog) 156 4 (.bool false) 1 Tryz.underlying156 Tryz.info4 rfl .i64 .i64 (m+1) (by omega) (by omega) w
  rwa [show (((m+1:Nat)):Int)=(m:Int)+1 by omega]at this
 obtain⟨i0,hi,hz0,hz1,hz2⟩:=info_parts Tryz.info3;obtain⟨i1,hi1,hz10,hz11,hz12⟩:=info_parts Tryz.info78
 go_enter Tryz.func59,Tryz.ntmps59
 go_wp2_with (go_at_call 35;refine(arcsN' b m X L _ HS.out hl HM.out).mono ?_;rintro e w' ⟨rfl,rfl⟩)
 have H0:Hid (RInv w (w.alloc (.cells (madeCells #[.bool false] (m+1)) 4)) w.heap.size X 1 [] [] (.slice none 0 0)):=Lib.hid
  ⟨(Fr.refl _ _).alloc _,Nat.le_refl _,by rw[←HM.out];exact marks_made w (m+1),Rows.nil,by simp,(fun x hx=>by cases hx),by rw[Nat.sub_self,List.drop_zero];rfl⟩
 go_loopw [6,7] (fun o i wr=>∃(k:Nat) (seen:List Nat) (rs:List (List Nat)),1≤k∧k≤m+1∧i=.int .i64 k∧Hid (RInv w wr w.heap.size X k seen rs o)) (fun _ i _=>(m+1)-(intOf i).toNat)
 case atStart=>exact⟨1,[],[],by omega,by omega,rfl,H0⟩
 case round=>
  obtain⟨k,seen,rs,hk1,hk2,rfl,HI⟩:=hrel
  by_cases hkm:k≤m
  · have hcell:=HI.out.row.cell (i:=k) (by have:=HM.out;omega)
    simp only[boolFn]at hcell
    have k1:(0:Int)≤(k:Int):=by omega
    have k2:(k:Int)≤(m:Int):=by omega
    have k3:(k:Int)<(m:Int)+1:=by omega
    by_cases hsk:k∈seen
    · rw[decide_eq_true hsk]at hcell
      have HSK:=Lib.hid hsk;clear hsk
      go_wp2_with (go_at_call 35;refine(arcsN' b m X L _ (New.shAt HI.out.new HS.out) hl HM.out).mono ?_;rintro e w' ⟨rfl,rfl⟩)
      go_roundw
      case rel=>
       refine⟨k+1,seen,rs,by omega,by omega,by go_num,Lib.hid ⟨HI.out.new,HI.out.lb,HI.out.row,HI.out.out,HI.out.nd,HI.out.sub,?_⟩⟩
       have:=HI.out.eq;rw[arcs_drop hk1 (by have:=HM.out;omega),Kn.rings_seen _ HSK.out]at this
       exact this
      case measure=>simp[intOf];omega
    · rw[decide_eq_false hsk]at hcell
      have HSK:=Lib.hid hsk;clear hsk
      go_wp2_with (go_at_call 35;refine(arcsN' b m X L _ (New.shAt HI.out.new HS.out) hl HM.out).mono ?_;rintro e w' ⟨rfl,rfl⟩)
      clear hcell
      obtain⟨wo,rfl⟩:∃wo,wo=wr:=⟨_,rfl⟩
      have HQ0:Hid (QInv wo wo w.heap.size X k seen [] k (.slice none 0 0)):=Lib.hid
       ⟨Fr.refl _ _,by rw[List.append_nil];exact HI.out.row,⟨rfl,.inl ⟨rfl,rfl⟩⟩,by rw[List.append_nil];exact HI.out.nd,by rw[List.append_nil];exact HI.out.sub,⟨hk1,by have:=HM.out;omega⟩,_,rfl,by simp⟩
      go_loopw [8,9] (fun s i wr=>∃(x:Nat) (r:List Nat),i=.int .i64 x∧Hid (QInv wo wr w.heap.size X k seen r x s)) (fun s _ _=>(m+1)-lenV s)
      case atStart=>exact⟨k,[],rfl,HQ0⟩
      case round=>
       obtain⟨x,r,rfl,HQ⟩:=hrel;have hxa:=HQ.out.arc
       have x1:(0:Int)≤(x:Int):=by omega
       have x2:(x:Int)<(m:Int)+1:=by have:=hxa.2;have:=HM.out;omega
       have hcx:=HQ.out.row.cell (i:=x) (by have:=hxa.2;omega);simp only[boolFn]at hcx;have HXA:=Lib.hid hxa;clear hxa
       by_cases hxs:x∈seen++r
       · rw[decide_eq_true hxs]at hcx
         have HR:=Lib.hid (HQ.out.done hxs);clear hxs;obtain⟨vs,hv1,hv2⟩:=HI.out.out;have hrl:vs.length=rs.length:=hv2.len;have hN:Hid (rs.length+1≤64):=Lib.hid (HI.out.few HM.out hm32);have hv1':=HQ.out.fr.owns hv1 (own_ne hv1 HI.out.row (by decide));obtain⟨a8,c8,rfl,_,_⟩:=own_shape HQ.out.ring
         obtain⟨rl,HRL⟩:∃rl,Hid (rl=r.length):=⟨_,Lib.hid rfl⟩
         have hring:=HQ.out.ring;rw[←HRL.out]at hring ⊢
         obtain⟨vl,HVL⟩:∃vl,Hid (vl=vs.length):=⟨_,Lib.hid rfl⟩
         have HOUT:Hid (wr.ownsRow w.heap.size 78 1 _ vl vs):=Lib.hid (by rw[HVL.out];exact hv1');have HRING:=Lib.hid hring;have HV2:=Lib.hid hv2
         have hvl:vl≤64:=by have:=hN.out;have:=HVL.out;omega
         clear hv1 hv1' hv2 hring hrl
         go_wp2_with (at_builtin;refine wpList_append_own _ rfl _ _ 105 rfl w.heap.size 78 i1 (.slice none 0 0) 1 24 Tryz.underlying105 hi1 hz10 hz11 hz12 rfl (by decide) _ vl vs rfl (World.ownsRow.alloc HOUT.out _) ⟨_,0,none⟩ 1 1 [.slice a8 rl c8] rfl rfl (cell_one_new _ _ _) (one_sl _ _ _) (by unfold maxLen;omega) (by omega) (by have:=HI.out.new.size;have:=HQ.out.fr.size;simp;omega) ?_;intro v' w7 hown hgrow _)
         have HOW:=Lib.hid hown;have HGR:=Lib.hid hgrow;clear hown hgrow;go_wp2
         go_roundw
         case rel=>
          refine⟨k+1,seen++r,rs++[r],by omega,by omega,by go_num,Lib.hid ⟨?_,HI.out.lb,?_,?_,HQ.out.nd,HQ.out.sub,?_⟩⟩
          · have h1:New w wr:=HI.out.new.next HQ.out.fr fun i hi=>.inr (by rw[hi];exact Nat.le_refl _)
            exact(h1.alloc _).grown HGR.out fun k ek=>.inr (own_lb HOUT.out k ek)
          · exact marks_app HQ.out.row HOUT.out HGR.out
          · rw[HVL.out]at HOW
            refine⟨vs++[_],by rw[List.length_append];exact HOW.out,Els.snoc (Els.mono (Els.mono HV2.out fun v l hn=>HQ.out.fr.owns hn (own_ne hn HI.out.row (by decide))) fun v l hn=>own_app hn HOUT.out (by decide) HGR.out) ?_⟩
            have:=HRING.out;rw[HRL.out]at this ⊢
            exact own_app (own0 this) HOUT.out (by decide) HGR.out
          · have:=HI.out.eq
            rw[arcs_drop hk1 (by have:=HM.out;omega),Kn.rings_new _ HSK.out,←HR.out]at this;rw[List.append_assoc]
            exact this
         case measure=>simp[intOf];omega
       · rw[decide_eq_false hxs]at hcx
         obtain⟨s1,s2,s3,s4⟩:=HQ.out.snoc hxs;have S1:=Lib.hid s1;have S2:=Lib.hid s2;have S4:=Lib.hid s4;obtain⟨a8,c8,rfl,_,_⟩:=own_shape HQ.out.ring
         obtain⟨rl,HRL⟩:∃rl,Hid (rl=r.length):=⟨_,Lib.hid rfl⟩
         have hring:=HQ.out.ring;rw[←HRL.out]at hring s3 ⊢;have hfz:=HQ.out.row.frozen x;have HRING:=Lib.hid hring
         have s3':rl+1≤m:=by have:=HM.out;omega
         clear hxs s1 s2 s4 hring s3;have hset:=HQ.out.row;have HW1:Hid (Fr (fun j=>j=w.heap.size) wo (wr.setCell ⟨w.heap.size,x,none⟩ (.bool true))):=Lib.hid (HQ.out.fr.setCell (.inl rfl) _)
         have HRG:Hid ((wr.setCell ⟨w.heap.size,x,none⟩ (.bool true)).ownsRow wo.heap.size 3 1 (.slice a8 rl c8) rl (nums r)):=Lib.hid
          (((Fr.refl (fun j=>j=w.heap.size) wr).setCell (.inl rfl) _).owns HRING.out (own_ne HRING.out HQ.out.row (by decide)))
         clear hset
         go_wp2_with (first
          |(at_builtin;refine wpList_append_own _ rfl _ _ 78 rfl wo.heap.size 3 i0 (.int .i64 0) 1 8 Tryz.underlying78 hi hz0 hz1 hz2 rfl (by decide) _ rl (nums r) rfl (World.ownsRow.alloc HRG.out _) ⟨wr.heap.size,0,none⟩ 1 1 [.int .i64 (x:Int)] rfl rfl (cell_one' (size_set _ _ _).symm) (one_int _) (by unfold maxLen;omega) (by omega) ((HW1.out.alloc _).size) ?_;intro v' w7 hown hgrow _;obtain⟨a9,c9,rfl,_,_⟩:=own_shape hown;have HOW:=Lib.hid hown;have HF7:Hid (Fr (fun j=>j=w.heap.size) wo w7):=Lib.hid ((HW1.out.alloc _).grown hgrow fun k ek=>.inr (own_lb HRG.out k ek));have HR7:Hid (w7.rowIs w.heap.size 4 (Kn.nArcs X+1) (boolFn fun j=>decide (j∈seen++(r++[x])))):=Lib.hid (by rw[←List.append_assoc];exact marks_app (marks_set HQ.out.row x) HRG.out hgrow);clear hown hgrow)
          |(go_at_call 60;refine(next_any b x X L _ (New.shAt (HI.out.new.next HF7.out fun i hi=>.inr (by rw[hi];exact Nat.le_refl _)) HS.out) HX.out hl HXA.out).mono ?_;rintro e w8 ⟨rfl,hE⟩;have HE:=Lib.hid hE;clear hE))
         go_roundw
         case rel=>
          refine⟨Kn.nextA X x,r++[x],rfl,Lib.hid ⟨HF7.out.trans (HE.out.mono fun _ h=>h.elim),HE.out.row HR7.out fun x=>x,?_,S1.out,S2.out,HX.out.isArc_next HXA.out,S4.out⟩⟩
          have:=HE.out.owns HOW.out fun _ _ x=>x
          rw[nums_snoc,List.length_append,←HRL.out]
          exact this
         case measure=>simp only[lenV];omega
  · obtain rfl:k=m+1:=by omega
    go_wp2_with (go_at_call 35;refine(arcsN' b m X L _ (New.shAt HI.out.new HS.out) hl HM.out).mono ?_;rintro e w' ⟨rfl,rfl⟩)
    go_ret
    refine⟨_,rfl,?_,HI.out.new⟩
    have:=HI.out.eq;rw[List.drop_eq_nil_of_le (by rw[Kn.arcs_length];have:=HM.out;omega),Kn.rings_nil,List.append_nil]at this;rw[←this]
    exact HI.out.out

theorem strands_any(b:Nat)(X:List Kn.Cr)(L:Int)(w:World)(h:ShAt w b X L)(hX:Kn.Ok X)(hl:X.length≤16):
 Calls Tryz.prog 44 #[.pointer (some ⟨b,0,none⟩)] w (GaveRows (Kn.strandsL X) w):=by
 have HC:=Lib.hid (rings_any b X L w h hX hl);clear h hX
 go_enter Tryz.func44,Tryz.ntmps44
 go_wp2_with (go_at_call 59;refine HC.out.mono ?_;rintro e w' ⟨v,rfl,hr,hF⟩;have HR:=Lib.hid hr;have HF:=Lib.hid hF;clear hr hF)
 go_ret
 exact⟨v,rfl,HR.out,HF.out⟩
end Go.Proofs.YtlicglicfijelaaGreat
