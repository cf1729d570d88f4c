/- Walks: Planar. -/
import Derived.Test.YtfplmbmenjdlhaaGreatDoorW14
set_option maxRecDepth 100000
set_option maxHeartbeats 16000000
namespace Go.Proofs.YtfplmbmenjdlhaaGreatDoor
open Go.RowKit
open Fr (refl)
open Kn (Cr nh aA head er aC)
open Pl (T)
open Go.Proofs.Tryz (func11 ntmps11 prog underlying3)
variable {X:List Cr} {base i k:Nat} {a:Option Addr} {v:Value} {w w':World}
def ow(P:List (List Nat))(i k:Nat):List Nat:=(P.take i).flatten++((P.getD i []).take k)
theorem ML{P:List (List Nat)}(hi:i<P.length)(hk:k<P[i].length):ow P i (k+1)=ow P i k++[P[i][k]]:=by
 unfold ow;rw[jc,je hi];simp only[Option.getD_some];rw[jq hk,List.append_assoc]
theorem MN{P:List (List Nat)}(hi:i<P.length):ow P i P[i].length=ow P (i+1) 0:=by
 unfold ow;rw[jc,je hi];simp only[Option.getD_some];rw[List.take_length,List.take_zero,List.append_nil,jq hi,List.flatten_append];simp
def x9(X:List Cr)(q i:Nat):Nat:=((aA X).take q).countP λf=>decide (er X (head X (f.headD (0,false))).1=i)
theorem MJ{q:Nat}(hq:q<(aA X).length):x9 X (q+1) i=x9 X q i+if er X (head X ((aA X)[q].headD (0,false))).1=i then 1 else 0:=by
 unfold x9;rw[jq hq,List.countP_append];simp[jG]
theorem Vo(X:List Cr)(q i:Nat):x9 X q i<=q:=by
 unfold x9;exact jJ List.countP_le_length (by rw[List.length_take];omega)
structure PlA(w wr:World)(mb:Nat)(X:List Cr)(done:List Nat)(v:Value):Prop where
 new:New w wr
 map:kJ wr mb done.length done (er X)
 rows:Rows AK 0 74 wr v (aC X)
theorem Rows.vK{α:Type}{R:World->Value->α->Prop}{e:Nat}{ll:List α}(h:Rows R base e w v ll):Rows R 0 e w v ll:=by
 obtain⟨vs,h1,h2⟩:=h;exact⟨vs,P5 h1,h2⟩
theorem Wa.map{w w':World}{mb:Nat}{v:Value}{ll:List (List Nat)}{es:Array MapEntry}{ck:Nat}(h:Rows AK 0 74 w v ll)(hm:w.heap[mb]?=some (.map es ck))(hf:Fr (λk=>k=mb) w w'):Rows AK 0 74 w' v ll:=by
 obtain⟨vs,h1,h2⟩:=h;exact⟨vs,hf.owns h1 (cM h1 hm),h2.mono λv l hn=>hf.owns hn (cM (show w.ownsRow 0 3 1 v l.length (j7 l)from hn) hm)⟩
theorem Wa.new{w w':World}{b:Nat}{v:Value}{ll:List (List Nat)}(h:Rows AK b 74 w v ll)(hf:New w w'):Rows AK b 74 w' v ll:=h.new hf λ_ _ x=>hf.owns x λ_ _ y=>y
theorem Ar.new{w w':World}{b:Nat}{v:Value}{ll:List (List Kn.Dt)}(h:Rows kN b 156 w v ll)(hf:New w w'):Rows kN b 156 w' v ll:=h.new hf λ_ _ x=>hf.owns x λ_ _ y=>y
theorem Vt(hX:Kn.Ok X)(hi:i<=(aC X).length):(ow (aC X) i k).length<=X.length:=by
 have h1:=hX.eG.length_eq;rw[jS]at h1
 have:(ow (aC X) i k).length<=(aC X).flatten.length:=by
  unfold ow;by_cases c:i<(aC X).length
  · conv=>rhs;rw[<-List.take_append_drop i (aC X),List.flatten_append,List.drop_eq_getElem_cons c,List.flatten_cons]
    rw[jc,je c];simp only[ju,Option.getD_some,List.length_take];omega
  rw[jc,List.getElem?_eq_none (by omega)];simp only[Option.getD_none,List.take_nil,List.append_nil];rw[List.take_of_length_le (by omega)];exact jH _
 omega
theorem vW(b:Nat)(X:List Cr)(L:Int)(w:World)(h:fS w b X L)(hX:Kn.Ok X)(hl:X.length<=16):
 Calls prog 45 #[.pointer (some ⟨b,0,none⟩)] w λe w'=>e=.returned (.bool (Kn.aJ X))/\New w w':=by
 have Ai:=@run_makeMap prog;have HS:=jd h;have HX:=jd hX;have QJ:=Cm X hX;obtain⟨np,Xo⟩:=jb ((aC X).length)
 have hnp:np<=16:=by have:=Xo.o;omega
 clear h hX QJ
 have OH:∀w,(Instr.makeSlice 74 (.int .i64 (np:Int)) (.int .i64 (np:Int))).run prog w=.ok (.slice (some ⟨w.heap.size,0,none⟩) np np) (w.alloc (.cells (madeCells #[.int .i64 0] np) 3)):=λw=>
  run_make_row' (P:=prog) 74 3 (.int .i64 0) 8 Tryz.underlying74 Tryz.xX rfl .i64 .i64 np (by omega) (by omega) w
 have YK:∀(x y:Int) (w:World),(Instr.field 158 (.agg #[.int .i64 x,.int .i64 y]) 0).run prog w=.ok (.int .i64 x) w:=λx y w=>by kernel_rfl
 go_enter Tryz.func45,Tryz.ntmps45
 go_wp2_with (go_at_call 80;refine(LB b X L _ (New.kM ((refl _ _).alloc _) HS.o) HX.o hl).mono ?_;rintro e w1 ⟨v,rfl,hr,hF⟩;obtain⟨a1,c1,rfl⟩:=hr.sl;rw[<-Xo.o];have HR:=jd hr.vK;have HF:=jd hF;clear hr hF)
 have Ps:Hd (PlA w w1 w.heap.size X [] (.slice a1 np c1)):=jd ⟨((refl _ _).alloc _).trans HF.o,(kJ.made w (er X)).fr (S:=λ_=>False) HF.o (λx=>x),by rw[Xo.o];exact HR.o⟩
 go_loopw [19] (λi wr=>∃q:Nat,q<=np/\i=.int .i64 q/\Hd (PlA w wr w.heap.size X (ow (aC X) q 0) (.slice a1 np c1))) (λi _=>np-(intOf i).toNat)
 case atStart=>exact⟨0,by omega,rfl,Ps⟩
 case round=>
 obtain⟨q,hq,rfl,HA⟩:=hrel;by_cases hlt:q<np
 · have hqP:q<(aC X).length:=by have:=Xo.o;omega
   obtain⟨g,c,u,he,hcell,hown⟩:=HA.o.rows.at hqP;rw[<-Xo.o]at he;cases he;obtain⟨a2,c2,rfl⟩:=hown.sl;have ZO:=jd hown;obtain⟨m,HM⟩:=jb ((aC X)[q].length);rw[<-HM.o]at hcell
   have i1:(0:Int)<=(q:Int):=by omega
   have i2:(q:Int)<(np:Int):=by omega
   have ahK:m<=16:=by
    have h1:=(HX.o.nE _ (jM hqP)).le;have:=HM.o;omega
   clear hown;go_wp2;clear hcell
   obtain⟨wo,rfl⟩:∃wo,wo=wr:=⟨_,rfl⟩
   go_loopw [26] (λi wr=>∃k:Nat,k<=m/\i=.int .i64 k/\Hd (PlA w wr w.heap.size X (ow (aC X) q k) (.slice (some ⟨g,0,none⟩) np c1))/\Hd (AK wr (.slice a2 m c2) (aC X)[q])) (λi _=>m-(intOf i).toNat)
   case atStart=>exact⟨0,by omega,rfl,HA,by rw[HM.o];exact ZO⟩
   case round=>
   obtain⟨k,hk,rfl,HAk,HOk⟩:=hrel;by_cases hkm:k<m;rotate_left
   · obtain rfl:k=m:=by omega
     go_wp2;go_roundw
     case rel=>exact⟨q+1,by omega,by go_num,by rw[<-MN hqP,<-HM.o];exact HAk⟩
     case measure=>simp[intOf];omega
   have hkP:k<(aC X)[q].length:=by have:=HM.o;omega
   obtain⟨g3,c3,he3,hc3⟩:=HOk.o.at hkP;rw[<-HM.o]at he3;cases he3;obtain⟨x,HXx⟩:=jb ((aC X)[q][k]);rw[<-HXx.o]at hc3
   have hxm:x∈(aC X)[q]:=by rw[HXx.o];exact jM hkP
   have hpa:er X x=q:=LC HX.o hqP hxm
   have am2:x<=1000:=by have:=TF HX.o hqP hxm;omega
   have ZM:=jd hpa;obtain⟨D,hown,Aj,GA⟩:=HAk.o.map;have QQ:=Vt HX.o (i:=q) (k:=k) (by omega)
   have ahZ:(ow (aC X) q k).length<maxLen:=by unfold maxLen;omega
   have HDL:=jd ahZ;have aem:=jd hown;have nN:=jd Aj;have nA:=jd GA;have HW:=jd (WR am2);have HWq:=jd (WR (x:=q) (by omega))
   have i3:(0:Int)<=(k:Int):=by omega
   have i4:(k:Int)<(m:Int):=by omega
   clear hxm hpa hown Aj GA QQ ahZ
   go_wp2_with (at_mapUpdate;refine wpList_mapUpdate_own _ rfl _ _ _ 58 rfl 3 3 Tryz.iW Tryz.agb _ w.heap.size (ow (aC X) q k).length _ rfl aem.o HDL.o _ _ _ rfl rfl (Maps.keyOf_int_mk underlying3 HW.o) _ [] (plainElem_int underlying3 HWq.o) ?_;intro w5 JG hg5;have HO5:=jd JG;have HG5:=jd hg5;clear JG hg5)
   go_roundw
   case rel=>
    obtain⟨es,ck,yJ⟩:=HAk.o.map.block
    have Bh:Fr (λk=>k=w.heap.size) wr w5:=(refl _ wr).grown HG5.o λj e=>.inl (Option.some.inj e).symm
    refine⟨k+1,by omega,by go_num,jd ⟨HAk.o.new.next Bh λi hi=>.inr (by rw[hi];exact jH _),?_,Wa.map HAk.o.rows yJ Bh⟩,jd (Bh.owns HOk.o (cM (show wr.ownsRow 0 3 1 _ _ _ from HOk.o) yJ))⟩;rw[ML hqP hkP,<-HXx.o,ju,List.length_singleton];have:=HO5.o;exact kJ.put nN.o nA.o (by rw[ZM.o];exact this)
   case measure=>simp[intOf];omega
 obtain rfl:q=np:=by omega
 obtain⟨wm,rfl⟩:∃wm,wm=wr:=⟨_,rfl⟩
 obtain⟨nf,DW⟩:=jb ((aA X).length)
 have hnf:nf<=64:=by
  have h1:=Kn.yT (Kn.left X) (4*X.length+1) (Kn.dM X) [];rw[Kn.fL]at h1;have:=DW.o;unfold aA at this;omega
 go_wp2_with (go_at_call 64;refine(zw b X L _ (New.kM (HA.o.new.alloc _) HS.o) HX.o hl).mono ?_;rintro e w2 ⟨vf,rfl,hrf,hF2⟩;obtain⟨af,cf,rfl⟩:=hrf.sl;rw[<-DW.o];have Wl:=jd hrf;have sf:=jd hF2;clear hrf hF2)
 have nA:Hd (New wm w2):=jd (((refl _ wm).alloc _).trans sf.o);have lO:Hd (w2.rowIs wm.heap.size 3 q (bS (x9 X 0))):=jd (bu (sf.o.row (World.rowIs_made wm (.int .i64 0) q 3) λx=>x) λj _=>rfl)
 go_loopw [41] (λi wr=>∃k:Nat,k<=nf/\i=.int .i64 k/\Hd (Fr (λj=>j=wm.heap.size) w2 wr)/\Hd (wr.rowIs wm.heap.size 3 q (bS (x9 X k)))) (λi _=>nf-(intOf i).toNat)
 case atStart=>exact⟨0,by omega,rfl,jd (refl _ _),lO⟩
 case round=>
 obtain⟨k,hk,rfl,FE,ZH⟩:=hrel;have HNw:Hd (New wm wr):=jd (nA.o.next FE.o λi hi=>.inr (by rw[hi];exact jH _));by_cases hkf:k<nf
 · have hkF:k<(aA X).length:=by have:=DW.o;omega
   have CP:Rows kN 0 156 wr (.slice af nf cf) (aA X):=by
    obtain⟨vs,h1,h2⟩:=Wl.o;rw[<-DW.o]at h1;exact⟨vs,P5 (FE.o.owns h1 (eE h1 lO.o (by decide))),h2.mono λv l hn=>FE.o.owns hn (eE (show w2.ownsRow 0 26 2 v l.length (lK l)from hn) lO.o (by decide))⟩
   obtain⟨g,c,u,he,hcell,hown⟩:=CP.at hkF;rw[<-DW.o]at he;cases he
   obtain⟨d,rest,hd⟩:∃d rest,(aA X)[k]=d :: rest:=by
    have hne:=Kn.xn (Kn.left X) (N:=4*X.length+1) (by omega) (Kn.dM X) [] _ (jM hkF)
    cases hq:(aA X)[k]with
    |nil=>exact absurd hq hne
    |cons d rest=>exact⟨d,rest,rfl⟩
   have hda:Kn.ah X d.1:=Kn.bW.1 ((Kn.fK HX.o).mem_iff.1 (List.mem_flatten.2 ⟨_,jM hkF,by rw[hd];simp⟩));rw[hd]at hown;obtain⟨g2,c2,rfl,hc1,hc2⟩:=hown.first;obtain⟨da,db⟩:=d;simp only at hc1 hc2 hda
   obtain⟨iw,hs,hhd⟩:∃iw hs,head X (da,db)=(iw,hs):=⟨_,_,rfl⟩
   have GG:iw<X.length:=by
    have:=(HX.o.bg (d:=(da,db)) hda).1;rw[hhd]at this;exact this
   obtain⟨pi,YA⟩:∃pi,pi=er X iw:=⟨_,rfl⟩
   have xY:iw∈(aC X).flatten:=(HX.o.eG.mem_iff).2 (jw.2 GG)
   have hpl:pi<q:=by
    rw[YA,Xo.o];unfold er;rw[List.findIdx_lt_length];obtain⟨l,h1,h2⟩:=List.mem_flatten.1 xY;exact⟨l,h1,by simpa using h2⟩
   have hrow:=ZH.o.cell (i:=pi) hpl;obtain⟨cn,Hv⟩:=jb (x9 X k pi);unfold bS at hrow;rw[<-Hv.o]at hrow
   have U9:cn<=64:=by have:=Vo X k pi;have:=Hv.o;omega
   have hdone:iw∈ow (aC X) q 0:=by
    unfold ow;rw[List.take_of_length_le (by have:=Xo.o;omega)];simp only[List.take_zero,List.append_nil];exact xY
   have ajT:=jd hdone;have HPI:=jd YA;have HHD:=jd hhd;have HD:=jd hd;have HDA:=jd hda;have HCL:=jd GG
   have i1:(0:Int)<=(k:Int):=by omega
   have i2:(k:Int)<(nf:Int):=by omega
   have i3:(0:Int)<=(pi:Int):=by omega
   have i4:(pi:Int)<(q:Int):=by omega
   have i5:0<rest.length+1:=by omega
   clear hown CP hd hda hhd GG YA xY hdone
   go_wp2_with (go_at_call 81;refine(CX b da db X L _ (New.kM (HA.o.new.trans HNw.o) HS.o) hl HDA.o).mono ?_;rintro e w5 ⟨rfl,hE⟩;rw[HHD.o];have hrun:=((HA.o.map.fr HNw.o λx=>x).fr hE λx=>x).look ajT.o (by have:=HCL.o;omega);rw[<-HPI.o]at hrun;have hr5:=hE.cell hrow λx=>x;have hf5:=(hE.row ZH.o λx=>x).frozen pi;have HE:=jd hE;clear hE)
   go_roundw
   case rel=>
    have ahq:=HE.o.row ZH.o λx=>x
    refine⟨k+1,by omega,by go_num,jd ((FE.o.trans (HE.o.mono λ_ h=>h.elim)).setCell (.inl rfl) _),jd (bu (gI ahq pi (cn+1)) λj _=>?_)⟩
    have OG:er X (head X ((aA X)[k].headD (0,false))).1=pi:=by
     have e1:((aA X)[k].headD (0,false))=(da,db):=by rw[HD.o];rfl
     rw[e1,HHD.o,HPI.o]
    unfold bS;rw[MJ hkF,OG];by_cases e:j=pi
    · subst e;simp[Hv.o]
    have e2:¬pi=j:=λh=>e h.symm
    rw[if_neg e2];simp only[if_neg e];rfl
   case measure=>simp[intOf];omega
 obtain rfl:k=nf:=by omega
 have hrow4:wr.rowIs wm.heap.size 3 q (bS λi=>nh X i):=bu ZH.o λj _=>by
  unfold bS x9 nh;rw[List.take_of_length_le (by have:=DW.o;omega)]
 have Pk:=jd hrow4;have aaM:=Wa.new HA.o.rows HNw.o;have HPR:=jd aaM;clear hrow4 aaM;go_wp2
 obtain⟨wz,rfl⟩:∃wz,wz=wr:=⟨_,rfl⟩
 go_loop [61] (λi=>∃j:Nat,j<=q/\i=.int .i64 j/\Hd (∀x,x<j->nh X x=((aC X).getD x []).length+2)) (λi=>q-(intOf i).toNat)
 case atStart=>exact⟨0,by omega,rfl,jd λx hx=>by omega⟩
 case round=>
 obtain⟨j,hj,rfl,aj4⟩:=hrel;by_cases hjq:j<q;rotate_left
 · obtain rfl:j=q:=by omega
   have QH:Kn.aJ X=true:=List.all_eq_true.2 λx hx=>jk (aj4.o x (by have:=jw.1 hx;have:=Xo.o;omega))
   have HY:=jd QH;clear QH;go_wp2;go_ret;exact⟨cq HY.o.symm,HA.o.new.trans HNw.o⟩
 have hjP:j<(aC X).length:=by have:=Xo.o;omega
 obtain⟨g5,c5,u5',he5,adB,JG⟩:=HPR.o.at hjP;rw[<-Xo.o]at he5;cases he5;obtain⟨a6,c6,rfl⟩:=JG.sl;obtain⟨m,HM⟩:=jb ((aC X)[j].length);rw[<-HM.o]at adB
 have ahK:m<=16:=by
  have h1:=(HX.o.nE _ (jM hjP)).le;have:=HM.o;omega
 have hfc:=Pk.o.cell (i:=j) hjq;obtain⟨fa,Ha⟩:=jb (nh X j);simp only[bS]at hfc;rw[<-Ha.o]at hfc
 have hgd:((aC X).getD j []).length=m:=by rw[jc,je hjP,HM.o];rfl
 have HGD:=jd hgd
 have i1:(0:Int)<=(j:Int):=by omega
 have i2:(j:Int)<(q:Int):=by omega
 clear JG hgd;by_cases hfm:fa=m+2
 · have HFM:=jd hfm
   subst hfm
   have e0:(((m+2:Nat):Int) != (m:Int)+2)=false:=by simp
   have e0':((m:Int)+2 != (m:Int)+2)=false:=by simp
   go_wp2
   go_round
   case rel=>
    refine⟨j+1,by omega,by go_num,jd λx hx=>?_⟩;by_cases e:x=j
    · subst e
      rw[HGD.o,<-Ha.o]
    exact aj4.o x (by omega)
   case measure=>simp[intOf];omega
 have e0:((fa:Int) != (m:Int)+2)=true:=by simp;omega
 have hno:Kn.aJ X=false:=by
  rw[Bool.eq_false_iff];intro hp;have:=List.all_eq_true.1 hp j (jw.2 hjP);rw[jh,HGD.o,<-Ha.o]at this;exact hfm this
 have FB:=jd hno;clear hno hfm;go_wp2;go_ret;exact⟨cq FB.o.symm,HA.o.new.trans HNw.o⟩
open Go.RowKit
open Go.RowKit
theorem q1:prog.eqGuardType prog.depth 40=false:=by kernel_rfl
theorem q2:prog.stoodInHeld 40=false:=by kernel_rfl
theorem q3:prog.underlying 40=some (.struct (prog.fieldsOf 40)):=by kernel_rfl
theorem q4 : (prog.fieldsOf 40).toList.map (λf => (f.type, f.name, f.offset)) = [(3, "Exp", 0), (3, "Coef", 1)] := by kernel_rfl
theorem acv:(prog.info? 3).map (λi=>(i.zero,i.size,i.bytes))=some (some (.int .i64 0),1,8):=by kernel_rfl
theorem hne(w:World)(a b c d:Int):(binOp .neq 40 (.agg #[.int .i64 a,.int .i64 b]) (.agg #[.int .i64 c,.int .i64 d])).run prog w=.ok (.bool (!(a==c&&b==d))) w:=by
 rw[run_neq_struct,run_equalIn_agg _ _ _ _ _ q3 q2];have h4:=q4
 rcases h:(prog.fieldsOf 40).toList with _|⟨f1,_|⟨f2,_|⟨f3,r⟩⟩⟩<;>simp[h]at h4
 obtain⟨⟨t1,n1,o1⟩,t2,n2,o2⟩:=h4;have hu:=underlying3;obtain⟨i0,W7,hz1,hz2⟩:=info_parts acv
 cases hac:a==c<;>simp[go_sem,Op.eqFields,n1,n2,t1,t2,o1,o2,part,sizeOf,typeInfo,W7,run_equalIn_int _ _ _ .i64 .i64 _ _ hu,hac]
 by_cases hbd:b=d<;>simp[hbd]
def yB(w:World)(a:Option Addr)(l:List T):Prop:=
 l=[]\/∃b o,a=some ⟨b,o,none⟩/\∀i,i<l.length->w.cell? ⟨b,o+i*2,none⟩=some (.int .i64 (l.getD i (0,0)).1)/\w.cell? ⟨b,o+i*2+1,none⟩=some (.int .i64 (l.getD i (0,0)).2)
theorem yB.at{w:World}{a:Option Addr}{l:List T}(h:yB w a l){k:Nat}(hk:k<l.length):
 ∃b o,a=some ⟨b,o,none⟩/\w.cell? ⟨b,o+k*2,none⟩=some (.int .i64 (l.getD k (0,0)).1)/\w.cell? ⟨b,o+k*2+1,none⟩=some (.int .i64 (l.getD k (0,0)).2):=by
 rcases h with rfl|⟨b,o,rfl,h⟩
 · simp at hk
 exact⟨b,o,rfl,h k hk⟩
theorem New.terms(h:New w w'){l:List T}(ht:yB w a l):yB w' a l:=by
 rcases ht with rfl|⟨b,o,rfl,hc⟩
 · exact .inl rfl
 exact .inr ⟨b,o,rfl,λi hi=>⟨h.cell (hc i hi).1 (λx=>x),h.cell (hc i hi).2 (λx=>x)⟩⟩
def Ts(w:World)(v:Value)(l:List T):Prop:=∃a c,v=.slice a l.length c/\yB w a l
theorem New.ts(h:New w w'){l:List T}(ht:Ts w v l):Ts w' v l:=by
 obtain⟨a,c,rfl,ht⟩:=ht;exact⟨a,c,rfl,h.terms ht⟩
theorem ad1{x y:List T}(hl:x.length=y.length)(h:∀j,j<x.length->x.getD j (0,0)=y.getD j (0,0)):x=y:=by
 refine List.ext_getElem hl λi h1 h2=>?_
 have:=h i h1;simpa[jc,h1,h2]using this
theorem agH{x y:List T}(h:x.getD k (0,0)≠y.getD k (0,0)):x≠y:=λe=>h (by rw[e])
def aap(a b c d:Int)(r:Bool):Prop:=∀w,(binOp .neq 40 (.agg #[.int .i64 a,.int .i64 b]) (.agg #[.int .i64 c,.int .i64 d])).run prog w=.ok (.bool r) w
theorem T5{a b c d:Int}(h:a=c/\b=d):aap a b c d false:=λw=>by rw[hne];simp[h.1,h.2]
theorem Ql{a b c d:Int}(h:¬(a=c/\b=d)):aap a b c d true:=λw=>by
 rw[hne]
 have:(a==c&&b==d)=false:=by
  rw[Bool.eq_false_iff];intro x;simp at x;exact h x
 rw[this];rfl
theorem Tg(va vb:Value)(x y:List T)(w:World)(hx:Ts w va x)(hy:Ts w vb y)(lx:x.length<=1000000)(ly:y.length<=1000000):
 Calls prog 11 #[va,vb] w λe w'=>e=.returned (.bool (decide (x=y)))/\New w w':=by
 obtain⟨a,c,rfl,hx⟩:=hx;obtain⟨a',c',rfl,hy⟩:=hy
 obtain⟨l,hl⟩:∃l,l=x.length:=⟨_,rfl⟩
 obtain⟨l',hl'⟩:∃l,l=y.length:=⟨_,rfl⟩
 rw[<-hl,<-hl'];have HX:=jd hx;have HY:=jd hy;have HL:=jd hl;have RM:=jd hl'
 have l1:l<=1000000:=by omega
 have l2:l'<=1000000:=by omega
 clear hx hy hl hl' lx ly;have q1':=q1;have hu:=underlying3;by_cases h:l=l';rotate_left
 · have h':¬(l:Int)=(l':Int):=by omega
   go_enter func11,ntmps11
   go_wp2;go_ret;exact⟨cq (by rw[eq_comm,jF];intro z;apply h;rw[HL.o,RM.o,z]),refl _ _⟩
 subst h
 go_enter func11,ntmps11
 go_wp2
 go_loopw [5] (λi wr=>∃k:Nat,k<=l/\i=.int .i64 k/\Hd (New w wr)/\Hd (∀j,j<k->x.getD j (0,0)=y.getD j (0,0))) (λi _=>l-(intOf i).toNat)
 case atStart=>exact⟨0,by omega,rfl,jd (refl _ _),jd λj hj=>by omega⟩
 case round=>
 obtain⟨k,hk,rfl,HF,HE⟩:=hrel;by_cases hlt:k<l;rotate_left
 · obtain rfl:k=l:=by omega
   go_wp2;go_ret;exact⟨cq (by rw[eq_comm,jt];exact ad1 (by rw[<-HL.o,<-RM.o]) λj hj=>HE.o j (by rw[HL.o];exact hj)),HF.o⟩
 obtain⟨b,o,rfl,d1,d2⟩:=(New.terms HF.o HX.o).at (k:=k) (by have:=HL.o;omega);obtain⟨b',o',rfl,d3,d4⟩:=(New.terms HF.o HY.o).at (k:=k) (by have:=RM.o;omega);obtain⟨e1,H1⟩:=jb ((x.getD k (0,0)).1);obtain⟨e2,H2⟩:=jb ((x.getD k (0,0)).2);obtain⟨e3,H3⟩:=jb ((y.getD k (0,0)).1);obtain⟨e4,H4⟩:=jb ((y.getD k (0,0)).2);rw[<-H1.o]at d1;rw[<-H2.o]at d2;rw[<-H3.o]at d3;rw[<-H4.o]at d4
 have i1:(0:Int)<=(k:Int):=by omega
 have i2:(k:Int)<(l:Int):=by omega
 by_cases hq:e1=e3/\e2=e4
 · have hn:∀w,(binOp .neq 40 (.agg #[.int .i64 e1,.int .i64 e2]) (.agg #[.int .i64 e3,.int .i64 e4])).run prog w=.ok (.bool false) w:=T5 hq
   have HQ:=jd hq;clear hq;go_wp2
   go_quiet (fail)
   go_wp2;go_roundw
   case rel=>exact⟨k+1,by omega,by go_num,jd (HF.o.drewN _),jd λj hj=>by
    by_cases c:j=k
    · subst c;exact Prod.ext (by rw[<-H1.o,<-H3.o];exact HQ.o.1) (by rw[<-H2.o,<-H4.o];exact HQ.o.2)
    exact HE.o j (by omega)⟩
   case measure=>simp[intOf];omega
 have hn:∀w,(binOp .neq 40 (.agg #[.int .i64 e1,.int .i64 e2]) (.agg #[.int .i64 e3,.int .i64 e4])).run prog w=.ok (.bool true) w:=Ql hq
 have HQ:=jd hq;clear hq;go_wp2
 go_quiet (fail)
 go_wp2;go_ret;exact⟨cq (by rw[eq_comm,jF];exact agH λz=>HQ.o ⟨by rw[H1.o,H3.o,z],by rw[H2.o,H4.o,z]⟩),HF.o.drewN _⟩
open Go.RowKit
def mN(w:World)(a:Option Addr)(xs:List Int):Prop:=
 xs=[]\/∃b o,a=some ⟨b,o,none⟩/\∀i,i<xs.length->w.cell? ⟨b,o+i,none⟩=some (.int .i64 (xs.getD i 0))
theorem New.ints(h:New w w'){xs:List Int}(hi:mN w a xs):mN w' a xs:=by
 rcases hi with rfl|⟨b,o,rfl,hc⟩
 · exact .inl rfl
 exact .inr ⟨b,o,rfl,λi hi=>h.cell (hc i hi) (λx=>x)⟩
theorem mN.at{w:World}{a:Option Addr}{xs:List Int}(h:mN w a xs){k:Nat}(hk:k<xs.length):
 ∃b o,a=some ⟨b,o,none⟩/\w.cell? ⟨b,o+k,none⟩=some (.int .i64 (xs.getD k 0)):=by
 rcases h with rfl|⟨b,o,rfl,h⟩
 · simp at hk
 exact⟨b,o,rfl,h k hk⟩
def lL(l:List T):List Value:=l.flatMap λt=>[.int .i64 t.1,.int .i64 t.2]
theorem MZ(l m:List T):lL (l++m)=lL l++lL m:=by simp[lL]
theorem Fs:∀(l:List T) (i:Nat),i<l.length->(lL l)[i*2]?=some (.int .i64 (l.getD i (0,0)).1)/\(lL l)[i*2+1]?=some (.int .i64 (l.getD i (0,0)).2)
 |[],i,h=>by simp at h
 |t :: l,0,_=>by simp[lL]
 |t :: l,i+1,h=>by
  have:=Fs l i (by simpa using h)
  have e1:(i+1)*2=i*2+2:=by omega
  have e2:lL (t :: l)=[.int .i64 t.1,.int .i64 t.2]++lL l:=rfl;rw[e1,e2];simp only[List.getD_cons_succ];refine⟨?_,?_⟩
  · rw[List.getElem?_append_right (by simp)];simpa using this.1
  rw[List.getElem?_append_right (by simp)];simpa using this.2
def vu(base:Nat)(w:World)(v:Value)(l:List T):Prop:=w.ownsRow base 40 2 v l.length (lL l)
theorem vu.amB(base:Nat)(w:World):vu base w (.slice none 0 0) []:=World.ownsRow_nil _ _ _ _
theorem vu.ts{l:List T}(h:vu base w v l):Ts w v l:=by
 have hl:=h.1
 rcases h.2 with⟨rfl,hn⟩|⟨g,cap,cur,rfl,hb,hg,h1,h2,h3,h4⟩
 · have:l=[]:=List.eq_nil_of_length_eq_zero hn
   subst this;exact⟨none,0,rfl,.inl rfl⟩
 refine⟨_,_,rfl,.inr ⟨g,0,rfl,λi hi=>?_⟩⟩;have hc:=Fs l i hi
 have hcell:∀j x,(lL l)[j]?=some x->w.cell? ⟨g,0+j,none⟩=some x:=λj x hx=>by
  rw[cell_of_row w g (0+j) cur 40 (0,0) hg];rw[<-h4]at hx
  have hj:j<l.length*2:=by
   rcases Nat.lt_or_ge j (l.length*2)with c|c
   · exact c
   rw[List.getElem?_eq_none (by rw[List.length_take];omega)]at hx;cases hx
  rw[List.getElem?_take_of_lt hj]at hx;rw[Nat.zero_add,<-Array.getElem?_toList];exact hx
 exact⟨hcell _ _ hc.1,by have:=hcell _ _ hc.2;simpa[Nat.add_assoc]using this⟩
theorem New.appended{wr w1:World}{e:TypeId}{size:Nat}{n:Nat}{xs:List Value}{o:Obj}(hF:New w wr)(hO:wr.ownsRow w.heap.size e size v n xs)(hg:(wr.alloc o).grownBy w1 v.ownBlock):New w w1:=
 (Fr.alloc hF o).grown hg λk ek=>.inr (hO.lt k ek).1
theorem vu.snoc{l:List T}{x y:Int}(h:w.ownsRow base 40 2 v (l.length+1) (lL l++[.int .i64 x,.int .i64 y])):vu base w v (l++[(x,y)]):=by
 unfold vu
 have e1:(l++[(x,y)]).length=l.length+1:=by simp
 rw[e1,MZ];exact h
theorem cell_two_new(w:World)(x y:Value)(t:TypeId):∀j u,[x,y][j]?=some u->(w.alloc (.cells #[x,y] t)).cell? ((⟨w.heap.size,0,none⟩:Addr).add j)=some u:=by
 intro j u hj;have hg:(w.alloc (.cells #[x,y] t)).heap[w.heap.size]?=some (.cells #[x,y] t (0,0)):=heap_alloc_new w _
 match j,hj with
 |0,hj=>exact(cell_of_row _ _ 0 _ t (0,0) hg).trans (by simpa using hj)
 |1,hj=>exact(cell_of_row _ _ 1 _ t (0,0) hg).trans (by simpa using hj)
theorem Ia(x y:Int):∀u∈[Value.int .i64 x,Value.int .i64 y],u.oneCell'=true:=by simp[Value.oneCell']
def aj8(l:List T)(w:World)(e:Ending)(w':World):Prop:=∃v,e=.returned v/\Ts w' v l/\New w w'
theorem Mi:(prog.info? 40).map (λi=>(i.zero,i.size,i.bytes))=some (some (.agg #[.int .i64 0,.int .i64 0]),2,16):=by kernel_rfl
end Go.Proofs.YtfplmbmenjdlhaaGreatDoor
