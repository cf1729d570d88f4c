/- For every diagram and every move (whatever they hold) the call of KhovanovMoves returns true and leaves its arguments as they were. Its condition: the program's own tables 'tied' and 'wrong' read at the start as the program lays them (tied to its text). The frame of the proof is the shell of proof-skeleton.mjs, turned to a diagram and a move. -/
import Derived.Test.YtfplmbmenjdlhaaGreatDoorV20
import Derived.Lib.LaidU8
import Derived.ShutString
import Derived.LaidMore
import Derived.Test.YtfplmbmenjdlhaaGreatDoorCards
import Derived.Test.YtfplmbmenjdlhaaGreatDoorTie
import Derived.Lay
import Derived.Stop.LaidErr
set_option maxRecDepth 100000
set_option maxHeartbeats 16000000
namespace Go.Proofs.YtfplmbmenjdlhaaGreatDoor
open Go.RowKit
open Kn (E2 L2 cf F2 Kh bM Small Mu)
theorem Qs(a:Option Addr)(n c:Nat)(X:List Kn.Cr)(L mk mx my mu mv:Int)(ub vb ov:Bool)(w:World)(hx:bV w a X)(hn:n=X.length)(lx:n<=9223372036854775807)(l1:-9223372036854775808<=L)(l2:L<=9223372036854775807)(ht:He w):
 Calls Tryz.prog 3 #[.agg #[.slice a n c,.int .i64 L],Hl mk mx my mu mv ub vb ov] w (λe w'=>e=.returned (.bool true)/\New w w'):=by
 have HN:=jd hn;have HX:=jd hx;have HT:=jd ht;clear hx hn ht
 go_enter Tryz.func3,Tryz.ntmps3
 go_wp2_with fail;obtain⟨w1,cU⟩:=jb ((w.alloc (.cells #[.slice a n c,.int .i64 L] 24)).alloc (.cells #[.int .i64 mk,.int .i64 mx,.int .i64 my,.int .i64 mu,.bool ub,.int .i64 mv,.bool vb,.bool ov] 28));have gQ:Hd (New w w1):=jd (by rw[cU.o];exact((Fr.refl _ w).alloc _).alloc _);obtain⟨B3,kQ⟩:=jb w.heap.size;obtain⟨B5,Ei⟩:=jb (w.heap.size+1)
 have HA1:Hd (w1.heap[B3]?=some (.cells #[.slice a n c,.int .i64 L] 24 (0,0))):=jd (by
  rw[cU.o,kQ.o];exact((Fr.refl (λ_=>False) _).alloc _).blk (heap_alloc_new w _) λx=>x)
 have nN:Hd (w1.heap[B5]?=some (.cells #[.int .i64 mk,.int .i64 mx,.int .i64 my,.int .i64 mu,.bool ub,.int .i64 mv,.bool vb,.bool ov] 28 (0,0))):=jd (by
  have h0:=heap_alloc_new (w.alloc (.cells #[.slice a n c,.int .i64 L] 24)) (.cells #[.int .i64 mk,.int .i64 mx,.int .i64 my,.int .i64 mu,.bool ub,.int .i64 mv,.bool vb,.bool ov] 28);rw[World.size_alloc]at h0
  rw[cU.o,Ei.o];exact h0)
 rw[<-cU.o,<-Ei.o,<-kQ.o];refine(FZ none 0 0 [] 1 w1 (.inl rfl) rfl (by omega) (by omega) (by omega)).mono ?_;rintro e w2 ⟨hF,h5⟩
 obtain⟨_,LN1,a2,m2,c2,l2',hL1,rfl,GA,_,hl2⟩:=h5.resolve_right λh=>h.1 Yp
 obtain rfl:LN1=1:=by omega
 obtain rfl:m2=2:=by rw[GA.out];exact TV hl2.out.1 hl2.out.2.1
 have kZ:Hd (New w w2):=jd (gQ.o.trans hF);have HA2:=jd (hF.blk HA1.o λx=>x);have nA:=jd (hF.blk nN.o λx=>x);clear hF h5 GA hl2 hL1;obtain⟨p1,p2,_,_⟩:=ay HA2.o;go_wp2_with fail;refine(FZ a n c X L w2 (New.uh kZ.o HX.o) HN.o lx l1 l2).mono ?_;rintro e w4 ⟨hF,h5⟩;have oW:Hd (New w w4):=jd (kZ.o.trans hF);have HA4:=jd (hF.blk HA2.o λx=>x);have yL:=jd (hF.blk nA.o λx=>x);clear hF p1 p2
 rcases h5 with⟨hc,LN,a4,m4,c4,l,rfl,rfl,hm4,hT4,hl4⟩|⟨hc,rfl⟩
 rotate_left
 · obtain⟨q,HQ⟩:=jb (mZ X L)
   rw[<-HQ.o]at hc
   have hq:((q:Int)==0)=false:=by simp;exact hc
   have hq2:((q:Int) != 0)=true:=by simp;exact hc
   clear hc;rw[<-HQ.o];go_wp2;go_ret;exact⟨rfl,oW.o⟩
 obtain⟨wO,h6,hL,hpl,wA,hop,h00⟩:=Gs hc;have HG:Hd (Good X LN):=jd ⟨wA,hpl⟩;have aeo:=jd wO;have HC:=jd hc;have HOP:=jd hop
 have YC:n<=6:=by have:=HN.o;omega
 have hLN:LN<=2:=by omega
 have Mr:0<n+LN:=by
  by_cases c0:X.length=0
  · have:=h00 c0;omega
  have:=HN.o;omega
 have anH:m4<=1000:=by rw[hm4.out];exact Ff wO h6 hLN hl4.out.1 hl4.out.2.1
 have hmv:=Qn a n c X LN mk mx my mu mv ub vb ov w4 (New.uh oW.o HX.o) HN.o YC (by omega) (by omega) wA hpl;have HMV:=jd hmv;clear wO h6 hL hpl wA hop h00 hc hmv;obtain⟨p1,p2,_,_⟩:=ay HA4.o;obtain⟨q0,q1,q2,q3,q4,q5,q6,q7⟩:=cH yL.o;go_wp2_with fail
 refine HMV.o.mono ?_
 rintro e w5 ⟨hF,h5⟩
 obtain⟨a5,m5,c5,N5,bm,rfl,AO⟩:∃a' m c' N bm,e=.returned (.tuple #[.agg #[.slice a' m c',.int .i64 N],.bool bm])/\Hd (bm=true->∃Y:List Kn.Cr,WX X LN mk mx my mu mv ub vb ov=.ok Y N/\Y.length<=6/\m=Y.length/\bV w5 a' Y):=by
  rcases h5 with⟨Y,N,a',m,c',ho,h8,rfl,hml,iw⟩|⟨a',m,c',N,rfl⟩
  · exact⟨a',m,c',N,true,rfl,jd λ_=>⟨Y,ho,h8,hml.out,iw⟩⟩
  exact⟨a',m,c',N,false,rfl,jd λh=>by cases h⟩
 have vq:=hF.alloc (.cells #[.slice a5 m5 c5,.int .i64 N5] 24);have ZR:=jd (oW.o.trans vq);have HA6:=jd (vq.blk HA4.o λx=>x);have HT6:=jd (New.t2 vq hT4.out);have QI:=heap_alloc_new w5 (.cells #[.slice a5 m5 c5,.int .i64 N5] 24);have ajN:Hd (New w5 (w5.alloc (.cells #[.slice a5 m5 c5,.int .i64 N5] 24))):=jd ((Fr.refl _ _).alloc _);clear hF vq h5 p1 p2 q0 q1 q2 q3 q4 q5 q6 q7;obtain⟨w6,HW6⟩:=jb (w5.alloc (.cells #[.slice a5 m5 c5,.int .i64 N5] 24));obtain⟨nC,Ek⟩:=jb w5.heap.size;obtain⟨b2,fD⟩:=jb (decide (N5<=2))
 have hdec:decide (N5<=2)=b2:=fD.o.symm;go_upto_region 8 with fail;rw[<-HW6.o]at ZR HA6 HT6 QI ajN ⊢;rw[<-Ek.o]at QI ⊢;have RE:=jd QI;clear QI;obtain⟨p1,p2,_,_⟩:=ay RE.o
 go_cut [50] (λs wz=>s=.bool (bm&&b2)/\wz=w6)
 case first=>
  cases bm
  · go_wp2
    go_meet;exact⟨rfl,rfl⟩
  go_wp2;go_meet;exact⟨rfl,rfl⟩
 case rest=>
 obtain⟨rfl,rfl⟩:=hcut
 obtain⟨w6,rfl⟩:∃z:World,z=wc:=⟨_,rfl⟩
 obtain⟨bq,HBQ⟩:=jb ((bm&&b2));rw[<-HBQ.o];go_upto_if 50 with fail
 go_cut [11] (λ_ wz=>Hd (New w6 wz))
 case first=>
  cases bq
  · go_wp2
    go_meet;exact jd (Fr.refl _ _)
  have hb:bm=true/\b2=true:=by
   have h:=HBQ.o
   cases bm<;>cases b2<;>simp at h ⊢
  have Vc:N5<=2:=by
   have h:=fD.o;rw[hb.2]at h;exact jl h.symm
  obtain⟨Y,ho,hY6,hmY,hcY⟩:=AO.o hb.1;obtain⟨hk0,Ah⟩:=Ud HG.o aeo.o ho hY6 Vc;have hN0:0<=N5:=(Gs hk0).2.2.1.1
  have hm6:m5<=6:=by omega
  have E8:=FZ a5 m5 c5 Y N5 w6 (New.uh ajN.o hcY) hmY (by omega) (by omega) (by omega);have KB:=jd E8;have HK0:=jd hk0;have HSM:=jd Ah;clear ho hY6 hmY hcY hk0 Ah E8 hb Vc hN0;go_wp2_with fail
  refine KB.o.mono ?_
  rintro e w7 ⟨hF,h7⟩
  obtain⟨_,NN,a7,m7,c7,q,hNN,rfl,hm7,hT7,hl7⟩:=h7.resolve_right λh=>h.1 HK0.o
  have heq:l=q:=Lr hl4.out.1 hl7.out.1 λa=>by rw[hl4.out.2.1,hl7.out.2.1];exact HSM.o NN hNN a
  have HF7:=jd hF;have hst:=FX a4 a7 m4 m7 c4 c7 l q w7 (New.t2 hF HT6.o) hT7.out hm4.out hm7.out (by omega) (by rw[hm7.out,<-heq,<-hm4.out];omega);rw[jk heq]at hst;have HST:=jd hst;clear hF h7 hm7 hT7 hl7 heq hst hNN;go_wp2_with fail
  refine HST.o.mono ?_
  rintro e w8 ⟨rfl,hF⟩;have Pp:=jd (HF7.o.trans hF);clear hF;go_wp2;go_meet;exact Pp
 case rest=>
 have Hu:=hcut
 obtain⟨w9,rfl⟩:∃z:World,z=wc:=⟨_,rfl⟩
 have DC:=jd (ZR.o.trans Hu.o);have HA9:=jd (Hu.o.blk HA6.o λx=>x);clear p1 p2 hdec;obtain⟨p1,p2,_,_⟩:=ay HA9.o;go_wp2_with fail;refine(adQ a n c X LN w9 (New.uh DC.o HX.o) HN.o (by omega) (by omega) (by omega)).mono ?_;rintro e Sw ⟨hF,h10⟩
 obtain⟨_,LN',v,le,E,hLL,rfl,hOE,hIE,hlE⟩:=h10.resolve_right λh=>h.1 HC.o
 obtain rfl:LN'=LN:=by omega
 have Wr:=jd (DC.o.trans hF);have aqn:=jd (hF.blk HA9.o λx=>x);have Wf:=jd hOE.out.ts;have Wi:=jd (Vq aeo.o (by have:=HN.o;omega) hLN hlE.out.1 hlE.out.2 hIE.out);clear hF h10 hLL p1 p2 hOE;obtain⟨p1,p2,_,_⟩:=ay aqn.o;go_wp2_with fail;refine(QC a n c X LN' Sw (New.uh Wr.o HX.o) HN.o (by omega) (by omega) (by omega) HOP.o (New.Y0 Wr.o HT.o)).mono ?_;rintro e w11 ⟨hF,v11,j,rfl,R6,hlen,hj⟩;have apB:=jd (Wr.o.trans hF);have ai4:=jd (New.ts hF Wf.o);have HTJ:=jd R6;have HJ:=jd hj;clear hF R6 hj hlen p1 p2
 obtain⟨aE,cE,rfl,hTE⟩:=ai4.o;obtain⟨me,RL⟩:=jb E.length
 have QL:me<=53:=by rw[RL.o];exact Wi.o.len
 have HAT:=jd hTE;clear hTE;rw[<-RL.o];go_wp2_with fail
 go_loopw [16,17] (λlv i wr=>∃(k:Nat) (lo:List Pl.T),k<=me/\i=.int .i64 k/\Hd (Pl.Is lo ((E.take k).map Mu))/\Hd (Ts wr lv lo)/\Hd (New w11 wr)) (λ_ i _=>me-(intOf i).toNat)
 case atStart=>exact⟨0,[],by omega,rfl,jd ⟨trivial,λ_=>rfl⟩,jd (abV _),jd (Fr.refl _ _)⟩
 case round=>
 obtain⟨k,lo,hk,rfl,Ht,HTL,FE⟩:=hrel;by_cases hlt:k<me;rotate_left
 · obtain rfl:me=k:=by omega
   have ZV:Hd (Pl.Is lo (E.map Mu)):=jd (by have h:=Ht.o;rwa [List.take_of_length_le (by have:=RL.o;omega)]at h);have HX6:Hd (X.length<=6/\0<X.length+LN'):=jd (by have:=HN.o;omega);have ZU:Hd (lo.length<=64):=jd (Wi.o.half me Ht.o).1;go_wp2_with fail;refine(Li v11 _ j [(-2,-1),(2,-1)] _ (New.ts (FE.o.alloc _) HTJ.o) (abU wr _ _ _ _) (JD HX6.o.1 hLN HJ.o) Yl).mono ?_;rintro e w12 ⟨rt,hr,v12,rfl,ahk,hF⟩;have heq:lo=rt:=acN aeo.o HX6.o.1 hLN HX6.o.2 hlE.out.1 hlE.out.2 hIE.out ZV.o HJ.o hr
   have adN:New wr w12:=((Fr.refl (λ_=>False) wr).alloc _).trans hF;have Ah:=Tg _ _ lo rt w12 (New.ts adN HTL.o) ahk.ts (by have:=ZU.o;omega) (by rw[<-heq];have:=ZU.o;omega);rw[jk heq]at Ah;have HSA:=jd Ah;have KM:Hd (New w w12):=jd ((apB.o.trans FE.o).trans adN);clear heq adN Ah hr ahk hF;go_wp2_with fail
   refine HSA.o.mono ?_
   rintro e w13 ⟨rfl,hF⟩;have apA:=jd (KM.o.trans hF);clear hF;go_wp2;go_ret;exact⟨rfl,apA.o⟩
 have fY:k<E.length:=by have:=RL.o;omega
 obtain⟨b,o,rfl,d1,d2⟩:=(New.terms FE.o HAT.o).at fY
 have xY:E.getD k (0,0)∈E:=by rw[jc,je fY];exact jM fY
 have hb:=Wi.o.bd _ xY;have hne:=Pl.Bj Wi.o.form xY;obtain⟨x,H1⟩:=jb ((E.getD k (0,0)).1);obtain⟨co,H2⟩:=jb ((E.getD k (0,0)).2);rw[<-H1.o]at d1 hb;rw[<-H2.o]at d2 hb hne;obtain⟨⟨b1,b2⟩,b3,b4⟩:=hb;have HHL:Hd (Mu (E.getD k (0,0))=(-2*x,Pl.dJ x*co)):=jd (by unfold Mu;rw[H1.o,H2.o])
 have i1:(0:Int)<=(k:Int):=by omega
 have i2:(k:Int)<(me:Int):=by omega
 have G8:=jd hne;clear xY hne
 obtain⟨lv,Wt⟩:∃lv:Value,Hd (Ts wr lv lo):=⟨_,HTL⟩
 rcases (show x%2=0\/x%2=1 by omega)with hx2|hx2
 focus
  have ank:Int.tmod x 2=0:=(Ig x).2 hx2;go_wp2_with fail;refine(EI _ _ lo [(-2*x,co)] _ (New.ts ((Fr.refl _ _).alloc _) HTL.o) (SE wr _ _) (Wi.o.half k Ht.o) (Ou (by omega) (by omega) (by have:=G8.o;omega))).mono ?_;rintro e w12 ⟨m',W5,v',rfl,hv',hF⟩;have WC:Hd (New w11 w12):=jd ((FE.o.alloc _).trans hF);have HHK:Hd (Mu (E.getD k (0,0))=(-2*x,co)):=jd (by rw[HHL.o];unfold Pl.dJ;rw[if_pos hx2];rw[Int.one_mul])
 rotate_left
 focus
  have ank:¬Int.tmod x 2=0:=λe=>by have:=(Ig x).1 e;omega
  go_wp2_with fail;refine(EI _ _ lo [(-2*x,-co)] _ (New.ts ((Fr.refl _ _).alloc _) HTL.o) (SE wr _ _) (Wi.o.half k Ht.o) (Ou (by omega) (by omega) (by have:=G8.o;omega))).mono ?_;rintro e w12 ⟨m',W5,v',rfl,hv',hF⟩;have WC:Hd (New w11 w12):=jd ((FE.o.alloc _).trans hF);have HHK:Hd (Mu (E.getD k (0,0))=(-2*x,-co)):=jd (by rw[HHL.o];unfold Pl.dJ;rw[if_neg (by omega)];rw[Int.neg_one_mul])
 all_goals
  have HM':=jd (QU fY Ht.o HHK.o W5);have HV':=jd hv'.ts;clear W5 hv' hF;go_wp2;go_roundw
  case rel=>exact⟨k+1,m',by omega,by go_num,HM',HV',WC⟩
  case measure=>simp[intOf];omega
open Go.RowKit
theorem yu{H:Type}{enc:TypeId×Value->H}{P:Program}{w:World}{base:Nat}{sp:Nat->Bool}{held:Bool}{fuel:Nat}{t e:TypeId}{n m:Nat}{cs:List Value}{ds:List (DataW H)}{p:List MemPlace}
 (ht:P.underlying t=some (.array n e)) (hce:P.cellsOf e=m) (hct:P.cellsOf t=n*m)
 (h:DataW.trod enc P w base sp held fuel t cs=some (.agg ds,p)):cs.length=n*m/\∀i,i<n->∀d,ds[i]?=some d->∃f' p',DataW.trod enc P w base sp held f' e ((cs.drop (i*m)).take m)=some (d,p'):=by
 cases fuel with
 |zero=>simp[DataW.trod]at h
 |succ fuel=>
  simp only[DataW.trod,ht,hce,hct]at h;split at h
  · rename_i hl
    refine⟨hl,λi hi d hd=>?_⟩;obtain⟨xs,hm,hx⟩:=Option.map_eq_some_iff.1 h;obtain⟨b,hb,hf⟩:=Lib.mapM_at hm i i (by simp[hi])
    have WZ:xs.map (·.1)=ds:=by
     have:=congrArg Prod.fst hx;simpa using this
    have:(xs.map (·.1))[i]?=some b.1:=by simp[hb]
    rw[WZ,hd]at this;cases this;exact⟨fuel,b.2,hf⟩
  cases h
end Go.Proofs.YtfplmbmenjdlhaaGreatDoor
namespace Go.Proofs.YtfplmbmenjdlhaaGreatDoor.khovanovMoves
open Go.ChangeShapes Go.WideShapes Go.ChangeAt Go.RowKit
open Go.ChangeMaps (open_string shut_string)
set_option linter.unusedVariables false
theorem own:ownKnob Tryz.prog.godebug=none:=by kernel_rfl
theorem laidOut:laidOutB Tryz.prog=true:=by kernel_rfl
theorem Tryz.Zh:Tryz.prog.cellsOf 26=2:=by kernel_rfl
theorem Tryz.Zf:Tryz.prog.cellsOf 28=8:=by kernel_rfl
theorem agS{H:Type}{enc:TypeId×Value->H}{w:World}{sp:Nat->Bool}{base:Nat}{v:Value}{d:DataW H}{p:List MemPlace}(hv:Value.okWide Tryz.prog w .any base 28 v)(h:DataW.Trod enc Tryz.prog w 0 sp true 28 v d p):
 ∃(k x y u t:Int) (ub tb ov:Bool),v=Hl k x y u t ub tb ov:=by
 obtain⟨cs,rfl,_⟩:=okWide_struct Tryz.underlying28 hv;obtain⟨fuel,hf⟩:=h;have rQ:(Value.agg cs).cells.toList=cs.toList:=rfl;rw[rQ]at hf;obtain⟨xs,n,_,_,hl,hxl,hf⟩:=DataW.trod_struct Tryz.underlying28 hf;rw[Tryz.Zf]at hl;obtain⟨cs⟩:=cs
 have VZ:∀{n:Nat} {c0 c1:Value} {x:DataW H×List MemPlace},DataW.trod enc Tryz.prog w 0 sp true n 26 [c0,c1]=some x->∃(a:Int) (f:Bool),c0=.int .i64 a/\c1=.bool f:=λh=>by
  obtain⟨y0,y1,n,_,_,t0,t1⟩:=trod_struct2 Tryz.underlying26 h;simp[Tryz.Dq,Tryz.M0]at t0 t1;obtain⟨n0,e0,_,_⟩:=DataW.trod_int Tryz.underlying3 t0;obtain⟨b1,e1,_⟩:=DataW.trod_bool Tryz.underlying4 t1;simp only[List.cons.injEq,and_true]at e0 e1;exact⟨n0,b1,e0,e1⟩
 match cs,hl,xs,hxl with
 |[c0,c1,c2,c3,c4,c5,c6,c7],_,[y0,y1,y2,y3,y4,y5],_=>
  have g0:=hf 0 _ rfl;have g1:=hf 1 _ rfl;have g2:=hf 2 _ rfl;have g3:=hf 3 _ rfl;have g4:=hf 4 _ rfl;have g5:=hf 5 _ rfl;simp[Tryz.Dq,Tryz.M0,Tryz.Zh]at g0 g1 g2 g3 g4 g5;obtain⟨n0,e0,_,_⟩:=DataW.trod_int Tryz.underlying3 g0;obtain⟨n1,e1,_,_⟩:=DataW.trod_int Tryz.underlying3 g1;obtain⟨n2,e2,_,_⟩:=DataW.trod_int Tryz.underlying3 g2;obtain⟨n3,b4,rfl,rfl⟩:=VZ g3;obtain⟨n5,b6,rfl,rfl⟩:=VZ g4;obtain⟨b7,e7,_⟩:=DataW.trod_bool Tryz.underlying4 g5;simp only[List.cons.injEq,and_true]at e0 e1 e2 e7
  subst e0 e1 e2 e7;exact⟨n0,n1,n2,n3,n5,b4,b6,b7,rfl⟩
theorem walk(a:Option Addr)(c:Nat)(X:List Kn.Cr)(L k x y u v:Int)(ub vb ov:Bool)(w:World)(hx:bV w a X)(lx:X.length<=9223372036854775807)(l1:-9223372036854775808<=L)(l2:L<=9223372036854775807)(ht:He w):
 Calls Tryz.prog 3 #[.agg #[.slice a X.length c,.int .i64 L],Hl k x y u v ub vb ov] w λe w'=>e=.returned (.bool true)/\Below w.heap.size w w':=
 (Qs a X.length c X L k x y u v ub vb ov w hx rfl lx l1 l2 ht).mono λ_ _ ⟨he,hn⟩=>⟨he,Fr.below hn λ_ hk=>⟨hk,λx=>x⟩⟩
theorem gT : Tryz.prog.globalNamed "knotwork/bracket.tied" = some 1 := by kernel_rfl
theorem adP:(Tryz.prog.globals[1]?).map (·.type)=some 150:=by kernel_rfl
theorem u150:Tryz.prog.underlying 150=some (.array 2 149):=by kernel_rfl
theorem u149:Tryz.prog.underlying 149=some (.array 2 148):=by kernel_rfl
theorem u148:Tryz.prog.underlying 148=some (.array 2 3):=by kernel_rfl
theorem adR {rest : List (String × DataW Unit)} {W : World} (h : laidMet Tryz.prog (("knotwork/bracket.tied", Rows.laid_knotwork_bracket_tied) :: rest) W) : He W := by
 obtain⟨ps,⟨g',t',cs,fuel,p,q,JK,ht',am6,hd,_,_⟩,_⟩:=h;obtain rfl:=Option.some.inj (gT.symm.trans JK);obtain rfl:=Option.some.inj (adP.symm.trans ht');obtain⟨hl,hr⟩:=yu u150 (show Tryz.prog.cellsOf 149=4 by kernel_rfl) (show Tryz.prog.cellsOf 150=2*4 by kernel_rfl) hd
 have hrow:∀i j x y,i<2->j<2->(∀e,Rows.laid_knotwork_bracket_tied (H:=Unit)=.agg e->∃e',e[i]?=some (.agg e')/\e'[j]?=some (Lib.tabData .i64 [x,y]))->cs.toList[i*4+j*2]?=some (.int .i64 x)/\cs.toList[i*4+j*2+1]?=some (.int .i64 y):=by
  intro i j x y hi hj he;obtain⟨e',h1,h2⟩:=he _ rfl;obtain⟨f',p',wC⟩:=hr i hi _ h1;obtain⟨hl',hr'⟩:=yu u149 (show Tryz.prog.cellsOf 148=2 by kernel_rfl) (show Tryz.prog.cellsOf 149=2*2 by kernel_rfl) wC;obtain⟨f2,p2,Sb⟩:=hr' j hj _ h2;have hc:=Lib.cells_of_tab u148 Tryz.underlying3 (show Tryz.prog.cellsOf 3=1 by kernel_rfl) (show Tryz.prog.cellsOf 148=2 by kernel_rfl) Sb;have k0:=congrArg (·[0]?) hc;have k1:=congrArg (·[1]?) hc
  have hj4:j*2<4:=by omega
  have hj5:j*2+1<4:=by omega
  simp only[List.getElem?_take,List.getElem?_drop,List.map_cons,List.map_nil,List.getElem?_cons_zero,List.getElem?_cons_succ,Nat.add_zero]at k0 k1;rw[if_pos (by omega),if_pos hj4]at k0;rw[if_pos (by omega),if_pos hj5]at k1;rw[Nat.add_assoc];exact⟨k0,k1⟩
 have r0:=hrow 0 0 0 1 (by omega) (by omega) (λe he=>by cases he;exact⟨_,rfl,rfl⟩);have r1:=hrow 0 1 2 3 (by omega) (by omega) (λe he=>by cases he;exact⟨_,rfl,rfl⟩);have r2:=hrow 1 0 1 2 (by omega) (by omega) (λe he=>by cases he;exact⟨_,rfl,rfl⟩);have r3:=hrow 1 1 3 0 (by omega) (by omega) (λe he=>by cases he;exact⟨_,rfl,rfl⟩)
 have hcs:cs=#[.int .i64 0,.int .i64 1,.int .i64 2,.int .i64 3,.int .i64 1,.int .i64 2,.int .i64 3,.int .i64 0]:=by
  apply Array.ext';apply List.ext_getElem?;intro k;by_cases hk:k<8
  · match k,hk with
    |0,_=>exact r0.1
    |1,_=>exact r0.2
    |2,_=>exact r1.1
    |3,_=>exact r1.2
    |4,_=>exact r2.1
    |5,_=>exact r2.2
    |6,_=>exact r3.1
    |7,_=>exact r3.2
    |_+8,h=>exact absurd h (by omega)
  rw[List.getElem?_eq_none (by omega),List.getElem?_eq_none (by simp;omega)]
 intro i hi;have hc:=World.var?_cell gT am6 i;rw[hc,hcs]
 match i,hi with
 |0,_=>rfl
 |1,_=>rfl
 |2,_=>rfl
 |3,_=>rfl
 |4,_=>rfl
 |5,_=>rfl
 |6,_=>rfl
 |7,_=>rfl
 |_+8,h=>exact absurd h (by omega)
theorem yt{H:Type}{enc:TypeId×Value->H}{a:Assume}{C:Checked}{os:Os}{f:FuncId}{fn:Func}{s:ChangeSpec}{conds:List PathCond}{apart fresh handsOn again:Bool}{X:World->Array Value->Prop}
 (hX:∀(w w':World) (args:Array Value),w.heap=w'.heap->X w args->X w' args)
 (own:ownKnob C.prog.godebug=none) (started:os.Started) (acC:C.prog.inits.idxOf? f=none) (hfn:C.prog.funcs[f]?=some fn)
 (witness:∃(w:World) (tape:Tape) (i:Input),w.os=os/\(w.forCall tape i).Shaped C.prog/\i.vars=[]/\Input.okWide C.prog (w.forCall tape i) .any w.heap.size f i /\
  ((s.pre enc C.prog fn conds apart (w.forCall tape i).memory i.args/\X (w.forCall tape i).memory i.args)/\sizedMet enc C.prog fn (OpenSpec.ofChange s) apart (w.forCall tape i).memory i.args)/\a.holds C.prog (lone (Frame.enter C.prog f i.args .normal) [] (w.forCall tape i)))
 (contract:∀(W:World) (base:Nat) (args:Array Value) (ds gs:List (DataW H)) (before:List MemPlace),
  (∀(j:Nat) t v,fn.params[j]?=some t->args[j]?=some v->Value.okWide C.prog W .any base t v) ->
  DataW.Whole enc C.prog fn.params.toList s.vars apart W args.toList ds gs before->X W args->W.ShapedOpen C.prog ->
  Calls C.prog f args W λe W'=>∃v,e=.returned v/\s.post enc C.prog fn apart fresh handsOn again W args v W'):
 ReturnsInHanded a C os f .any (λw args=>(s.pre enc C.prog fn conds apart w args/\X w args)/\sizedMet enc C.prog fn (OpenSpec.ofChange s) apart w args) (s.post enc C.prog fn apart fresh handsOn again):=by
 refine returnsInHanded_of_calls own started acC witness ?_
 intro w tape i _ UY _ wO ano _;obtain⟨_,_,_,fn',anX,_,_,_,_,hval⟩:=wO;have e:fn'=fn:=Option.some.inj (anX.symm.trans hfn);subst e;obtain⟨⟨⟨ds,gs,before,hw,_⟩,hx⟩,_⟩:=ano;have hw':=DataW.Whole.of_heap (w':=w.forCall tape i) (by rfl) hw
 refine(contract (w.forCall tape i) w.heap.size i.args ds gs before hval hw' (hX _ _ _ (by rfl) hx) UY).mono λe W' ⟨v,he,hp⟩=>?_
 subst he;exact ChangeSpec.post_blind hp
def Oy:List (String×DataW Unit):=Rows.khovanovMovesRow.laid
theorem lifted(os:Os)(started:os.Started)(H:Type)(enc:TypeId×Value->H):
 ReturnsInHanded {} Tryz.checked os 3 .any (λw args=>(Rows.khovanovMovesSpec.pre enc Tryz.prog Tryz.f3 [] false w args/\laidMetH Tryz.prog Oy w)/\sizedMet enc Tryz.prog Tryz.f3 (OpenSpec.ofChange Rows.khovanovMovesSpec) false w args) (Rows.khovanovMovesSpec.post enc Tryz.prog Tryz.f3 false true false false):=by
 refine yt (C:=Tryz.checked) (X:=λw _=>laidMetH Tryz.prog Oy w) (λ_ _ _ hh h=>h.of_heap hh) own started (by kernel_rfl) Tryz.func3
  (ChangeSpec.witness_shaped (enc:=enc) (C:=Tryz.checked) (os:=os) (X:=λw _=>laidMetH Tryz.prog Oy w) false (World.laidAll Tryz.prog os Oy) #[.agg #[.slice none 0 0,.int .i64 0],.agg #[.int .i64 0,.int .i64 0,.int .i64 0,.int .i64 0,.bool false,.int .i64 0,.bool false,.bool false]] 8 (World.laidAll_os _ _ _)
   (World.shaped_of_ZipB (by kernel_rfl) (by kernel_rfl)) (by kernel_rfl) (by kernel_rfl) (by kernel_rfl)
   (by rw[MakeChecks.laidMetH_plain _ _ _ (by kernel_rfl)];exact laidMet_laidAll _ (by kernel_rfl) (by kernel_rfl))) ?_
 intro W base args ds gs before aaG hW hL UY
 have hval:∀(j:Nat) t v,Tryz.f3.params[j]?=some t->args[j]?=some v->Value.okWide Tryz.prog W .any base t v:=aaG
 have hW':=hW;obtain⟨p,q,hA0,hV,rfl,hfz,Gy⟩:=hW;have hA:DataW.TrodAll enc Tryz.prog W 0 (λ_=>true) true Tryz.f3.params.toList args.toList ds p:=hA0;rw[Tryz.params3]at hA hval;obtain⟨v0,vs0,d0,ds0,p0,q0,asm,rfl,rfl,h0,r0⟩:=trodAll_cons hA;obtain⟨v1,vs1,d1,ds1,p1,q1,rfl,rfl,rfl,h1,r1⟩:=trodAll_cons r0;obtain⟨rfl,rfl,rfl⟩:=trodAll_nil r1
 obtain rfl:args=#[v0,v1]:=by cases args;simp_all
 obtain⟨rfl,rfl⟩:=trodVars_none hV;have k0:=h0
 have lt0:∀x∈p0,x.block<W.heap.size:=by obtain⟨m,hm⟩:=k0;exact DataW.trod_lt m _ _ _ hm
 obtain⟨a,c,X,L,rfl,hx,lx,l1,l2⟩:=Y7 (hval 0 24 v0 rfl rfl) h0;have k1:=h1
 have lt1:∀x∈p1,x.block<W.heap.size:=by obtain⟨m,hm⟩:=k1;exact DataW.trod_lt m _ _ _ hm
 obtain⟨k,x,y,u,v,ub,vb,ov,rfl⟩:=agS (hval 1 28 v1 rfl rfl) h1;clear hA0 aaG;rw[MakeChecks.laidMetH_plain _ _ _ (by kernel_rfl)]at hL;have an1:He W:=adR hL
 refine(walk a c X L k x y u v ub vb ov W hx lx l1 l2 an1).mono λe W' ⟨he,bel⟩=>?_
 subst he;exact⟨_,rfl,_,_,_,[],_,[],hW',trodAll_mk1 (shut_bool Tryz.underlying4 _),(trodAll_cons_mk (Below.trod laidOut (by kernel_rfl) (jl (by kernel_rfl)) k0 bel lt0) (trodAll_cons_mk (Below.trod laidOut (by kernel_rfl) (jl (by kernel_rfl)) k1 bel lt1) trodAll_mk0)),rfl,bel.frame _,λh=>by cases h⟩
theorem over:Rows.khovanovMovesRow.holds Tryz.pinned (OpenSpec.ofChange Rows.khovanovMovesSpec):=
 OpenClaim.holds_of_wide 3 Tryz.f3 rfl rfl rfl rfl rfl rfl rfl ⟨rfl,rfl,rfl,rfl,rfl⟩ rfl rfl rfl rfl rfl (by kernel_rfl) Tryz.func3 (by kernel_rfl)
  (jl (by kernel_rfl)) (by unfold Func.isWrapper;first|(rw[if_pos (by decide +kernel)];kernel_rfl)|(rw[if_neg (by decide +kernel)];exact⟨rfl,rfl⟩))
  (λos started H enc _=>lifted os started H enc)
theorem proved:Rows.KhovanovMovesCardSaid:=
 Claim7.holds_tied_plain_at .later [] [.data, .data] true (true, "2413e19f210da063431bcd24d971991d48cc9430a75832d00facdd3093d182fe") true
  over (λ_ h=>by cases h) (by kernel_rfl) (λ_ h=>by cases h) khovanovMoves_row_tie rfl ⟨rfl,rfl⟩ (by kernel_rfl) rfl
  (λf fn hf hfn=>by
   obtain rfl:f=3:=Option.some.inj ((show Tryz.prog.funcNamed Rows.khovanovMovesRow.func=some 3 by kernel_rfl).symm.trans hf) |>.symm;obtain rfl:fn=Tryz.f3:=(Option.some.inj (Tryz.func3.symm.trans hfn)).symm
   exact⟨by kernel_rfl,λj t ht=>by
    rw[Tryz.params3]at ht
    have hm:t∈[24,28]:=by simpa using Array.mem_of_getElem? ht
    have hall:([24,28].all λu=>!Tryz.prog.wantsStandIn u)=true:=by kernel_rfl
    exact(show Tryz.prog.wantsStandIn t=false by simpa using List.all_eq_true.1 hall t hm)⟩)
  (by kernel_rfl)
#print axioms proved
end Go.Proofs.YtfplmbmenjdlhaaGreatDoor.khovanovMoves
