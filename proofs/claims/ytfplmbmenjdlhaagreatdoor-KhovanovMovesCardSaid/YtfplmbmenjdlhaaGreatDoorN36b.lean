/- Walks: Do, of what curls, pushes and slides. (gen36.py) -/
import Derived.Test.YtfplmbmenjdlhaaGreatDoorN30
import Derived.Test.YtfplmbmenjdlhaaGreatDoorN35
set_option linter.unusedVariables false
set_option maxRecDepth 100000
set_option maxHeartbeats 16000000
namespace Go.Proofs.YtfplmbmenjdlhaaGreatDoor
open Go.RowKit
open Fr (refl)
open Instr (findKey lookup makeFunc)
open Kn (Cr aA gY aJ)
open Go.Proofs.Tryz (func17 ntmps17 prog results17)
open World (size_alloc)
variable {L:Int} {X:List Cr}
def ae1(ok:Bool)(X:List Cr)(L:Int)(w:World)(e:Ending)(w':World):Prop:=
 New w w'/\((ok=true/\∃b s fv v bi bo,e=.returned (.tuple #[.pointer (some ⟨b,0,none⟩),.bool true])/\BW w.heap.size w' b s fv v bi bo X X L/\Rows kN 0 156 w' fv (aA X))\/(ok=false/\e=.returned (.tuple #[.pointer none,.bool false])))
theorem Dy.new{B:Nat}{w w':World}{b:Nat}(hf:New w w')(h:Dy B w b X L):Dy B w' b X L:=by
 obtain⟨v,bi,bo,base,s,hb⟩:=h;exact⟨v,bi,bo,base,hf.sh s,hb⟩
theorem Tryz.YT(args:Array Value)(w:World):(callFunc 65 args).run prog w=.ok (.enter 65 args) w:=by kernel_rfl
theorem Tryz.YS(args:Array Value)(w:World):(callFunc 66 args).run prog w=.ok (.enter 66 args) w:=by kernel_rfl
theorem Tryz.YR(args:Array Value)(w:World):(callFunc 67 args).run prog w=.ok (.enter 67 args) w:=by kernel_rfl
theorem Tryz.YQ(args:Array Value)(w:World):(callFunc 68 args).run prog w=.ok (.enter 68 args) w:=by kernel_rfl
theorem Tryz.YP(args:Array Value)(w:World):(callFunc 69 args).run prog w=.ok (.enter 69 args) w:=by kernel_rfl
theorem Qa(a:Option Addr)(n c:Nat)(X:List Cr)(L:Int)(w:World)(hx:bV w a X)(hn:n=X.length)(lx:n<=9223372036854775807)(l1:-9223372036854775808<=L)(l2:L<=9223372036854775807):
 Calls prog 33 #[.agg #[.slice a n c,.int .i64 L]] w (ae1 (gY X L&&aJ X) X L w):=by
 have HN:=jd hn;have HX:=jd hx;clear hx hn
 go_enter Tryz.func33,Tryz.ntmps33
 go_wp2_with fail;refine(Gf a n c X L _ (New.uh ((refl _ _).alloc _) HX.o) HN.o lx l1 l2).mono ?_;rintro e w4 ⟨hF,h5⟩
 rcases h5 with⟨ho,s,rfl,hs,hlb,hnw⟩|⟨ho,rfl⟩
 rotate_left
 · have HF:Hd (New w w4):=jd (((refl _ _).alloc _).trans hF)
   have HO:=jd ho;clear hF ho;go_wp2;go_ret2;exact⟨HF.o,.inr ⟨by rw[HO.o];rfl,rfl⟩⟩
 have HF:Hd (New w w4):=jd (((refl _ _).alloc _).trans hF);have HO:=jd ho;have HS:=jd hs;have G9:=jd hlb;have yK:=jd hnw;have AO:=jd (gX ho);clear hF ho hs hlb hnw
 obtain⟨p,HP⟩:∃p,Hd (aJ X=p):=⟨_,jd rfl⟩
 go_wp2_with fail;refine(vW s X L _ HS.o AO.o.1 AO.o.2).mono ?_;rintro e w5 ⟨rfl,hE⟩;rw[HP.o];have HE:=jd (HF.o.trans hE);have Rz:=jd (Dy.new hE yK.o);have Wj:=jd (New.kM hE HS.o);clear hE;cases p
 · go_wp2
   go_ret2;exact⟨HE.o,.inr ⟨by rw[HO.o,HP.o];rfl,rfl⟩⟩
 go_wp2_with fail;refine(zw s X L _ Wj.o AO.o.1 AO.o.2).mono ?_;rintro e w6 ⟨v,rfl,hr,hE⟩;obtain⟨fa,fc,rfl⟩:=hr.sl
 obtain⟨m,hm⟩:∃m,(aA X).length=m:=⟨_,rfl⟩
 rw[hm]at hr ⊢;clear hm;have RE:=jd (New.kM hE Wj.o);have Wm:Hd (Rows kN 0 156 w6 (.slice fa m fc) (aA X)):=jd (Rows.vK hr);have HE6:=jd (HE.o.trans hE);have HW6:=jd (Dy.new hE Rz.o);clear hE hr;go_wp2;go_ret2;have hN:New w6 (w6.alloc (.cells #[.pointer (some ⟨s,0,none⟩),(Value.slice fa m fc)] 103)):=(refl _ _).alloc _;obtain⟨v,bi,bo,base,UY,hbs⟩:=HW6.o;have UX:=hN.sh UY;have h1:=G9.o;simp at h1 hbs
 refine⟨HE6.o.trans hN,.inl ⟨by rw[HO.o,HP.o];rfl,_,s,_,v,bi,bo,rfl,⟨heap_alloc_new _ _,UX.blk,qD UX.own (by omega),UX.ri,UX.ro,UX.ne,HE6.o.size,by omega⟩,Ar.new Wm.o hN⟩⟩
theorem Vy(g:Nat)(eg:∀args w,(callFunc g args).run prog w=.ok (.enter g args) w)(a:Option Addr)(n c:Nat)(X:List Cr)(L k x y u vv:Int)(ub vb ov:Bool)(o:Out)(w:World)(hx:bV w a X)(hn:n=X.length)(lx:n<=9223372036854775807)(l1:-9223372036854775808<=L)(l2:L<=9223372036854775807)
 (hlk:∀(w:World) (b:Nat),w.heap[b]?=some (.map (nK 5) 5)->(lookup 96 (.map (some b)) (.int .i64 k) false).run prog w=.ok (.func (.func g) #[] #[]) w)
 (JM:∀(D b s:Nat) (fv v:Value) (bi bo:Nat) (w:World),BW D w b s fv v bi bo X X L->Rows kN 0 156 w fv (aA X)->Kn.Ok X->X.length<=16->0<=L->L<=16->Calls prog g #[.pointer (some ⟨b,0,none⟩),Hl k x y u vv ub vb ov] w (vQ D b s fv o w)):
 Calls prog 17 #[.agg #[.slice a n c,.int .i64 L],Hl k x y u vv ub vb ov] w (uu (if gY X L&&aJ X then o else .no 7) w):=by
 have HX:=jd hx;have HN:=jd hn;have HLK:=jd hlk;have ajZ:=jd JM
 have hnil:∀w,(binOp .eql 95 (.func (.func g) #[] #[]) .nilFunc).run prog w=.ok (.bool false) w:=λw=>by kernel_rfl
 have hmf:∀(fn:Fn) (first cap:Array Value) (w:World),(makeFunc fn first cap).run prog w=.ok (.func fn first cap) w:=λ_ _ _ _=>rfl
 clear hx hn hlk JM;obtain⟨oo,Xl⟩:=jb (if gY X L&&aJ X then o else Out.no 7);rw[<-Xl.o];obtain⟨w1,cU⟩:=jb ((((w.alloc (.cells #[.slice a n c,.int .i64 L] 24)).alloc (.cells #[.int .i64 k,.int .i64 x,.int .i64 y,.int .i64 u,.bool ub,.int .i64 vv,.bool vb,.bool ov] 28)).alloc (.cells #[.slice none 0 0,.int .i64 0] 24)).alloc (.cells #[.int .i64 0] 30));obtain⟨B1,eU⟩:=jb (w.heap.size+1);obtain⟨B2,fD⟩:=jb (w.heap.size+1+1);obtain⟨B3,kQ⟩:=jb (w.heap.size+1+1+1)
 have gQ:Hd (New w w1):=jd (by rw[cU.o];exact((((refl _ w).alloc _).alloc _).alloc _).alloc _)
 have nN:Hd (w1.heap[B1]?=some (.cells #[.int .i64 k,.int .i64 x,.int .i64 y,.int .i64 u,.bool ub,.int .i64 vv,.bool vb,.bool ov] 28 (0,0))):=jd (by
  have h:=heap_alloc_new (w.alloc (.cells #[.slice a n c,.int .i64 L] 24)) (.cells #[.int .i64 k,.int .i64 x,.int .i64 y,.int .i64 u,.bool ub,.int .i64 vv,.bool vb,.bool ov] 28);rw[size_alloc]at h;rw[cU.o,eU.o]
  exact(((refl (λ_=>False) _).alloc _).alloc _).blk h λx=>x)
 have qh:Hd (w1.heap[B2]?=some (.cells #[.slice none 0 0,.int .i64 0] 24 (0,0))):=jd (by
  have h:=heap_alloc_new ((w.alloc (.cells #[.slice a n c,.int .i64 L] 24)).alloc (.cells #[.int .i64 k,.int .i64 x,.int .i64 y,.int .i64 u,.bool ub,.int .i64 vv,.bool vb,.bool ov] 28)) (.cells #[.slice none 0 0,.int .i64 0] 24);rw[size_alloc,size_alloc]at h;rw[cU.o,fD.o]
  exact((refl (λ_=>False) _).alloc _).blk h λx=>x)
 have WE:Hd (w1.heap[B3]?=some (.cells #[.int .i64 0] 30 (0,0))):=jd (by
  have h:=heap_alloc_new (((w.alloc (.cells #[.slice a n c,.int .i64 L] 24)).alloc (.cells #[.int .i64 k,.int .i64 x,.int .i64 y,.int .i64 u,.bool ub,.int .i64 vv,.bool vb,.bool ov] 28)).alloc (.cells #[.slice none 0 0,.int .i64 0] 24)) (.cells #[.int .i64 0] 30);rw[size_alloc,size_alloc,size_alloc]at h;rw[cU.o,kQ.o]
  exact h)
 have UW:w1.heap.size=w.heap.size+1+1+1+1:=by rw[cU.o,size_alloc,size_alloc,size_alloc,size_alloc]
 have Bu:=jd UW;clear UW
 go_enter_defers func17,ntmps17
 go_wp2_with fail;rw[<-cU.o,<-kQ.o,<-fD.o,<-eU.o];refine(Qa a n c X L w1 (New.uh gQ.o HX.o) HN.o lx l1 l2).mono ?_;rintro e w2 ⟨hF,h5⟩
 rcases h5 with⟨ho,b,s,fv,v,bi,bo,rfl,Vb,hro⟩|⟨ho,rfl⟩
 rotate_left
 · have kZ:=jd (gQ.o.trans hF)
   have lO:=jd (hF.blk qh.o λx=>x);have HE2:=jd (hF.blk WE.o λx=>x);have HO:Hd (oo=.no 7):=jd (by rw[Xl.o,ho];rfl);clear hF ho;obtain⟨⟨_,a1⟩,a2,⟨_,b1⟩,b2,⟨_,c1⟩,c2,d1,d2,d3,fr⟩:=sto lO.o HE2.o (by have:=fD.o;have:=kQ.o;omega) (.slice none 0 0) (.int .i64 0) (.int .i64 7);have qY:=jd (kZ.o.next fr λi hi=>.inr (by have:=fD.o;have:=kQ.o;omega));clear fr;go_wp2;refine⟨.tuple #[.agg #[.slice none 0 0,.int .i64 0],.int .i64 7],by simp[results,results17,go_sem,d1,d2,d3],qY.o,?_⟩;rw[HO.o]
 have kZ:=jd (gQ.o.trans hF);have nA:=jd (hF.blk nN.o λx=>x);have lO:=jd (hF.blk qh.o λx=>x);have HE2:=jd (hF.blk WE.o λx=>x);obtain⟨D,HD⟩:=jb w1.heap.size;rw[<-HD.o]at Vb;have HBE:=jd Vb;have HRO:=jd hro;have HO:Hd (oo=o):=jd (by rw[Xl.o,ho];rfl)
 have AO:Hd (Kn.Ok X/\X.length<=16/\0<=L/\L<=16):=jd (by
  rw[jp]at ho;have h1:=gX ho.1;have h2:=ho.1;unfold gY at h2;simp only[jp,jh]at h2
  exact⟨h1.1,h1.2,h2.1.1.1.2,h2.1.1.2⟩)
 have aij:¬D<=B2:=by have:=HD.o;have:=Bu.o;have:=fD.o;omega
 have aii:¬D<=B3:=by have:=HD.o;have:=Bu.o;have:=kQ.o;omega
 have hsw:w.heap.size<=D:=by have:=HD.o;have:=Bu.o;omega
 have YN:¬B3=B2:=by have:=fD.o;have:=kQ.o;omega
 have aoo:w.heap.size<=B2:=by have:=fD.o;omega
 have aon:w.heap.size<=B3:=by have:=kQ.o;omega
 clear hF ho Vb hro;go_wp2_with fail;have ZN:Hd (New w2 w2.drew):=jd (refl _ w2).drew;have kG:=(cH (ZN.o.blk nA.o λx=>x)).1
 refine FK ?_
 refine wp_region_held_drew (S:=λwz=>wz.cell? ⟨B1,0,none⟩=some (.int .i64 k)) (by kernel_rfl) kG (λhHeld=>?_)
 clear kG;generalize w2.drew=r0 at hHeld ZN ⊢
 refine' sq 1 (h:=sq 2 (h:=?_))
 refine dQ (i:=0) (λK hK=>?_);(try simp only[aR,aP]);go_simp;refine(E0 _).mono ?_;rintro e r1 ⟨mb,rfl,hF,hm⟩;have FA:=jd (ZN.o.trans hF);have uq:=jd hm;clear hF hm;go_wp2_with fail;refine hK.out _ _ ((cH (FA.o.blk nA.o λx=>x)).1) (λhHeld=>?_);clear hK K;(try simp only[Act.put,aR,aP,aO,bQ,bP,bO]);refine dQ (i:=3) (λK hK=>?_);(try simp only[aR,aP,aO]);have hl:=HLK.o _ _ uq.o;go_simp;clear hl;refine hK.out _ _ ((cH (FA.o.blk nA.o λx=>x)).1) (λhHeld=>?_);clear hK K
 (try simp only[Act.put,aR,aP,aO,bQ,bP,bO])
 refine' sq 4 (h:=?_)
 refine wpAnyH_done (by kernel_rfl) ?_ _
 dsimp only
 have aqg:=jd (HBE.o.new FA.o);have ZI:=jd (Ar.new HRO.o FA.o);have pO:=jd (kZ.o.trans FA.o);have HM3:=jd (FA.o.blk nA.o λx=>x);have Fz:=jd (FA.o.blk lO.o λx=>x);have HE3:=jd (FA.o.blk HE2.o λx=>x);obtain⟨m0,m1,m2,m3,m4,m5,m6,m7⟩:=cH HM3.o;go_wp2_with fail;clear m0 m1 m2 m3 m4 m5 m6 m7;refine(ajZ.o D b s fv v bi bo r1 aqg.o ZI.o AO.o.1 AO.o.2.1 AO.o.2.2.1 AO.o.2.2.2).mono ?_;rintro e r2 ⟨hF,hM⟩;have oW:Hd (New w r2):=jd (pO.o.next hF λi hi=>.inr (jJ hsw hi));have Pk:=jd (hF.blk Fz.o aij)
 have HE4:=jd (hF.blk HE3.o aii);clear hF
 cases o with
 |no x'=>
  obtain rfl:=hM;go_wp2
  refine leaves_cons (f:=35) (args:=#[.pointer (some ⟨B2,0,none⟩),.pointer (some ⟨B3,0,none⟩)]) (by simp) (by simp[go_sem]) ?_
  refine(Q6 B2 B3 24 30 x' 0 _ _ r2 (λe=>YN e.symm) Pk.o HE4.o).mono ?_;rintro r u' w' ⟨rfl,rfl,hFr,h1,h2,h3⟩;refine⟨.tuple #[.agg #[.slice none 0 0,.int .i64 0],.int .i64 x'],by simp[results,results17,go_sem,h1,h2,h3],oW.o.next hFr λi hi=>.inr (by omega),?_⟩;rw[HO.o]
 |ok Y L'=>
  obtain⟨rfl,hbk,ya,yc,hy0,hy1,hyc,hyf⟩:=hM;have HYF:=jd hyf;clear hyf;have HYC:=jd hyc;clear hyc;obtain⟨c0,_⟩:=ay hbk;clear hbk;obtain⟨ny,HNY⟩:=jb Y.length;rw[<-HNY.o]at hy0;obtain⟨⟨_,a1⟩,a2,⟨_,b1⟩,b2,⟨_,c1⟩,c2,d1,d2,d3,fr⟩:=sto Pk.o HE4.o YN (.slice ya ny yc) (.int .i64 L') (.int .i64 0);have HFC:Hd (∀w',Fr (λk=>k=B2\/k=B3) r2 w'->bV w' ya Y):=jd (λw' hf=>HYC.o.off Pk.o HE4.o hf);have HFR:=jd fr;clear fr;go_wp2
  refine leaves_cons (f:=35) (args:=#[.pointer (some ⟨B2,0,none⟩),.pointer (some ⟨B3,0,none⟩)]) (by simp) (by simp[go_sem]) ?_
  refine(Vz B2 B3 _).mono ?_;rintro r u' w' ⟨rfl,rfl,rfl⟩;refine⟨.tuple #[.agg #[.slice ya ny yc,.int .i64 L'],.int .i64 0],by simp[results,results17,go_sem,d1,d2,d3],oW.o.next HFR.o λi hi=>.inr (by omega),?_⟩;rw[HO.o];refine⟨ya,yc,by rw[HNY.o],HFC.o _ HFR.o,λad e=>jJ hsw (HYF.o ad e)⟩
theorem DM.P{D b s bi bo:Nat}{fv v:Value}{o:Out}{w w':World}{e:Ending}(h:BW D w b s fv v bi bo X X L)(k:DM s o w e w'):vQ D b s fv o w e w':=by
 obtain⟨hF,hM⟩:=k;refine⟨hF.mono λk e=>by rw[e];exact h.ls,?_⟩
 cases o with
 |no x=>exact hM
 |ok Y N=>
  obtain⟨h1,a,c,h2,h3,h4,h5⟩:=hM;refine⟨h1,hF.blk h.blk h.sne,a,c,h2,h3,h4,λad e=>?_⟩;have h6:=h5 ad e;have h7:=h.lb;have h8:=(jf.1 h.blk).1;omega
section
variable (a:Option Addr) (n c:Nat) (X:List Cr) (L x y u v:Int) (ub vb ov:Bool) (w:World) (hx:bV w a X) (hn:n=X.length) (lx:n<=9223372036854775807) (l1:-9223372036854775808<=L) (l2:L<=9223372036854775807)
include hx hn lx l1 l2
theorem Y6:Calls prog 17 #[.agg #[.slice a n c,.int .i64 L],Hl 1 x y u v ub vb ov] w (uu (doO X L (sQ X L x y)) w):=
 Vy 65 Tryz.YT a n c X L 1 x y u v ub vb ov _ w hx hn lx l1 l2 acS λD b s fv v' bi bo w h _ hX hl h1 h2=>VD D b s fv v' bi bo X L 1 x y u v ub vb ov w h hX hl h1 h2
theorem adT:Calls prog 17 #[.agg #[.slice a n c,.int .i64 L],Hl 2 x y u v ub vb ov] w (uu (doO X L (Hh X L x)) w):=
 Vy 66 Tryz.YS a n c X L 2 x y u v ub vb ov _ w hx hn lx l1 l2 acR λD b s fv v' bi bo w h _ hX hl h1 h2=>(Lg b s fv X L 2 x y u v ub vb ov w h.at hX hl h1 h2).mono λ_ _ k=>k.P h
theorem Y5:Calls prog 17 #[.agg #[.slice a n c,.int .i64 L],Hl 3 x y u v ub vb ov] w (uu (doO X L (nU X L u v ub vb ov)) w):=
 Vy 67 Tryz.YR a n c X L 3 x y u v ub vb ov _ w hx hn lx l1 l2 acQ λD b s fv v' bi bo w h hr hX hl _ _=>Tv D b s fv v' bi bo X L 3 x y u v ub vb ov w h hr hX hl
theorem Vv:Calls prog 17 #[.agg #[.slice a n c,.int .i64 L],Hl 4 x y u v ub vb ov] w (uu (doO X L (jW X L x y)) w):=
 Vy 68 Tryz.YQ a n c X L 4 x y u v ub vb ov _ w hx hn lx l1 l2 acP λD b s fv v' bi bo w h hr hX hl h1 h2=>(Tz b s fv X L 4 x y u v ub vb ov w h.at hr hX hl h1 h2).mono λ_ _ k=>k.P h
theorem Vu:Calls prog 17 #[.agg #[.slice a n c,.int .i64 L],Hl 5 x y u v ub vb ov] w (uu (doO X L (kB X L x)) w):=
 Vy 69 Tryz.YP a n c X L 5 x y u v ub vb ov _ w hx hn lx l1 l2 acO λD b s fv v' bi bo w h hr hX hl _ _=>PR D b s fv v' bi bo X L 5 x y u v ub vb ov w h hr hX hl
end
open Go.RowKit Go.ChangeMaps
theorem acT(k:Int)(h1:¬k=1)(h2:¬k=2)(h3:¬k=3)(h4:¬k=4)(h5:¬k=5)(w:World)(b:Nat)(hb:w.heap[b]?=some (.map (nK 5) 5)):(lookup 96 (.map (some b)) (.int .i64 k) false).run prog w=.ok .nilFunc w:=by
 have hc:(Instr.checkKey false 10000 3 (.int .i64 k)).run prog w=.ok () w:=by kernel_rfl
 have hu:prog.underlying 3=some (.int .i64):=by kernel_rfl
 have hf:(findKey 3 (.int .i64 k) (nK 5).toList).run prog w=.ok none w:=by
  have g1:(k==1)=false:=by simp[h1]
  have g2:(k==2)=false:=by simp[h2]
  have g3:(k==3)=false:=by simp[h3]
  have g4:(k==4)=false:=by simp[h4]
  have g5:(k==5)=false:=by simp[h5]
  have e:Instr.findNow (.int .i64) (.int .i64 k) (nK 5).toList 0=some none:=by
   show (match some (k==1)with
    |some true=>some (some (0,Value.func (Fn.func 65) #[] #[]))
    |some false=>match some (k==2)with
     |some true=>some (some (1,Value.func (Fn.func 66) #[] #[]))
     |some false=>match some (k==3)with
      |some true=>some (some (2,Value.func (Fn.func 67) #[] #[]))
      |some false=>match some (k==4)with
       |some true=>some (some (3,Value.func (Fn.func 68) #[] #[]))
       |some false=>match some (k==5)with
        |some true=>some (some (4,Value.func (Fn.func 69) #[] #[]))
        |some false=>some none
        |none=>none
       |none=>none
      |none=>none
     |none=>none
    |none=>none)=some none
   rw[g1,g2,g3,g4,g5]
  unfold findKey;simp[run_underlying hu,e,Result.andThen]
 have hz:(zeroValue 95).run prog w=.ok .nilFunc w:=by kernel_rfl
 have he:(nK 5).isEmpty=false:=rfl;simp[lookup,run_underlying Tryz.BF,MapKept.run_getObj_map hb,hc,hf,hz,he,Result.andThen]
theorem Vx(a:Option Addr)(n c:Nat)(X:List Cr)(L k x y u v:Int)(ub vb ov:Bool)(w:World)(hx:bV w a X)(hn:n=X.length)(lx:n<=9223372036854775807)(l1:-9223372036854775808<=L)(l2:L<=9223372036854775807)
 (h1:¬k=1) (h2:¬k=2) (h3:¬k=3) (h4:¬k=4) (h5:¬k=5):
 Calls prog 17 #[.agg #[.slice a n c,.int .i64 L],Hl k x y u v ub vb ov] w (uu (if gY X L&&aJ X then .no 6 else .no 7) w):=by
 have HX:=jd hx;have HN:=jd hn;have HLK:Hd (∀(w:World) (b:Nat),w.heap[b]?=some (.map (nK 5) 5)->(lookup 96 (.map (some b)) (.int .i64 k) false).run prog w=.ok .nilFunc w):=jd (acT k h1 h2 h3 h4 h5)
 have hnil:∀w,(binOp .eql 95 .nilFunc .nilFunc).run prog w=.ok (.bool true) w:=λw=>by kernel_rfl
 have hmf:∀(fn:Fn) (first cap:Array Value) (w:World),(makeFunc fn first cap).run prog w=.ok (.func fn first cap) w:=λ_ _ _ _=>rfl
 clear hx hn h1 h2 h3 h4 h5;obtain⟨oo,Xl⟩:=jb (if gY X L&&aJ X then Out.no 6 else Out.no 7);rw[<-Xl.o];obtain⟨w1,cU⟩:=jb ((((w.alloc (.cells #[.slice a n c,.int .i64 L] 24)).alloc (.cells #[.int .i64 k,.int .i64 x,.int .i64 y,.int .i64 u,.bool ub,.int .i64 v,.bool vb,.bool ov] 28)).alloc (.cells #[.slice none 0 0,.int .i64 0] 24)).alloc (.cells #[.int .i64 0] 30));obtain⟨B1,eU⟩:=jb (w.heap.size+1);obtain⟨B2,fD⟩:=jb (w.heap.size+1+1);obtain⟨B3,kQ⟩:=jb (w.heap.size+1+1+1)
 have gQ:Hd (New w w1):=jd (by rw[cU.o];exact((((refl _ w).alloc _).alloc _).alloc _).alloc _)
 have nN:Hd (w1.heap[B1]?=some (.cells #[.int .i64 k,.int .i64 x,.int .i64 y,.int .i64 u,.bool ub,.int .i64 v,.bool vb,.bool ov] 28 (0,0))):=jd (by
  have h:=heap_alloc_new (w.alloc (.cells #[.slice a n c,.int .i64 L] 24)) (.cells #[.int .i64 k,.int .i64 x,.int .i64 y,.int .i64 u,.bool ub,.int .i64 v,.bool vb,.bool ov] 28);rw[size_alloc]at h;rw[cU.o,eU.o]
  exact(((refl (λ_=>False) _).alloc _).alloc _).blk h λx=>x)
 have qh:Hd (w1.heap[B2]?=some (.cells #[.slice none 0 0,.int .i64 0] 24 (0,0))):=jd (by
  have h:=heap_alloc_new ((w.alloc (.cells #[.slice a n c,.int .i64 L] 24)).alloc (.cells #[.int .i64 k,.int .i64 x,.int .i64 y,.int .i64 u,.bool ub,.int .i64 v,.bool vb,.bool ov] 28)) (.cells #[.slice none 0 0,.int .i64 0] 24);rw[size_alloc,size_alloc]at h;rw[cU.o,fD.o]
  exact((refl (λ_=>False) _).alloc _).blk h λx=>x)
 have WE:Hd (w1.heap[B3]?=some (.cells #[.int .i64 0] 30 (0,0))):=jd (by
  have h:=heap_alloc_new (((w.alloc (.cells #[.slice a n c,.int .i64 L] 24)).alloc (.cells #[.int .i64 k,.int .i64 x,.int .i64 y,.int .i64 u,.bool ub,.int .i64 v,.bool vb,.bool ov] 28)).alloc (.cells #[.slice none 0 0,.int .i64 0] 24)) (.cells #[.int .i64 0] 30);rw[size_alloc,size_alloc,size_alloc]at h;rw[cU.o,kQ.o]
  exact h)
 have UW:w1.heap.size=w.heap.size+1+1+1+1:=by rw[cU.o,size_alloc,size_alloc,size_alloc,size_alloc]
 have Bu:=jd UW;clear UW
 go_enter_defers func17,ntmps17
 go_wp2_with fail;rw[<-cU.o,<-kQ.o,<-fD.o,<-eU.o];refine(TR a n c X L w1 (New.uh gQ.o HX.o) HN.o lx l1 l2).mono ?_;rintro e w2 ⟨hF,h5⟩
 rcases h5 with⟨ho,b,s,fv,rfl,Vb,hro,hb,hs⟩|⟨ho,rfl⟩
 rotate_left
 · have kZ:=jd (gQ.o.trans hF)
   have lO:=jd (hF.blk qh.o λx=>x);have HE2:=jd (hF.blk WE.o λx=>x);have HO:Hd (oo=.no 7):=jd (by rw[Xl.o,ho];rfl);clear hF ho;obtain⟨⟨_,a1⟩,a2,⟨_,b1⟩,b2,⟨_,c1⟩,c2,d1,d2,d3,fr⟩:=sto lO.o HE2.o (by have:=fD.o;have:=kQ.o;omega) (.slice none 0 0) (.int .i64 0) (.int .i64 7);have qY:=jd (kZ.o.next fr λi hi=>.inr (by have:=fD.o;have:=kQ.o;omega));clear fr;go_wp2;refine⟨.tuple #[.agg #[.slice none 0 0,.int .i64 0],.int .i64 7],by simp[results,results17,go_sem,d1,d2,d3],qY.o,?_⟩;rw[HO.o]
 have kZ:=jd (gQ.o.trans hF);have nA:=jd (hF.blk nN.o λx=>x);have lO:=jd (hF.blk qh.o λx=>x);have HE2:=jd (hF.blk WE.o λx=>x);have HBE:=jd Vb;have HRO:=jd hro;have HO:Hd (oo=.no 6):=jd (by rw[Xl.o,ho];rfl)
 have AO:Hd (Kn.Ok X/\X.length<=16/\0<=L/\L<=16):=jd (by
  rw[jp]at ho;have h1:=gX ho.1;have h2:=ho.1;unfold gY at h2;simp only[jp,jh]at h2
  exact⟨h1.1,h1.2,h2.1.1.1.2,h2.1.1.2⟩)
 have aij:¬B2=s:=by have:=Bu.o;have:=fD.o;omega
 have aii:¬B3=s:=by have:=Bu.o;have:=kQ.o;omega
 have hsw:w.heap.size<=s:=by have:=Bu.o;omega
 have YN:¬B3=B2:=by have:=fD.o;have:=kQ.o;omega
 have aoo:w.heap.size<=B2:=by have:=fD.o;omega
 have aon:w.heap.size<=B3:=by have:=kQ.o;omega
 clear hF ho Vb hro hb hs;go_wp2_with fail;have ZN:Hd (New w2 w2.drew):=jd (refl _ w2).drew;have kG:=(cH (ZN.o.blk nA.o λx=>x)).1
 refine FK ?_
 refine wp_region_held_drew (S:=λwz=>wz.cell? ⟨B1,0,none⟩=some (.int .i64 k)) (by kernel_rfl) kG (λhHeld=>?_)
 clear kG;generalize w2.drew=r0 at hHeld ZN ⊢
 refine' sq 1 (h:=sq 2 (h:=?_))
 refine dQ (i:=0) (λK hK=>?_);(try simp only[aR,aP]);go_simp;refine(E0 _).mono ?_;rintro e r1 ⟨mb,rfl,hF,hm⟩;have FA:=jd (ZN.o.trans hF);have uq:=jd hm;clear hF hm;go_wp2_with fail;refine hK.out _ _ ((cH (FA.o.blk nA.o λx=>x)).1) (λhHeld=>?_);clear hK K;(try simp only[Act.put,aR,aP,aO,bQ,bP,bO]);refine dQ (i:=3) (λK hK=>?_);(try simp only[aR,aP,aO]);have hl:=HLK.o _ _ uq.o;go_simp;clear hl;refine hK.out _ _ ((cH (FA.o.blk nA.o λx=>x)).1) (λhHeld=>?_);clear hK K
 (try simp only[Act.put,aR,aP,aO,bQ,bP,bO])
 refine' sq 4 (h:=?_)
 refine wpAnyH_done (by kernel_rfl) ?_ _
 dsimp only
 have pO:=jd (kZ.o.trans FA.o);have Fz:=jd (FA.o.blk lO.o λx=>x);have HE3:=jd (FA.o.blk HE2.o λx=>x);obtain⟨⟨_,a1⟩,a2,⟨_,b1⟩,b2,⟨_,c1⟩,c2,d1,d2,d3,fr⟩:=sto Fz.o HE3.o YN (.slice none 0 0) (.int .i64 0) (.int .i64 6);have qY:=jd (pO.o.next fr λi hi=>.inr (by have:=fD.o;have:=kQ.o;omega));clear fr;go_wp2;refine⟨.tuple #[.agg #[.slice none 0 0,.int .i64 0],.int .i64 6],by simp[results,results17,go_sem,d1,d2,d3],qY.o,?_⟩;rw[HO.o]
end Go.Proofs.YtfplmbmenjdlhaaGreatDoor
