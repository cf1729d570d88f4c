/- Walks: uncurl. -/
import Derived.Test.YtfplmbmenjdlhaaGreatDoorN10T
set_option maxRecDepth 100000
set_option maxHeartbeats 16000000
namespace Go.Proofs.YtfplmbmenjdlhaaGreatDoor
open Go.RowKit
open Fr (refl)
open Instr (checkKey findKey lookup mapUpdate)
open Kn (Cr aa at_ both aA takeN)
open MapKept (run_setObj_map)
open Result (andThen)
open Go.Proofs.Tryz (prog)
variable {X:List Cr} {w:World}
inductive Out where
 |no (e:Int)
 |ok (Y:List Cr) (L:Int)
def iz(X:List Cr)(L:Int)(gone:Nat->Bool):Out:=if L+(takeN X gone:Nat)<=16 then .ok (Kn.bF X gone) (L+(takeN X gone:Nat))else .no 2
def De(X:List Cr)(c:Nat):Bool:=(List.range 4).any λs=>decide (aa X (c,s)=aa X (c,(s+1)%4))
def Hh(X:List Cr)(L:Int)(a:Int):Out:=if oT X a then(if De X a.toNat then iz X L (Kn.only a.toNat)else .no 8)else .no 3
def DM(s:Nat)(o:Out)(w:World)(e:Ending)(w':World):Prop:=
 Fr (λk=>k=s) w w'/\match o with
  |.no x=>e=.panicked (sZ x)
  |.ok Y L=>e=.returned (.tuple #[])/\∃a c,w'.cell? ⟨s,0,none⟩=some (.slice a Y.length c)/\w'.cell? ⟨s,1,none⟩=some (.int .i64 L)/\bV w' a Y/\∀ad,a=some ad->w.heap.size<=ad.block
theorem C4{s:Nat}{L:Int}{gone:Nat->Bool}{w1 w':World}{e:Ending}(hN:New w w1)(h:KR s (Kn.bF X gone) (L+(takeN X gone:Nat)) w1 e w'):DM s (iz X L gone) w e w':=by
 refine⟨(hN.mono λ_ h=>h.elim).trans h.1,?_⟩;unfold iz
 rcases h.2 with⟨h1,h2,h3⟩|⟨h1,h2⟩
 · rw[if_pos h1]
   obtain⟨a,c,k1,k2,k3,k4⟩:=h3;exact⟨h2,a,c,k1,k2,k3,λad e=>jJ hN.size (k4 ad e)⟩
 rw[if_neg h1];exact h2
abbrev Hl(k a c u v:Int)(ub vb ov:Bool):Value:=.agg #[.int .i64 k,.int .i64 a,.int .i64 c,.int .i64 u,.bool ub,.int .i64 v,.bool vb,.bool ov]
theorem cH{W:World}{B t:Nat}{a b c d e f g h:Value}(hb:W.heap[B]?=some (.cells #[a,b,c,d,e,f,g,h] t (0,0))):
 W.cell? ⟨B,0,none⟩=some a/\W.cell? ⟨B,1,none⟩=some b/\W.cell? ⟨B,2,none⟩=some c/\W.cell? ⟨B,3,none⟩=some d/\W.cell? ⟨B,4,none⟩=some e/\W.cell? ⟨B,5,none⟩=some f/\W.cell? ⟨B,6,none⟩=some g/\W.cell? ⟨B,7,none⟩=some h:=
 ⟨cell_of_row _ _ 0 _ t (0,0) hb,cell_of_row _ _ 1 _ t (0,0) hb,cell_of_row _ _ 2 _ t (0,0) hb,cell_of_row _ _ 3 _ t (0,0) hb,cell_of_row _ _ 4 _ t (0,0) hb,cell_of_row _ _ 5 _ t (0,0) hb,cell_of_row _ _ 6 _ t (0,0) hb,cell_of_row _ _ 7 _ t (0,0) hb⟩
def GM(X:List Cr)(c t:Nat):Bool:=(List.range t).any λs=>decide (aa X (c,s)=aa X (c,(s+1)%4))
theorem Ao(X:List Cr)(c t:Nat):GM X c (t+1)=(GM X c t||decide (aa X (c,t)=aa X (c,(t+1)%4))):=by
 unfold GM
 rw[jO,List.any_append];simp
theorem Lg(b s:Nat)(fv:Value)(X:List Cr)(L k a c u v:Int)(ub vb ov:Bool)(w:World)(h:j8 w b s fv X L)(hX:Kn.Ok X)(hl:X.length<=16)(l1:0<=L)(l2:L<=16):
 Calls prog 66 #[.pointer (some ⟨b,0,none⟩),Hl k a c u v ub vb ov] w (DM s (Hh X L a) w):=by
 obtain⟨r,HR⟩:∃r,Hd (oT X a=r):=⟨_,jd rfl⟩
 have HH:=jd h;have HX:=jd hX;clear h hX
 go_enter Tryz.func66,Tryz.ntmps66
 have hz:=heap_alloc_new w (.cells #[.int .i64 k,.int .i64 a,.int .i64 c,.int .i64 u,.bool ub,.int .i64 v,.bool vb,.bool ov] 28);obtain⟨p0,p1,_⟩:=cH hz;have HZ:=jd hz;have iu:Hd (New w (w.alloc (.cells #[.int .i64 k,.int .i64 a,.int .i64 c,.int .i64 u,.bool ub,.int .i64 v,.bool vb,.bool ov] 28))):=jd ((refl _ w).alloc _);clear hz;go_wp2_with fail;refine(tS b s fv X L a _ (HH.o.new iu.o) hl).mono ?_;rintro e w1 ⟨rfl,Gw⟩;rw[HR.o];rw[<-Gw]at iu HZ p1;clear Gw p0;cases r
 · go_wp2_with fail
   refine(eH 3 _).mono ?_;rintro e w2 ⟨rfl,rfl⟩;go_wp2;refine⟨rfl,iu.o.mono λ_ h=>h.elim,?_⟩
   unfold Hh;rw[HR.o];rfl
 obtain⟨cn,rfl,U9⟩:∃cn:Nat,a=(cn:Int)/\cn<X.length:=by
  have h1:=HR.o;unfold oT at h1;rw[jp,jh,jh]at h1;exact⟨a.toNat,by omega,by omega⟩
 have HU:Hd (Hh X L (cn:Nat)=if De X cn then iz X L (Kn.only cn)else .no 8):=jd (by unfold Hh;rw[HR.o];rfl);go_wp2_with fail;refine(fP 3 _).mono ?_;rintro e w2 ⟨rfl,hw2⟩;rw[<-hw2]at iu HZ p1;clear hw2;obtain⟨n,HN⟩:=jb X.length;have fD:=jd (HH.o.new iu.o);obtain⟨c0,_⟩:=fD.o.c;obtain⟨a1,c1,h0,_,iw⟩:=fD.o.sh.uh;obtain⟨bx,ox,e0,hx⟩:=iw.at U9;subst e0;rw[<-HN.o]at h0;obtain⟨xa,xb,xc,xd,xp,qV⟩:=Kn.uY X cn;rw[qV.o]at hx;obtain⟨x1,x2,x3,x4,x5⟩:=hx
 have i1:(0:Int)<=(cn:Int):=by omega
 have i2:(cn:Int)<(n:Int):=by have:=HN.o;omega
 have k1:b<w2.heap.size:=World.block_lt_of_cell? _ _ c0;have k2:s<w2.heap.size:=World.block_lt_of_cell? _ _ h0;have k3:bx<w2.heap.size:=World.block_lt_of_cell? _ _ x1;have k4:w.heap.size<w2.heap.size:=World.block_lt_of_cell? _ _ p1
 have k5:b<w2.heap.size+1:=by omega
 have k6:s<w2.heap.size+1:=by omega
 have k7:bx<w2.heap.size+1:=by omega
 have k8:w.heap.size<w2.heap.size+1:=by omega
 clear iw;go_wp2_with fail
 go_cut [4] (λs4 wx=>Hd (s4=.pointer (some ⟨w2.heap.size,0,none⟩)/\New w2 wx/\wx.heap[w2.heap.size]?=some (.cells #[.int .i64 xa,.int .i64 xb,.int .i64 xc,.int .i64 xd,.bool xp] 109 (0,0))))
 case first=>
  go_region
  all_goals (go_wp2_with fail)
  all_goals go_meet
  exact jd ⟨rfl,((refl _ w2).alloc _).drew,heap_alloc_new w2 _⟩
 case rest=>
 obtain⟨rfl,QX,hb8⟩:=Hd.o hcut
 obtain⟨w3,rfl⟩:∃w3,w3=wc:=⟨_,rfl⟩
 have Sk:=jd (iu.o.trans QX);have zS:=jd hb8;have HZ8:=jd (QX.blk HZ.o λx=>x);obtain⟨Bx,Bz⟩:=jb w2.heap.size;rw[<-Bz.o]at zS ⊢;clear hcut QX hb8 c0 h0 x1 x2 x3 x4 x5 k1 k2 k3 k4 k5 k6 k7 k8 iu HZ p1;go_wp2_with fail
 go_loopw [5,24] (λcb i wr=>∃(t:Nat) (q:Bool),t<=4/\i=.int .i64 t/\cb=.bool q/\Hd (q=GM X cn t)/\Hd (New w3 wr)) (λ_ i _=>4-(intOf i).toNat)
 case atStart=>exact⟨0,false,by omega,rfl,rfl,jd rfl,jd (refl _ _)⟩
 case round=>
 obtain⟨t,q,ht,rfl,rfl,HC,HNr⟩:=hrel;by_cases Yv:t<4;rotate_left
 · obtain rfl:4=t:=by omega
   have Pr:Hd (De X cn=q):=jd HC.o.symm;have DC:Hd (New w wr):=jd (Sk.o.trans HNr.o);have p1:=(cH (HNr.o.blk HZ8.o λx=>x)).2.1;cases q
   · go_wp2_with fail
     refine(eH 8 _).mono ?_;rintro e w5 ⟨rfl,rfl⟩;go_wp2;refine⟨rfl,DC.o.mono λ_ h=>h.elim,?_⟩
     rw[HU.o,Pr.o];rfl
   go_wp2_with fail;refine(fP 8 _).mono ?_;rintro e w5 ⟨rfl,hw5⟩;rw[<-hw5]at DC p1;clear hw5;have KG:Hd (New w (w5.alloc (.cells #[.int .i64 (cn:Nat)] 3))):=jd (DC.o.alloc _)
   have HI:Hd (vM (w5.alloc (.cells #[.int .i64 (cn:Nat)] 3)) w5.heap.size [(cn:Int)]):=jd (λi hi=>by
    have h0:i=0:=by simpa using hi
    subst h0
    exact cell_of_row _ _ 0 _ 3 (0,0) (heap_alloc_new w5 _))
   go_wp2_with fail;refine(Ip b s _ 1 1 fv [(cn:Int)] (Kn.only cn) X L _ (HH.o.new KG.o) HX.o hl l1 l2 HI.o rfl (by omega) (λd _=>?_)).mono ?_
   · rw[jD];simp;omega
   rintro e w6 hG;have ZZ:Hd (DM s (iz X L (Kn.only cn)) w e w6):=jd (C4 KG.o hG);have HUO:Hd (Hh X L (cn:Nat)=iz X L (Kn.only cn)):=jd (by rw[HU.o,Pr.o];rfl);obtain⟨o,HO⟩:=jb (iz X L (Kn.only cn));rw[<-HO.o]at ZZ HUO;clear hG
   cases o with
   |no x=>
    obtain⟨h1,rfl⟩:=ZZ.o;go_wp2;refine⟨rfl,h1,?_⟩;rw[HUO.o]
   |ok Y L2=>
    obtain⟨h1,rfl,h2⟩:=ZZ.o;have HG1:=jd h1;have Z0:=jd h2;clear h1 h2;go_wp2;go_end0;refine⟨HG1.o,?_⟩;rw[HUO.o];exact⟨rfl,Z0.o⟩
 cases q
 · obtain⟨t2,ZB⟩:=jb ((t+1)%4)
   have ht2:t2<4:=by have:=ZB.o;omega
   have ew:(IntKind.i64.wrap ((t:Int)+1)).tmod 4=(t2:Nat):=by
    rw[IntWalk.i64_in _ (by omega),Int.tmod_eq_emod_of_nonneg (by omega)]
    have:=ZB.o;omega
   obtain⟨ua,Pf⟩:=jb (aa X (cn,t));obtain⟨va,HVA⟩:=jb (aa X (cn,t2))
   have har:∀s,s<4->(Kn.cr X cn).ie s=(aa X (cn,s):Nat):=λs hs=>by
    have:=(HX.o.wN (cn,s) ⟨U9,hs⟩).1;unfold aa
    show at_ X (cn,s)=((at_ X (cn,s)).toNat:Int)
    omega
   have HA1:Hd (wJ xa xb xc xd t=(ua:Nat)):=jd (by rw[Pf.o,<-har t Yv,qV.o];rfl);have HA2:Hd (wJ xa xb xc xd t2=(va:Nat)):=jd (by rw[HVA.o,<-har t2 ht2,qV.o];rfl)
   obtain⟨d,HD⟩:∃d,Hd (decide (ua=va)=d):=⟨_,jd rfl⟩
   have K0:((ua:Int)==(va:Int))=d:=by rw[<-HD.o,jD];simp;omega
   have oY:Hd (wr.drew.heap[Bx]?=some (.cells #[.int .i64 xa,.int .i64 xb,.int .i64 xc,.int .i64 xd,.bool xp] 109 (0,0))):=jd (HNr.o.blk zS.o λx=>x);have iu:Hd (New w3 wr.drew):=jd HNr.o.drew;have kG:=pY oY.o;clear har;go_wp2_with fail
   refine wp_region_held_drew (S:=λwz=>wz.cell? ⟨Bx,0,none⟩=some (.int .i64 xa)/\wz.cell? ⟨Bx,1,none⟩=some (.int .i64 xb)/\wz.cell? ⟨Bx,2,none⟩=some (.int .i64 xc)/\wz.cell? ⟨Bx,3,none⟩=some (.int .i64 xd)/\wz.cell? ⟨Bx,4,none⟩=some (.bool xp)) (by kernel_rfl) kG (λhHeld=>?_)
   clear kG;generalize wr.drew=r0 at hHeld iu oY ⊢
   refine' sq 0 (h:=sq 1 (h:=sq 2 (h:=sq 3 (h:=sq 5 (h:=sq 6 (h:=sq 7 (h:=sq 8 (h:=?_))))))))
   refine dQ (i:=4) (λK hK=>?_);(try simp only[aR,aP,aO]);go_simp;refine(nu xa xb xc xd xp t _ Yv).mono ?_;rintro e r1 ⟨rfl,hF⟩;rw[HA1.o];have gQ:=jd (iu.o.trans hF);have eU:=jd (hF.blk oY.o λx=>x);clear hF;go_wp2_with fail;refine hK.out _ _ (pY eU.o) (λhHeld=>?_);clear hK K;(try simp only[Act.put,aR,aP,aO,bQ,bP,bO]);refine dQ (i:=9) (λK hK=>?_);(try simp only[aR,aP,aO]);rw[if_pos (by rfl)];go_simp;refine(nu xa xb xc xd xp t2 _ ht2).mono ?_;rintro e r2 ⟨rfl,hF⟩;rw[HA2.o]
   have kZ:=jd (gQ.o.trans hF);have fD:=jd (hF.blk eU.o λx=>x);clear hF;go_wp2_with fail;refine hK.out _ _ (pY fD.o) (λhHeld=>?_);clear hK K;(try simp only[Act.put,aR,aP,aO,bQ,bP,bO])
   refine' sq 10 (h:=sq 11 (h:=sq 12 (h:=?_)))
   refine wpAnyH_done (by kernel_rfl) ?_ _;go_wp2;go_roundw
   case rel=>exact⟨t+1,d,by omega,by go_num,rfl,jd (by rw[Ao,<-HC.o,<-HD.o,Pf.o,HVA.o,ZB.o];rfl),kZ⟩
   case measure=>simp[intOf];omega
 go_wp2_with fail
 go_quiet (fail)
 go_wp2;go_roundw
 case rel=>exact⟨t+1,true,by omega,by go_num,rfl,jd (by rw[Ao,<-HC.o];rfl),jd (HNr.o.drewN _)⟩
 case measure=>simp[intOf];omega
open Go.RowKit
theorem GJ(hX:Kn.Ok X)(hl:X.length<=16):Hb X (aA X):=by
 have hp:=Kn.fK hX;have hlen:=hp.length_eq
 have hd:(Kn.dM X).length<=64:=by rw[Kn.fL];omega
 refine⟨?_,λf hf=>⟨?_,λd hd=>?_⟩⟩
 · have:=hX.vF.1
   have:=Cm X hX;omega
 · have:=(List.sublist_flatten_of_mem hf).length_le
   omega
 exact Kn.bW.1 (hp.mem_iff.1 (List.mem_flatten.2 ⟨f,hf,hd⟩))
def jW(X:List Cr)(L x y:Int):Out:=if (oT X x&&oT X y)&&decide (x≠y)then(if (aA X).any (vt X x y)then iz X L (both x.toNat y.toNat)else .no 8)else .no 3
theorem Tz(b s:Nat)(fv:Value)(X:List Cr)(L k x y u v:Int)(ub vb ov:Bool)(w:World)(h:j8 w b s fv X L)(hr:Rows kN 0 156 w fv (aA X))(hX:Kn.Ok X)(hl:X.length<=16)(l1:0<=L)(l2:L<=16):
 Calls prog 68 #[.pointer (some ⟨b,0,none⟩),Hl k x y u v ub vb ov] w (DM s (jW X L x y) w):=by
 have HH:=jd h;have HX:=jd hX;have HR:=jd hr;have Np:=jd (GJ hX hl)
 obtain⟨r1,qh⟩:∃r,Hd (oT X x=r):=⟨_,jd rfl⟩
 obtain⟨r2,lO⟩:∃r,Hd (oT X y=r):=⟨_,jd rfl⟩
 obtain⟨r3,Fz⟩:∃r,Hd (decide (x≠y)=r):=⟨_,jd rfl⟩
 have K0:(x != y)=r3:=by rw[<-Fz.o,jD];simp
 clear h hX hr
 go_enter Tryz.func68,Tryz.ntmps68
 obtain⟨w1,cU⟩:=jb ((w.alloc (.cells #[.pointer (some ⟨b,0,none⟩)] 92)).alloc (.cells #[.int .i64 k,.int .i64 x,.int .i64 y,.int .i64 u,.bool ub,.int .i64 v,.bool vb,.bool ov] 28))
 have hz0:=((refl (λ_=>False) (w.alloc (.cells #[.pointer (some ⟨b,0,none⟩)] 92))).alloc (.cells #[.int .i64 k,.int .i64 x,.int .i64 y,.int .i64 u,.bool ub,.int .i64 v,.bool vb,.bool ov] 28)).blk (heap_alloc_new w (.cells #[.pointer (some ⟨b,0,none⟩)] 92)) λx=>x
 have hz:=heap_alloc_new (w.alloc (.cells #[.pointer (some ⟨b,0,none⟩)] 92)) (.cells #[.int .i64 k,.int .i64 x,.int .i64 y,.int .i64 u,.bool ub,.int .i64 v,.bool vb,.bool ov] 28)
 have hn:New w w1:=by rw[cU.o];exact((refl _ w).alloc _).alloc _
 rw[World.size_alloc]at hz;rw[<-cU.o]at hz hz0;have HN:=jd hn;have Hp:=jd hz0;have HZ:=jd hz;have p0:=cell_of_row _ _ 0 _ 92 (0,0) hz0;obtain⟨_,p1,p2,_⟩:=cH hz;clear hn hz hz0
 have FB:Hd (¬((r1&&r2)&&r3)=true->jW X L x y=.no 3):=jd (λhno=>by
  unfold jW
  rw[qh.o,lO.o,Fz.o,if_neg hno])
 have aoU:Hd (((r1&&r2)&&r3)=true->jW X L x y=if (aA X).any (vt X x y)then iz X L (both x.toNat y.toNat)else .no 8):=jd (λQH=>by
  unfold jW
  rw[qh.o,lO.o,Fz.o,if_pos QH])
 go_wp2_with fail;rw[<-cU.o];obtain⟨B1,eU⟩:=jb w.heap.size;obtain⟨B2,fD⟩:=jb (w.heap.size+1);rw[<-fD.o]at p1 p2 HZ ⊢;rw[<-eU.o]at p0 Hp ⊢;clear cU;refine(tS b s fv X L x _ (HH.o.new HN.o) hl).mono ?_;rintro e w2 ⟨rfl,rfl⟩;rw[qh.o];cases r1
 · go_wp2_with fail
   refine(eH 3 _).mono ?_;rintro e w3 ⟨rfl,rfl⟩;go_wp2;refine⟨rfl,HN.o.mono λ_ h=>h.elim,?_⟩;rw[FB.o (by simp)]
 go_wp2_with fail;refine(tS b s fv X L y _ (HH.o.new HN.o) hl).mono ?_;rintro e w3 ⟨rfl,rfl⟩;rw[lO.o];cases r2
 · go_wp2_with fail
   refine(eH 3 _).mono ?_;rintro e w3 ⟨rfl,rfl⟩;go_wp2;refine⟨rfl,HN.o.mono λ_ h=>h.elim,?_⟩;rw[FB.o (by simp)]
 cases r3
 · go_wp2_with fail
   refine(eH 3 _).mono ?_;rintro e w3 ⟨rfl,rfl⟩;go_wp2;refine⟨rfl,HN.o.mono λ_ h=>h.elim,?_⟩;rw[FB.o (by simp)]
 go_wp2_with fail;refine(fP 3 _).mono ?_;rintro e w3 ⟨rfl,rfl⟩
 obtain⟨cx,rfl,hcx⟩:∃c:Nat,x=(c:Int)/\c<X.length:=by
  have h1:=qh.o;unfold oT at h1;rw[jp,jh,jh]at h1;exact⟨x.toNat,by omega,by omega⟩
 obtain⟨cy,rfl,hcy⟩:∃c:Nat,y=(c:Int)/\c<X.length:=by
  have h1:=lO.o;unfold oT at h1;rw[jp,jh,jh]at h1;exact⟨y.toNat,by omega,by omega⟩
 have HU:Hd (jW X L (cx:Nat) (cy:Nat)=if (aA X).any (vt X cx cy)then iz X L (both cx cy)else .no 8):=jd (aoU.o rfl);have HBE:=jd (HH.o.new HN.o);obtain⟨c0,c1⟩:=HBE.o.c
 obtain⟨q,HQ⟩:∃q,Hd ((aA X).any (vt X cx cy)=q):=⟨_,jd rfl⟩
 have HCF:=jd (Ef b s B1 B2 fv fv X L cx cy (aA X) w3 ⟨HBE.o,p0,p1,p2⟩ hl Np.o (Ar.new HR.o HN.o));rw[HQ.o]at HCF;go_wp2_with fail
 refine HCF.o.mono ?_
 rintro e w4 ⟨rfl,hN⟩;have oW:=jd (HN.o.trans hN)
 have p0':=hN.cell p0 λx=>x
 have p1':=hN.cell p1 λx=>x
 have p2':=hN.cell p2 λx=>x
 clear hN p0 p1 p2 c0 c1 K0;cases q
 · go_wp2_with fail
   refine(eH 8 _).mono ?_;rintro e w5 ⟨rfl,rfl⟩;go_wp2;refine⟨rfl,oW.o.mono λ_ h=>h.elim,?_⟩
   rw[HU.o,HQ.o];rfl
 go_wp2_with fail;refine(fP 8 _).mono ?_;rintro e w5 ⟨rfl,rfl⟩;have KG:Hd (New w (w5.alloc (.cells #[.int .i64 (cx:Nat),.int .i64 (cy:Nat)] 3))):=jd (oW.o.alloc _)
 have HI:Hd (vM (w5.alloc (.cells #[.int .i64 (cx:Nat),.int .i64 (cy:Nat)] 3)) w5.heap.size [(cx:Int),(cy:Int)]):=jd (λi hi=>by
  have hz:=heap_alloc_new w5 (.cells #[.int .i64 (cx:Nat),.int .i64 (cy:Nat)] 3)
  match i,hi with
  |0,_=>exact cell_of_row _ _ 0 _ 3 (0,0) hz
  |1,_=>exact cell_of_row _ _ 1 _ 3 (0,0) hz)
 go_wp2_with fail;refine(Ip b s _ 2 2 fv [(cx:Int),(cy:Int)] (both cx cy) X L _ (HH.o.new KG.o) HX.o hl l1 l2 HI.o rfl (by omega) (λd _=>?_)).mono ?_
 · rw[jD];simp;omega
 rintro e w6 hG;have ZZ:Hd (DM s (iz X L (both cx cy)) w e w6):=jd (C4 KG.o hG);have HUO:Hd (jW X L (cx:Nat) (cy:Nat)=iz X L (both cx cy)):=jd (by rw[HU.o,HQ.o];rfl);obtain⟨o,HO⟩:=jb (iz X L (both cx cy));rw[<-HO.o]at ZZ HUO;clear hG
 cases o with
 |no x=>
  obtain⟨h1,rfl⟩:=ZZ.o;go_wp2;refine⟨rfl,h1,?_⟩;rw[HUO.o]
 |ok Y L2=>
  obtain⟨h1,rfl,h2⟩:=ZZ.o;have HG1:=jd h1;have Z0:=jd h2;clear h1 h2;go_wp2;go_end0;refine⟨HG1.o,?_⟩;rw[HUO.o];exact⟨rfl,Z0.o⟩
open Go.RowKit Go.ChangeMaps
theorem Tryz.BF:prog.underlying 96=some (.map 3 95):=by kernel_rfl
abbrev wu(k f:Nat):MapEntry:={ key:=.int .i64 (k:Nat),val:=.func (.func f) #[] #[],born:=k-1 }
def nK:Nat->Array MapEntry
 |0=>#[]
 |1=>#[wu 1 65]
 |2=>#[wu 1 65,wu 2 66]
 |3=>#[wu 1 65,wu 2 66,wu 3 67]
 |4=>#[wu 1 65,wu 2 66,wu 3 67,wu 4 68]
 |_=>#[wu 1 65,wu 2 66,wu 3 67,wu 4 68,wu 5 69]
theorem kC{b:Nat}{o o':Obj}(hb:w.heap[b]?=some o):(setBlock w b o').heap[b]?=some o':=by
 have:=(jf.1 hb).1;unfold setBlock;simp[this]
theorem l8(w:World)(b:Nat)(o:Obj):Fr (λk=>k=b) w (setBlock w b o):=by
 refine⟨rfl,rfl,rfl,by unfold setBlock;simp,λk hk hs=>?_⟩;unfold setBlock;simp only[Array.getElem?_setIfInBounds];rw[if_neg λe:b=k=>hs e.symm]
theorem ahb(w:World)(b:Nat)(hb:w.heap[b]?=some (.map (nK 0) 0)):(mapUpdate 96 (.map (some b)) (.int .i64 1) (.func (.func 65) #[] #[])).run prog w=.ok () (setBlock w b (.map (nK 1) 1)):=by
 have hc:(checkKey false 10000 3 (.int .i64 1)).run prog w=.ok () w:=by kernel_rfl
 have hf:(findKey 3 (.int .i64 1) (nK 0).toList).run prog w=.ok none w:=by kernel_rfl
 simp[mapUpdate,run_underlying Tryz.BF,MapKept.run_getObj_map hb,hc,hf,run_setObj_map _ hb,andThen,setBlock];rfl
theorem aha(w:World)(b:Nat)(hb:w.heap[b]?=some (.map (nK 1) 1)):(mapUpdate 96 (.map (some b)) (.int .i64 2) (.func (.func 66) #[] #[])).run prog w=.ok () (setBlock w b (.map (nK 2) 2)):=by
 have hc:(checkKey false 10000 3 (.int .i64 2)).run prog w=.ok () w:=by kernel_rfl
 have hf:(findKey 3 (.int .i64 2) (nK 1).toList).run prog w=.ok none w:=by kernel_rfl
 simp[mapUpdate,run_underlying Tryz.BF,MapKept.run_getObj_map hb,hc,hf,run_setObj_map _ hb,andThen,setBlock];rfl
theorem ag9(w:World)(b:Nat)(hb:w.heap[b]?=some (.map (nK 2) 2)):(mapUpdate 96 (.map (some b)) (.int .i64 3) (.func (.func 67) #[] #[])).run prog w=.ok () (setBlock w b (.map (nK 3) 3)):=by
 have hc:(checkKey false 10000 3 (.int .i64 3)).run prog w=.ok () w:=by kernel_rfl
 have hf:(findKey 3 (.int .i64 3) (nK 2).toList).run prog w=.ok none w:=by kernel_rfl
 simp[mapUpdate,run_underlying Tryz.BF,MapKept.run_getObj_map hb,hc,hf,run_setObj_map _ hb,andThen,setBlock];rfl
theorem ag8(w:World)(b:Nat)(hb:w.heap[b]?=some (.map (nK 3) 3)):(mapUpdate 96 (.map (some b)) (.int .i64 4) (.func (.func 68) #[] #[])).run prog w=.ok () (setBlock w b (.map (nK 4) 4)):=by
 have hc:(checkKey false 10000 3 (.int .i64 4)).run prog w=.ok () w:=by kernel_rfl
 have hf:(findKey 3 (.int .i64 4) (nK 3).toList).run prog w=.ok none w:=by kernel_rfl
 simp[mapUpdate,run_underlying Tryz.BF,MapKept.run_getObj_map hb,hc,hf,run_setObj_map _ hb,andThen,setBlock];rfl
theorem ag7(w:World)(b:Nat)(hb:w.heap[b]?=some (.map (nK 4) 4)):(mapUpdate 96 (.map (some b)) (.int .i64 5) (.func (.func 69) #[] #[])).run prog w=.ok () (setBlock w b (.map (nK 5) 5)):=by
 have hc:(checkKey false 10000 3 (.int .i64 5)).run prog w=.ok () w:=by kernel_rfl
 have hf:(findKey 3 (.int .i64 5) (nK 4).toList).run prog w=.ok none w:=by kernel_rfl
 simp[mapUpdate,run_underlying Tryz.BF,MapKept.run_getObj_map hb,hc,hf,run_setObj_map _ hb,andThen,setBlock];rfl
theorem acS(w:World)(b:Nat)(hb:w.heap[b]?=some (.map (nK 5) 5)):(lookup 96 (.map (some b)) (.int .i64 1) false).run prog w=.ok (.func (.func 65) #[] #[]) w:=by
 have hc:(checkKey false 10000 3 (.int .i64 1)).run prog w=.ok () w:=by kernel_rfl
 have hf:(findKey 3 (.int .i64 1) (nK 5).toList).run prog w=.ok (some (0,.func (.func 65) #[] #[])) w:=by kernel_rfl
 have he:(nK 5).isEmpty=false:=rfl;simp[lookup,run_underlying Tryz.BF,MapKept.run_getObj_map hb,hc,hf,he,andThen]
theorem acR(w:World)(b:Nat)(hb:w.heap[b]?=some (.map (nK 5) 5)):(lookup 96 (.map (some b)) (.int .i64 2) false).run prog w=.ok (.func (.func 66) #[] #[]) w:=by
 have hc:(checkKey false 10000 3 (.int .i64 2)).run prog w=.ok () w:=by kernel_rfl
 have hf:(findKey 3 (.int .i64 2) (nK 5).toList).run prog w=.ok (some (1,.func (.func 66) #[] #[])) w:=by kernel_rfl
 have he:(nK 5).isEmpty=false:=rfl;simp[lookup,run_underlying Tryz.BF,MapKept.run_getObj_map hb,hc,hf,he,andThen]
theorem acQ(w:World)(b:Nat)(hb:w.heap[b]?=some (.map (nK 5) 5)):(lookup 96 (.map (some b)) (.int .i64 3) false).run prog w=.ok (.func (.func 67) #[] #[]) w:=by
 have hc:(checkKey false 10000 3 (.int .i64 3)).run prog w=.ok () w:=by kernel_rfl
 have hf:(findKey 3 (.int .i64 3) (nK 5).toList).run prog w=.ok (some (2,.func (.func 67) #[] #[])) w:=by kernel_rfl
 have he:(nK 5).isEmpty=false:=rfl;simp[lookup,run_underlying Tryz.BF,MapKept.run_getObj_map hb,hc,hf,he,andThen]
theorem acP(w:World)(b:Nat)(hb:w.heap[b]?=some (.map (nK 5) 5)):(lookup 96 (.map (some b)) (.int .i64 4) false).run prog w=.ok (.func (.func 68) #[] #[]) w:=by
 have hc:(checkKey false 10000 3 (.int .i64 4)).run prog w=.ok () w:=by kernel_rfl
 have hf:(findKey 3 (.int .i64 4) (nK 5).toList).run prog w=.ok (some (3,.func (.func 68) #[] #[])) w:=by kernel_rfl
 have he:(nK 5).isEmpty=false:=rfl;simp[lookup,run_underlying Tryz.BF,MapKept.run_getObj_map hb,hc,hf,he,andThen]
theorem acO(w:World)(b:Nat)(hb:w.heap[b]?=some (.map (nK 5) 5)):(lookup 96 (.map (some b)) (.int .i64 5) false).run prog w=.ok (.func (.func 69) #[] #[]) w:=by
 have hc:(checkKey false 10000 3 (.int .i64 5)).run prog w=.ok () w:=by kernel_rfl
 have hf:(findKey 3 (.int .i64 5) (nK 5).toList).run prog w=.ok (some (4,.func (.func 69) #[] #[])) w:=by kernel_rfl
 have he:(nK 5).isEmpty=false:=rfl;simp[lookup,run_underlying Tryz.BF,MapKept.run_getObj_map hb,hc,hf,he,andThen]
def RT(w:World)(e:Ending)(w':World):Prop:=∃mb,e=.returned (.map (some mb))/\New w w'/\w'.heap[mb]?=some (.map (nK 5) 5)
theorem E0(w:World):Calls prog 34 #[] w (RT w):=by
 have Ai:=@run_makeMap prog
 go_enter Tryz.func34,Tryz.ntmps34
 obtain⟨w0,hw0⟩:∃w0,w0=w.alloc (.map #[] 0):=⟨_,rfl⟩
 have h0:w0.heap[w.heap.size]?=some (.map (nK 0) 0):=by rw[hw0];exact heap_alloc_new _ _
 have hn0:New w w0:=by rw[hw0];exact(refl _ w).alloc _
 have k0:=ahb w0 w.heap.size h0
 obtain⟨w1,Gw⟩:∃w',w'=setBlock w0 w.heap.size (.map (nK 1) 1):=⟨_,rfl⟩
 have h1:w1.heap[w.heap.size]?=some (.map (nK 1) 1):=by rw[Gw];exact kC h0
 have zq:New w w1:=by rw[Gw];exact hn0.next (l8 _ _ _) λi hi=>.inr (by rw[hi];exact jH _)
 rw[<-Gw]at k0;have k1:=aha w1 w.heap.size h1
 obtain⟨w2,hw2⟩:∃w',w'=setBlock w1 w.heap.size (.map (nK 2) 2):=⟨_,rfl⟩
 have h2:w2.heap[w.heap.size]?=some (.map (nK 2) 2):=by rw[hw2];exact kC h1
 have JI:New w w2:=by rw[hw2];exact zq.next (l8 _ _ _) λi hi=>.inr (by rw[hi];exact jH _)
 rw[<-hw2]at k1;have k2:=ag9 w2 w.heap.size h2
 obtain⟨w3,hw3⟩:∃w',w'=setBlock w2 w.heap.size (.map (nK 3) 3):=⟨_,rfl⟩
 have h3:w3.heap[w.heap.size]?=some (.map (nK 3) 3):=by rw[hw3];exact kC h2
 have hn3:New w w3:=by rw[hw3];exact JI.next (l8 _ _ _) λi hi=>.inr (by rw[hi];exact jH _)
 rw[<-hw3]at k2;have k3:=ag8 w3 w.heap.size h3
 obtain⟨w4,hw4⟩:∃w',w'=setBlock w3 w.heap.size (.map (nK 4) 4):=⟨_,rfl⟩
 have h4:w4.heap[w.heap.size]?=some (.map (nK 4) 4):=by rw[hw4];exact kC h3
 have W4:New w w4:=by rw[hw4];exact hn3.next (l8 _ _ _) λi hi=>.inr (by rw[hi];exact jH _)
 rw[<-hw4]at k3;have k4:=ag7 w4 w.heap.size h4
 obtain⟨w5,hw5⟩:∃w',w'=setBlock w4 w.heap.size (.map (nK 5) 5):=⟨_,rfl⟩
 have h5:w5.heap[w.heap.size]?=some (.map (nK 5) 5):=by rw[hw5];exact kC h4
 have YD:New w w5:=by rw[hw5];exact W4.next (l8 _ _ _) λi hi=>.inr (by rw[hi];exact jH _)
 rw[<-hw5]at k4;rw[hw0]at k0;have HN:=jd YD;have HH:=jd h5;clear h0 h1 h2 h3 h4 h5 hn0 zq JI hn3 W4 YD Gw hw2 hw3 hw4 hw5 hw0;go_wp2;go_ret;exact⟨_,rfl,HN.o,HH.o⟩
end Go.Proofs.YtfplmbmenjdlhaaGreatDoor
