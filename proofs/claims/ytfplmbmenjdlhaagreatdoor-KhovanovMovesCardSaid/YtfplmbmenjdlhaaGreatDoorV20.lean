/- Walks: Do whatever the kind, moved. -/
import Derived.Test.YtfplmbmenjdlhaaGreatDoorN36b
set_option maxRecDepth 100000
set_option maxHeartbeats 16000000
namespace Go.Proofs.YtfplmbmenjdlhaaGreatDoor
open Go.RowKit
open Act (put)
open Fr (refl setCell)
open Kn (Cr cr)
open Pl (Is May T mul)
variable {l:Kn.L2} {X Y:List Cr} {L LN:Nat} {a:Option Addr}
theorem acG{L k x y u v e:Int}{ub vb ov:Bool}(h:WX X L k x y u v ub vb ov=.no e):e≠0:=by
 unfold WX sQ Hh nU jW kB iz at h
 repeat' split at h
 all_goals first|(injection h with h;omega)|cases h
theorem aip(a:Option Addr)(n c:Nat)(X:List Cr)(L k x y u v:Int)(ub vb ov:Bool)(w:World)(hx:bV w a X)(hn:n=X.length)(lx:n<=9223372036854775807)(l1:-9223372036854775808<=L)(l2:L<=9223372036854775807)(hm:Kn.gY X L=true)(hp:Kn.aJ X=true):
 Calls Tryz.prog 17 #[.agg #[.slice a n c,.int .i64 L],Hl k x y u v ub vb ov] w (uu (WX X L k x y u v ub vb ov) w):=by
 have e:∀o,doO X L o=o:=λo=>by unfold doO;rw[hm,hp];rfl
 unfold WX;by_cases h1:k=1
 · rw[if_pos h1,h1,<-e (sQ X L x y)];exact Y6 a n c X L x y u v ub vb ov w hx hn lx l1 l2
 rw[if_neg h1];by_cases h2:k=2
 · rw[if_pos h2,h2,<-e (Hh X L x)];exact adT a n c X L x y u v ub vb ov w hx hn lx l1 l2
 rw[if_neg h2];by_cases h3:k=3
 · rw[if_pos h3,h3,<-e (nU X L u v ub vb ov)];exact Y5 a n c X L x y u v ub vb ov w hx hn lx l1 l2
 rw[if_neg h3];by_cases h4:k=4
 · rw[if_pos h4,h4,<-e (jW X L x y)];exact Vv a n c X L x y u v ub vb ov w hx hn lx l1 l2
 rw[if_neg h4];by_cases h5:k=5
 · rw[if_pos h5,h5,<-e (kB X L x)];exact Vu a n c X L x y u v ub vb ov w hx hn lx l1 l2
 rw[if_neg h5];have:=Vx a n c X L k x y u v ub vb ov w hx hn lx l1 l2 h1 h2 h3 h4 h5;rw[hm,hp]at this;exact this
theorem bV.kept{S:Nat->Prop}{w w':World}(h:bV w a Y)(hF:Fr S w w')(hne:∀ad,a=some ad->¬S ad.block):bV w' a Y:=by
 rcases h with rfl|⟨b,o,rfl,hc⟩
 · exact .inl rfl
 have hn:=hne _ rfl
 refine .inr ⟨b,o,rfl,λi hi=>?_⟩
 obtain⟨c1,c2,c3,c4,c5⟩:=hc i hi;exact⟨hF.cell c1 hn,hF.cell c2 hn,hF.cell c3 hn,hF.cell c4 hn,hF.cell c5 hn⟩
def RS(X:List Cr)(L k x y u v:Int)(ub vb ov:Bool)(w:World)(e:Ending)(w':World):Prop:=
 New w w'/\((∃Y N a' m c',WX X L k x y u v ub vb ov=.ok Y N/\Y.length<=6/\e=.returned (.tuple #[.agg #[.slice a' m c',.int .i64 N],.bool true])/\Hd (m=Y.length)/\bV w' a' Y)\/∃a' m c' N,e=.returned (.tuple #[.agg #[.slice a' m c',.int .i64 N],.bool false]))
theorem Qn(a:Option Addr)(n c:Nat)(X:List Cr)(L k x y u v:Int)(ub vb ov:Bool)(w:World)(hx:bV w a X)(hn:n=X.length)(h8:n<=6)(l1:0<=L)(l2:L<=16)(hm:Kn.gY X L=true)(hp:Kn.aJ X=true):
 Calls Tryz.prog 5 #[.agg #[.slice a n c,.int .i64 L],Hl k x y u v ub vb ov,.int .i64 6] w (RS X L k x y u v ub vb ov w):=by
 have HN:=jd hn;have HX:=jd hx;have HM:=jd hm;have HP:=jd hp;clear hx hn hm hp
 go_enter Tryz.func5,Tryz.ntmps5
 have i1:¬(6:Int)<(n:Int):=by omega
 go_wp2_with fail;obtain⟨w1,cU⟩:=jb (((w.alloc (.cells #[.slice a n c,.int .i64 L] 24)).alloc (.cells #[.int .i64 k,.int .i64 x,.int .i64 y,.int .i64 u,.bool ub,.int .i64 v,.bool vb,.bool ov] 28)).alloc (.cells #[.slice none 0 0,.int .i64 0] 24));obtain⟨B6,Le⟩:=jb (w.heap.size+1+1);have gQ:Hd (New w w1):=jd (by rw[cU.o];exact(((refl _ w).alloc _).alloc _).alloc _)
 have qh:Hd (w1.heap[B6]?=some (.cells #[.slice none 0 0,.int .i64 0] 24 (0,0))):=jd (by
  have h0:=heap_alloc_new ((w.alloc (.cells #[.slice a n c,.int .i64 L] 24)).alloc (.cells #[.int .i64 k,.int .i64 x,.int .i64 y,.int .i64 u,.bool ub,.int .i64 v,.bool vb,.bool ov] 28)) (.cells #[.slice none 0 0,.int .i64 0] 24);rw[World.size_alloc,World.size_alloc]at h0
  rw[cU.o,Le.o];exact h0)
 rw[<-cU.o,<-Le.o];have hdo:=aip a n c X L k x y u v ub vb ov w1 (New.uh gQ.o HX.o) HN.o (by omega) (by omega) (by omega) HM.o HP.o;obtain⟨o,HO⟩:=jb (WX X L k x y u v ub vb ov);rw[<-HO.o]at hdo
 refine hdo.mono ?_
 clear hdo;rintro e w2 ⟨hF,hM⟩;have kZ:=jd (gQ.o.trans hF);have lO:=jd (hF.blk qh.o λx=>x);clear hF
 cases o with
 |no x'=>
  obtain rfl:=hM;have OD:¬x'=0:=acG HO.o.symm
  have hq:(x'==0)=false:=by simpa using OD
  have K6:New w2 (w2.alloc (.cells #[.slice none 0 0,.int .i64 0] 24)):=(refl _ _).alloc _;have hb3:=heap_alloc_new w2 (.cells #[.slice none 0 0,.int .i64 0] 24)
  have hR3:=K6.blk lO.o λx=>x
  have hne:¬w2.heap.size=B6:=by have:=(jf.1 lO.o).1;omega
  have pO:=jd (kZ.o.trans K6);go_wp2_with fail;obtain⟨w3,Sd⟩:=jb (w2.alloc (.cells #[.slice none 0 0,.int .i64 0] 24));obtain⟨B8,zS⟩:=jb w2.heap.size;rw[<-Sd.o]at K6 hb3 hR3 pO;rw[<-zS.o]at hb3 hne;rw[<-Sd.o,<-zS.o]
  refine wp_region_held_drew (S:=λwz=>wz.cell? ⟨B8,0,none⟩=some (.slice none 0 0)/\wz.cell? ⟨B8,1,none⟩=some (.int .i64 0)) (by kernel_rfl) ⟨(zV (show w3.drew.heap[B8]?=_ from hb3)).1,(zV (show w3.drew.heap[B8]?=_ from hb3)).2.1⟩ (λhHeld=>?_)
  obtain⟨y0,Zy⟩:=jb w3.drew;have HFy:Hd (New w3 y0):=jd (by rw[Zy.o];exact(refl _ _).drew);have HRy:Hd (y0.heap[B6]?=some (.cells #[.slice none 0 0,.int .i64 0] 24 (0,0))):=jd (HFy.o.blk hR3 λx=>x);have qY:=jd K6;rw[<-Zy.o]at hHeld ⊢;clear K6 hb3 hR3
  refine' sq 0 (h:=sq 1 (h:=sq 2 (h:=sq 3 (h:=?_))))
  refine' yG (i:=4) ?_;(try simp only[put,aR,aP,aO,bQ,bP,bO]);refine' yG (i:=5) ?_;(try simp only[put,aR,aP,aO,bQ,bP,bO]);refine' yG (i:=6) ?_;(try simp only[put,aR,aP,aO,bQ,bP,bO]);refine' yG (i:=7) ?_;(try simp only[put,aR,aP,aO,bQ,bP,bO]);refine' yG (i:=8) ?_;(try simp only[put,aR,aP,aO,bQ,bP,bO])
  refine' sq 9 (h:=?_)
  refine dQ (i:=10) (λK hK=>?_);(try simp only[aR,aP,aO]);obtain⟨j0,_,z0,_⟩:=ay HRy.o;have hb1:=(bD HRy.o (.slice none 0 0)).1;have hb2:=(bD hb1 (.int .i64 0)).2;obtain⟨_,j1,_,z1⟩:=ay hb1;obtain⟨m5,m6,_,_⟩:=ay hb2
  have hS:Fr (λj=>j=B6) y0 ((y0.setCell ⟨B6,0,none⟩ (.slice none 0 0)).setCell ⟨B6,1,none⟩ (.int .i64 0)):=by refine setCell (setCell (refl _ y0) ?_ _) ?_ _<;>exact .inl rfl
  go_simp;have hH2:=And.intro (hS.cell hHeld.1 hne) (hS.cell hHeld.2 hne);have oW:=jd ((pO.o.trans HFy.o).next hS λj hj=>.inr (by rw[hj,Le.o];omega));have HS4:=jd hS;clear j0 z0 j1 z1 hb1 hb2 hS hHeld;generalize (y0.setCell ⟨B6,0,none⟩ (.slice none 0 0)).setCell ⟨B6,1,none⟩ (.int .i64 0)=w4 at hH2 oW HS4 m5 m6 ⊢;refine hK.out _ _ hH2 (λhHeld=>?_);clear hK K hH2;(try simp only[put,aR,aP,aO,bQ,bP,bO])
  refine' sq 11 (h:=?_)
  refine wpAnyH_done (by kernel_rfl) ?_ _;go_wp2;exact bodyPost_ret (v:=.tuple #[.agg #[.slice none 0 0,.int .i64 0],.bool false]) (by simp[results,Tryz.results5,go_sem,m5,m6]) rfl ⟨oW.o,.inr ⟨_,_,_,_,rfl⟩⟩
 |ok Y N=>
  obtain⟨a',c',rfl,iw,hnw⟩:=hM;have HC:=jd iw
  have DG:Hd (∀ad,a'=some ad->¬ad.block=B6):=jd λad e=>by have:=hnw ad e;have:=(jf.1 qh.o).1;omega
  clear iw hnw;obtain⟨m,HML⟩:=jb Y.length;rw[<-HML.o];obtain⟨bm,HBM⟩:=jb (decide ((m:Int)<=6));have hbm:decide ((m:Int)<=6)=bm:=HBM.o.symm;have K6:New w2 (w2.alloc (.cells #[.slice a' m c',.int .i64 N] 24)):=(refl _ _).alloc _;have hb3:=heap_alloc_new w2 (.cells #[.slice a' m c',.int .i64 N] 24)
  have hR3:=K6.blk lO.o λx=>x
  have hne:¬w2.heap.size=B6:=by have:=(jf.1 lO.o).1;omega
  have pO:=jd (kZ.o.trans K6);go_wp2_with fail;obtain⟨w3,Sd⟩:=jb (w2.alloc (.cells #[.slice a' m c',.int .i64 N] 24));obtain⟨B8,zS⟩:=jb w2.heap.size;rw[<-Sd.o]at K6 hb3 hR3 pO;rw[<-zS.o]at hb3 hne;rw[<-Sd.o,<-zS.o]
  refine wp_region_held_drew (S:=λwz=>wz.cell? ⟨B8,0,none⟩=some (.slice a' m c')/\wz.cell? ⟨B8,1,none⟩=some (.int .i64 N)) (by kernel_rfl) ⟨(zV (show w3.drew.heap[B8]?=_ from hb3)).1,(zV (show w3.drew.heap[B8]?=_ from hb3)).2.1⟩ (λhHeld=>?_)
  obtain⟨y0,Zy⟩:=jb w3.drew;have HFy:Hd (New w3 y0):=jd (by rw[Zy.o];exact(refl _ _).drew);have HRy:Hd (y0.heap[B6]?=some (.cells #[.slice none 0 0,.int .i64 0] 24 (0,0))):=jd (HFy.o.blk hR3 λx=>x);have qY:=jd K6;rw[<-Zy.o]at hHeld ⊢;clear K6 hb3 hR3
  refine' sq 0 (h:=sq 1 (h:=sq 2 (h:=sq 3 (h:=sq 4 (h:=sq 5 (h:=sq 6 (h:=sq 7 (h:=sq 8 (h:=sq 9 (h:=?_))))))))))
  refine dQ (i:=10) (λK hK=>?_);(try simp only[aR,aP,aO]);obtain⟨j0,_,z0,_⟩:=ay HRy.o;have hb1:=(bD HRy.o (.slice a' m c')).1;have hb2:=(bD hb1 (.int .i64 N)).2;obtain⟨_,j1,_,z1⟩:=ay hb1;obtain⟨m5,m6,_,_⟩:=ay hb2
  have hS:Fr (λj=>j=B6) y0 ((y0.setCell ⟨B6,0,none⟩ (.slice a' m c')).setCell ⟨B6,1,none⟩ (.int .i64 N)):=by refine setCell (setCell (refl _ y0) ?_ _) ?_ _<;>exact .inl rfl
  go_simp;have hH2:=And.intro (hS.cell hHeld.1 hne) (hS.cell hHeld.2 hne);have oW:=jd ((pO.o.trans HFy.o).next hS λj hj=>.inr (by rw[hj,Le.o];omega));have HS4:=jd hS;clear j0 z0 j1 z1 hb1 hb2 hS hHeld;generalize (y0.setCell ⟨B6,0,none⟩ (.slice a' m c')).setCell ⟨B6,1,none⟩ (.int .i64 N)=w4 at hH2 oW HS4 m5 m6 ⊢;refine hK.out _ _ hH2 (λhHeld=>?_);clear hK K hH2;(try simp only[put,aR,aP,aO,bQ,bP,bO])
  refine' sq 11 (h:=?_)
  refine wpAnyH_done (by kernel_rfl) ?_ _;go_wp2;have WG:=jd (bV.kept (New.uh (qY.o.trans HFy.o) HC.o) HS4.o (λad e=>DG.o ad e))
  refine bodyPost_ret (v:=.tuple #[.agg #[.slice a' m c',.int .i64 N],.bool bm]) (by simp[results,Tryz.results5,go_sem,m5,m6]) rfl ⟨oW.o,?_⟩
  cases bm with
  |false=>exact .inr ⟨_,_,_,_,rfl⟩
  |true=>
   have h9:m<=6:=by have:=jl HBM.o.symm;omega
   exact .inl ⟨Y,N,a',m,c',HO.o.symm,by rw[<-HML.o];exact h9,rfl,HML,WG.o⟩
open Go.RowKit
theorem Li(va vb:Value)(la lb:List T)(w:World)(ha:Ts w va la)(hb:Ts w vb lb)(ma:May la)(mb:May lb):
 Calls Tryz.prog 10 #[va,vb] w (zT (mul la lb) w):=by
 have CC:=jd (Ua va vb la lb w ha hb ma mb);clear ha hb ma mb
 go_enter Tryz.func10,Tryz.ntmps10
 go_wp2_with fail
 refine CC.o.mono ?_
 rintro e w1 ⟨m,v,hm,rfl,hv,hn⟩;have HM:=jd hm;have HV:=jd hv;have HN:=jd hn;clear hm hv hn;go_wp2;go_ret;exact⟨m,HM.o,v,rfl,HV.o,HN.o⟩
open Go.RowKit
open Kn (E2 L2 cf F2 Kh bM Small Mu)
theorem Eo(X:List Cr):∀k,k<=X.length->wS (X.take k)=(((List.range k).countP λi=>(cr X i).p:Nat):Int)-(((List.range k).countP λi=>!(cr X i).p:Nat):Int)
 |0,_=>by simp[wS]
 |k+1,h=>by
  rw[Hz (by omega),Eo X k (by omega),jO,List.countP_append,List.countP_append,jG,jG,List.countP_nil,List.countP_nil];unfold dJ
  cases (cr X k).p<;>simp<;>omega
theorem abL(X:List Cr):wS X=(Kn.uJ X:Int)-(Kn.ml X:Int):=by
 have:=Eo X X.length (jH _)
 rwa [List.take_length]at this
theorem ace(x:Int):sg x=Pl.dJ x:=by
 unfold sg Pl.dJ
 split<;>omega
theorem JE{m:List T}(h:Br X L m):Pl.Form m/\∀y,Pl.co m y=Pl.dJ (wS X)*Pl.gF (Kn.df X L (2 ^ X.length)) (Kn.EL (y+3*wS X)):=by
 obtain⟨l,h1,h2⟩:=h;refine⟨h1.1,λy=>?_⟩;rw[h1.2,IG,h2,ace,show y - -3*wS X=y+3*wS X by omega]
theorem JD{m:List T}(h6:X.length<=6)(hL:L<=2)(h:Br X L m):May m:=by
 obtain⟨h1,h2⟩:=JE h;have hw:=Lf X;exact Kn.QB h6 hL (w:=wS X) (s:=Pl.dJ (wS X)) (by omega) (by unfold Pl.dJ;split<;>simp) h1 h2
theorem acN(h:Kn.Ok X)(h6:X.length<=6)(hL:LN<=2)(h0:0<X.length+LN)(hF:F2 l)(hl:∀a,cf l a=Kh X LN (bM X LN) a){m left j right:List T}
 (hm:Is m (l.map J3)) (U6:Is left (m.map Mu)) (hj:Br X LN j) (Mn:Is right (mul j [(-2,-1),(2,-1)])):left=right:=
 h.acU LN hl hm (λt ht=>by have:=h.xr h6 hL hF hl t ht;omega) U6 (abL X) (JE hj).2 Mn h0 (by omega)
theorem Vq(h:Kn.Ok X)(h6:X.length<=6)(hL:LN<=2)(hF:F2 l)(hl:∀a,cf l a=Kh X LN (bM X LN) a){m:List T}(hm:Is m (l.map J3)):Small m:=h.JX h6 hL hF hl hm
theorem QU{m:List T}{k:Nat}{lo lo':List T}{x c:Int}(hk:k<m.length)(KZ:Is lo ((m.take k).map Mu))(hx:Mu (m.getD k (0,0))=(x,c))(h:Is lo' (lo++[(x,c)])):Is lo' ((m.take (k+1)).map Mu):=by
 refine⟨h.1,λe=>?_⟩;rw[h.2,Pl.gN,KZ.2,BJ m (0,0) hk,jP,Pl.gN];rw[List.map_cons,List.map_nil,hx]
theorem Ou{x c:Int}(h1:-1000<=x/\x<=1000)(h2:-1000000<=c/\c<=1000000)(h0:c≠0):May [(x,c)]:=
 ⟨by simp,⟨h0,(λ_ h=>by cases h),trivial⟩,λt ht=>by rw[jB.1 ht];exact⟨h1,h2⟩⟩
theorem Yl:May [(-2,-1),(2,-1)]:=by
 refine⟨by simp,⟨by decide,λu hu=>?_,by decide,(λ_ h=>by cases h),trivial⟩,λt ht=>?_⟩
 · rw[jB.1 hu];decide
 simp only[jy,jz,or_false]at ht
 rcases ht with rfl|rfl<;>decide
theorem Ud{N k x y u v:Int}{ub vb ov:Bool}(hg:Good X LN)(hX:Kn.Ok X)(h:WX X LN k x y u v ub vb ov=.ok Y N)(h6:Y.length<=6)(hN:N<=2):
 mZ Y N=0/\∀NN:Nat,N=(NN:Int)->∀a,Kh X LN (bM X LN) a=Kh Y NN (bM Y NN) a:=by
 obtain⟨JK,hk⟩:=agR hg hX h;have hY:=(gX JK.1).1;refine⟨?_,λNN e a=>?_⟩
 · unfold mZ
   have e0:Jg Y N=0:=by unfold Jg;rw[if_pos JK.1,if_pos JK.2]
   rw[e0,if_neg (by simp),if_neg (by omega)]
 subst e;exact hk hY _ _ (hX.bM _) (hY.bM _) a
theorem Lr{x y:L2}(hx:F2 x)(hy:F2 y)(h:∀a,cf x a=cf y a):x=y:=hx.uniq hy h
theorem Yp:mZ [] 1=0:=by decide
theorem SE(w:World)(x y:Int):Ts (w.alloc (.cells #[.int .i64 x,.int .i64 y] 40)) (.slice (some ⟨w.heap.size,0,none⟩) 1 1) [(x,y)]:=by
 refine⟨some ⟨w.heap.size,0,none⟩,1,rfl,.inr ⟨_,0,rfl,λi hi=>?_⟩⟩
 obtain rfl:i=0:=by simp at hi;omega
 obtain⟨h1,h2,_,_⟩:=ay (heap_alloc_new w (.cells #[.int .i64 x,.int .i64 y] 40));exact⟨h1,h2⟩
theorem abU(w:World)(x y u v:Int):Ts (w.alloc (.cells #[.int .i64 x,.int .i64 y,.int .i64 u,.int .i64 v] 40)) (.slice (some ⟨w.heap.size,0,none⟩) 2 2) [(x,y),(u,v)]:=by
 refine⟨some ⟨w.heap.size,0,none⟩,2,rfl,.inr ⟨_,0,rfl,λi hi=>?_⟩⟩;have hz:=heap_alloc_new w (.cells #[.int .i64 x,.int .i64 y,.int .i64 u,.int .i64 v] 40)
 rcases (show i=0\/i=1 by simp at hi;omega)with rfl|rfl
 · exact⟨cell_of_row _ _ 0 _ 40 (0,0) hz,cell_of_row _ _ 1 _ 40 (0,0) hz⟩
 exact⟨cell_of_row _ _ 2 _ 40 (0,0) hz,cell_of_row _ _ 3 _ 40 (0,0) hz⟩
theorem Ig(x:Int):Int.tmod x 2=0↔x%2=0:=by
 rw[<-Int.dvd_iff_tmod_eq_zero,<-Int.dvd_iff_emod_eq_zero]
theorem abV(w:World):Ts w (.slice none 0 0) []:=⟨none,0,rfl,.inl rfl⟩
end Go.Proofs.YtfplmbmenjdlhaaGreatDoor
