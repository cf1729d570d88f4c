/- Walks: Of; words for tables of polynomials at work. -/
import Derived.Test.YtfplmbmenjdlhaaGreatDoorP3
set_option maxRecDepth 100000
set_option maxHeartbeats 16000000
namespace Go.Proofs.YtfplmbmenjdlhaaGreatDoor
open Go.RowKit
open New (ts wk)
open Pl (Is May T p6 mul)
open Go.Proofs.Tryz (func43 ntmps43 prog underlying3)
open World (ownsMap)
theorem Gc(v:Value)(l:List T)(w:World)(hx:Ts w v l)(hl:l.length<=1000000)(he:Hc 1000000000 l)(hs:Pl.size l<=1000000000000000000):
 Calls prog 78 #[v] w (Pt l l.length w):=by
 obtain⟨a,c,rfl,hx⟩:=hx
 obtain⟨n,hn⟩:∃n,n=l.length:=⟨_,rfl⟩
 rw[<-hn]at hl ⊢;have HN:=jd hn;have HX:=jd hx;have HE:=jd he;have HS:=jd hs;clear hn hx he hs;have Ai:=@run_makeMap prog
 go_enter Tryz.func78,Tryz.ntmps78
 go_wp2
 go_loopw [9] (λi wr=>∃(k:Nat) (D:DataW Unit),k<=n/\i=.int .i64 k/\Hd (OM wr w.heap.size k D)/\Hd (RD D (l.take k))/\Hd (New w wr)) (λi _=>n-(intOf i).toNat)
 case atStart=>exact⟨0,.map [],by omega,rfl,jd (World.ownsMap_made _ _ _ _),jd (by rw[List.take_zero];exact RD.empty),jd ((Fr.refl _ _).alloc _)⟩
 case round=>
 obtain⟨k,D,hk,rfl,HO,HD,HF⟩:=hrel;by_cases hlt:k<n;rotate_left
 · obtain rfl:k=n:=by omega
   go_wp2;go_ret;exact⟨_,rfl,⟨_,D,rfl,HO.o,by have:=HD.o;rwa [HN.o,List.take_length]at this⟩,HF.o⟩
 have fY:k<l.length:=by have:=HN.o;omega
 obtain⟨b,o,rfl,d1,d2⟩:=(New.terms HF.o HX.o).at fY;have hb:=HE.o (l.getD k (0,0)) (by rw[jc,je fY];exact jM fY);have ht:=PG fY;have hz:=p6 (jJ (size_take l (k+1)) HS.o) (l.getD k (0,0)).1;obtain⟨e1,H1⟩:=jb ((l.getD k (0,0)).1);obtain⟨e2,H2⟩:=jb ((l.getD k (0,0)).2);rw[<-H1.o]at d1 hb ht hz;rw[<-H2.o]at d2 ht;rw[ht,Pl.gN,Pl.cO,Pl.gM,if_pos rfl,Int.add_zero]at hz;obtain⟨b1,b2⟩:=hb;obtain⟨q,HQ⟩:=jb (Pl.co (l.take k) e1);rw[<-HQ.o]at hz
 have z1:-1000000000000000000<=q+e2:=by omega
 have z2:q+e2<=1000000000000000000:=by omega
 clear hz;have HT:=jd ht;clear ht;have z3:=p6 (jJ (size_take l k) HS.o) e1;rw[<-HQ.o]at z3
 have z5:-1000000000000000000<=q:=by omega
 have z6:q<=1000000000000000000:=by omega
 clear z3
 go_wp2_with (first
  |(at_lookup;refine wpList_lookup_own_int _ rfl _ _ 59 rfl 3 3 .i64 iW sR underlying3 (qi _) w.heap.size k _ rfl (ownsMap.alloc HO.o _) _ _ rfl (Maps.keyOf_int_mk underlying3 (lg (by omega))) ?_;intro cc hat hwc;obtain⟨HC,c1,c2,c3,c4⟩:=A9 HD.o HQ.o hat z1 z2 z5 z6;have c5:-2000000000000000000<=e2:=(by omega);have c6:e2<=2000000000000000000:=(by omega);clear hat hwc)
  |(at_mapUpdate;refine wpList_mapUpdate_own _ rfl _ _ _ 59 rfl 3 3 iW sR _ w.heap.size k _ rfl (ownsMap.alloc HO.o _) (by unfold maxLen;omega) _ _ _ rfl rfl (Maps.keyOf_int_mk underlying3 (lg (by omega))) _ [] (plainElem_int underlying3 (lg (by omega))) ?_;intro w2 dz hg2)
  |go_in)
 have Wp:=jd dz;have Z0:=jd hg2;clear dz hg2;go_wp2;go_roundw
 case rel=>exact⟨k+1,_,by omega,by go_num,Wp,jd (by rw[HT.o];exact RD.put HD.o (by rw[HC.o,HQ.o])),jd ((Fr.alloc HF.o _).grown Z0.o λk ek=>.inr (by cases ek;exact jH _))⟩
 case measure=>simp[intOf];omega
open Go.RowKit
theorem nZ{l:List T}(h:May l):Hc 1000000000 l:=λt ht=>by have:=(h.2.2 t ht).1;omega
theorem ID{l:List T}{S:Nat}(h:∀t∈l,t.2.natAbs<=S):Pl.size l<=l.length*S:=by
 induction l with
 |nil=>exact Nat.zero_le _
 |cons t l ih=>
  have h1:=h t (by simp)
  have h2:=ih λu hu=>h u (by simp[hu])
  rw[Pl.size_cons,jE,Nat.add_mul];omega
theorem mE{l:List T}(h:May l):Pl.size l<=64000000:=by
 have h1:=ID (l:=l) (S:=1000000) λt ht=>by have:=(h.2.2 t ht).2;omega
 have h2:l.length*1000000<=64*1000000:=Nat.mul_le_mul_right _ h.1;omega
def ve(l:List T)(w:World)(e:Ending)(w':World):Prop:=∃m v,Is m l/\e=.returned (.tuple #[v,.int .i64 0])/\vu 0 w' v m/\New w w'
theorem Km(va vb:Value)(la lb:List T)(w:World)(ha:Ts w va la)(hb:Ts w vb lb)(ma:May la)(mb:May lb):
 Calls prog 43 #[va,vb,.func (.func 42) #[] #[]] w (ve (la++lb) w):=by
 have HA:=jd ha;have HB:=jd hb;have MA:=jd ma;have MB:=jd mb;clear ha hb ma mb
 go_enter func43,ntmps43
 go_wp2_with fail;refine(A7 _ la _ HA.o MA.o).mono ?_;rintro e w1 ⟨rfl,zq⟩;have k9:=jd zq;clear zq;go_wp2_with fail;refine(A7 _ lb _ (ts k9.o HB.o) MB.o).mono ?_;rintro e w2 ⟨rfl,JI⟩;have sf:=jd (k9.o.trans JI);clear JI;go_wp2_with fail;refine(Gc _ la _ (ts sf.o HA.o) (by have:=MA.o.1;omega) (nZ MA.o) (by have:=mE MA.o;omega)).mono ?_;rintro e w3 ⟨x,rfl,hx,hn3⟩;have qY:=jd (sf.o.trans hn3);have HX:=jd hx;clear hn3 hx;go_wp2_with fail
 refine(Gc _ lb _ (ts qY.o HB.o) (by have:=MB.o.1;omega) (nZ MB.o) (by have:=mE MB.o;omega)).mono ?_;rintro e w4 ⟨y,rfl,hy,W4⟩;have HF4:=jd (qY.o.trans W4);have HX4:=jd (wk W4 HX.o);have HY:=jd hy;clear W4 hy;go_wp2_with fail;refine(EG _ _ la lb la.length lb.length _ HX4.o HY.o (by have:=MA.o.1;have:=MB.o.1;omega) (nZ MB.o) (by have:=mE MA.o;have:=mE MB.o;omega)).mono ?_;rintro e w5 ⟨z,rfl,hz,YD⟩;have Z2:=jd (HF4.o.trans YD);have HZ:=jd hz;clear YD hz;go_wp2_with fail
 refine(uV _ _ _ _ HZ.o (by have:=MA.o.1;have:=MB.o.1;omega)).mono ?_;rintro e w6 ⟨m,hm,v,rfl,hv,YC⟩;have Nq:=jd (Z2.o.trans YC);have HM:=jd hm;have HV:=jd hv;clear YC hm hv;go_wp2;go_ret2;exact⟨m,v,HM.o,rfl,HV.o,Nq.o⟩
theorem Kl(va vb:Value)(la lb:List T)(w:World)(ha:Ts w va la)(hb:Ts w vb lb)(ma:May la)(mb:May lb):
 Calls prog 43 #[va,vb,.func (.func 41) #[] #[]] w (ve (mul la lb) w):=by
 have HA:=jd ha;have HB:=jd hb;have MA:=jd ma;have MB:=jd mb;clear ha hb ma mb
 go_enter func43,ntmps43
 go_wp2_with fail;refine(A7 _ la _ HA.o MA.o).mono ?_;rintro e w1 ⟨rfl,zq⟩;have k9:=jd zq;clear zq;go_wp2_with fail;refine(A7 _ lb _ (ts k9.o HB.o) MB.o).mono ?_;rintro e w2 ⟨rfl,JI⟩;have sf:=jd (k9.o.trans JI);clear JI;go_wp2_with fail;refine(Gc _ la _ (ts sf.o HA.o) (by have:=MA.o.1;omega) (nZ MA.o) (by have:=mE MA.o;omega)).mono ?_;rintro e w3 ⟨x,rfl,hx,hn3⟩;have qY:=jd (sf.o.trans hn3);have HX:=jd hx;clear hn3 hx;go_wp2_with fail
 refine(Gc _ lb _ (ts qY.o HB.o) (by have:=MB.o.1;omega) (nZ MB.o) (by have:=mE MB.o;omega)).mono ?_;rintro e w4 ⟨y,rfl,hy,W4⟩;have HF4:=jd (qY.o.trans W4);have HX4:=jd (wk W4 HX.o);have HY:=jd hy;clear W4 hy;go_wp2_with fail;refine(BG _ _ la lb la.length lb.length _ HX4.o HY.o (by have:=Nat.mul_le_mul MA.o.1 MB.o.1;omega) (nZ MA.o) (nZ MB.o) (by have:=Nat.mul_le_mul (mE MA.o) (mE MB.o);omega)).mono ?_;rintro e w5 ⟨z,rfl,hz,YD⟩;have Z2:=jd (HF4.o.trans YD);have HZ:=jd hz;clear YD hz
 go_wp2_with fail;refine(uV _ _ _ _ HZ.o (by have:=Nat.mul_le_mul MA.o.1 MB.o.1;omega)).mono ?_;rintro e w6 ⟨m,hm,v,rfl,hv,YC⟩;have Nq:=jd (Z2.o.trans YC);have HM:=jd hm;have HV:=jd hv;clear YC hm hv;go_wp2;go_ret2;exact⟨m,v,HM.o,rfl,HV.o,Nq.o⟩
theorem V7(va vb:Value)(la lb:List T)(w:World)(ha:Ts w va la)(hb:Ts w vb lb)(ma:May la)(mb:May lb):
 Calls prog 23 #[va,vb] w (ve (la++lb) w):=by
 have CC:=jd (Km va vb la lb w ha hb ma mb);clear ha hb ma mb
 go_enter Tryz.func23,Tryz.ntmps23
 go_wp2_with fail
 refine CC.o.mono ?_
 rintro e w1 ⟨m,v,hm,rfl,hv,hn⟩;have HM:=jd hm;have HV:=jd hv;have HN:=jd hn;clear hm hv hn;go_wp2;go_ret2;exact⟨m,v,HM.o,rfl,HV.o,HN.o⟩
theorem EI(va vb:Value)(la lb:List T)(w:World)(ha:Ts w va la)(hb:Ts w vb lb)(ma:May la)(mb:May lb):
 Calls prog 9 #[va,vb] w (zT (la++lb) w):=by
 have CC:=jd (V7 va vb la lb w ha hb ma mb);clear ha hb ma mb
 go_enter Tryz.func9,Tryz.ntmps9
 go_wp2_with fail
 refine CC.o.mono ?_
 rintro e w1 ⟨m,v,hm,rfl,hv,hn⟩;have HM:=jd hm;have HV:=jd hv;have HN:=jd hn;clear hm hv hn;go_wp2;go_ret;exact⟨m,HM.o,v,rfl,HV.o,HN.o⟩
theorem Ua(va vb:Value)(la lb:List T)(w:World)(ha:Ts w va la)(hb:Ts w vb lb)(ma:May la)(mb:May lb):
 Calls prog 24 #[va,vb] w (ve (mul la lb) w):=by
 have CC:=jd (Kl va vb la lb w ha hb ma mb);clear ha hb ma mb
 go_enter Tryz.func24,Tryz.ntmps24
 go_wp2_with fail
 refine CC.o.mono ?_
 rintro e w1 ⟨m,v,hm,rfl,hv,hn⟩;have HM:=jd hm;have HV:=jd hv;have HN:=jd hn;clear hm hv hn;go_wp2;go_ret2;exact⟨m,v,HM.o,rfl,HV.o,HN.o⟩
open Go.RowKit Go.Shelf
open Kn (E2 L2 cf F2 Kh bM)
def J3(t:E2×Int):T:=(t.1.2,t.2*Pl.dJ t.1.1)
theorem Ff{X:List Kn.Cr}{LN:Nat}{l:L2}(h:Kn.Ok X)(h6:X.length<=6)(hL:LN<=2)(hF:F2 l)(hl:∀a,cf l a=Kh X LN (bM X LN) a):l.length<=1000:=by
 have rb:=h.xr h6 hL hF hl
 have nd:(l.map λt=>((t.1.1+6).toNat,(t.1.2+26).toNat)).Nodup:=by
  rw[List.Nodup,List.pairwise_map]
  refine List.Pairwise.imp_of_mem ?_ hF.ord
  intro a b ha hb hlt e;have h1:=rb a ha;have h2:=rb b hb;have e1:=congrArg Prod.fst e;have e2:=congrArg Prod.snd e;simp only at e1 e2;have e3:a.1=b.1:=Prod.ext (by omega) (by omega);rw[e3]at hlt;exact Kn.uS _ hlt
 have:=Kn.tN nd (m:=(List.range 14).flatMap λi=>(List.range 53).map λj=>(i,j)) λx hx=>by
  obtain⟨t,ht,rfl⟩:=jv.1 hx;have h1:=rb t ht;exact List.mem_flatMap.2 ⟨(t.1.1+6).toNat,jw.2 (by omega),jv.2 ⟨(t.1.2+26).toNat,jw.2 (by omega),rfl⟩⟩
 rw[jA]at this;exact jJ this (by decide +kernel)
def aeZ(X:List Kn.Cr)(L:Int)(w:World)(e:Ending)(w':World):Prop:=
 New w w'/\((mZ X L=0/\∃(LN:Nat) (v:Value) (l:L2) (m:List T),L=(LN:Int)/\e=.returned (.tuple #[v,.int .i64 0])/\Hd (vu 0 w' v m)/\Hd (Is m (l.map J3))/\Hd (F2 l/\∀a,cf l a=Kh X LN (bM X LN) a))\/(mZ X L≠0/\e=.returned (.tuple #[.slice none 0 0,.int .i64 (mZ X L:Nat)])))
theorem adQ(a:Option Addr)(n c:Nat)(X:List Kn.Cr)(L:Int)(w:World)(hx:bV w a X)(hn:n=X.length)(lx:n<=9223372036854775807)(l1:-9223372036854775808<=L)(l2:L<=9223372036854775807):
 Calls prog 7 #[.agg #[.slice a n c,.int .i64 L]] w (aeZ X L w):=by
 have HN:=jd hn;have HX:=jd hx;clear hx hn;have Ai:=@run_makeMap prog
 go_enter Tryz.func7,Tryz.ntmps7
 go_wp2_with fail;have JO:New w (w.alloc (.cells #[.slice a n c,.int .i64 L] 24)):=(Fr.refl _ _).alloc _;refine(FZ a n c X L _ (New.uh JO HX.o) HN.o lx l1 l2).mono ?_;rintro e w1 ⟨hF,h5⟩;have HF:Hd (New w w1):=jd (JO.trans hF);clear JO hF
 rcases h5 with⟨hc,LN,a1,m1,c1,l,rfl,rfl,Aj,hT,hl⟩|⟨hc,rfl⟩
 rotate_left
 · obtain⟨q,HQ⟩:=jb (mZ X L)
   rw[<-HQ.o]at hc
   have hq:((q:Int)==0)=false:=by simp;exact hc
   have hq2:((q:Int) != 0)=true:=by simp;exact hc
   rw[<-HQ.o];have HC:=jd hc;clear hc;go_wp2;go_ret2;exact⟨HF.o,.inr ⟨by rw[<-HQ.o];exact HC.o,by rw[<-HQ.o];rfl⟩⟩
 obtain⟨wO,h6,hL,_,_,_,_⟩:=Gs hc;have hlen:=Ff wO h6 (by omega) hl.out.1 hl.out.2.1;have hrb:=wO.xr h6 (by omega) hl.out.1 hl.out.2.1;rw[<-Aj.out]at hlen
 have sV:Hd (∀t∈l,(-6<=t.1.1/\t.1.1<=7)/\(-26<=t.1.2/\t.1.2<=26)/\-2200000<=t.2/\t.2<=2200000):=jd λt ht=>by
  have h1:=hrb t ht;have h2:=hl.out.2.2 t.1;rw[hl.out.1.at ht]at h2;omega
 have Bu:Hd (Pl.size (l.map J3)<=2200000000):=jd (by
  have h1:=ID (l:=l.map J3) (S:=2200000) λt ht=>by
   obtain⟨s,hs,rfl⟩:=jv.1 ht;have h2:=sV.o s hs;unfold J3
   show (s.2*Pl.dJ s.1.1).natAbs<=_
   unfold Pl.dJ
   split<;>omega
  rw[jA,<-Aj.out]at h1;have h2:m1*2200000<=1000*2200000:=Nat.mul_le_mul_right _ hlen
  omega)
 have HC:=jd hc;have HL:=jd hl.out;clear wO h6 hL hrb hc hl;obtain⟨mb,uq⟩:=jb w1.heap.size;obtain⟨w2,AM⟩:=jb (w1.alloc (.map #[] 0));have kZ:Hd (New w1 w2):=jd (by rw[AM.o];exact(Fr.refl _ _).alloc _);have Wp:Hd (OM w2 mb 0 (.map [])):=jd (by rw[AM.o,uq.o];exact World.ownsMap_made _ _ _ _);go_upto_region 5 with fail;rw[<-AM.o,<-uq.o];clear Ai;go_wp2_with fail
 go_loopw [20] (λi wr=>∃(k:Nat) (D:DataW Unit),k<=m1/\i=.int .i64 k/\Hd (OM wr mb k D)/\Hd (RD D ((l.take k).map J3))/\Hd (New w1 wr)) (λi _=>m1-(intOf i).toNat)
 case atStart=>exact⟨0,.map [],by omega,rfl,Wp,jd RD.empty,kZ⟩
 case round=>
 obtain⟨k,D,hk,rfl,HO,HD,FE⟩:=hrel;by_cases hlt:k<m1;rotate_left
 · obtain rfl:m1=k:=by omega
   have HRD:Hd (RD D (l.map J3)):=jd (by have h:=HD.o;rwa [List.take_of_length_le (by have:=Aj.out;omega)]at h);have aaV:=uV (.map (some mb)) (l.map J3) m1 wr ⟨mb,D,rfl,HO.o,HRD.o⟩ (by omega);have HFM:=jd aaV;clear aaV;go_wp2_with fail
   refine HFM.o.mono ?_
   rintro e w5 ⟨m,hm,v,rfl,hv,hF⟩;have vO:Hd (New w w5):=jd ((HF.o.trans FE.o).trans hF);have HV:=jd hv;have HM:=jd hm;clear hm hv hF;go_wp2;go_ret2;exact⟨vO.o,.inl ⟨HC.o,LN,v,l,m,rfl,rfl,HV,HM,jd ⟨HL.o.1,HL.o.2.1⟩⟩⟩
 have fY:k<l.length:=by have:=Aj.out;omega
 obtain⟨b,o,rfl,d1,d2,d3⟩:=(New.t2 FE.o hT.out).at fY
 have xY:wX l k∈l:=by unfold wX;rw[jc,je fY];exact jM fY
 have hb:=sV.o _ xY
 have ht:(l.take (k+1)).map J3=(l.take k).map J3++[J3 (wX l k)]:=by
  rw[jq fY,jP];unfold wX
  rw[jc,je fY];rfl
 obtain⟨x,H1⟩:=jb ((wX l k).1.1);obtain⟨z,H2⟩:=jb ((wX l k).1.2);obtain⟨co,H3⟩:=jb ((wX l k).2)
 have hel:J3 (wX l k)=(z,co*Pl.dJ x):=by unfold J3;rw[H1.o,H2.o,H3.o]
 rw[hel]at ht;rw[<-H1.o]at d1 hb;rw[<-H2.o]at d2 hb;rw[<-H3.o]at d3 hb;obtain⟨⟨b1,b2⟩,⟨b3,b4⟩,b5,b6⟩:=hb
 have hs1:Pl.size ((l.take k).map J3)<=Pl.size (l.map J3):=by rw[List.map_take];exact size_take _ k
 have z3:=p6 (jJ hs1 Bu.o) z;obtain⟨q,HQ⟩:=jb (Pl.co ((l.take k).map J3) z);rw[<-HQ.o]at z3
 have z5:-1000000000000000000<=q:=by omega
 have z6:q<=1000000000000000000:=by omega
 have z7:-3000000000<=q:=by omega
 have z8:q<=3000000000:=by omega
 have HT:=jd ht;have Sc:bits .and .i64 x 1=x%2:=aiF (by omega) (by omega);obtain⟨s,HS⟩:=jb (x%2)
 have i1:(0:Int)<=(k:Int):=by omega
 have i2:(k:Int)<(m1:Int):=by omega
 rw[<-HS.o]at Sc;clear hel ht z3 hs1 xY
 rcases (show s=0\/s=1 by have:=HS.o;omega)with rfl|rfl
 focus
  have HSG:Hd (co*Pl.dJ x=co):=jd (by unfold Pl.dJ;rw[if_pos HS.o.symm,Int.mul_one])
  have z1:-1000000000000000000<=q+co:=by omega
  have z2:q+co<=1000000000000000000:=by omega
 rotate_left
 focus
  have HSG:Hd (co*Pl.dJ x = -co):=jd (by unfold Pl.dJ;rw[if_neg (by have:=HS.o;omega)];omega)
  have z1:-1000000000000000000<=q + -co:=by omega
  have z2:q + -co<=1000000000000000000:=by omega
 all_goals
  go_wp2_with (first
   |(at_lookup;refine wpList_lookup_own_int _ rfl _ _ 59 rfl 3 3 .i64 iW sR underlying3 (qi _) mb k _ rfl (ownsMap.alloc HO.o _) _ _ rfl (Maps.keyOf_int_mk underlying3 (lg (by omega))) ?_;intro cc hat hwc;obtain⟨HC,c1,c2,c3,c4⟩:=A9 HD.o HQ.o hat z1 z2 z5 z6;clear hat hwc)
   |(at_mapUpdate;refine wpList_mapUpdate_own _ rfl _ _ _ 59 rfl 3 3 iW sR _ mb k _ rfl (ownsMap.alloc HO.o _) (by unfold maxLen;omega) _ _ _ rfl rfl (Maps.keyOf_int_mk underlying3 (lg (by omega))) _ [] (plainElem_int underlying3 (lg (by omega))) ?_;intro w2 dz hg2)
   |go_in)
  have Wp:=jd dz;have Z0:=jd hg2;clear dz hg2;go_wp2;go_roundw
  case rel=>exact⟨k+1,_,by omega,by go_num,Wp,jd (by rw[HT.o,HSG.o];exact RD.put HD.o (by rw[HC.o,HQ.o])),jd ((Fr.alloc FE.o _).grown Z0.o λk ek=>.inr (by cases ek;rw[uq.o];exact jH _))⟩
  case measure=>simp[intOf];omega
open Go.RowKit
def vM(w:World)(g:Nat)(gs:List Int):Prop:=∀i,i<gs.length->w.cell? ⟨g,i,none⟩=some (.int .i64 (gs.getD i 0))
theorem vM.new{w w':World}{g:Nat}{gs:List Int}(h:vM w g gs)(k:New w w'):vM w' g gs:=λi hi=>k.cell (h i hi) λx=>x
theorem QD(g n c:Nat)(gs:List Int)(v:Int)(w:World)(h:vM w g gs)(hn:n=gs.length)(hl:n<=16):
 Calls prog 50 #[.slice (some ⟨g,0,none⟩) n c,.int .i64 v] w (λe w'=>(∃r,e=.returned (.int .i64 r)/\(0<=r↔v∈gs))/\w'=w):=by
 have HN:=jd hn;have H:=jd h;clear hn h
 go_enter Tryz.func50,Tryz.ntmps50
 go_wp2
 go_loop [8] (λi=>∃k:Nat,k<=n/\i=.int .i64 k/\Hd (∀j,j<k->gs.getD j 0≠v)) (λi=>n-(intOf i).toNat)
 case atStart=>exact⟨0,by omega,rfl,jd λj hj=>by omega⟩
 case round=>
 obtain⟨k,hk,rfl,HQ⟩:=hrel;by_cases hkn:k<n;rotate_left
 · obtain rfl:k=n:=by omega
   go_wp2;go_ret;refine⟨⟨_,rfl,?_⟩,rfl⟩;constructor
   · intro h;omega
   intro h;obtain⟨i,hi,e⟩:=List.mem_iff_getElem.1 h;exact absurd (by rw[jc,je hi];exact e) (HQ.o i (by have:=HN.o;omega))
 have hc:=H.o k (by have:=HN.o;omega)
 have i1:(0:Int)<=(k:Int):=by omega
 have i2:(k:Int)<(n:Int):=by omega
 obtain⟨u,HU⟩:∃u,Hd (gs.getD k 0=u):=⟨_,jd rfl⟩
 rw[HU.o]at hc;by_cases OE:v=u
 · have hb:(v==u)=true:=by simpa using OE
   go_wp2;go_ret;refine⟨⟨_,rfl,?_⟩,rfl⟩;constructor
   · intro _
     first|rw[<-HU.o]|rw[OE,<-HU.o]
     have hkg:k<gs.length:=by have:=HN.o;omega
     rw[jc,je hkg];exact jM hkg
   intro _;omega
 have hb:(v==u)=false:=by simpa using OE
 go_wp2
 go_round
 case rel=>
  refine⟨k+1,by omega,by go_num,jd λj hj=>?_⟩;by_cases e:j=k
  · rw[e,HU.o];exact λk=>OE k.symm
  exact HQ.o j (by omega)
 case measure=>simp[intOf];omega
theorem yn(g n c:Nat)(gs:List Int)(v:Int)(w:World)(h:vM w g gs)(hn:n=gs.length)(hl:n<=16):
 Calls prog 133 #[.slice (some ⟨g,0,none⟩) n c,.int .i64 v] w (λe w'=>e=.returned (.bool (decide (v∈gs)))/\w'=w):=by
 have HN:=jd hn;have H:=jd h;clear hn h
 obtain⟨r,HR⟩:∃r,Hd (decide (v∈gs)=r):=⟨_,jd rfl⟩
 rw[HR.o]
 go_enter Tryz.func133,Tryz.ntmps133
 go_wp2_with fail;refine(QD g n c gs v _ H.o HN.o hl).mono ?_;rintro e w' ⟨⟨x,rfl,hx⟩,rfl⟩;have HX:Hd (decide (0<=x)=r):=jd (by rw[<-HR.o,jD,jh,jh];exact hx);clear hx;go_wp2;go_ret;exact⟨cq HX.o,rfl⟩
open Go.RowKit
theorem Px(Bn Bc rn rc m a u v:Nat)(w:World)(hn:w.cell? ⟨Bn,0,none⟩=some (.slice (some ⟨rn,0,none⟩) m m))(hc:w.cell? ⟨Bc,0,none⟩=some (.slice (some ⟨rc,0,none⟩) m m))
 (hu:w.cell? ⟨rc,a,none⟩=some (.int .i64 u)) (hv:w.cell? ⟨rn,u,none⟩=some (.int .i64 v)) (ha:a<m) (hum:u<m):
 Calls prog 134 #[.int .i64 a,.pointer (some ⟨Bn,0,none⟩),.pointer (some ⟨Bc,0,none⟩)] w (λe w'=>e=.returned (.int .i64 v)/\New w w'):=by
 have i1:(0:Int)<=(a:Int):=by omega
 have i2:(a:Int)<(m:Int):=by omega
 have i3:(0:Int)<=(u:Int):=by omega
 have i4:(u:Int)<(m:Int):=by omega
 go_enter Tryz.func134,Tryz.ntmps134
 go_wp2_with fail
 go_quiet (fail)
 go_wp2;go_ret;exact⟨rfl,(Fr.refl _ _).drewN _⟩
end Go.Proofs.YtfplmbmenjdlhaaGreatDoor
