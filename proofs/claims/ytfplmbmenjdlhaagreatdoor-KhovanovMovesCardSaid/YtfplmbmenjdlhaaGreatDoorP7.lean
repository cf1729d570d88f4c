/- Maps of coefficients: words. -/
import Derived.Test.YtfplmbmenjdlhaaGreatDoorP2
set_option maxRecDepth 100000
set_option maxHeartbeats 16000000
namespace Go.Proofs.YtfplmbmenjdlhaaGreatDoor
open Go.RowKit
open Maps (has keyOf_int_mk)
open Pl (T co gN gM mul qx fp)
open Go.Proofs.Tryz (prog underlying3)
variable {D:DataW Unit} {S:Nat} {w:World}
theorem iW:Maps.Keyed prog 3:=Maps.int_keyed underlying3
theorem qi(w:World):(zeroValue 3).run prog w=.ok (.int .i64 0) w:=by kernel_rfl
theorem sR:prog.underlying 59=some (.map 3 3):=by kernel_rfl
structure RD(D:DataW Unit)(l:List T):Prop where
 isMap:Maps.IsMap D
 val:∀e,D.atKey (.int .i64 e) (.lit (.int .i64 0))=.lit (.int .i64 (co l e))
 key:∀e,has D (.int .i64 e)=true->∃t∈l,t.1=e
theorem RD.empty:RD (.map []) []:=⟨Maps.isMap_empty,λ_=>rfl,λe h=>by cases h⟩
theorem RD.put{D:DataW Unit}{l:List T}(h:RD D l){e c v:Int}(hv:v=co l e+c):RD (D.put (.int .i64 e) (.lit (.int .i64 v))) (l++[(e,c)]):=by
 have hk:WideAt.IsKeyLit (.int .i64 e):=trivial;refine⟨h.isMap.put _ _,λx=>?_,λx hx=>?_⟩
 · by_cases c0:x=e
   · subst c0
     rw[Maps.atKey_put_same h.isMap hk,gN,Pl.cO,gM,if_pos rfl,hv];simp
   have hne:(Lit.int .i64 x)≠.int .i64 e:=λz=>c0 (by injection z)
   rw[Maps.atKey_put_other hne,h.val,gN,Pl.cO,gM,if_neg λz=>c0 z.symm];simp
 by_cases c0:x=e
 · exact⟨(e,c),by simp,c0.symm⟩
 have hne:(Lit.int .i64 x)≠.int .i64 e:=λz=>c0 (by injection z)
 rw[Maps.has_put_other hne]at hx;obtain⟨t,ht,he⟩:=h.key x hx;exact⟨t,by simp[ht],he⟩
theorem RD.congr{l l':List T}(h:RD D l)(hc:∀e,co l e=co l' e)(hk:∀t∈l,∃u∈l',u.1=t.1):RD D l':=
 ⟨h.isMap,λe=>by rw[h.val,hc],λe he=>by
  obtain⟨t,ht,rfl⟩:=h.key e he
  exact hk t ht⟩
theorem RD.A4{l:List T}(h:RD D l){e:Int}(he:has D (.int .i64 e)=false):co l e=0:=by
 have:=h.val e;rw[Maps.atKey_of_not_has he]at this
 injection this with this
 injection this with _ this
 exact this.symm
theorem RD.start{D:DataW Unit}{l:List T}(h:RD D l):Pl.Part l (λe=>has D (.int .i64 e)) []:=Pl.Part.start λ_ he=>h.A4 he
theorem RD.at{D:DataW Unit}{l:List T}(h:RD D l){x c:Int}(hat:∀zd,D.atKey (.int .i64 x) zd=.lit (.int .i64 c)):c=co l x/\∃t∈l,t.1=x:=by
 refine⟨?_,h.key x (Maps.has_true_of_atKey hat)⟩;have:=hat (.lit (.int .i64 0));rw[h.val]at this
 injection this with this
 injection this with _ this
 exact this.symm
theorem RD.look{l:List T}(h:RD D l){x c:Int}(hat:D.atKey (.int .i64 x) (.lit (.int .i64 0))=.lit (.int .i64 c)):c=co l x:=by
 rw[h.val]at hat
 injection hat with hat
 injection hat with _ hat
 exact hat.symm
theorem A9{l:List T}(h:RD D l){x c q y:Int}(hq:q=co l x)(hat:D.atKey (.int .i64 x) (.lit (.int .i64 0))=.lit (.int .i64 c))
 (z1:-1000000000000000000<=q+y) (z2:q+y<=1000000000000000000) (z5:-1000000000000000000<=q) (z6:q<=1000000000000000000):
 Hd (c=q)/\-1000000000000000000<=c/\c<=1000000000000000000/\-1000000000000000000<=c+y/\c+y<=1000000000000000000:=by
 have e:c=q:=by rw[hq];exact h.look hat
 exact⟨jd e,by rw[e];exact z5,by rw[e];exact z6,by rw[e];exact z1,by rw[e];exact z2⟩
theorem IJ(x e:Int):(Lit.int .i64 e).sameKey (.int .i64 x)=decide (e=x):=by simp[Lit.sameKey]
abbrev OM(w:World)(b n:Nat)(D:DataW Unit):Prop:=w.ownsMap prog 3 (plainElem prog 3) b n D
def Wk(w:World)(v:Value)(l:List T)(n:Nat):Prop:=∃b D,v=.map (some b)/\OM w b n D/\RD D l
theorem New.om{w':World}(h:New w w'){b n:Nat}(ho:OM w b n D):OM w' b n D:=by
 obtain⟨es,clock,hb,r⟩:=ho;exact⟨es,clock,(h.block b (jf.1 hb).1 (λx=>x)).trans hb,r⟩
theorem New.wk{w':World}(h:New w w'){v:Value}{l:List T}{n:Nat}(hw:Wk w v l n):Wk w' v l n:=by
 obtain⟨b,D,rfl,ho,hr⟩:=hw;exact⟨b,D,rfl,h.om ho,hr⟩
theorem OM.size{w:World}{b n:Nat}{D:DataW Unit}(ho:OM w b n D):Maps.size D<=n:=by
 obtain⟨es,clock,hb,hf,hn,rfl⟩:=ho;rw[Maps.size_eq,length_sorted];simpa using hn
def Pt(l:List T)(n:Nat)(w:World)(e:Ending)(w':World):Prop:=∃v,e=.returned v/\Wk w' v l n/\New w w'
theorem PG{l:List T}{k:Nat}(hk:k<l.length):l.take (k+1)=l.take k++[((l.getD k (0,0)).1,(l.getD k (0,0)).2)]:=by
 rw[jq hk,jc,je hk];rfl
theorem size_take(l:List T)(k:Nat):Pl.size (l.take k)<=Pl.size l:=by
 conv=>rhs;rw[<-List.take_append_drop k l,fp]
 omega
def Hc(N:Int)(l:List T):Prop:=∀t∈l,-N<=t.1/\t.1<=N
open Go.RowKit
theorem MW(b n:Nat)(D:DataW Unit)(w:World)(hown:OM w b n D):
 Calls prog 76 #[.map (some b)] w λe w'=>e=.returned (.map (some w.heap.size))/\OM w' w.heap.size n D/\OM w' b n D/\Below w.heap.size w w':=
 AnyW.maps_Clone_owns Tryz.cloneA 3 _ b n D w hown
abbrev RG(w:World)(b r n:Nat)(D:DataW Unit)(left:Lit->Bool)(cnt:Nat):Prop:=w.ranges prog 3 (plainElem prog 3) b r n D left cnt
structure AJ(w:World)(b r n:Nat)(D:DataW Unit)(l:List T)(left:Lit->Bool)(cnt:Nat)(done:List T):Prop where
 rg:RG w b r n D left cnt
 part:Pl.Part l (λe=>left (.int .i64 e)) done
theorem AJ.size{w:World}{b r n:Nat}{D:DataW Unit}{l:List T}{left:Lit->Bool}{cnt:Nat}{done:List T}(h:AJ w b r n D l left cnt done):Pl.size done<=Pl.size l:=h.part.size_le
theorem AJ.kept{w w':World}{row:Option Nat}{b r n:Nat}{D:DataW Unit}{l:List T}{left:Lit->Bool}{cnt:Nat}{done:List T}(h:AJ w b r n D l left cnt done)(hg:w.grownBy w' row)(hb:some b≠row)(hr:some r≠row):AJ w' b r n D l left cnt done:=
 ⟨h.rg.kept hg hb hr,h.part⟩
theorem AJ.start{w:World}{b r n:Nat}{D:DataW Unit}{l:List T}{cnt:Nat}(hD:RD D l)(h:RG w b r n D (has D) cnt):AJ w b r n D l (has D) cnt []:=⟨h,hD.start⟩
theorem AJ.step{w w':World}{b r n:Nat}{D:DataW Unit}{l:List T}{left:Lit->Bool}{cnt cnt':Nat}{done:List T}{x c:Int}(hD:RD D l)(h:AJ w b r n D l left cnt done)(OI:left (.int .i64 x)=true)(hat:∀zd,D.atKey (.int .i64 x) zd=.lit (.int .i64 c))
 (hr:RG w' b r n D (λz=>left z && !z.sameKey (.int .i64 x)) cnt'):AJ w' b r n D l (λz=>left z && !z.sameKey (.int .i64 x)) cnt' (done++[(x,c)]):=by
 obtain⟨h1,h2⟩:=hD.at hat;exact⟨hr,h.part.step OI (λ_=>by simp only[IJ]) h1 h2⟩
theorem AJ.all{b r n:Nat}{l:List T}{left:Lit->Bool}{cnt:Nat}{done:List T}(h:AJ w b r n D l left cnt done)(hl:∀kl,left kl=false):∀e,co done e=co l e:=h.part.aiG λ_=>hl _
theorem NK{l:List T}{x c:Int}(h:Pl.size (l++[(x,c)])<=S):-(S:Int)<=co l x+c/\co l x+c<=S/\-(S:Int)<=co l x/\co l x<=S:=by
 have h1:=Pl.p6 h x;rw[gN,Pl.cO,gM,if_pos rfl,Int.add_zero]at h1;rw[fp]at h;have h2:=Pl.p6 (l:=l) (S:=S) (by omega) x;exact⟨h1.1,h1.2,h2.1,h2.2⟩
theorem EG(va vb:Value)(la lb:List T)(na nb:Nat)(w:World)(ha:Wk w va la na)(hb:Wk w vb lb nb)(hn:na+nb<=1000000)(he:Hc 1000000000 lb)(hs:Pl.size la+Pl.size lb<=1000000000000000000):
 Calls prog 42 #[va,vb] w (Pt (la++lb) (na+nb) w):=by
 obtain⟨b,D,rfl,ho,hd⟩:=ha;obtain⟨b',D',rfl,mH,wC⟩:=hb;have hc:=MW b na D w ho;have hlt:=ho.lt;have YG:=mH.lt;have HO':=jd mH;have HD:=jd hd;have HD':=jd wC;have HE:=jd he;have HS:=jd hs;have HC:=jd hc;have HZ:=jd mH.size;clear ho mH hd wC he hs hc
 go_enter Tryz.func42,Tryz.ntmps42
 go_wp2_with fail;obtain⟨B,HB⟩:=jb w.heap.size
 refine HC.o.mono ?_
 rw[<-HB.o];rintro e w1 ⟨rfl,h1,_,hB⟩;have k9:Hd (New w w1):=jd (Fr.Gd (by rw[HB.o]at hB;exact hB) _);have RH:=jd h1;have aeq:=jd (New.om k9.o HO'.o);obtain⟨r,HR⟩:=jb w1.heap.size;clear h1 hB
 go_wp2_with (first
  |(at_range;refine wpList_range_own _ rfl _ 59 rfl 3 3 iW sR _ b' nb _ rfl aeq.o ?_;intro w0 hrg0 hg0 hs0)
  |go_in)
 go_frame;rw[<-HR.o]at hrg0 hs0 ⊢;have sW:Hd (New w w0):=jd (k9.o.grown hg0 λk ek=>by cases ek);have HO0:Hd (OM w0 B na D):=jd (RH.o.kept hg0 (by simp));have sY:=jd (AJ.start HD'.o hrg0)
 have hrB:B≠r:=by
  rw[HR.o];have:=RH.o.lt;omega
 have hbB:b'≠B:=by rw[HB.o];omega
 clear hrg0 hg0 hs0
 go_loopw [6,7] (λ_ _ wr=>∃(left:Lit->Bool) (cnt m:Nat) (sk:DataW Unit) (done:List T),m+cnt<=na+nb/\Hd (AJ wr b' r nb D' lb left cnt done)/\Hd (OM wr B m sk)/\Hd (RD sk (la++done))/\Hd (New w wr))
  (λ_ _ wr=>wr.rangeLeft b' r)
 case atStart=>exact⟨_,_,na,D,[],by have:=HZ.o;omega,sY,HO0,jd (by rw[List.append_nil];exact HD.o),sW⟩
 case round=>
 obtain⟨left,cnt,m,sk,done,hm,Hs,HO,Z3,HF⟩:=hrel
 go_wp2_with (first
  |(at_next;refine wpList_next_ranges_ii _ rfl _ rfl 3 3 .i64 .i64 iW underlying3 underlying3 b' r nb _ _ _ rfl Hs.o.rg ?_ ?_)
  |go_in)
 · intro hc0 hl0
   have ZW:=jd hl0;clear hl0;go_wp2;go_ret;exact⟨_,rfl,⟨_,sk,rfl,HO.o.mono (by omega),Z3.o.congr (λe=>by rw[gN,gN,Hs.o.all ZW.o]) (Pl.Ks (qx la) Hs.o.part.yf)⟩,HF.o⟩
 intro x c w2 Dj hwx hwc OI hat CQ hlt DT hs1 hen;have qh:Hd (AJ w2 b' r nb D' lb (λz=>left z && !z.sameKey (.int .i64 x)) Dj (done++[(x,c)])):=jd (Hs.o.step HD'.o OI hat CQ);have ajr:Hd (OM w2 B m sk):=jd (HO.o.kept DT (by simpa using hrB));have apX:Hd (New w w2):=jd (HF.o.grown DT λk ek=>.inr (by cases ek;rw[HR.o];exact k9.o.size));obtain⟨u,hu,UT⟩:=qh.o.part.yf (x,c) (by simp);have Gv:=HE.o u hu;rw[UT]at Gv
 have hsz:Pl.size ((la++done)++[(x,c)])<=1000000000000000000:=by
  rw[List.append_assoc,fp];have:=qh.o.size;have:=HS.o;omega
 have hbd:=NK hsz;obtain⟨q,HQ⟩:=jb (co (la++done) x);rw[<-HQ.o]at hbd
 have z1:-1000000000000000000<=q+c:=by omega
 have z2:q+c<=1000000000000000000:=by omega
 have z5:-1000000000000000000<=q:=by omega
 have z6:q<=1000000000000000000:=by omega
 have x1:-1000000000<=x:=Gv.1;have x2:x<=1000000000:=Gv.2;have ZT:=jd hlt;clear hwx hwc OI hat CQ DT hs1 hu UT Gv hsz hbd hlt
 go_wp2_with (first
  |(at_lookup;refine wpList_lookup_own_int _ rfl _ _ 59 rfl 3 3 .i64 iW sR underlying3 (qi _) B m _ rfl ajr.o _ _ rfl (keyOf_int_mk underlying3 (lg (by omega))) ?_;intro cc hat hwc;obtain⟨Hw,c1,c2,c3,c4⟩:=A9 Z3.o HQ.o hat z1 z2 z5 z6;have c5:-2000000000000000000<=c:=(by omega);have c6:c<=2000000000000000000:=(by omega);clear hat hwc)
  |(at_mapUpdate;refine wpList_mapUpdate_own _ rfl _ _ _ 59 rfl 3 3 iW sR _ B m _ rfl ajr.o (by unfold maxLen;omega) _ _ _ rfl rfl (keyOf_int_mk underlying3 (lg (by omega))) _ [] (plainElem_int underlying3 (lg (by omega))) ?_;intro w3 dz hg2;go_frame)
  |go_in)
 have Wp:=jd dz;have lO:=jd (qh.o.kept hg2 (by simpa using hbB) (by simpa using hrB.symm));have sf:Hd (New w w3):=jd (apX.o.grown hg2 λk ek=>.inr (by cases ek;rw[HB.o];exact jH _));clear dz hg2;go_roundw
 case rel=>exact⟨_,Dj,m+1,_,_,by have:=ZT.o;omega,lO,Wp,jd (by rw[<-List.append_assoc];exact RD.put Z3.o (by rw[Hw.o,HQ.o])),sf⟩
 case measure=>rw[lO.o.rg.left_eq,Hs.o.rg.left_eq];exact ZT.o
open Go.RowKit
theorem LR{c d:Int}{lo d2 lb done:List T}{x f:Int}(h:Pl.size (mul done lb++mul [(x,c)] (d2++[(f,d)]))<=S)(KZ:lo=mul done lb++mul [(x,c)] d2):
 Pl.size (lo++[(x+f,c*d)])<=S/\-(S:Int)<=c*d/\c*d<=S:=by
 rw[Pl.xH,<-List.append_assoc,<-KZ]at h;refine⟨h,?_⟩;rw[fp,Pl.size_cons]at h
 have:(c*d).natAbs<=S:=by
  have:((x+f,c*d):T).2.natAbs=(c*d).natAbs:=rfl;omega
 omega
theorem BG(va vb:Value)(la lb:List T)(na nb:Nat)(w:World)(ha:Wk w va la na)(hb:Wk w vb lb nb)(hn:na*nb<=1000000)(hea:Hc 1000000000 la)(heb:Hc 1000000000 lb)(hs:Pl.size la*Pl.size lb<=1000000000000000000):
 Calls prog 41 #[va,vb] w (Pt (mul la lb) (na*nb) w):=by
 obtain⟨b,D,rfl,ho,hd⟩:=ha;obtain⟨b',D',rfl,mH,wC⟩:=hb;have hlt:=ho.lt;have YG:=mH.lt;have HO:=jd ho;have HO':=jd mH;have HD:=jd hd;have HD':=jd wC;have WD:=jd hea;have RP:=jd heb;have HS:=jd hs;have HZ:=jd ho.size;have HZ':=jd mH.size;obtain⟨N,HN⟩:=jb (na*nb);rw[<-HN.o]at hn ⊢;clear ho mH hd wC hea heb hs;have Ai:=@run_makeMap prog;obtain⟨B,HB⟩:=jb w.heap.size;obtain⟨wm,Lb⟩:=jb (w.alloc (.map #[] 0));obtain⟨r,HR⟩:=jb wm.heap.size
 have Sn:Hd (New w wm):=jd (by rw[Lb.o];exact(Fr.refl _ _).alloc _);have HOm:Hd (OM wm b na D):=jd (New.om Sn.o HO.o);have HO'm:Hd (OM wm b' nb D'):=jd (New.om Sn.o HO'.o);have Xm:Hd (OM wm B 0 (.map [])):=jd (by rw[Lb.o,HB.o];exact World.ownsMap_made _ _ _ _)
 have hBr:B≠r:=by
  rw[HR.o];have:=Xm.o.lt;omega
 have hb1:b≠B:=by rw[HB.o];omega
 have hb2:b'≠B:=by rw[HB.o];omega
 have hr1:b≠r:=by rw[HR.o];have:=Sn.o.size;omega
 have hr2:b'≠r:=by rw[HR.o];have:=Sn.o.size;omega
 go_enter Tryz.func41,Tryz.ntmps41
 go_wp2_with (first
  |(at_range;rw[<-Lb.o,<-HB.o];refine wpList_range_own _ rfl _ 59 rfl 3 3 iW sR _ b na _ rfl HOm.o ?_;intro w0 hrg0 hg0 hs0)
  |go_in)
 go_frame;rw[<-HR.o]at hrg0 hs0 ⊢;have sW:Hd (New w w0):=jd (Sn.o.grown hg0 λk ek=>by cases ek);have aep:Hd (OM w0 B 0 (.map [])):=jd (Xm.o.kept hg0 (by simp));have sY:=jd (AJ.start HD.o hrg0);clear hrg0 hg0 hs0
 go_loopw [6,7,8,9] (λ_ _ _ _ wr=>∃(left:Lit->Bool) (cnt m:Nat) (sk:DataW Unit) (done:List T),Hd (m+cnt*nb<=N)/\Hd (AJ wr b r na D la left cnt done)/\Hd (OM wr B m sk)/\Hd (RD sk (mul done lb))/\Hd (New w wr))
  (λ_ _ _ _ wr=>wr.rangeLeft b r)
 case atStart=>exact⟨_,_,0,.map [],[],jd (by rw[HN.o,Nat.zero_add];exact Nat.mul_le_mul_right _ HZ.o),sY,aep,jd RD.empty,sW⟩
 case round=>
 obtain⟨left,cnt,m,sk,done,HM,Hs,HOo,Z3,HF⟩:=hrel
 go_wp2_with (first
  |(at_next;refine wpList_next_ranges_ii _ rfl _ rfl 3 3 .i64 .i64 iW underlying3 underlying3 b r na _ _ _ rfl Hs.o.rg ?_ ?_)
  |go_in)
 · intro hc0 hl0
   have ZW:=jd hl0;clear hl0;go_wp2;go_ret;exact⟨_,rfl,⟨_,sk,rfl,HOo.o.mono (by have:=HM.o;omega),Z3.o.congr (Pl.mul_congr (Hs.o.all ZW.o) (λ_=>rfl) <| Pl.vL ·) (Pl.Jn Hs.o.part.yf (qx lb))⟩,HF.o⟩
 intro x c w2 Dj hwx hwc OI hat CQ QN DT hs1 hen;have qh:Hd (AJ w2 b r na D la (λz=>left z && !z.sameKey (.int .i64 x)) Dj (done++[(x,c)])):=jd (Hs.o.step HD.o OI hat CQ);have RH:Hd (OM w2 B m sk):=jd (HOo.o.kept DT (by simpa using hBr));have k9:Hd (New w w2):=jd (HF.o.grown DT λk ek=>.inr (by cases ek;rw[HR.o];exact Sn.o.size));have aeq:Hd (OM w2 b' nb D'):=jd (New.om k9.o HO'.o);obtain⟨u,hu,UT⟩:=qh.o.part.yf (x,c) (by simp);have Gv:=WD.o u hu;rw[UT]at Gv;have x1:-1000000000<=x:=Gv.1
 have x2:x<=1000000000:=Gv.2;have ZT:=jd QN
 have vP:Hd (m+nb+Dj*nb<=N):=jd (by
  have h1:=HM.o;have h2:(Dj+1)*nb<=cnt*nb:=Nat.mul_le_mul_right _ QN;rw[Nat.add_mul]at h2
  omega)
 obtain⟨s,HSs⟩:=jb w2.heap.size
 have hsr:s≠r:=by rw[HSs.o];have:=qh.o.rg.lt;omega
 have hsB:s≠B:=by rw[HSs.o];have:=RH.o.lt;omega
 have hsb:s≠b:=by rw[HSs.o];have:=k9.o.size;omega
 have ao7:Hd (w.heap.size<=s):=jd (by rw[HSs.o];exact k9.o.size);clear hwx hwc OI hat CQ DT hs1 hu UT Gv QN
 go_wp2_with (first
  |(at_range;refine wpList_range_own _ rfl _ 59 rfl 3 3 iW sR _ b' nb _ rfl aeq.o ?_;intro w3 hrg0 hg0 hs0)
  |go_in)
 go_frame;rw[<-HSs.o]at hrg0 hs0 ⊢;have qY:Hd (New w w3):=jd (k9.o.grown hg0 λk ek=>by cases ek);have HO3:Hd (OM w3 B m sk):=jd (RH.o.kept hg0 (by simp));have HI3:=jd (AJ.start HD'.o hrg0);have Fz:=jd (qh.o.kept hg0 (by simp) (by simp));clear hrg0 hg0 hs0
 go_loopw [8,9] (λ_ _ wi=>∃(Ut:Lit->Bool) (cnt2 m2:Nat) (D2:DataW Unit) (d2:List T),Hd (m2+cnt2<=m+nb)/\Hd (AJ wi b' s nb D' lb Ut cnt2 d2)/\Hd (AJ wi b r na D la (λz=>left z && !z.sameKey (.int .i64 x)) Dj (done++[(x,c)]))/\Hd (OM wi B m2 D2)/\Hd (RD D2 (mul done lb++mul [(x,c)] d2))/\Hd (New w wi))
  (λ_ _ wi=>wi.rangeLeft b' s)
 case atStart=>exact⟨_,_,m,sk,[],jd (Nat.add_le_add_left HZ'.o _),HI3,Fz,HO3,jd (by simpa[mul]using Z3.o),qY⟩
 case round=>
 obtain⟨Ut,cnt2,m2,D2,d2,nA,HI,HRo,HOi,HDi,HFi⟩:=hrel
 go_wp2_with (first
  |(at_next;refine wpList_next_ranges_ii _ rfl _ rfl 3 3 .i64 .i64 iW underlying3 underlying3 b' s nb _ _ _ rfl HI.o.rg ?_ ?_)
  |go_in)
 · intro hc0 hl0
   have ZW:=jd hl0;clear hl0;go_wp2;go_roundw
   case rel=>exact⟨_,Dj,m2,D2,_,jd (by have:=vP.o;have:=nA.o;omega),HRo,HOi,jd (HDi.o.congr (Pl.XV (HI.o.all ZW.o)) (by rw[Pl.Ol];exact Pl.Ks (qx _) (Pl.Jn (qx _) HI.o.part.yf))),HFi⟩
   case measure=>rw[HRo.o.rg.left_eq,Hs.o.rg.left_eq];exact ZT.o
 intro f d w5 aiz hwx hwc OI hat CQ YF DT hs1 hen2;have Ww:Hd (AJ w5 b' s nb D' lb (λz=>Ut z && !z.sameKey (.int .i64 f)) aiz (d2++[(f,d)])):=jd (HI.o.step HD'.o OI hat CQ);have HO5:Hd (OM w5 B m2 D2):=jd (HOi.o.kept DT (by simpa using hsB.symm));have HR5:=jd (HRo.o.kept DT (by simpa using hsb.symm) (by simpa using hsr.symm));have Z2:Hd (New w w5):=jd (HFi.o.grown DT λk ek=>.inr (by cases ek;exact ao7.o));obtain⟨u,hu,UT⟩:=Ww.o.part.yf (f,d) (by simp);have Gv:=RP.o u hu;rw[UT]at Gv;have f1:-1000000000<=f:=Gv.1
 have f2:f<=1000000000:=Gv.2;obtain⟨lo,Ht⟩:=jb (mul done lb++mul [(x,c)] d2);rw[<-Ht.o]at HDi;have hmo:=LR (jJ (Pl.Th HR5.o.size Ww.o.size) HS.o) Ht.o;obtain⟨p,HP⟩:=jb (c*d);rw[<-HP.o]at hmo;have hbd:=NK hmo.1;obtain⟨q,HQ⟩:=jb (co lo (x+f));rw[<-HQ.o]at hbd
 have p1:-1000000000000000000<=p:=by have:=hmo.2;omega
 have p2:p<=1000000000000000000:=by have:=hmo.2;omega
 have z1:-1000000000000000000<=q+p:=by omega
 have z2:q+p<=1000000000000000000:=by omega
 have z5:-1000000000000000000<=q:=by omega
 have z6:q<=1000000000000000000:=by omega
 have ajy:=jd YF
 have Gw:wrap64 (c*d)=p:=by rw[<-HP.o];exact IntWalk.wrap64_in _ (by omega)
 have JI:m2<=1000000:=by have:=nA.o;have:=vP.o;omega
 clear hwx hwc OI hat CQ DT hs1 hu UT Gv hmo hbd YF
 go_wp2_with (first
  |(at_lookup;refine wpList_lookup_own_int _ rfl _ _ 59 rfl 3 3 .i64 iW sR underlying3 (qi _) B m2 _ rfl HO5.o _ _ rfl (keyOf_int_mk underlying3 (lg (by omega))) ?_;intro cc hat hwc;obtain⟨Hw,c1,c2,c3,c4⟩:=A9 HDi.o HQ.o hat z1 z2 z5 z6;clear hat hwc)
  |(at_mapUpdate;refine wpList_mapUpdate_own _ rfl _ _ _ 59 rfl 3 3 iW sR _ B m2 _ rfl HO5.o (by unfold maxLen;omega) _ _ _ rfl rfl (keyOf_int_mk underlying3 (lg (by omega))) _ [] (plainElem_int underlying3 (lg (by omega))) ?_;intro w6 dz hg2;go_frame)
  |go_in)
 have HO6:=jd dz;have HI6:=jd (Ww.o.kept hg2 (by simpa using hb2) (by simpa using hsB));have Wm:=jd (HR5.o.kept hg2 (by simpa using hb1) (by simpa using hBr.symm));have Nq:Hd (New w w6):=jd (Z2.o.grown hg2 λk ek=>.inr (by cases ek;rw[HB.o];exact jH _));clear dz hg2;go_roundw
 case rel=>exact⟨_,aiz,m2+1,_,_,jd (by have:=ajy.o;have:=nA.o;omega),HI6,Wm,HO6,jd (by rw[Pl.xH,<-List.append_assoc,<-Ht.o,<-HP.o];exact RD.put HDi.o (by rw[Hw.o,HQ.o])),Nq⟩
 case measure=>rw[HI6.o.rg.left_eq,HI.o.rg.left_eq];exact ajy.o
end Go.Proofs.YtfplmbmenjdlhaaGreatDoor
