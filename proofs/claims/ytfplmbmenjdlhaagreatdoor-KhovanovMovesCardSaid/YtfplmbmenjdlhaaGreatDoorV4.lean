/- Walks: OnesCount, Sign, Turns, wind.Open, bracket.open. -/
import Derived.Test.YtfplmbmenjdlhaaGreatDoorJ2
set_option maxRecDepth 100000
set_option maxHeartbeats 16000000
namespace Go.Proofs.YtfplmbmenjdlhaaGreatDoor
open Go.RowKit
open BinOp (and or)
open BitVec (ofInt ofInt_natCast toNat_ofNat)
open Fr (refl)
open IntKind (i64 u64)
open Kn (Cr cr AA ml uJ aw eY ig)
open List (range)
open Go.Proofs.Tryz (func39 func73 ntmps39 ntmps73 prog)
def oc0(x:Int):Int:=u64.wrap (bits and u64 (x / 2) 6148914691236517205+bits and u64 x 6148914691236517205)
def oc1(x:Int):Int:=u64.wrap (bits and u64 (oc0 x / 4) 3689348814741910323+bits and u64 (oc0 x) 3689348814741910323)
def oc2(x:Int):Int:=bits and u64 (u64.wrap (oc1 x / 16+oc1 x)) 1085102592571150095
def oc3(x:Int):Int:=u64.wrap (oc2 x+oc2 x / 256)
def oc4(x:Int):Int:=u64.wrap (oc3 x+oc3 x / 65536)
def oc5(x:Int):Int:=u64.wrap (oc4 x+oc4 x / 4294967296)
def oc(x:Int):Int:=bits and i64 (wrap64 (oc5 x)) 127
theorem acA:((range 4096).all λx=>decide (oc ((x:Nat):Int)=((Kn.pop 12 x:Nat):Int)))=true:=by decide +kernel
theorem LL(x:Nat)(hx:x<4096)(w:World):Calls prog 73 #[.int .u64 x] w λe w'=>e=.returned (.int .i64 (Kn.pop 12 x:Nat))/\New w w':=by
 go_enter func73,ntmps73
 go_wp2_with fail;go_ret;refine⟨rG ?_,refl _ _⟩;exact jl (List.all_eq_true.1 acA x (jw.2 hx))
theorem TS(x:Nat)(hx:x<4096)(w:World):Calls prog 39 #[.int .u64 x] w λe w'=>e=.returned (.int .i64 (Kn.pop 12 x:Nat))/\New w w':=by
 have CC:=jd (LL x hx)
 go_enter func39,ntmps39
 go_wp2_with (go_at_call 73;refine(CC.o _).mono ?_;rintro e w4 ⟨rfl,hF⟩;have HF:=jd hF;clear hF)
 go_ret;exact⟨rfl,HF.o⟩
theorem xw:∀{n m st:Nat},st<2 ^ n->n<=m->Kn.pop m st=Kn.pop n st
 |0,0,_,_,_=>rfl
 |0,m+1,st,h,_=>by
  obtain rfl:st=0:=by simpa using h
  show 0%2+Kn.pop m (0 / 2)=0
  have:=xw (n:=0) (m:=m) (st:=0) (by simp) (by omega)
  rw[show 0 / 2=0 from rfl,this];rfl
 |n+1,m+1,st,h,hm=>by
  rw[Kn.pop,Kn.pop,xw (n:=n) (m:=m) (by rw[Nat.pow_succ]at h;omega) (by omega)]
def dJ(p:Bool):Int:=if p then 1 else -1
def wS(X:List Cr):Int:=X.foldr (λx s=>dJ x.p+s) 0
theorem S9(a b c d:Int)(p:Bool)(w:World):Calls prog 38 #[.agg #[.int .i64 a,.int .i64 b,.int .i64 c,.int .i64 d,.bool p]] w λe w'=>e=.returned (.int .i64 (dJ p))/\New w w':=by
 cases p
 all_goals
  go_enter Tryz.func38,Tryz.ntmps38
  go_wp2_with fail;go_ret;exact⟨rfl,(refl _ _).alloc _⟩
theorem Xw(X Y:List Cr):wS (X++Y)=wS X+wS Y:=by
 induction X with
 |nil=>simp[wS]
 |cons x X ih=>simp only[wS,List.cons_append,List.foldr_cons]at ih ⊢;rw[ih];omega
theorem Hz{X:List Cr}{k:Nat}(hk:k<X.length):wS (X.take (k+1))=wS (X.take k)+dJ (cr X k).p:=by
 rw[jq hk,Xw];unfold cr;rw[jc,je hk];simp[wS]
theorem Lf(X:List Cr):-(X.length:Int)<=wS X/\wS X<=X.length:=by
 induction X with
 |nil=>simp[wS]
 |cons x X ih=>
  simp only[wS,List.foldr_cons,jE]at ih ⊢
  have:-1<=dJ x.p/\dJ x.p<=1:=by cases x.p<;>decide
  omega
theorem PA(b:Nat)(X:List Cr)(L:Int)(w:World)(h:fS w b X L)(hl:X.length<=16):
 Calls prog 20 #[.pointer (some ⟨b,0,none⟩)] w λe w'=>e=.returned (.int .i64 (wS X))/\New w w':=by
 obtain⟨a1,c1,h0,_,iw⟩:=h.uh
 obtain⟨n,hn⟩:∃n,n=X.length:=⟨_,rfl⟩
 rw[<-hn]at h0 hl;have HN:=jd hn;have WG:=jd iw;clear h hn iw
 go_enter Tryz.func20,Tryz.ntmps20
 go_wp2;clear h0
 go_loopw [3,12] (λsv i wr=>∃k:Nat,k<=n/\i=.int .i64 k/\sv=.int .i64 (wS (X.take k))/\Hd (New w wr)) (λ_ i _=>n-(intOf i).toNat)
 case atStart=>exact⟨0,by omega,rfl,by simp[wS],jd (refl _ _)⟩
 case round=>
 obtain⟨k,hk,rfl,rfl,HF⟩:=hrel;by_cases hlt:k<n;rotate_left
 · obtain rfl:n=k:=by omega
   have HE:Hd (X.take n=X):=jd (List.take_of_length_le (by have:=HN.o;omega));go_wp2;go_ret;exact⟨rG (by rw[HE.o]),HF.o⟩
 have E9:k<X.length:=by have:=HN.o;omega
 obtain⟨bx,ox,rfl,hx⟩:=WG.o.at E9;obtain⟨xa,xb,xc,xd,xp,qV⟩:=Kn.qP X k;rw[qV.o]at hx
 obtain⟨x1,x2,x3,x4,x5⟩:=HF.o.Kd hx λx=>x
 have hb:=Lf (X.take k);rw[List.length_take]at hb;obtain⟨s,HS⟩:=jb (wS (X.take k));have HT:Hd (wS (X.take (k+1))=s+dJ xp):=jd (by rw[Hz E9,qV.o,HS.o]);rw[<-HS.o]at hb ⊢
 have b1:-16<=s:=by omega
 have b2:s<=16:=by omega
 have b3:-1<=dJ xp/\dJ xp<=1:=by cases xp<;>decide
 obtain⟨t,HTT⟩:=jb (dJ xp);rw[<-HTT.o]at b3;obtain⟨b4,b5⟩:=b3
 have i1:(0:Int)<=(k:Int):=by omega
 have i2:(k:Int)<(n:Int):=by omega
 clear hx hb
 go_wp2_with (go_at_call 38;refine(S9 xa xb xc xd xp _).mono ?_;rintro e w4 ⟨rfl,hF⟩;rw[<-HTT.o];have HE:Hd (New wr w4):=jd (((refl _ _).alloc _).trans hF);clear hF)
 go_roundw
 case rel=>exact⟨k+1,by omega,by go_num,by rw[HT.o,HTT.o],jd (HF.o.trans HE.o)⟩
 case measure=>simp[intOf];omega
def WL(c:Nat)(X:List Cr)(L:Int)(w:World)(e:Ending)(w':World):Prop:=
 New w w'/\((c=0/\∃b,e=.returned (.tuple #[.pointer (some ⟨b,0,none⟩),.int .i64 0])/\fS w' b X L)\/(c≠0/\e=.returned (.tuple #[.pointer none,.int .i64 c])))
def Jg(X:List Cr)(L:Int):Nat:=if Kn.gY X L then(if Kn.aJ X then 0 else 5)else 7
theorem EN(a:Option Addr)(n c:Nat)(X:List Cr)(L:Int)(w:World)(hx:bV w a X)(hn:n=X.length)(lx:n<=9223372036854775807)(l1:-9223372036854775808<=L)(l2:L<=9223372036854775807):
 Calls prog 25 #[.agg #[.slice a n c,.int .i64 L]] w (WL (Jg X L) X L w):=by
 have HN:=jd hn;have HX:=jd hx;clear hx hn
 go_enter Tryz.func25,Tryz.ntmps25
 go_wp2_with (go_at_call 44;refine(Gf a n c X L _ (New.uh ((refl _ _).alloc _) HX.o) HN.o lx l1 l2).mono ?_;rintro e w4 ⟨hF,h5⟩;rcases h5 with⟨ho,b,rfl,hs,_⟩|⟨ho,rfl⟩)
 · have HF:Hd (New w w4):=jd (((refl _ _).alloc _).trans hF)
   have HO:=jd ho;have HS:=jd hs;have AO:=jd (gX ho);clear hF ho hs;obtain⟨p,HP⟩:=jb (Kn.aJ X);have HOC:Hd (Jg X L=if p then 0 else 5):=jd (by unfold Jg;rw[HO.o,if_pos rfl,HP.o]);cases p
   all_goals
    go_wp2_with (go_at_call 45;refine(vW b X L _ HS.o AO.o.1 AO.o.2).mono ?_;rintro e w5 ⟨rfl,hE⟩;rw[<-HP.o];have HE:=jd hE;clear hE)
    go_ret2
   · exact⟨HF.o.trans HE.o,.inr ⟨by rw[HOC.o];decide,by rw[HOC.o];rfl⟩⟩
   exact⟨HF.o.trans HE.o,.inl ⟨by rw[HOC.o];rfl,b,rfl,New.kM HE.o HS.o⟩⟩
 have HF:Hd (New w w4):=jd (((refl _ _).alloc _).trans hF);have HOC:Hd (Jg X L=7):=jd (by unfold Jg;rw[ho];rfl);clear hF ho;go_wp2;go_ret2;exact⟨HF.o,.inr ⟨by rw[HOC.o];decide,by rw[HOC.o];rfl⟩⟩
open Go.RowKit
abbrev mV(st mk:Nat):Value:=.agg #[.int .i64 (st:Nat),.int .i64 (mk:Nat)]
theorem G4(a b:Nat)(ha:a<2 ^ 62)(hb:b<2 ^ 62):bits .and .i64 (a:Nat) (b:Nat)=((a &&& b:Nat):Int):=by
 have hab:a &&& b<2 ^ 62:=Nat.and_lt_two_pow a hb;have e:bits .and .i64 (a:Nat) (b:Nat)=i64.wrap ((ofInt 64 (a:Int) &&& ofInt 64 (b:Int)).toNat:Int):=rfl;rw[e,ofInt_natCast,ofInt_natCast,BitVec.toNat_and,toNat_ofNat,toNat_ofNat,Nat.mod_eq_of_lt (by omega),Nat.mod_eq_of_lt (by omega)];exact IntWalk.i64_in _ (by omega)
theorem VV(mk q:Nat)(h:mk<2 ^ 62):bits and i64 ((mk:Int) / 2 ^ q) 1=(if mk.testBit q then 1 else 0:Int):=by
 have e:((mk / 2 ^ q:Nat):Int)=(mk:Int) / 2 ^ q:=by simp
 have hb:=G4 (mk / 2 ^ q) 1 (Nat.lt_of_le_of_lt (Nat.div_le_self _ _) h) (by omega);rw[e]at hb;rw[show (1:Int)=((1:Nat):Int)from rfl,hb,Nat.and_one_is_mod,Nat.testBit_eq_decide_div_mod_eq];by_cases c:mk / 2 ^ q%2=1
 · rw[c];simp
 have:mk / 2 ^ q%2=0:=by omega
 rw[this];simp
theorem Jv(bc b sB st mk r:Nat)(X:List Cr)(L:Nat)(w:World)(h:qg w bc b sB X L)(hst:st<2 ^ X.length)(h6:X.length<=6)(OH:mk<2 ^ 62)(hr:r∈aw X st.testBit):
 Calls prog 48 #[.pointer (some ⟨bc,0,none⟩),mV st mk,.int .i64 (r:Nat)] w (λe w'=>e=.returned (.bool (AA X st.testBit mk r))/\New w w'):=by
 obtain⟨c,h1⟩:=h.row;obtain⟨va,vb,h2,h3,rB,gs,gl,gc,rfl,rfl,hrw,hi,Mv⟩:=h.sts st hst;have hl:=iE X st.testBit;rw[<-Mv]at hl;have HIN:=jd hi;have FD:=jd Mv
 obtain⟨N,hN⟩:∃N,N=2 ^ X.length:=⟨_,rfl⟩
 rw[<-hN]at h1 hst
 have i1:(0:Int)<=(st:Int):=by omega
 have i2:(st:Int)<(N:Int):=by omega
 obtain⟨q,hq⟩:∃q,q=(aw X st.testBit).idxOf r:=⟨_,rfl⟩
 have Yy:q<12:=by
  have:=jr hr
  rw[<-hq,<-Mv]at this;omega
 have HIX:Hd (Lib.idxOf (ints (aw X st.testBit)) (r:Int)=(q:Int)):=jd (by rw[hq];exact E7 hr);have hb:=VV mk q OH;have HMK:Hd (AA X st.testBit mk r=mk.testBit q):=jd (by unfold AA;rw[hq]);have hF:New w (w.alloc (.cells #[.int .i64 (st:Nat),.int .i64 (mk:Nat)] 82)):=(refl _ _).alloc _
 have k1:=hF.cell h1 λx=>x
 have k3:=hF.cell h3 λx=>x
 have k4:=hF.cell h.ptr λx=>x
 have z:=heap_alloc_new w (.cells #[.int .i64 (st:Nat),.int .i64 (mk:Nat)] 82);obtain⟨z1,z2,_,_⟩:=ay z;have RN:=jd (hF.ints HIN.o)
 have hlen:(ints (aw X st.testBit)).length=gl:=by rw[xV,FD.o]
 clear Mv h h2 hN h1 h3 hi hrw z hq hr;obtain⟨w1,cU⟩:=jb (w.alloc (.cells #[.int .i64 (st:Nat),.int .i64 (mk:Nat)] 82));rw[<-cU.o]at k1 k3 k4 z1 z2 RN hF;have HF:=jd hF;clear hF
 have HC:Hd (∀n,Calls prog 50 #[.slice gs gl gc,.int .i64 (r:Nat)] (w1.drewN n) λe w'=>e=.returned (.int .i64 (q:Nat))/\w'=w1.drewN n):=jd λn=>by
  have:=OB gs gl gc (ints (aw X st.testBit)) (r:Int) (w1.drewN n) (New.ints ((refl _ _).drewN _) RN.o) hlen.symm (by omega)
  rw[HIX.o]at this;exact this
 go_enter Tryz.func48,Tryz.ntmps48
 go_wp2_with fail;rw[<-cU.o];cases ht:mk.testBit q
 all_goals
  rw[ht]at hb;simp only[jN,if_false,if_true]at hb
  go_quiet (first|(go_at_call 50;refine Calls.quiet_of_same (HC.o _)))
  go_wp2;go_ret;exact⟨by rw[HMK.o,ht];rfl,by first|exact HF.o.drewN _|exact HF.o.trans ((refl _ _).drewN _)⟩
open Go.RowKit
theorem TW:((range 16384).all λx=>decide (oc ((x:Nat):Int)=((Kn.pop 14 x:Nat):Int)))=true:=by decide +kernel
theorem Jh(x:Nat)(hx:x<16384)(w:World):Calls prog 73 #[.int .u64 x] w λe w'=>e=.returned (.int .i64 (Kn.pop 14 x:Nat))/\w'=w:=by
 go_enter func73,ntmps73
 go_wp2_with fail;go_ret;refine⟨rG ?_,rfl⟩;exact jl (List.all_eq_true.1 TW x (jw.2 hx))
theorem EO(x:Nat)(hx:x<16384)(w:World):Calls prog 39 #[.int .u64 x] w λe w'=>e=.returned (.int .i64 (Kn.pop 14 x:Nat))/\w'=w:=by
 have CC:=jd (Jh x hx)
 go_enter func39,ntmps39
 go_wp2_with (go_at_call 73;refine(CC.o _).mono ?_;rintro e w4 ⟨rfl,rfl⟩)
 go_ret;exact⟨rfl,rfl⟩
def nV(X:List Cr)(k:Nat):Nat:=(range k).countP λi=>(cr X i).p
theorem I6(X:List Cr)(k:Nat):nV X (k+1)=nV X k+if (cr X k).p then 1 else 0:=by
 unfold nV;rw[jO,List.countP_append,jG,List.countP_nil,Nat.zero_add]
theorem EH(X:List Cr)(k:Nat):nV X k<=k:=by
 unfold nV;have:=List.countP_le_length (p:=λi=>(cr X i).p) (l:=range k);simpa using this
def zB(X:List Cr)(L st mk:Nat):Int×Int:=
 ((Kn.pop 14 st:Int)-ml X,2*(Kn.pop 14 mk:Int)-eY X L st.testBit+Kn.pop 14 st+uJ X-2*ml X)
theorem vV:∀n x,Kn.pop n x<=n
 |0,_=>jH _
 |n+1,x=>by
  rw[Kn.pop];have:=vV n (x / 2);omega
abbrev dV(d:Int×Int):Value:=.agg #[.int .i64 d.1,.int .i64 d.2]
theorem Y8(bc b sB st mk:Nat)(X:List Cr)(L:Nat)(w:World)(h:qg w bc b sB X L)(hst:st<2 ^ X.length)(h6:X.length<=6)(hL:L<=2)(OH:mk<16384):
 Calls prog 28 #[.pointer (some ⟨bc,0,none⟩),mV st mk] w (λe w'=>e=.returned (dV (zB X L st mk))/\New w w'):=by
 obtain⟨a1,c1,h0,_,iw⟩:=h.sh.uh
 obtain⟨n,hn⟩:∃n,n=X.length:=⟨_,rfl⟩
 have ahn:st<16384:=by have:=Lz hst h6;omega
 have Bu:Hd (∀w',New w w'->Calls prog 27 #[.pointer (some ⟨bc,0,none⟩),.int .i64 (st:Nat)] w' (λe w''=>e=.returned (.int .i64 (eY X L st.testBit:Nat))/\New w' w'')):=jd λw' k=>IE bc b sB st X L w' (h.new k) hst h6 hL
 have ZG:Hd (eY X L st.testBit<=14):=jd (by unfold eY;have:=iE X st.testBit;omega);have Mp:=h.ptr;have HDG:Hd (zB X L st mk=((Kn.pop 14 st:Int)-ml X,2*(Kn.pop 14 mk:Int)-eY X L st.testBit+Kn.pop 14 st+uJ X-2*ml X)):=jd rfl;have HPM:=jd (Kn.EJ X);obtain⟨sz,HSz⟩:=jb (eY X L st.testBit);obtain⟨ph,HPh⟩:=jb (Kn.pop 14 st);obtain⟨pu,HPu⟩:=jb (Kn.pop 14 mk);obtain⟨mn,HMn⟩:=jb (ml X);obtain⟨pl,HPl⟩:=jb (uJ X);rw[<-HSz.o]at Bu ZG HDG;rw[<-HPh.o,<-HPu.o,<-HMn.o,<-HPl.o]at HDG
 rw[<-HMn.o,<-HPl.o,<-hn]at HPM;have bsz:sz<=14:=ZG.o
 have bph:ph<=14:=by rw[HPh.o];exact vV _ _
 have bpu:pu<=14:=by rw[HPu.o];exact vV _ _
 have bpm:pl+mn=n:=HPM.o;have HPT:Hd (nV X n=pl):=jd (by rw[hn,HPl.o];rfl)
 have C1:Hd (∀w',Calls prog 39 #[.int .u64 st] w' λe w''=>e=.returned (.int .i64 (ph:Nat))/\w''=w'):=jd λw'=>by rw[HPh.o];exact EO st ahn w'
 have C2:Hd (∀w',Calls prog 39 #[.int .u64 mk] w' λe w''=>e=.returned (.int .i64 (pu:Nat))/\w''=w'):=jd λw'=>by rw[HPu.o];exact EO mk OH w'
 rw[<-hn]at h0 h6;have HN:=jd hn;have WG:=jd iw;have H0:=jd h0;have HP:=jd Mp;clear h hn iw hst ZG HPM h0 Mp;obtain⟨w1,cU⟩:=jb ((w.alloc (.cells #[.int .i64 (st:Nat),.int .i64 (mk:Nat)] 82)).alloc (.cells #[.int .i64 0,.int .i64 0] 50));have k9:Hd (New w w1):=jd (by rw[cU.o];exact((refl _ _).alloc _).alloc _);obtain⟨B,HB⟩:=jb w.heap.size;obtain⟨rb,sV⟩:=jb (w.heap.size+1)
 have HZ:Hd (w1.heap[B]?=some (.cells #[.int .i64 (st:Nat),.int .i64 (mk:Nat)] 82 (0,0))):=jd (by
  rw[cU.o,HB.o];exact(Below.heap_alloc _ _ _ (by simp)).trans (heap_alloc_new _ _))
 have HR:Hd (w1.heap[rb]?=some (.cells #[.int .i64 0,.int .i64 0] 50 (0,0))):=jd (by
  have:=heap_alloc_new (w.alloc (.cells #[.int .i64 (st:Nat),.int .i64 (mk:Nat)] 82)) (.cells #[.int .i64 0,.int .i64 0] 50);rw[World.size_alloc]at this
  rw[cU.o,sV.o];exact this)
 have g0:=k9.o.cell H0.o λx=>x
 have gp:=k9.o.cell HP.o λx=>x
 rw[cU.o]at g0 gp
 go_enter Tryz.func28,Tryz.ntmps28
 go_wp2_with fail;rw[<-cU.o,<-sV.o,<-HB.o];clear g0 gp
 go_loopw [5,20] (λsv i wr=>∃k:Nat,k<=n/\i=.int .i64 k/\sv=.int .i64 (nV X k:Nat)/\Hd (New w1 wr)) (λ_ i _=>n-(intOf i).toNat)
 case atStart=>exact⟨0,by omega,rfl,by simp[nV],jd (refl _ _)⟩
 case round=>
 obtain⟨k,hk,rfl,rfl,HF⟩:=hrel;by_cases hlt:k<n
 · have E9:k<X.length:=by have:=HN.o;omega
   obtain⟨bx,ox,rfl,hx⟩:=WG.o.at E9;obtain⟨xa,xb,xc,xd,xp,qV⟩:=Kn.qP X k;rw[qV.o]at hx
   obtain⟨x1,x2,x3,x4,x5⟩:=(k9.o.trans HF.o).Kd hx λx=>x
   have hb:=EH X k;have HT:Hd (nV X (k+1)=nV X k+if xp then 1 else 0):=jd (by rw[I6,qV.o]);obtain⟨s,HS⟩:=jb (nV X k);rw[<-HS.o]at hb HT ⊢
   have i1:(0:Int)<=(k:Int):=by omega
   have i2:(k:Int)<(n:Int):=by omega
   clear hx;cases xp
   all_goals
    have hq:=HT.o;go_wp2;go_roundw
    case rel=>exact⟨k+1,by omega,by go_num,by rw[hq];go_num,jd (HF.o.alloc _)⟩
    case measure=>simp[intOf];omega
 obtain rfl:n=k:=by omega
 have hb:=EH X n;rw[HPT.o]
 have g0:=(k9.o.trans HF.o).cell H0.o λx=>x
 have gp:=(k9.o.trans HF.o).cell HP.o λx=>x
 obtain⟨z1,z2,z3,z4⟩:=ay (HF.o.blk HZ.o λx=>x);go_wp2_with fail
 go_quiet (first|(go_at_call 39;refine Calls.quiet_of_same (C1.o _))|(go_at_call 39;refine Calls.quiet_of_same (C2.o _)))
 obtain⟨wq,Zz⟩:=jb (wr.drewN nq);rw[<-Zz.o];have HFQ:Hd (New w1 wq):=jd (by rw[Zz.o];exact HF.o.drewN _);clear g0 gp z1 z2 z3 z4;obtain⟨z1,z2,z3,z4⟩:=ay (HFQ.o.blk HZ.o λx=>x)
 go_wp2_with (go_at_call 27;refine(Bu.o _ (k9.o.trans HFQ.o)).mono ?_;rintro e w5 ⟨rfl,Vc⟩;have vO:=jd Vc;clear Vc;obtain⟨y1,y2,y3,y4⟩:=ay ((HFQ.o.trans vO.o).blk HR.o λx=>x))
 have hrb:=(HFQ.o.trans vO.o).blk HR.o λx=>x
 obtain⟨x1,x2⟩:∃a b:Int,a=(ph:Int)-((n:Int)-(pl:Int))/\b=2*(pu:Int)-(sz:Int)+(ph:Int)+(pl:Int)-2*((n:Int)-(pl:Int))/\zB X L st mk=(a,b):=⟨_,_,rfl,rfl,by rw[HDG.o];exact Prod.ext (by show _=_;omega) (by show _=_;omega)⟩
 obtain⟨b,ea,eb,ed⟩:=x2;rw[ed,<-ea,<-eb];obtain⟨z5,z6,_,_⟩:=ay (bD (bD hrb (.int .i64 x1)).1 (.int .i64 b)).2
 refine bodyPost_ret (v:=dV (x1,b)) (by simp[results,Tryz.results28,go_sem,z5,z6]) rfl ⟨rfl,?_⟩
 refine((k9.o.trans HFQ.o).trans vO.o).next (((refl (λk=>k=rb) w5).setCell (.inl rfl) _).setCell (.inl rfl) _) λi hi=>.inr (by rw[hi,sV.o];omega)
open Go.RowKit
theorem pK(a b:Nat)(ha:a<2 ^ 62)(hb:b<2 ^ 62):bits .or .i64 (a:Nat) (b:Nat)=((a ||| b:Nat):Int):=by
 have hab:a ||| b<2 ^ 62:=Nat.or_lt_two_pow ha hb;have e:bits .or .i64 (a:Nat) (b:Nat)=i64.wrap ((ofInt 64 (a:Int) ||| ofInt 64 (b:Int)).toNat:Int):=rfl;rw[e,ofInt_natCast,ofInt_natCast,BitVec.toNat_or,toNat_ofNat,toNat_ofNat,Nat.mod_eq_of_lt (by omega),Nat.mod_eq_of_lt (by omega)];exact IntWalk.i64_in _ (by omega)
theorem Xx{x:Int}(h:-9223372036854775808<=x/\x<=9223372036854775807):wrap64 x=x:=by unfold wrap64;omega
theorem wT{q:Nat}(h:q<=20):wrap64 (2 ^ q)=((2 ^ q:Nat):Int):=by
 have h1:2 ^ q<=2 ^ 20:=jI (by omega) h
 have h2:(2:Int) ^ q=((2 ^ q:Nat):Int):=by simp
 rw[h2]
 obtain⟨z,hz⟩:∃z,z=2 ^ q:=⟨_,rfl⟩
 rw[<-hz]at h1 ⊢;exact Xx (by omega)
theorem ach(a b:Nat)(ha:a<2 ^ 62)(hb:b<2 ^ 62)(w:World):(binOp .or 3 (.int .i64 (a:Nat)) (.int .i64 (b:Nat))).run prog w=.ok (.int .i64 ((a ||| b:Nat):Int)) w:=by
 have:=pK a b ha hb;simp[go_sem,binOp];rw[this]
theorem Su(pB tB tt mk one two n c gl gc:Nat)(a gs:Option Addr)(va:Value)(l:List Nat)(X:List Cr)(L:Nat)(S T:Nat->Bool)(w:World)(h6:X.length<=6)(hL:L<=2)
 (hp:w.heap[pB]?=some (.cells #[.int .i64 (tt:Nat),.int .i64 (ig X L S T mk one two []:Nat)] 82 (0,0))) (ht:w.heap[tB]?=some (.cells #[va,.slice gs gl gc] 76 (0,0)))
 (hi:mN w gs (ints (aw X T))) (Mv:gl=(aw X T).length) (hl:mN w a (ints l)) (hn:n=l.length) (JI:n<=2) (hr:∀r∈l,r∈aw X T):
 Calls prog 49 #[.slice a n c,.pointer (some ⟨pB,0,none⟩),.pointer (some ⟨tB,0,none⟩)] w (λe w'=>e=.returned (mV tt (ig X L S T mk one two l))/\New w w'):=by
 have ZG:Hd (eY X L T<=14/\(aw X T).length<=12):=jd (by unfold eY;have:=iE X T;omega)
 have HWL:Hd (∀l,ig X L S T mk one two l<2 ^ 14):=jd λl=>jT (Kn.Sr l) (jI (by omega) ZG.o.1)
 obtain⟨F,sW⟩:∃F:List Nat->Nat,Hd (F=ig X L S T mk one two):=⟨_,jd rfl⟩
 rw[<-sW.o]at hp HWL ⊢;have HP:=jd hp;have HT:=jd ht;have HI:=jd hi;have HLI:=jd hl;have HR:=jd hr;have HN:=jd hn;have FD:=jd Mv;clear hp ht hi hl hr hn Mv;obtain⟨rb,sV⟩:=jb w.heap.size;obtain⟨ob,Xm⟩:=jb (w.heap.size+1);obtain⟨w1,cU⟩:=jb ((w.alloc (.cells #[.int .i64 0,.int .i64 0] 82)).alloc (.cells #[.int .i64 (tt:Nat),.int .i64 (F []:Nat)] 82));obtain⟨p1,p2,_,_⟩:=ay HP.o;have hF0:New w (w.alloc (.cells #[.int .i64 0,.int .i64 0] 82)):=(refl _ _).alloc _
 have p1:=hF0.cell p1 λx=>x
 have p2:=hF0.cell p2 λx=>x
 go_enter Tryz.func49,Tryz.ntmps49
 go_wp2_with fail;rw[<-cU.o,<-Xm.o,<-sV.o];clear p1 p2;have k9:Hd (New w w1):=jd (by rw[cU.o];exact((refl _ _).alloc _).alloc _)
 have sY:Hd (w1.heap[rb]?=some (.cells #[.int .i64 0,.int .i64 0] 82 (0,0))):=jd (by
  rw[cU.o,sV.o];exact(Below.heap_alloc _ _ _ (by simp)).trans (heap_alloc_new _ _))
 have HO0:Hd (w1.heap[ob]?=some (.cells #[.int .i64 (tt:Nat),.int .i64 (F []:Nat)] 82 (0,0))):=jd (by
  have:=heap_alloc_new (w.alloc (.cells #[.int .i64 0,.int .i64 0] 82)) (.cells #[.int .i64 (tt:Nat),.int .i64 (F []:Nat)] 82);rw[World.size_alloc]at this
  rw[cU.o,Xm.o];exact this)
 go_loopw [11] (λi wr=>∃k:Nat,k<=n/\i=.int .i64 k/\Hd (New w wr/\wr.heap[rb]?=some (.cells #[.int .i64 0,.int .i64 0] 82 (0,0))/\wr.heap[ob]?=some (.cells #[.int .i64 (tt:Nat),.int .i64 (F (l.take k):Nat)] 82 (0,0)))) (λi _=>n-(intOf i).toNat)
 case atStart=>exact⟨0,by omega,rfl,jd ⟨k9.o,sY.o,HO0.o⟩⟩
 case round=>
 obtain⟨k,hk,rfl,HA⟩:=hrel;by_cases hlt:k<n;rotate_left
 · obtain rfl:n=k:=by omega
   have hA:=HA.o;rw[List.take_of_length_le (by have:=HN.o;omega)]at hA;obtain⟨y1,y2,y3,y4⟩:=ay hA.2.2;obtain⟨z1,z2,z3,z4⟩:=ay hA.2.1;go_wp2;obtain⟨z5,z6,_,_⟩:=ay (bD (bD hA.2.1 (.int .i64 (tt:Nat))).1 (.int .i64 (F l:Nat))).2
   refine bodyPost_ret (v:=mV tt (F l)) (by simp[results,Tryz.results49,go_sem,z5,z6]) rfl ⟨rfl,?_⟩
   exact hA.1.next (((refl (λk=>k=rb) wr).setCell (.inl rfl) _).setCell (.inl rfl) _) λi hi=>.inr (by rw[hi,sV.o];omega)
 have fY:k<l.length:=by have:=HN.o;omega
 obtain⟨r,KB⟩:∃r,Hd (l[k]?=some r):=⟨_,jd (je fY)⟩
 have hrm:r∈aw X T:=HR.o r (List.mem_of_getElem? KB.o);obtain⟨ba,oa,ea,hc⟩:=(HA.o.1.ints HLI.o).at (k:=k) (by rw[xV];exact fY);subst ea
 have iw:(ints l).getD k 0=(r:Int):=by
  unfold ints
  rw[jc,List.getElem?_map,KB.o];rfl
 rw[iw]at hc;obtain⟨q,HQ⟩:=jb ((aw X T).idxOf r)
 have hq:q<12:=by have:=jr hrm;have:=ZG.o.2;have:=HQ.o;omega
 have HIX:Hd (Lib.idxOf (ints (aw X T)) (r:Int)=(q:Int)):=jd (by rw[HQ.o];exact E7 hrm)
 have HC:Hd (∀w',New w w'->Calls prog 50 #[.slice gs gl gc,.int .i64 (r:Nat)] w' λe w''=>e=.returned (.int .i64 (q:Nat))/\w''=w'):=jd λw' hN=>by
  have:=OB gs gl gc (ints (aw X T)) (r:Int) w' (hN.ints HI.o) (by rw[xV];exact FD.o) (by have:=ZG.o.2;have:=FD.o;omega)
  rw[HIX.o]at this;exact this
 obtain⟨m0,DF⟩:=jb (F (l.take k))
 have hm0:m0<2 ^ 14:=by rw[DF.o];exact HWL.o _
 have nN:Hd (F (l.take (k+1))=m0 ||| 2 ^ q):=jd (by
  rw[jq fY,DF.o,sW.o,HQ.o]
  have e:l[k]=r:=by have:=KB.o;rw[je fY]at this;exact Option.some.inj this
  rw[e];exact Kn.Pv _ hrm)
 have hA:=HA.o;rw[<-DF.o]at hA;obtain⟨y1,y2,y3,y4⟩:=ay hA.2.2;obtain⟨_,t2,_,_⟩:=ay (hA.1.blk HT.o λx=>x)
 have i1:(0:Int)<=(k:Int):=by omega
 have i2:(k:Int)<(n:Int):=by omega
 have s1:=FY q (by omega);have s2:=ach m0 (2 ^ q) (by omega) (jT (Nat.pow_lt_pow_right (by omega) hq:2 ^ q<2 ^ 12) (by omega));clear iw;go_wp2_with fail
 go_region_with (first|(go_at_call 50;refine(HC.o wr.drew (HA.o.1.trans (refl _ wr).drew)).mono ?_;rintro e w5 ⟨rfl,rfl⟩))
 all_goals
  go_wp2;go_roundw
  case rel=>
   have hbw:bits or i64 (m0:Nat) (wrap64 (2 ^ q))=((F (l.take (k+1)):Nat):Int):=by
    rw[nN.o,<-pK m0 (2 ^ q) (by omega) (jT (Nat.pow_lt_pow_right (by omega) hq:2 ^ q<2 ^ 12) (by omega))]
    congr 1
    exact wT (by omega)
   rw[hbw];have hS:=((refl (λk=>k=ob) wr).setCell (a:=⟨ob,1,none⟩) (.inl rfl) (.int .i64 (F (l.take (k+1)):Nat))).drew;exact⟨k+1,by omega,by go_num,jd ⟨hA.1.next hS λi hi=>.inr (by rw[hi,Xm.o];omega),hS.blk hA.2.1 (by rw[sV.o,Xm.o];omega),(refl (λ_=>False) _).drew.blk (bD hA.2.2 _).2 λx=>x⟩⟩
  case measure=>simp[intOf];omega
end Go.Proofs.YtfplmbmenjdlhaaGreatDoor
