/- Walks: the keys of a map, sorted; Form. -/
import Derived.Test.YtfplmbmenjdlhaaGreatDoorP7
set_option linter.unusedVariables false
set_option maxRecDepth 100000
set_option maxHeartbeats 16000000
namespace Go.Proofs.YtfplmbmenjdlhaaGreatDoor
open Go.RowKit Go.Maps Go.Sort Go.Shelf
open Fence (wide)
open Pl (Is T Up co ofMap)
open Go.Proofs.Tryz (keysA prog sortA underlying3)
variable {D:DataW Unit} {a:Int} {ks:List Int} {v:Value} {w:World}
theorem ab9(m:Nat):AnyZI.SortsIn prog Tryz.sortedA_ren wide m:=
 ⟨λblk off cap ss W hH hblk hsz=>callsIn_wide.2 (AnyM.slices_Sort_int sortA blk off cap ss W hH hblk hsz),
  λp cap W=>callsIn_wide.2 (AnyM.slices_Sort_int_none sortA p cap W)⟩
theorem Qu(mb:Option Nat)(W:World):Calls prog 37 #[.map mb] W λe w'=>e=.returned (.func (.func 71) #[] #[.pointer (some ⟨W.heap.size,0,none⟩)])/\w'=W.alloc (.cells #[.map mb] 59):=
 (callsIn_wide (n:=5)).1 (AnyZI.keys_in keysA wide 5 trivial rfl mb W)
def Sorted(D:DataW Unit)(w:World)(e:Ending)(w':World):Prop:=
 ∃(v:Value) (ss:List Int),e=.returned v/\ss.Perm (intKeys D)/\w'.ownsRow w.heap.size 3 1 v ss.length ((ss.mergeSort (λx y=>decide (x<=y))).map encZ)/\Below w.heap.size w w'
theorem IA(b nn:Nat)(D0:DataW Unit)(w:World)(hown:OM w b nn D0)(adp:Maps.size D0<=maxLen)(hbytes:Maps.size D0*8<=140737488355328):
 Calls prog 36 #[.func (.func 71) #[] #[.pointer (some ⟨w.heap.size,0,none⟩)]] (w.alloc (.cells #[.map (some b)] 59)) (Sorted D0 (w.alloc (.cells #[.map (some b)] 59))):=by
 have hbl:=hown.lt
 have hseq:SeqGives wide 2 prog 71 #[.pointer (some ⟨w.heap.size,0,none⟩)] encZ (λss=>ss.Perm (intKeys D0)) (Maps.size D0) (w.alloc (.cells #[.map (some b)] 59)):=
  AnyZI.keys_gives (ρ:=Tryz.keysA_ren) { keysA with } wide _ trivial rfl (by omega) w.heap.size b nn D0 _ (by simp) (by simp) (by
   obtain⟨es,clock,hb,Ft,hs,hD⟩:=hown
   exact⟨es,clock,(Below.heap_alloc _ _ b hbl).trans hb,Ft,hs,hD⟩)
 have cS:=AnyZI.sorted_in Tryz.sortedA wide 5 trivial trivial trivial trivial rfl (by omega) (ab9 _) (enters_of Tryz.func70 (by kernel_rfl) rfl) 71 #[.pointer (some ⟨w.heap.size,0,none⟩)] trivial (enters_of Tryz.func71 (by kernel_rfl) rfl) _ _ adp hbytes _ hseq;change CallsIn _ _ prog 36 _ _ _ at cS;refine((callsIn_wide (n:=5)).1 cS).mono ?_;rintro e w' ⟨v,ss,rfl,hS,hrow,hnil,hb⟩;exact⟨v,ss,rfl,hS,hrow,hb⟩
theorem rO{b n:Nat}(ho:OM w b n D):(intKeys D).Nodup/\(∀x,x∈intKeys D↔Maps.has D (.int .i64 x)=true)/\(intKeys D).length=Maps.size D:=by
 obtain⟨es,hD,hpw,_⟩:=ho.entries iW;obtain⟨es',hD',hko⟩:=ho.keysOf
 obtain rfl:es=es':=by rw[hD]at hD';simpa using hD'
 subst hD
 have hk:∀p∈es,∃x,p.1=.int .i64 x:=λp hp=>by obtain⟨v,hv⟩:=hko p hp;obtain⟨x,_,hx,_⟩:=Maps.keyOf_i64 underlying3 hv;exact⟨x,hx⟩
 refine⟨?_,λx=>?_,?_⟩
 · show (es.map λp=>Go.intOf p.1).Nodup
   refine List.pairwise_map.2 (hpw.imp_of_mem λ{p q} DS hq' hne e=>hne ?_)
   obtain⟨a,ha⟩:=hk p DS;obtain⟨b,hb⟩:=hk q hq';rw[ha,hb]at e ⊢;exact congrArg _ e
 · rw[Maps.has_eq,List.any_eq_true]
   show x∈(es.map λp=>Go.intOf p.1)↔_
   rw[jv];constructor
   · rintro⟨p,DS,rfl⟩
     obtain⟨a,ha⟩:=hk p DS;exact⟨p,DS,by rw[ha];simp[Lit.sameKey,Go.intOf]⟩
   rintro⟨p,DS,hs⟩;obtain⟨a,ha⟩:=hk p DS;rw[ha]at hs;exact⟨p,DS,by rw[ha];simpa[Lit.sameKey,Go.intOf]using hs⟩
 show (es.map λp=>Go.intOf p.1).length=_
 rw[jA,Maps.size_eq]
theorem aab:∀{l:List Int},l.Pairwise (λa b=>a<=b)->l.Nodup->Up l
 |[],_,_=>trivial
 |k :: l,hp,hn=>by
  rw[List.pairwise_cons]at hp;rw[List.nodup_cons]at hn
  exact⟨λx hx=>by
   have h1:=hp.1 x hx
   have h2:k≠x:=λe=>hn.1 (e ▸ hx)
   omega,aab hp.2 hn.2⟩
theorem Py{b n:Nat}(ho:OM w b n D){ss:List Int}(hp:ss.Perm (intKeys D)):Up (ss.mergeSort leI)/\∀x,x∈ss.mergeSort leI↔Maps.has D (.int .i64 x)=true:=by
 have hf:=rO ho
 have tr:∀a b c:Int,leI a b=true->leI b c=true->leI a c=true:=λa b c h1 h2=>by simp only[leI,jh]at *;exact Int.le_trans h1 h2
 have to1:∀a b:Int,(leI a b||leI b a)=true:=λa b=>by simp only[leI,Bool.or_eq_true,jh];exact Int.le_total a b
 have hq:=(List.mergeSort_perm ss leI).trans hp;refine⟨aab ?_ (hq.nodup_iff.2 hf.1),λx=>hq.mem_iff.trans (hf.2.1 x)⟩
 refine(List.pairwise_mergeSort tr to1 ss).imp λh=>?_
 simpa[leI]using h
theorem YW{l:List T}(hd:RD D l)(hu:Up ks)(hm:∀x,x∈ks↔Maps.has D (.int .i64 x)=true):Is (ofMap (co l) ks) l:=by
 refine⟨Pl.wh hu,λe=>?_⟩;rw[Pl.Ji e hu];by_cases h:e∈ks
 · rw[if_pos h]
 rw[if_neg h];refine(hd.A4 ?_).symm;rw[Bool.eq_false_iff]
 exact λx=>h ((hm e).2 x)
theorem pF{base:Nat}{n:Nat}(h:w.ownsRow base 3 1 v n (ks.map encZ)):∃a c,v=.slice a n c/\n=ks.length/\mN w a ks:=by
 have hl:ks.length=n:=by have:=h.1;rw[jA]at this;omega
 rcases h.2 with⟨rfl,hn⟩|⟨g,cap,cur,rfl,hb,hg,h1,h2,h3,h4⟩
 · have:ks=[]:=List.eq_nil_of_length_eq_zero (by omega)
   subst this;subst hn;exact⟨none,0,rfl,rfl,.inl rfl⟩
 refine⟨_,_,rfl,hl.symm,.inr ⟨g,0,rfl,λi hi=>?_⟩⟩;rw[cell_of_row w g (0+i) cur 3 (0,0) hg,Nat.zero_add,<-Array.getElem?_toList]
 have h5:(cur.toList.take (n*1))[i]?=(ks.map encZ)[i]?:=by rw[h4]
 rw[List.getElem?_take_of_lt (by omega)]at h5;rw[h5,List.getElem?_map,je hi,jc,je hi];rfl
theorem LO(f:Int->Int){k:Nat}(hk:k<ks.length):ofMap f (ks.take (k+1))=ofMap f (ks.take k)++(if f (ks.getD k 0)=0 then []else [(ks.getD k 0,f (ks.getD k 0))]):=by
 rw[jq hk,Pl.ER,jc,je hk];rfl
theorem aaq(h:a=0):(a != 0)=false:=by rw[h];rfl
theorem T6(h:a≠0):(a != 0)=true:=by rw[bne_iff_ne];exact h
def WM(l:List T)(w:World)(e:Ending)(w':World):Prop:=∃m,Is m l/\aj8 m w e w'
def zT(l:List T)(w:World)(e:Ending)(w':World):Prop:=∃m,Is m l/\∃v,e=.returned v/\vu 0 w' v m/\New w w'
theorem vu.vK{base:Nat}{l:List T}(h:vu base w v l):vu 0 w v l:=by
 refine⟨h.1,?_⟩
 rcases h.2 with hn|⟨g,cap,cur,rfl,hb,r⟩
 · exact .inl hn
 exact .inr ⟨g,cap,cur,rfl,Nat.zero_le _,r⟩
theorem uV(v:Value)(l:List T)(n:Nat)(w:World)(hw:Wk w v l n)(hn:n<=1000000):
 Calls prog 18 #[v] w (zT l w):=by
 obtain⟨b,D,rfl,ho,hd⟩:=hw;have hsz:=ho.size;have hc:=IA b n D w ho (by unfold maxLen;omega) (by omega);have HO:=jd ho;have HD:=jd hd;have HC:=jd hc;have HK:=jd (rO ho);clear ho hd hc;obtain⟨wm,Lb⟩:=jb (w.alloc (.cells #[.map (some b)] 59));have Sn:Hd (New w wm):=jd (by rw[Lb.o];exact(Fr.refl _ _).alloc _);obtain⟨i0,hi,hz0,hz1,hz2⟩:=info_parts Mi
 go_enter Tryz.func18,Tryz.ntmps18
 go_wp2_with fail;refine(Qu _ _).mono ?_;rintro e w0 ⟨rfl,hw0⟩;rw[<-Lb.o]at hw0;subst hw0;go_wp2_with fail;rw[<-Lb.o]at HC
 refine HC.o.mono ?_
 rintro e w1 ⟨vs,ss,rfl,hp,hrow,hB⟩;have hus:=Py HO.o hp;have hrow':=hrow;obtain⟨ks,FC⟩:=jb (ss.mergeSort leI);have hlen:=List.length_mergeSort (le:=leI) ss;rw[<-FC.o]at hlen
 have hrow2:w1.ownsRow w0.heap.size 3 1 vs ss.length (ks.map encZ):=by rw[FC.o];exact hrow
 obtain⟨a,c,rfl,fY,Sa⟩:=pF hrow2;rw[<-FC.o]at hus;obtain⟨kn,HKN⟩:=jb ks.length;rw[fY,<-HKN.o]
 have hkn:kn<=1000000:=by
  rw[HKN.o,<-fY,hp.length_eq,HK.o.2.2];omega
 have HU:=jd hus;have HI:=jd Sa;have k9:Hd (New w w1):=jd (Sn.o.trans (Fr.Gd hB _));have RH:=jd (New.om k9.o HO.o);clear hus Sa hB hrow hrow' hrow2 hlen fY hp hsz;go_wp2
 go_loopw [3,5,10] (λv _ i wr=>∃(k m:Nat) (lo:List T),k<=kn/\i=.int .i64 k/\lo.length=m/\m<=k/\Hd (lo=ofMap (co l) (ks.take k))/\Hd (vu w1.heap.size wr v lo)/\Hd (New w1 wr)) (λ_ _ i _=>kn-(intOf i).toNat)
 case atStart=>exact⟨0,0,[],by omega,rfl,rfl,by omega,jd (by rw[List.take_zero];rfl),jd (vu.amB _ _),jd (Fr.refl _ _)⟩
 case round=>
 obtain⟨k,m,lo,hk,rfl,hm,OH,HL,ZP,sf⟩:=hrel;have HF:Hd (New w wr):=jd (k9.o.trans sf.o);have HM:=jd hm;clear hm;by_cases hlt:k<kn;rotate_left
 · obtain rfl:k=kn:=by omega
   go_wp2;go_ret
   have e:ks.take k=ks:=by rw[HKN.o];exact List.take_length
   exact⟨lo,by rw[HL.o,e];exact YW HD.o HU.o.1 HU.o.2,_,rfl,ZP.o.vK,HF.o⟩
 have fY:k<ks.length:=by have:=HKN.o;omega
 obtain⟨b1,o1,rfl,d1⟩:=(New.ints sf.o HI.o).at fY;have hs:=LO (co l) fY;obtain⟨x,HX⟩:=jb (ks.getD k 0)
 have hx:=intKeys_wf (H:=Unit) HO.o underlying3 x (by
  rw[(rO HO.o).2.1,<-HU.o.2,HX.o,jc,je fY]
  exact jM fY)
 rw[<-HX.o,<-HL.o]at hs;rw[<-HX.o]at d1;obtain⟨q,HQ⟩:=jb (co l x);rw[<-HQ.o]at hs;have HS:=jd hs;have HOr:=jd (New.om HF.o HO.o);have HXW:=jd hx;clear hs hx;by_cases hq:q=0
 · go_wp2_with (first
    |(at_lookup;refine wpList_lookup_own_int _ rfl _ _ 59 rfl 3 3 .i64 iW sR underlying3 (qi _) b n _ rfl HOr.o _ _ rfl (Maps.keyOf_int_mk underlying3 HXW.o) ?_;intro cc hat hwc;have Hw:Hd (cc=q):=(jd ((HD.o.look hat).trans HQ.o.symm));have hc0:(cc != 0)=false:=(aaq (Hw.o.trans hq));clear hat hwc)
    |go_in)
   go_roundw
   case rel=>exact⟨k+1,m,lo,by omega,by go_num,HM.o,by omega,jd (by rw[HS.o,if_pos hq];simp),ZP,sf⟩
   case measure=>show kn-((k:Int)+1).toNat<kn-(k:Int).toNat;omega
 go_wp2_with (first
  |(at_lookup;refine wpList_lookup_own_int _ rfl _ _ 59 rfl 3 3 .i64 iW sR underlying3 (qi _) b n _ rfl HOr.o _ _ rfl (Maps.keyOf_int_mk underlying3 HXW.o) ?_;intro cc hat hwc;have Hw:Hd (cc=q):=(jd ((HD.o.look hat).trans HQ.o.symm));have hc0:(cc != 0)=true:=(T6 (λz=>hq (Hw.o.symm.trans z)));clear hat hwc)
  |(at_builtin;refine wpList_append_own _ rfl _ _ 36 rfl w1.heap.size 40 i0 (.agg #[.int .i64 0,.int .i64 0]) 2 16 Tryz.underlying36 hi hz0 hz1 hz2 rfl (by decide) _ lo.length (lL lo) rfl (World.ownsRow.alloc ZP.o _) ⟨_,0,none⟩ 1 1 [.int .i64 x,.int .i64 cc] rfl rfl (cell_two_new _ _ _ _) (Ia _ _) (by have:=HM.o;unfold maxLen;omega) (by have:=HM.o;omega) (by have:=sf.o.size;simp;omega) ?_;intro v' w3 hown cN _)
  |go_in)
 have HO3:=jd (vu.snoc hown);have qY:Hd (New w1 w3):=jd (New.appended sf.o ZP.o cN);clear hown cN;go_wp2;go_roundw
 case rel=>exact⟨k+1,m+1,lo++[(x,cc)],by omega,by go_num,by simp[HM.o],by omega,jd (by rw[HS.o,if_neg hq,Hw.o]),HO3,qY⟩
 case measure=>show kn-((k:Int)+1).toNat<kn-(k:Int).toNat;omega
theorem Vk(v:Value)(l:List T)(n:Nat)(w:World)(hw:Wk w v l n)(hn:n<=1000000):Calls prog 18 #[v] w (WM l w):=
 (uV v l n w hw hn).mono λ_ _ ⟨m,hm,u,he,ho,hn⟩=>⟨m,hm,u,he,ho.ts,hn⟩
open Go.RowKit
def sh(q s:Int)(l:List T):List T:=l.map λt=>(t.1+q,s*t.2)
theorem IG(q s:Int)(l:List T)(e:Int):co (sh q s l) e=s*co l (e-q):=by
 induction l with
 |nil=>simp[sh,Pl.gM]
 |cons t l ih=>
  show co ((t.1+q,s*t.2) :: sh q s l) e=_
  rw[Pl.cO,Pl.cO,ih,Int.mul_add];by_cases c:t.1=e-q
  · rw[if_pos (show t.1+q=e by omega),if_pos c]
  rw[if_neg (show ¬t.1+q=e by omega),if_neg c];simp
theorem XN(q s:Int)(l:List T)(x c:Int):sh q s (l++[(x,c)])=sh q s l++[(x+q,s*c)]:=by simp[sh]
theorem XQ{q s:Int}{l l':List T}(h:∀t∈l,∃u∈l',u.1=t.1):∀t∈sh q s l,∃u∈sh q s l',u.1=t.1:=by
 intro t ht;obtain⟨v,hv,rfl⟩:=jv.1 ht;obtain⟨u,hu,e⟩:=h v hv;exact⟨(u.1+q,s*u.2),jv.2 ⟨u,hu,rfl⟩,by simp only[e]⟩
theorem acH{s c:Int}{A B:Nat}(h:-(A:Int)<=s/\s<=A)(k:-(B:Int)<=c/\c<=B):-((A:Int)*B)<=s*c/\s*c<=(A:Int)*B:=by
 have h1:s.natAbs<=A:=by omega
 have h2:c.natAbs<=B:=by omega
 have h3:=Nat.mul_le_mul h1 h2;rw[<-Int.natAbs_mul]at h3
 have h4:((A*B:Nat):Int)=(A:Int)*B:=by simp
 omega
theorem BV(va:Value)(q s:Int)(la:List T)(na:Nat)(w:World)(ha:Wk w va la na)(hs:-5000<=s/\s<=5000)(hq:-1000<=q/\q<=1000)(hn:na<=1000000)(he:Hc 1000000000 la)(hz:Pl.size la<=100000000000000):
 Calls prog 22 #[va,.int .i64 q,.int .i64 s] w (Pt (sh q s la) na w):=by
 obtain⟨b,D,rfl,ho,hd⟩:=ha;have hlt:=ho.lt;have HO:=jd ho;have HD:=jd hd;have HE:=jd he;have j9:=jd hs;have HS:=jd hz;have HZ:=jd ho.size;have s1:-5000<=s:=hs.1;have s2:s<=5000:=hs.2;have q1:-1000<=q:=hq.1;have q2:q<=1000:=hq.2;clear ho hd he hs hz hq;have Ai:=@run_makeMap prog;obtain⟨B,HB⟩:=jb w.heap.size;obtain⟨wm,Lb⟩:=jb (w.alloc (.map #[] 0));obtain⟨r,HR⟩:=jb wm.heap.size;have Sn:Hd (New w wm):=jd (by rw[Lb.o];exact(Fr.refl _ _).alloc _);have HOm:Hd (OM wm b na D):=jd (New.om Sn.o HO.o)
 have Xm:Hd (OM wm B 0 (.map [])):=jd (by rw[Lb.o,HB.o];exact World.ownsMap_made _ _ _ _)
 have hBr:B≠r:=by
  rw[HR.o];have:=Xm.o.lt;omega
 have hb1:b≠B:=by rw[HB.o];omega
 go_enter Tryz.func22,Tryz.ntmps22
 go_wp2_with (first
  |(at_range;rw[<-Lb.o,<-HB.o];refine wpList_range_own _ rfl _ 59 rfl 3 3 iW sR _ b na _ rfl HOm.o ?_;intro w0 hrg0 hg0 hs0)
  |go_in)
 go_frame;rw[<-HR.o]at hrg0 hs0 ⊢;have sW:Hd (New w w0):=jd (Sn.o.grown hg0 λk ek=>by cases ek);have aep:Hd (OM w0 B 0 (.map [])):=jd (Xm.o.kept hg0 (by simp));have sY:=jd (AJ.start HD.o hrg0);clear hrg0 hg0 hs0
 go_loopw [8,9] (λ_ _ wr=>∃(left:Lit->Bool) (cnt m:Nat) (sk:DataW Unit) (done:List T),m+cnt<=na/\Hd (AJ wr b r na D la left cnt done)/\Hd (OM wr B m sk)/\Hd (RD sk (sh q s done))/\Hd (New w wr))
  (λ_ _ wr=>wr.rangeLeft b r)
 case atStart=>exact⟨_,_,0,.map [],[],by have:=HZ.o;omega,sY,aep,jd RD.empty,sW⟩
 case round=>
 obtain⟨left,cnt,m,sk,done,hm,Hs,HOo,Z3,HF⟩:=hrel
 go_wp2_with (first
  |(at_next;refine wpList_next_ranges_ii _ rfl _ rfl 3 3 .i64 .i64 iW underlying3 underlying3 b r na _ _ _ rfl Hs.o.rg ?_ ?_)
  |go_in)
 · intro hc0 hl0
   have ZW:=jd hl0;clear hl0;go_wp2;go_ret;exact⟨_,rfl,⟨_,sk,rfl,HOo.o.mono (by omega),Z3.o.congr (λe=>by rw[IG,IG,Hs.o.all ZW.o]) (XQ Hs.o.part.yf)⟩,HF.o⟩
 intro x c w2 Dj hwx hwc OI hat CQ QN DT hs1 hen;have qh:Hd (AJ w2 b r na D la (λz=>left z && !z.sameKey (.int .i64 x)) Dj (done++[(x,c)])):=jd (Hs.o.step HD.o OI hat CQ)
 have hc0:co (sh q s done) (x+q)=0:=by
  rw[IG,show x+q-q=x by omega,Pl.yq λt ht e=>by
   have:=Hs.o.part.gone t ht;simp only[e]at this;rw[OI]at this
   cases this]
  simp
 have RH:Hd (OM w2 B m sk):=jd (HOo.o.kept DT (by simpa using hBr));have k9:Hd (New w w2):=jd (HF.o.grown DT λk ek=>.inr (by cases ek;rw[HR.o];exact Sn.o.size));obtain⟨u,hu,UT⟩:=qh.o.part.yf (x,c) (by simp);have Gv:=HE.o u hu;rw[UT]at Gv;have x1:-1000000000<=x:=Gv.1;have x2:x<=1000000000:=Gv.2;have hcb:=(HD.o.at hat).1;have GG:=Pl.p6 HS.o x;rw[<-hcb]at GG
 have c1:-1000000000000000000<=c:=by omega
 have c2:c<=1000000000000000000:=by omega
 obtain⟨p,HP⟩:=jb (s*c)
 have hpb:-(5000*100000000000000)<=p/\p<=5000*100000000000000:=by rw[HP.o];exact acH j9.o GG
 have p1:-1000000000000000000<=p:=by omega
 have p2:p<=1000000000000000000:=by omega
 have hw:wrap64 (c*s)=p:=by rw[HP.o,Int.mul_comm];exact IntWalk.wrap64_in _ (by rw[<-HP.o];omega)
 have ZT:=jd QN;have HC0:=jd hc0;clear hwx hwc OI hat CQ DT hs1 hu UT Gv QN hcb GG hpb hc0
 go_wp2_with (first
  |(at_mapUpdate;refine wpList_mapUpdate_own _ rfl _ _ _ 59 rfl 3 3 iW sR _ B m _ rfl RH.o (by unfold maxLen;omega) _ _ _ rfl rfl (Maps.keyOf_int_mk underlying3 (lg (by omega))) _ [] (plainElem_int underlying3 (lg (by omega))) ?_;intro w3 dz hg2;go_frame)
  |go_in)
 have Wp:=jd dz;have lO:=jd (qh.o.kept hg2 (by simpa using hb1) (by simpa using hBr.symm));have sf:Hd (New w w3):=jd (k9.o.grown hg2 λk ek=>.inr (by cases ek;rw[HB.o];exact jH _));clear dz hg2;go_roundw
 case rel=>exact⟨_,Dj,m+1,_,_,by have:=ZT.o;omega,lO,Wp,jd (by rw[XN];exact RD.put Z3.o (by rw[HC0.o,hw,HP.o];omega)),sf⟩
 case measure=>rw[lO.o.rg.left_eq,Hs.o.rg.left_eq];exact ZT.o
open Go.RowKit
def oJ(c r:Nat->Nat):Prop:=∃h:Nat->Nat,∀a,a<25->c a<25/\r a<25/\r (c a)=r a/\(c a=a->r a=a)/\(c a≠a->h (c a)<h a)/\c (r a)=r a
theorem oJ.start:oJ (λa=>a) (λa=>a):=⟨λ_=>0,λa h=>⟨h,h,rfl,λ_=>rfl,λh=>absurd rfl h,rfl⟩⟩
theorem oJ.root{c r:Nat->Nat}(h:oJ c r){a:Nat}(ha:a<25):r (r a)=r a:=by
 obtain⟨f,h⟩:=h;obtain⟨_,h2,_,_,_,h6⟩:=h a ha;exact(h (r a) h2).2.2.2.1 h6
theorem oJ.join{c r:Nat->Nat}(h:oJ c r){a b:Nat}(ha:a<25)(hb:b<25)(hn:r a≠r b):
 oJ (λx=>if x=r a then r b else c x) (λx=>if r x=r a then r b else r x):=by
 have raa:=h.root ha;have rbb:=h.root hb;obtain⟨f,h⟩:=h;refine⟨λx=>if r x=r a then f x+f (r b)+1 else f x,λx hx=>?_⟩;obtain⟨h1,h2,h3,h4,h5,h6⟩:=h x hx;obtain⟨b1,b2,b3,b4,b5,b6⟩:=h b hb
 simp only
 have nb:¬r b=r a:=λe=>hn e.symm
 by_cases c1:x=r a
 · subst c1
   simp only[raa,rbb,if_true,if_neg nb];exact⟨b2,b2,trivial,λe=>e,λ_=>by omega,b6⟩
 rw[if_neg c1,h3];refine⟨h1,?_,rfl,λe=>?_,λe=>?_,?_⟩
 · split<;>assumption
 · have:=h4 e
   rw[this,if_neg c1]
 · have:=h5 e
   split<;>omega
 by_cases c2:r x=r a
 · rw[if_pos c2,if_neg (λe=>hn e.symm)];exact b6
 rw[if_neg c2,if_neg c2];exact h6
abbrev Hg(w:World)(cb:Nat)(c:Nat->Nat):Prop:=w.rowIs cb 147 25 (bS c)
theorem IQ(cb a:Nat)(c r:Nat->Nat)(w:World)(hc:Hg w cb c)(hf:oJ c r)(ha:a<25):
 Calls prog 74 #[.int .i64 a,.pointer (some ⟨cb,0,none⟩)] w λe w'=>e=.returned (.int .i64 (r a:Nat))/\New w w':=by
 obtain⟨h,hf⟩:=hf;have HC:=jd hc;have HH:=jd hf;obtain⟨q,HQ⟩:=jb (r a);rw[<-HQ.o];clear hc hf
 go_enter Tryz.func74,Tryz.ntmps74
 go_wp2
 go_loopw [0] (λx wr=>∃y:Nat,x=.int .i64 y/\y<25/\Hd (r y=q)/\Hd (New w wr)) (λx _=>h (intOf x).toNat)
 case atStart=>exact⟨a,rfl,ha,jd HQ.o.symm,jd (Fr.refl _ _)⟩
 case round=>
 obtain⟨y,rfl,hy,HY,HF⟩:=hrel;obtain⟨h1,h2,h3,h4,h5,h6⟩:=HH.o y hy;have hcell:=(HF.o.row HC.o λx=>x).cell (i:=y) hy;simp only[bS]at hcell;obtain⟨z,HZ⟩:=jb (c y);rw[<-HZ.o]at hcell h1 h3 h4 h5;have HB:=jd h3;have H4:=jd h4;have H5:=jd h5
 have i1:(0:Int)<=(y:Int):=by omega
 have i2:(y:Int)<25:=by omega
 clear h2 h3 h4 h5 h6;by_cases e:z=y
 · have hr:r y=y:=H4.o e
   have HRY:=jd hr;subst e;clear hr;have e':(z:Int)=(z:Int):=rfl;go_wp2;go_ret;exact⟨rG (by rw[<-HY.o,HRY.o]),HF.o⟩
 have e':¬(z:Int)=(y:Int):=by omega
 go_wp2;go_roundw
 case rel=>exact⟨z,rfl,h1,jd (by rw[HB.o,HY.o]),HF⟩
 case measure=>simpa[intOf]using H5.o e
end Go.Proofs.YtfplmbmenjdlhaaGreatDoor
