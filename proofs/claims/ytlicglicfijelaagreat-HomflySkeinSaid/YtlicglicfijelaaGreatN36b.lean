/- Walks: Do, of what curls, pushes and slides. (gen36.py) -/
import Derived.Test.YtlicglicfijelaaGreatTK
import Derived.Test.YtlicglicfijelaaGreatN17m
import Derived.Test.YtlicglicfijelaaGreatN30
import Derived.Test.YtlicglicfijelaaGreatN31
import Derived.Test.YtlicglicfijelaaGreatN35
/- Walks: Do, of what curls, pushes and slides. (gen36.py) -/
namespace Go.Proofs.YtlicglicfijelaaGreat
open Go.RowKit

def GaveBw(ok:Bool)(X:List Kn.Cr)(L:Int)(w:World)(e:Ending)(w':World):Prop:=
 New w w'∧((ok=true∧∃b s fv v bi bo,e=.returned (.tuple #[.pointer (some ⟨b,0,none⟩),.bool true])∧BW w.heap.size w' b s fv v bi bo X X L∧Rows OwnD 0 118 w' fv (Kn.facesL X))∨(ok=false∧e=.returned (.tuple #[.pointer none,.bool false])))
theorem ShNew.new{B:Nat}{w w':World}{b:Nat}{X:List Kn.Cr}{L:Int}(hf:New w w')(h:ShNew B w b X L):ShNew B w' b X L:=by
 obtain⟨v,bi,bo,base,s,hb⟩:=h
 exact⟨v,bi,bo,base,hf.sh s,hb⟩
theorem Tryz.func49'(args:Array Value)(w:World):(callFunc 49 args).run Tryz.prog w=.ok (.enter 49 args) w:=by kernel_rfl
theorem Tryz.func50'(args:Array Value)(w:World):(callFunc 50 args).run Tryz.prog w=.ok (.enter 50 args) w:=by kernel_rfl
theorem Tryz.func51'(args:Array Value)(w:World):(callFunc 51 args).run Tryz.prog w=.ok (.enter 51 args) w:=by kernel_rfl
theorem Tryz.func52'(args:Array Value)(w:World):(callFunc 52 args).run Tryz.prog w=.ok (.enter 52 args) w:=by kernel_rfl
theorem Tryz.func53'(args:Array Value)(w:World):(callFunc 53 args).run Tryz.prog w=.ok (.enter 53 args) w:=by kernel_rfl
set_option maxRecDepth 100000 in
set_option maxHeartbeats 2000000 in
theorem open2_any(a:Option Addr)(n c:Nat)(X:List Kn.Cr)(L:Int)(w:World)(hx:CrsAt w a X)(hn:n=X.length)(lx:n≤9223372036854775807)(l1:-9223372036854775808≤L)(l2:L≤9223372036854775807):
 Calls Tryz.prog 30 #[.agg #[.slice a n c,.int .i64 L]] w (GaveBw (Kn.mayB X L&&Kn.planarB X) X L w):=by
 have HN:=Lib.hid hn;have HX:=Lib.hid hx;clear hx hn
 go_enter Tryz.func30,Tryz.ntmps30
 go_wp2_with fail;refine(new_any a n c X L _ (New.crs ((Fr.refl _ _).alloc _) HX.out) HN.out lx l1 l2).mono ?_;rintro e w4 ⟨hF,h5⟩
 rcases h5 with⟨ho,s,rfl,hs,hlb,hnw⟩|⟨ho,rfl⟩
 · have HF:Hid (New w w4):=Lib.hid (((Fr.refl _ _).alloc _).trans hF)
   have HO:=Lib.hid ho;have HS:=Lib.hid hs;have HLB:=Lib.hid hlb;have HNW:=Lib.hid hnw;have HOK:=Lib.hid (mayB_ok ho);clear hF ho hs hlb hnw
   obtain⟨p,HP⟩:∃p,Hid (Kn.planarB X=p):=⟨_,Lib.hid rfl⟩
   go_wp2_with fail;refine(planar_any s X L _ HS.out HOK.out.1 HOK.out.2).mono ?_;rintro e w5 ⟨rfl,hE⟩;rw[HP.out];have HE:=Lib.hid (HF.out.trans hE);have HW5:=Lib.hid (ShNew.new hE HNW.out);have HS5:=Lib.hid (New.shAt hE HS.out);clear hE
   cases p
   · go_wp2
     go_ret2
     exact⟨HE.out,.inr ⟨by rw[HO.out,HP.out];rfl,rfl⟩⟩
   · go_wp2_with fail
     refine(faces_any s X L _ HS5.out HOK.out.1 HOK.out.2).mono ?_;rintro e w6 ⟨v,rfl,hr,hE⟩;obtain⟨fa,fc,rfl⟩:=hr.sl
     obtain⟨m,hm⟩:∃m,(Kn.facesL X).length=m:=⟨_,rfl⟩
     rw[hm]at hr ⊢;clear hm;have HS6:=Lib.hid (New.shAt hE HS5.out);have HR6:Hid (Rows OwnD 0 118 w6 (.slice fa m fc) (Kn.facesL X)):=Lib.hid (Rows.base0 hr);have HE6:=Lib.hid (HE.out.trans hE);have HW6:=Lib.hid (ShNew.new hE HW5.out);clear hE hr;go_wp2;go_ret2;have hN:New w6 (w6.alloc (.cells #[.pointer (some ⟨s,0,none⟩),(Value.slice fa m fc)] 90)):=(Fr.refl _ _).alloc _;obtain⟨v,bi,bo,base,hsh,hbs⟩:=HW6.out;have hsh2:=hN.sh hsh;have h1:=HLB.out
     simp at h1 hbs
     refine⟨HE6.out.trans hN,.inl ⟨by rw[HO.out,HP.out];rfl,_,s,_,v,bi,bo,rfl,⟨heap_alloc_new _ _,hsh2.blk,own_base hsh2.own (by omega),hsh2.ri,hsh2.ro,hsh2.ne,HE6.out.size,by omega⟩,RowsD.new HR6.out hN⟩⟩
 · have HF:Hid (New w w4):=Lib.hid (((Fr.refl _ _).alloc _).trans hF)
   have HO:=Lib.hid ho;clear hF ho;go_wp2;go_ret2
   exact⟨HF.out,.inr ⟨by rw[HO.out];rfl,rfl⟩⟩
set_option maxRecDepth 100000 in
set_option maxHeartbeats 8000000 in
theorem do_g(g:Nat)(eg:∀args w,(callFunc g args).run Tryz.prog w=.ok (.enter g args) w)(a:Option Addr)(n c:Nat)(X:List Kn.Cr)(L k x y u vv:Int)(ub vb ov:Bool)(o:Out)(w:World)(hx:CrsAt w a X)(hn:n=X.length)(lx:n≤9223372036854775807)(l1:-9223372036854775808≤L)(l2:L≤9223372036854775807)
 (hlk:∀(w:World) (b:Nat),w.heap[b]?=some (.map (kEs 5) 5)→(Instr.lookup 83 (.map (some b)) (.int .i64 k) false).run Tryz.prog w=.ok (.func (.func g) #[] #[]) w)
 (hcall:∀(D b s:Nat) (fv v:Value) (bi bo:Nat) (w:World),BW D w b s fv v bi bo X X L→Rows OwnD 0 118 w fv (Kn.facesL X)→Kn.Ok X→X.length≤16→0≤L→L≤16→Calls Tryz.prog g #[.pointer (some ⟨b,0,none⟩),mvV k x y u vv ub vb ov] w (GaveP D b s fv o w)):
 Calls Tryz.prog 18 #[.agg #[.slice a n c,.int .i64 L],mvV k x y u vv ub vb ov] w (GaveDo (if Kn.mayB X L&&Kn.planarB X then o else .no 7) w):=by
 have HX:=Lib.hid hx;have HN:=Lib.hid hn;have HLK:=Lib.hid hlk;have HCALL:=Lib.hid hcall
 have hnil:∀w,(binOp .eql 82 (.func (.func g) #[] #[]) .nilFunc).run Tryz.prog w=.ok (.bool false) w:=fun w=>by kernel_rfl
 have hmf:∀(fn:Fn) (first cap:Array Value) (w:World),(Instr.makeFunc fn first cap).run Tryz.prog w=.ok (.func fn first cap) w:=fun _ _ _ _=>rfl
 clear hx hn hlk hcall
 obtain⟨oo,HOO⟩:∃oo,Hid (oo=if Kn.mayB X L&&Kn.planarB X then o else Out.no 7):=⟨_,Lib.hid rfl⟩
 rw[←HOO.out]
 obtain⟨w1,HW1⟩:∃w1,Hid (w1=(((w.alloc (.cells #[.slice a n c,.int .i64 L] 24)).alloc (.cells #[.int .i64 k,.int .i64 x,.int .i64 y,.int .i64 u,.bool ub,.int .i64 vv,.bool vb,.bool ov] 28)).alloc (.cells #[.slice none 0 0,.int .i64 0] 24)).alloc (.cells #[.int .i64 0] 30)):=⟨_,Lib.hid rfl⟩
 obtain⟨B1,HB1⟩:∃B,Hid (B=w.heap.size+1):=⟨_,Lib.hid rfl⟩
 obtain⟨B2,HB2⟩:∃B,Hid (B=w.heap.size+1+1):=⟨_,Lib.hid rfl⟩
 obtain⟨B3,HB3⟩:∃B,Hid (B=w.heap.size+1+1+1):=⟨_,Lib.hid rfl⟩
 have HN1:Hid (New w w1):=Lib.hid (by rw[HW1.out];exact((((Fr.refl _ w).alloc _).alloc _).alloc _).alloc _)
 have HM1:Hid (w1.heap[B1]?=some (.cells #[.int .i64 k,.int .i64 x,.int .i64 y,.int .i64 u,.bool ub,.int .i64 vv,.bool vb,.bool ov] 28 (0,0))):=Lib.hid (by
  have h:=heap_alloc_new (w.alloc (.cells #[.slice a n c,.int .i64 L] 24)) (.cells #[.int .i64 k,.int .i64 x,.int .i64 y,.int .i64 u,.bool ub,.int .i64 vv,.bool vb,.bool ov] 28);rw[World.size_alloc]at h;rw[HW1.out,HB1.out]
  exact(((Fr.refl (fun _=>False) _).alloc _).alloc _).blk h fun x=>x)
 have HR1:Hid (w1.heap[B2]?=some (.cells #[.slice none 0 0,.int .i64 0] 24 (0,0))):=Lib.hid (by
  have h:=heap_alloc_new ((w.alloc (.cells #[.slice a n c,.int .i64 L] 24)).alloc (.cells #[.int .i64 k,.int .i64 x,.int .i64 y,.int .i64 u,.bool ub,.int .i64 vv,.bool vb,.bool ov] 28)) (.cells #[.slice none 0 0,.int .i64 0] 24);rw[World.size_alloc,World.size_alloc]at h;rw[HW1.out,HB2.out]
  exact((Fr.refl (fun _=>False) _).alloc _).blk h fun x=>x)
 have HE1:Hid (w1.heap[B3]?=some (.cells #[.int .i64 0] 30 (0,0))):=Lib.hid (by
  have h:=heap_alloc_new (((w.alloc (.cells #[.slice a n c,.int .i64 L] 24)).alloc (.cells #[.int .i64 k,.int .i64 x,.int .i64 y,.int .i64 u,.bool ub,.int .i64 vv,.bool vb,.bool ov] 28)).alloc (.cells #[.slice none 0 0,.int .i64 0] 24)) (.cells #[.int .i64 0] 30);rw[World.size_alloc,World.size_alloc,World.size_alloc]at h;rw[HW1.out,HB3.out]
  exact h)
 have hsz1:w1.heap.size=w.heap.size+1+1+1+1:=by rw[HW1.out,World.size_alloc,World.size_alloc,World.size_alloc,World.size_alloc]
 have HSZ:=Lib.hid hsz1;clear hsz1
 go_enter_defers Tryz.func18,Tryz.ntmps18
 go_wp2_with fail;rw[←HW1.out,←HB3.out,←HB2.out,←HB1.out];refine(open2_any a n c X L w1 (New.crs HN1.out HX.out) HN.out lx l1 l2).mono ?_;rintro e w2 ⟨hF,h5⟩
 rcases h5 with⟨ho,b,s,fv,v,bi,bo,rfl,hbe,hro⟩|⟨ho,rfl⟩
 · have HN2:=Lib.hid (HN1.out.trans hF)
   have HM2:=Lib.hid (hF.blk HM1.out fun x=>x);have HR2:=Lib.hid (hF.blk HR1.out fun x=>x);have HE2:=Lib.hid (hF.blk HE1.out fun x=>x)
   obtain⟨D,HD⟩:∃D,Hid (D=w1.heap.size):=⟨_,Lib.hid rfl⟩
   rw[←HD.out]at hbe;have HBE:=Lib.hid hbe;have HRO:=Lib.hid hro;have HO:Hid (oo=o):=Lib.hid (by rw[HOO.out,ho];rfl)
   have HOK:Hid (Kn.Ok X∧X.length≤16∧0≤L∧L≤16):=Lib.hid (by
    rw[Bool.and_eq_true]at ho;have h1:=mayB_ok ho.1;have h2:=ho.1
    unfold Kn.mayB at h2
    simp only[Bool.and_eq_true,decide_eq_true_eq]at h2
    exact⟨h1.1,h1.2,h2.1.1.1.2,h2.1.1.2⟩)
   have hB2s:¬D≤B2:=by have:=HD.out;have:=HSZ.out;have:=HB2.out;omega
   have hB3s:¬D≤B3:=by have:=HD.out;have:=HSZ.out;have:=HB3.out;omega
   have hsw:w.heap.size≤D:=by have:=HD.out;have:=HSZ.out;omega
   have hB32:¬B3=B2:=by have:=HB2.out;have:=HB3.out;omega
   have hB2w:w.heap.size≤B2:=by have:=HB2.out;omega
   have hB3w:w.heap.size≤B3:=by have:=HB3.out;omega
   clear hF ho hbe hro;go_wp2_with fail;have HP0:Hid (New w2 w2.drew):=Lib.hid (Fr.refl _ w2).drew;have hS0:=(eight_c (HP0.out.blk HM2.out fun x=>x)).1
   refine wp_only ?_
   refine wp_region_held_drew (S:=fun wz=>wz.cell? ⟨B1,0,none⟩=some (.int .i64 k)) (by kernel_rfl) hS0 (fun hHeld=>?_)
   clear hS0;generalize w2.drew=r0 at hHeld HP0 ⊢
   refine' sq 1 (h:=sq 2 (h:=?_))
   refine rdO (i:=0) (fun K hK=>?_);(try simp only[lq1,lq2,lq3]);go_simp;refine(kinds_any _).mono ?_;rintro e r1 ⟨mb,rfl,hF,hm⟩;have HP1:=Lib.hid (HP0.out.trans hF);have HMB:=Lib.hid hm;clear hF hm;go_wp2_with fail;refine hK.out _ _ ((eight_c (HP1.out.blk HM2.out fun x=>x)).1) (fun hHeld=>?_);clear hK K;(try simp only[Act.put,lq1,lq2,lq3,lq4,lq5,lq6]);refine rdO (i:=3) (fun K hK=>?_);(try simp only[lq1,lq2,lq3]);have hl:=HLK.out _ _ HMB.out;go_simp;clear hl;refine hK.out _ _ ((eight_c (HP1.out.blk HM2.out fun x=>x)).1) (fun hHeld=>?_)
   clear hK K;(try simp only[Act.put,lq1,lq2,lq3,lq4,lq5,lq6])
   refine' sq 4 (h:=?_)
   refine wpAnyH_done (by kernel_rfl) ?_ _
   dsimp only
   have HBE1:=Lib.hid (HBE.out.new HP1.out);have HRO1:=Lib.hid (RowsD.new HRO.out HP1.out);have HN3:=Lib.hid (HN2.out.trans HP1.out);have HM3:=Lib.hid (HP1.out.blk HM2.out fun x=>x);have HR3:=Lib.hid (HP1.out.blk HR2.out fun x=>x);have HE3:=Lib.hid (HP1.out.blk HE2.out fun x=>x);obtain⟨m0,m1,m2,m3,m4,m5,m6,m7⟩:=eight_c HM3.out;go_wp2_with fail;clear m0 m1 m2 m3 m4 m5 m6 m7;refine(HCALL.out D b s fv v bi bo r1 HBE1.out HRO1.out HOK.out.1 HOK.out.2.1 HOK.out.2.2.1 HOK.out.2.2.2).mono ?_;rintro e r2 ⟨hF,hM⟩
   have HN4:Hid (New w r2):=Lib.hid (HN3.out.next hF fun i hi=>.inr (Nat.le_trans hsw hi));have HR4:=Lib.hid (hF.blk HR3.out hB2s);have HE4:=Lib.hid (hF.blk HE3.out hB3s);clear hF
   cases o with
   |no x'=>
    obtain rfl:=hM;go_wp2
    refine leaves_cons (f:=32) (args:=#[.pointer (some ⟨B2,0,none⟩),.pointer (some ⟨B3,0,none⟩)]) (by simp) (by simp[go_sem]) ?_
    refine(do1_panic B2 B3 24 30 x' 0 _ _ r2 (fun e=>hB32 e.symm) HR4.out HE4.out).mono ?_;rintro r u' w' ⟨rfl,rfl,hFr,h1,h2,h3⟩
    refine⟨.tuple #[.agg #[.slice none 0 0,.int .i64 0],.int .i64 x'],by simp[results,Tryz.results18,go_sem,h1,h2,h3],HN4.out.next hFr fun i hi=>.inr (by omega),?_⟩
    rw[HO.out]
   |ok Y L'=>
    obtain⟨rfl,hbk,ya,yc,hy0,hy1,hyc,hyf⟩:=hM;have HYF:=Lib.hid hyf;clear hyf;have HYC:=Lib.hid hyc;clear hyc;obtain⟨c0,_⟩:=box2_c hbk;clear hbk
    obtain⟨ny,HNY⟩:∃ny,Hid (ny=Y.length):=⟨_,Lib.hid rfl⟩
    rw[←HNY.out]at hy0;obtain⟨⟨_,a1⟩,a2,⟨_,b1⟩,b2,⟨_,c1⟩,c2,d1,d2,d3,fr⟩:=sto HR4.out HE4.out hB32 (.slice ya ny yc) (.int .i64 L') (.int .i64 0);have HFC:Hid (∀w',Fr (fun k=>k=B2∨k=B3) r2 w'→CrsAt w' ya Y):=Lib.hid (fun w' hf=>HYC.out.off HR4.out HE4.out hf);have HFR:=Lib.hid fr;clear fr;go_wp2
    refine leaves_cons (f:=32) (args:=#[.pointer (some ⟨B2,0,none⟩),.pointer (some ⟨B3,0,none⟩)]) (by simp) (by simp[go_sem]) ?_
    refine(do1_idle B2 B3 _).mono ?_;rintro r u' w' ⟨rfl,rfl,rfl⟩
    refine⟨.tuple #[.agg #[.slice ya ny yc,.int .i64 L'],.int .i64 0],by simp[results,Tryz.results18,go_sem,d1,d2,d3],HN4.out.next HFR.out fun i hi=>.inr (by omega),?_⟩
    rw[HO.out]
    refine⟨ya,yc,by rw[HNY.out],HFC.out _ HFR.out,fun ad e=>Nat.le_trans hsw (HYF.out ad e)⟩
 · have HN2:=Lib.hid (HN1.out.trans hF)
   have HR2:=Lib.hid (hF.blk HR1.out fun x=>x);have HE2:=Lib.hid (hF.blk HE1.out fun x=>x);have HO:Hid (oo=.no 7):=Lib.hid (by rw[HOO.out,ho];rfl);clear hF ho;obtain⟨⟨_,a1⟩,a2,⟨_,b1⟩,b2,⟨_,c1⟩,c2,d1,d2,d3,fr⟩:=sto HR2.out HE2.out (by have:=HB2.out;have:=HB3.out;omega) (.slice none 0 0) (.int .i64 0) (.int .i64 7);have HF3:=Lib.hid (HN2.out.next fr fun i hi=>.inr (by have:=HB2.out;have:=HB3.out;omega));clear fr;go_wp2
   refine⟨.tuple #[.agg #[.slice none 0 0,.int .i64 0],.int .i64 7],by simp[results,Tryz.results18,go_sem,d1,d2,d3],HF3.out,?_⟩
   rw[HO.out]
theorem GaveO.P{D b s bi bo:Nat}{fv v:Value}{X:List Kn.Cr}{L:Int}{o:Out}{w w':World}{e:Ending}(h:BW D w b s fv v bi bo X X L)(k:GaveO s o w e w'):GaveP D b s fv o w e w':=by
 obtain⟨hF,hM⟩:=k
 refine⟨hF.mono fun k e=>by rw[e];exact h.ls,?_⟩
 cases o with
 |no x=>exact hM
 |ok Y N=>
  obtain⟨h1,a,c,h2,h3,h4,h5⟩:=hM
  refine⟨h1,hF.blk h.blk h.sne,a,c,h2,h3,h4,fun ad e=>?_⟩
  have h6:=h5 ad e;have h7:=h.lb;have h8:=(Array.getElem?_eq_some_iff.1 h.blk).1
  omega
section
variable (a:Option Addr) (n c:Nat) (X:List Kn.Cr) (L x y u v:Int) (ub vb ov:Bool) (w:World) (hx:CrsAt w a X) (hn:n=X.length) (lx:n≤9223372036854775807) (l1:-9223372036854775808≤L) (l2:L≤9223372036854775807)
include hx hn lx l1 l2
theorem do_curl:Calls Tryz.prog 18 #[.agg #[.slice a n c,.int .i64 L],mvV 1 x y u v ub vb ov] w (GaveDo (doO X L (curlO X L x y)) w):=
 do_g 49 Tryz.func49' a n c X L 1 x y u v ub vb ov _ w hx hn lx l1 l2 klook1 fun D b s fv v' bi bo w h _ hX hl h1 h2=>curl_any D b s fv v' bi bo X L 1 x y u v ub vb ov w h hX hl h1 h2
theorem do_un2:Calls Tryz.prog 18 #[.agg #[.slice a n c,.int .i64 L],mvV 2 x y u v ub vb ov] w (GaveDo (doO X L (unO X L x)) w):=
 do_g 50 Tryz.func50' a n c X L 2 x y u v ub vb ov _ w hx hn lx l1 l2 klook2 fun D b s fv v' bi bo w h _ hX hl h1 h2=>(uncurl_any b s fv X L 2 x y u v ub vb ov w h.at hX hl h1 h2).mono fun _ _ k=>k.P h
theorem do_push:Calls Tryz.prog 18 #[.agg #[.slice a n c,.int .i64 L],mvV 3 x y u v ub vb ov] w (GaveDo (doO X L (pushO X L u v ub vb ov)) w):=
 do_g 51 Tryz.func51' a n c X L 3 x y u v ub vb ov _ w hx hn lx l1 l2 klook3 fun D b s fv v' bi bo w h hr hX hl _ _=>push_any D b s fv v' bi bo X L 3 x y u v ub vb ov w h hr hX hl
theorem do_pull2:Calls Tryz.prog 18 #[.agg #[.slice a n c,.int .i64 L],mvV 4 x y u v ub vb ov] w (GaveDo (doO X L (pullO X L x y)) w):=
 do_g 52 Tryz.func52' a n c X L 4 x y u v ub vb ov _ w hx hn lx l1 l2 klook4 fun D b s fv v' bi bo w h hr hX hl h1 h2=>(pull_any b s fv X L 4 x y u v ub vb ov w h.at hr hX hl h1 h2).mono fun _ _ k=>k.P h
theorem do_slide:Calls Tryz.prog 18 #[.agg #[.slice a n c,.int .i64 L],mvV 5 x y u v ub vb ov] w (GaveDo (doO X L (slideO X L x)) w):=
 do_g 53 Tryz.func53' a n c X L 5 x y u v ub vb ov _ w hx hn lx l1 l2 klook5 fun D b s fv v' bi bo w h hr hX hl _ _=>slide_any D b s fv v' bi bo X L 5 x y u v ub vb ov w h hr hX hl
end
end Go.Proofs.YtlicglicfijelaaGreat

/- Walks: Do, of no kind of move. -/
namespace Go.Proofs.YtlicglicfijelaaGreat
open Go.RowKit Go.ChangeMaps

set_option maxRecDepth 100000 in
theorem klook0(k:Int)(h1:¬k=1)(h2:¬k=2)(h3:¬k=3)(h4:¬k=4)(h5:¬k=5)(w:World)(b:Nat)(hb:w.heap[b]?=some (.map (kEs 5) 5)):(Instr.lookup 83 (.map (some b)) (.int .i64 k) false).run Tryz.prog w=.ok .nilFunc w:=by
 have hc:(Instr.checkKey false 10000 3 (.int .i64 k)).run Tryz.prog w=.ok () w:=by kernel_rfl
 have hu:Tryz.prog.underlying 3=some (.int .i64):=by kernel_rfl
 have hf:(Instr.findKey 3 (.int .i64 k) (kEs 5).toList).run Tryz.prog w=.ok none w:=by
  have g1:(k==1)=false:=by simp[h1]
  have g2:(k==2)=false:=by simp[h2]
  have g3:(k==3)=false:=by simp[h3]
  have g4:(k==4)=false:=by simp[h4]
  have g5:(k==5)=false:=by simp[h5]
  have e:Instr.findNow (.int .i64) (.int .i64 k) (kEs 5).toList 0=some none:=by
   show (match some (k==1)with
    |some true=>some (some (0,Value.func (Fn.func 49) #[] #[]))
    |some false=>match some (k==2)with
     |some true=>some (some (1,Value.func (Fn.func 50) #[] #[]))
     |some false=>match some (k==3)with
      |some true=>some (some (2,Value.func (Fn.func 51) #[] #[]))
      |some false=>match some (k==4)with
       |some true=>some (some (3,Value.func (Fn.func 52) #[] #[]))
       |some false=>match some (k==5)with
        |some true=>some (some (4,Value.func (Fn.func 53) #[] #[]))
        |some false=>some none
        |none=>none
       |none=>none
      |none=>none
     |none=>none
    |none=>none)=some none
   rw[g1,g2,g3,g4,g5]
  unfold Instr.findKey
  simp[run_underlying hu,e,Result.andThen]
 have hz:(zeroValue 82).run Tryz.prog w=.ok .nilFunc w:=by kernel_rfl
 have he:(kEs 5).isEmpty=false:=rfl
 simp[Instr.lookup,run_underlying Tryz.ul83,MapKept.run_getObj_map hb,hc,hf,hz,he,Result.andThen]
set_option maxRecDepth 100000 in
set_option maxHeartbeats 8000000 in
theorem do_other(a:Option Addr)(n c:Nat)(X:List Kn.Cr)(L k x y u v:Int)(ub vb ov:Bool)(w:World)(hx:CrsAt w a X)(hn:n=X.length)(lx:n≤9223372036854775807)(l1:-9223372036854775808≤L)(l2:L≤9223372036854775807)
 (h1:¬k=1) (h2:¬k=2) (h3:¬k=3) (h4:¬k=4) (h5:¬k=5):
 Calls Tryz.prog 18 #[.agg #[.slice a n c,.int .i64 L],mvV k x y u v ub vb ov] w (GaveDo (if Kn.mayB X L&&Kn.planarB X then .no 6 else .no 7) w):=by
 have HX:=Lib.hid hx;have HN:=Lib.hid hn;have HLK:Hid (∀(w:World) (b:Nat),w.heap[b]?=some (.map (kEs 5) 5)→(Instr.lookup 83 (.map (some b)) (.int .i64 k) false).run Tryz.prog w=.ok .nilFunc w):=Lib.hid (klook0 k h1 h2 h3 h4 h5)
 have hnil:∀w,(binOp .eql 82 .nilFunc .nilFunc).run Tryz.prog w=.ok (.bool true) w:=fun w=>by kernel_rfl
 have hmf:∀(fn:Fn) (first cap:Array Value) (w:World),(Instr.makeFunc fn first cap).run Tryz.prog w=.ok (.func fn first cap) w:=fun _ _ _ _=>rfl
 clear hx hn h1 h2 h3 h4 h5
 obtain⟨oo,HOO⟩:∃oo,Hid (oo=if Kn.mayB X L&&Kn.planarB X then Out.no 6 else Out.no 7):=⟨_,Lib.hid rfl⟩
 rw[←HOO.out]
 obtain⟨w1,HW1⟩:∃w1,Hid (w1=(((w.alloc (.cells #[.slice a n c,.int .i64 L] 24)).alloc (.cells #[.int .i64 k,.int .i64 x,.int .i64 y,.int .i64 u,.bool ub,.int .i64 v,.bool vb,.bool ov] 28)).alloc (.cells #[.slice none 0 0,.int .i64 0] 24)).alloc (.cells #[.int .i64 0] 30)):=⟨_,Lib.hid rfl⟩
 obtain⟨B1,HB1⟩:∃B,Hid (B=w.heap.size+1):=⟨_,Lib.hid rfl⟩
 obtain⟨B2,HB2⟩:∃B,Hid (B=w.heap.size+1+1):=⟨_,Lib.hid rfl⟩
 obtain⟨B3,HB3⟩:∃B,Hid (B=w.heap.size+1+1+1):=⟨_,Lib.hid rfl⟩
 have HN1:Hid (New w w1):=Lib.hid (by rw[HW1.out];exact((((Fr.refl _ w).alloc _).alloc _).alloc _).alloc _)
 have HM1:Hid (w1.heap[B1]?=some (.cells #[.int .i64 k,.int .i64 x,.int .i64 y,.int .i64 u,.bool ub,.int .i64 v,.bool vb,.bool ov] 28 (0,0))):=Lib.hid (by
  have h:=heap_alloc_new (w.alloc (.cells #[.slice a n c,.int .i64 L] 24)) (.cells #[.int .i64 k,.int .i64 x,.int .i64 y,.int .i64 u,.bool ub,.int .i64 v,.bool vb,.bool ov] 28);rw[World.size_alloc]at h;rw[HW1.out,HB1.out]
  exact(((Fr.refl (fun _=>False) _).alloc _).alloc _).blk h fun x=>x)
 have HR1:Hid (w1.heap[B2]?=some (.cells #[.slice none 0 0,.int .i64 0] 24 (0,0))):=Lib.hid (by
  have h:=heap_alloc_new ((w.alloc (.cells #[.slice a n c,.int .i64 L] 24)).alloc (.cells #[.int .i64 k,.int .i64 x,.int .i64 y,.int .i64 u,.bool ub,.int .i64 v,.bool vb,.bool ov] 28)) (.cells #[.slice none 0 0,.int .i64 0] 24);rw[World.size_alloc,World.size_alloc]at h;rw[HW1.out,HB2.out]
  exact((Fr.refl (fun _=>False) _).alloc _).blk h fun x=>x)
 have HE1:Hid (w1.heap[B3]?=some (.cells #[.int .i64 0] 30 (0,0))):=Lib.hid (by
  have h:=heap_alloc_new (((w.alloc (.cells #[.slice a n c,.int .i64 L] 24)).alloc (.cells #[.int .i64 k,.int .i64 x,.int .i64 y,.int .i64 u,.bool ub,.int .i64 v,.bool vb,.bool ov] 28)).alloc (.cells #[.slice none 0 0,.int .i64 0] 24)) (.cells #[.int .i64 0] 30);rw[World.size_alloc,World.size_alloc,World.size_alloc]at h;rw[HW1.out,HB3.out]
  exact h)
 have hsz1:w1.heap.size=w.heap.size+1+1+1+1:=by rw[HW1.out,World.size_alloc,World.size_alloc,World.size_alloc,World.size_alloc]
 have HSZ:=Lib.hid hsz1;clear hsz1
 go_enter_defers Tryz.func18,Tryz.ntmps18
 go_wp2_with fail;rw[←HW1.out,←HB3.out,←HB2.out,←HB1.out];refine(open_any a n c X L w1 (New.crs HN1.out HX.out) HN.out lx l1 l2).mono ?_;rintro e w2 ⟨hF,h5⟩
 rcases h5 with⟨ho,b,s,fv,rfl,hbe,hro,hb,hs⟩|⟨ho,rfl⟩
 · have HN2:=Lib.hid (HN1.out.trans hF)
   have HM2:=Lib.hid (hF.blk HM1.out fun x=>x);have HR2:=Lib.hid (hF.blk HR1.out fun x=>x);have HE2:=Lib.hid (hF.blk HE1.out fun x=>x);have HBE:=Lib.hid hbe;have HRO:=Lib.hid hro;have HO:Hid (oo=.no 6):=Lib.hid (by rw[HOO.out,ho];rfl)
   have HOK:Hid (Kn.Ok X∧X.length≤16∧0≤L∧L≤16):=Lib.hid (by
    rw[Bool.and_eq_true]at ho;have h1:=mayB_ok ho.1;have h2:=ho.1
    unfold Kn.mayB at h2
    simp only[Bool.and_eq_true,decide_eq_true_eq]at h2
    exact⟨h1.1,h1.2,h2.1.1.1.2,h2.1.1.2⟩)
   have hB2s:¬B2=s:=by have:=HSZ.out;have:=HB2.out;omega
   have hB3s:¬B3=s:=by have:=HSZ.out;have:=HB3.out;omega
   have hsw:w.heap.size≤s:=by have:=HSZ.out;omega
   have hB32:¬B3=B2:=by have:=HB2.out;have:=HB3.out;omega
   have hB2w:w.heap.size≤B2:=by have:=HB2.out;omega
   have hB3w:w.heap.size≤B3:=by have:=HB3.out;omega
   clear hF ho hbe hro hb hs;go_wp2_with fail;have HP0:Hid (New w2 w2.drew):=Lib.hid (Fr.refl _ w2).drew;have hS0:=(eight_c (HP0.out.blk HM2.out fun x=>x)).1
   refine wp_only ?_
   refine wp_region_held_drew (S:=fun wz=>wz.cell? ⟨B1,0,none⟩=some (.int .i64 k)) (by kernel_rfl) hS0 (fun hHeld=>?_)
   clear hS0;generalize w2.drew=r0 at hHeld HP0 ⊢
   refine' sq 1 (h:=sq 2 (h:=?_))
   refine rdO (i:=0) (fun K hK=>?_);(try simp only[lq1,lq2,lq3]);go_simp;refine(kinds_any _).mono ?_;rintro e r1 ⟨mb,rfl,hF,hm⟩;have HP1:=Lib.hid (HP0.out.trans hF);have HMB:=Lib.hid hm;clear hF hm;go_wp2_with fail;refine hK.out _ _ ((eight_c (HP1.out.blk HM2.out fun x=>x)).1) (fun hHeld=>?_);clear hK K;(try simp only[Act.put,lq1,lq2,lq3,lq4,lq5,lq6]);refine rdO (i:=3) (fun K hK=>?_);(try simp only[lq1,lq2,lq3]);have hl:=HLK.out _ _ HMB.out;go_simp;clear hl;refine hK.out _ _ ((eight_c (HP1.out.blk HM2.out fun x=>x)).1) (fun hHeld=>?_)
   clear hK K;(try simp only[Act.put,lq1,lq2,lq3,lq4,lq5,lq6])
   refine' sq 4 (h:=?_)
   refine wpAnyH_done (by kernel_rfl) ?_ _
   dsimp only
   have HN3:=Lib.hid (HN2.out.trans HP1.out);have HR3:=Lib.hid (HP1.out.blk HR2.out fun x=>x);have HE3:=Lib.hid (HP1.out.blk HE2.out fun x=>x);obtain⟨⟨_,a1⟩,a2,⟨_,b1⟩,b2,⟨_,c1⟩,c2,d1,d2,d3,fr⟩:=sto HR3.out HE3.out hB32 (.slice none 0 0) (.int .i64 0) (.int .i64 6);have HF3:=Lib.hid (HN3.out.next fr fun i hi=>.inr (by have:=HB2.out;have:=HB3.out;omega));clear fr;go_wp2
   refine⟨.tuple #[.agg #[.slice none 0 0,.int .i64 0],.int .i64 6],by simp[results,Tryz.results18,go_sem,d1,d2,d3],HF3.out,?_⟩
   rw[HO.out]
 · have HN2:=Lib.hid (HN1.out.trans hF)
   have HR2:=Lib.hid (hF.blk HR1.out fun x=>x);have HE2:=Lib.hid (hF.blk HE1.out fun x=>x);have HO:Hid (oo=.no 7):=Lib.hid (by rw[HOO.out,ho];rfl);clear hF ho;obtain⟨⟨_,a1⟩,a2,⟨_,b1⟩,b2,⟨_,c1⟩,c2,d1,d2,d3,fr⟩:=sto HR2.out HE2.out (by have:=HB2.out;have:=HB3.out;omega) (.slice none 0 0) (.int .i64 0) (.int .i64 7);have HF3:=Lib.hid (HN2.out.next fr fun i hi=>.inr (by have:=HB2.out;have:=HB3.out;omega));clear fr;go_wp2
   refine⟨.tuple #[.agg #[.slice none 0 0,.int .i64 0],.int .i64 7],by simp[results,Tryz.results18,go_sem,d1,d2,d3],HF3.out,?_⟩
   rw[HO.out]
end Go.Proofs.YtlicglicfijelaaGreat
