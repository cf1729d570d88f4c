/- Walks: change (regions 1, 2 printed by gen_h6.py). -/
import Derived.Test.YtlicglicfijelaaGreatH5
import Derived.Test.YtlicglicfijelaaGreatN9A
import Derived.Test.YtlicglicfijelaaGreatH3
import Derived.Test.YtlicglicfijelaaGreatW40
import Derived.Test.YtlicglicfijelaaGreatMAll
import Derived.Test.YtlicglicfijelaaGreatW6
import Derived.Test.YtlicglicfijelaaGreatW9N
/- Walks: change (regions 1, 2 printed by gen_h6.py). -/
namespace Go.Proofs.YtlicglicfijelaaGreat
open Go.RowKit

set_option maxRecDepth 100000 in
set_option maxHeartbeats 4000000 in
theorem change_any(b k:Nat)(X:List Kn.Cr)(L:Int)(w:World)(h:ShAt w b X L)(hk:k<X.length)(hl:X.length≤16):
 Calls Tryz.prog 19 #[.pointer (some ⟨b,0,none⟩),.int .i64 k] w (GaveWith (Kn.chgL X k) L w):=by
 obtain⟨n,hn⟩:∃n,n=X.length:=⟨_,rfl⟩
 obtain⟨a1,c1,h0,hL,hcr⟩:=h.crs;rw[←hn]at h0 hk hl;have HN:=Lib.hid hn;have HS:=Lib.hid h;have HCR:=Lib.hid hcr;clear h hn hcr
 obtain⟨rb,HRB⟩:∃z,Hid (z=w.heap.size):=⟨_,Lib.hid rfl⟩
 obtain⟨w1,HW1⟩:∃w1,Hid (w1=w.alloc (.cells #[.slice none 0 0,.int .i64 0] 24)):=⟨_,Lib.hid rfl⟩
 have HN0:Hid (New w w1.drew):=Lib.hid (by rw[HW1.out];exact((Fr.refl _ w).alloc _).drew);have HR0:Hid (w1.drew.heap[rb]?=some (.cells #[.slice none 0 0,.int .i64 0] 24 (0,0))):=Lib.hid (by rw[HW1.out,HRB.out];exact heap_alloc_new w _);have hSS:w1.drew.cell? ⟨b,0,none⟩=some (.slice a1 n c1)∧w1.drew.cell? ⟨b,1,none⟩=some (.int .i64 L):=⟨HN0.out.cell h0 fun x=>x,HN0.out.cell hL fun x=>x⟩
 have hbj:∀j,rb<j→¬b=j:=fun j hj e=>by have:=(show b<w.heap.size from by obtain⟨_,_,_,_,s⟩:=HS.out;exact s.lt);have:=HRB.out;omega
 go_enter Tryz.func19,Tryz.ntmps19
 go_upto_region 1 with fail;rw[←HW1.out,←HRB.out]
 go_cut [5] (fun t5 wz=>∃(j:Nat) (sc:Value),t5=.pointer (some ⟨j,0,none⟩)∧rb<j∧Hid (wz.heap[j]?=some (.cells #[sc,.int .i64 L] 24 (0,0)))∧Hid (wz.ownsRow w.heap.size 41 5 sc n (crCells X))∧Hid (New w wz)∧Hid (wz.heap[rb]?=some (.cells #[.slice none 0 0,.int .i64 0] 24 (0,0))))
 case first=>
  refine wp_region_held_drew (S:=fun w'=>w'.cell? ⟨b,0,none⟩=some (.slice a1 n c1)∧w'.cell? ⟨b,1,none⟩=some (.int .i64 L)) (by kernel_rfl) hSS (fun hHeld=>?_)
  clear hSS h0 hL;generalize w1.drew=r0 at hHeld HN0 HR0 ⊢
  refine' sq 0 (h:=sq 1 (h:=sq 2 (h:=sq 3 (h:=sq 4 (h:=sq 6 (h:=sq 7 (h:=sq 8 (h:=sq 9 (h:=sq 10 (h:=?_))))))))))
  refine wpAnyH_ready (rs:=[5,12]) (by kernel_rfl) (by simp) ?_
  refine AllReadyH.cons rfl (fun K hK=>?_) (AllReadyH.cons rfl (fun K hK=>?_) AllReadyH.nil)
  focus
   skip
   (try simp only[lq1,lq2,lq3]);go_simp;have hcl:=clone_any a1 c1 X r0 (New.crs HN0.out HCR.out) (by have:=HN.out;omega);rw[←HN.out]at hcl
   refine hcl.mono ?_
   clear hcl;rintro e r1 ⟨sc,rfl,ho,hF⟩;obtain⟨a3,c3,rfl,_⟩:=own_shape2 ho;rw[←HN.out]at ho ⊢;have HO1:=Lib.hid (own_base ho HN0.out.size);have HN1:=Lib.hid (HN0.out.trans hF);have HR1:=Lib.hid (hF.blk HR0.out fun x=>x);have hS1:=hHeld;have hH2:=And.intro (hF.cell hHeld.1 fun x=>x) (hF.cell hHeld.2 fun x=>x);clear hF ho hS1;go_wp2_with fail;refine hK.out _ _ hH2 (fun hHeld=>?_);clear hK K hH2;(try simp only[Act.put,lq1,lq2,lq3,lq4,lq5,lq6])
   refine' sq 11 (h:=?_)
   refine rdO (i:=12) (fun K hK=>?_);(try simp only[lq1,lq2,lq3]);go_simp;have hF:New r1 (r1.alloc (.cells #[.slice none 0 0,.int .i64 0] 24)):=(Fr.refl _ _).alloc _;have hk9:=heap_alloc_new r1 (.cells #[.slice none 0 0,.int .i64 0] 24);have hl9:=(Array.getElem?_eq_some_iff.1 HR1.out).1
   obtain⟨j,Hj⟩:∃z,Hid (z=r1.heap.size):=⟨_,Lib.hid rfl⟩
   rw[←Hj.out]at hk9 hl9 ⊢;generalize r1.alloc (.cells #[.slice none 0 0,.int .i64 0] 24)=r2 at hF hk9 ⊢;have HN2:=Lib.hid (HN1.out.trans hF);have HR2:=Lib.hid (hF.blk HR1.out fun x=>x);have HJ2:=Lib.hid hk9;have HO2:=Lib.hid (hF.owns HO1.out fun _ _ x=>x);have hH2:=And.intro (hF.cell hHeld.1 fun x=>x) (hF.cell hHeld.2 fun x=>x);clear hF hk9;refine hK.out _ _ hH2 (fun hHeld=>?_);clear hK K hH2
  rotate_left
  focus
   skip
   (try simp only[lq1,lq2,lq3]);go_simp;have hF:New r0 (r0.alloc (.cells #[.slice none 0 0,.int .i64 0] 24)):=(Fr.refl _ _).alloc _;have hk9:=heap_alloc_new r0 (.cells #[.slice none 0 0,.int .i64 0] 24);have hl9:=(Array.getElem?_eq_some_iff.1 HR0.out).1
   obtain⟨j,Hj⟩:∃z,Hid (z=r0.heap.size):=⟨_,Lib.hid rfl⟩
   rw[←Hj.out]at hk9 hl9 ⊢;generalize r0.alloc (.cells #[.slice none 0 0,.int .i64 0] 24)=r1 at hF hk9 ⊢;have HN1:=Lib.hid (HN0.out.trans hF);have HR1:=Lib.hid (hF.blk HR0.out fun x=>x);have HJ1:=Lib.hid hk9;have hH2:=And.intro (hF.cell hHeld.1 fun x=>x) (hF.cell hHeld.2 fun x=>x);clear hF hk9;refine hK.out _ _ hH2 (fun hHeld=>?_);clear hK K hH2;(try simp only[Act.put,lq1,lq2,lq3,lq4,lq5,lq6]);refine rdO (i:=5) (fun K hK=>?_);(try simp only[lq1,lq2,lq3]);go_simp
   have hcl:=clone_any a1 c1 X r1 (New.crs HN1.out HCR.out) (by have:=HN.out;omega);rw[←HN.out]at hcl
   refine hcl.mono ?_
   clear hcl;rintro e r2 ⟨sc,rfl,ho,hF⟩;obtain⟨a3,c3,rfl,_⟩:=own_shape2 ho;rw[←HN.out]at ho ⊢;have HO2:=Lib.hid (own_base ho HN1.out.size);have HN2:=Lib.hid (HN1.out.trans hF);have HR2:=Lib.hid (hF.blk HR1.out fun x=>x);have hS2:=hHeld;have HJ2:=Lib.hid (hF.blk HJ1.out fun x=>x);have hH2:=And.intro (hF.cell hHeld.1 fun x=>x) (hF.cell hHeld.2 fun x=>x);clear hF ho hS2;go_wp2_with fail;refine hK.out _ _ hH2 (fun hHeld=>?_);clear hK K hH2;(try simp only[Act.put,lq1,lq2,lq3,lq4,lq5,lq6]);refine' tkO (i:=11) ?_
  all_goals
   (try simp only[Act.put,lq1,lq2,lq3,lq4,lq5,lq6]);refine rdO (i:=13) (fun K hK=>?_);(try simp only[lq1,lq2,lq3]);obtain⟨q1,q2,q3,q4⟩:=two_c HJ2.out;go_simp;clear q1 q2 q3 q4;have HE:=Lib.hid (two_set HJ2.out (.slice a3 n c3) (.int .i64 L));have HF:=Lib.hid (two_fr r2 j (.slice a3 n c3) (.int .i64 L));have HOE:=Lib.hid (HF.out.owns HO2.out fun i hi e=>blk_not_own HJ2.out HO2.out (by decide) (e ▸ hi));have hH2:_∧_:=And.intro (HF.out.cell hHeld.1 fun e=>hbj j (by omega) e) (HF.out.cell hHeld.2 fun e=>hbj j (by omega) e)
   generalize (r2.setCell ⟨j,0,none⟩ (.slice a3 n c3)).setCell ⟨j,1,none⟩ (.int .i64 L)=s3 at HE HF HOE hH2 ⊢;refine hK.out _ _ hH2 (fun hHeld=>?_);clear hK K hH2;(try simp only[Act.put,lq1,lq2,lq3,lq4,lq5,lq6]);refine wpAnyH_done (by kernel_rfl) ?_ _;go_wp2
   go_meet
   exact⟨j,_,rfl,hl9,HE,HOE,Lib.hid (HN2.out.next HF.out fun i hi=>.inr (by have:=HRB.out;omega)),Lib.hid (HF.out.blk HR2.out (by omega))⟩
 case rest=>
  obtain⟨j,sc,rfl,hj,HJ,HO,HNw,HR⟩:=hcut;obtain⟨a3,c3,rfl,_⟩:=own_shape2 HO.out
  obtain⟨g,rfl⟩:∃g,a3=some ⟨g,0,none⟩:=by
   rcases HO.out.2 with⟨e,h0⟩|⟨g,cap,cur,e,_⟩
   · exact absurd h0 (by omega)
   · injection e with e1 _ _;exact⟨g,e1⟩
  have hkX:k<X.length:=by have:=HN.out;omega
  obtain⟨x1,x2,x3,x4,x5⟩:=own_five HO.out HN.out hkX;obtain⟨xa,xb,xc,xd,xp,HXC⟩:=Kn.cr_parts' X k;rw[HXC.out]at x1 x2 x3 x4 x5;simp only at x1 x2 x3 x4 x5
  have i1:(0:Int)≤(k:Int):=by omega
  have i2:(k:Int)<(n:Int):=by omega
  obtain⟨q1,q2,_,_⟩:=two_c HJ.out;go_upto_region 2 with fail
  obtain⟨y0,HY0⟩:∃z,Hid (z=wc.drew):=⟨_,Lib.hid rfl⟩
  have hSS:wc.drew.cell? ⟨j,0,none⟩=some (.slice (some ⟨g,0,none⟩) n c3):=q1
  refine wp_region_held_drew (S:=fun w'=>w'.cell? ⟨j,0,none⟩=some (.slice (some ⟨g,0,none⟩) n c3)) (by kernel_rfl) hSS (fun hHeld=>?_)
  have x1:wc.drew.cell? ⟨g,k*5,none⟩=some (.int .i64 xa):=x1;have x2:wc.drew.cell? ⟨g,k*5+1,none⟩=some (.int .i64 xb):=x2;have x3:wc.drew.cell? ⟨g,k*5+2,none⟩=some (.int .i64 xc):=x3;have x4:wc.drew.cell? ⟨g,k*5+3,none⟩=some (.int .i64 xd):=x4;have x5:wc.drew.cell? ⟨g,k*5+4,none⟩=some (.bool xp):=x5;clear hSS q1 q2;have HJy:Hid (y0.heap[j]?=some (.cells #[.slice (some ⟨g,0,none⟩) n c3,.int .i64 L] 24 (0,0))):=Lib.hid (by rw[HY0.out];exact HJ.out)
  have HOy:Hid (y0.ownsRow w.heap.size 41 5 (.slice (some ⟨g,0,none⟩) n c3) n (crCells X)):=Lib.hid (by rw[HY0.out];exact HO.out);have HNy:Hid (New w y0):=Lib.hid (by rw[HY0.out];exact HNw.out.drew);have HRy:Hid (y0.heap[rb]?=some (.cells #[.slice none 0 0,.int .i64 0] 24 (0,0))):=Lib.hid (by rw[HY0.out];exact HR.out);rw[←HY0.out]at hHeld x1 x2 x3 x4 x5 ⊢
  refine' sq 0 (h:=sq 1 (h:=sq 2 (h:=sq 3 (h:=sq 4 (h:=sq 5 (h:=sq 6 (h:=?_)))))))
  refine rdO (i:=7) (fun K hK=>?_);(try simp only[lq1,lq2,lq3]);go_simp;refine hK.out _ _ hHeld (fun hHeld=>?_);clear hK K x1 x2 x3 x4 x5;(try simp only[Act.put,lq1,lq2,lq3,lq4,lq5,lq6]);refine rdO (i:=8) (fun K hK=>?_);(try simp only[lq1,lq2,lq3]);go_simp;refine(changed_any ⟨xa,xb,xc,xd,xp⟩ _).mono ?_;rintro e y1 ⟨rfl,hF⟩
  obtain⟨ma,mb,mc,md,mp,HMC⟩:∃a b c d p,Hid (Kn.mirC ⟨xa,xb,xc,xd,xp⟩=⟨a,b,c,d,p⟩):=⟨_,_,_,_,_,Lib.hid rfl⟩
  rw[HMC.out];have HJ1:=Lib.hid (hF.blk HJy.out fun x=>x);have HO1:=Lib.hid (hF.owns HOy.out fun _ _ x=>x);have HN1:=Lib.hid (HNy.out.trans hF);have HR1:=Lib.hid (hF.blk HRy.out fun x=>x)
  have hH2:=hF.cell hHeld fun x=>x
  clear hF;go_wp2_with fail;refine hK.out _ _ hH2 (fun hHeld=>?_);clear hK K hH2;(try simp only[Act.put,lq1,lq2,lq3,lq4,lq5,lq6]);obtain⟨z1,z2,z3,z4,z5⟩:=own_five HO1.out HN.out hkX;rw[HXC.out]at z1 z2 z3 z4 z5;simp only at z1 z2 z3 z4 z5;have f0:=own_free HO1.out (k*5);have f1:=own_free HO1.out (k*5+1);have f2:=own_free HO1.out (k*5+2);have f3:=own_free HO1.out (k*5+3);have f4:=own_free HO1.out (k*5+4);have hset:=own_set5 (base:=w.heap.size) (g:=g) (c:=c3) (n:=n) HO1.out hkX ⟨ma,mb,mc,md,mp⟩
  have hfs:=fr_set5 y1 g k ma mb mc md mp
  refine' sq 9 (h:=?_)
  refine rdO (i:=10) (fun K hK=>?_);(try simp only[lq1,lq2,lq3]);go_simp;clear f0 f1 f2 f3 f4 z1 z2 z3 z4 z5
  have hgj:¬j=g:=fun e=>blk_not_own HJ1.out HO1.out (by decide) (by rw[e];rfl)
  have hgr:¬rb=g:=fun e=>blk_not_own HR1.out HO1.out (by decide) (by rw[e];rfl)
  have hgw:w.heap.size≤g:=by
   rcases HO1.out.2 with⟨e,_⟩|⟨g',cap,cur,e,hb,_⟩
   · cases e
   · injection e with e1 _ _
     injection e1 with e1
     injection e1 with e1 _ _
     rw[e1];exact hb
  change K _ (set5 y1 g k ma mb mc md mp)
  generalize set5 y1 g k ma mb mc md mp=y2 at hset hfs ⊢;have HSET:=Lib.hid hset;have HJ2:=Lib.hid (hfs.blk HJ1.out hgj);have HR2:=Lib.hid (hfs.blk HR1.out hgr);have HN2:Hid (New w y2):=Lib.hid (HN1.out.next hfs fun i hi=>.inr (by rw[hi];exact hgw));have hH3:=hfs.cell hHeld hgj;clear hset hfs hHeld;refine hK.out _ _ hH3 (fun hHeld=>?_);clear hK K hH3;(try simp only[Act.put,lq1,lq2,lq3,lq4,lq5,lq6]);refine wpAnyH_done (by kernel_rfl) ?_ _;obtain⟨q1,q2,_,_⟩:=two_c HJ2.out;obtain⟨r1,r2,r3,r4⟩:=two_c HR2.out
  have HE:=Lib.hid (two_set HR2.out (.slice (some ⟨g,0,none⟩) n c3) (.int .i64 L));have HF:=Lib.hid (two_fr y2 rb (.slice (some ⟨g,0,none⟩) n c3) (.int .i64 L));go_wp2;obtain⟨p1,p2,_,_⟩:=two_c HE.out
  have hlen:(Kn.chgL X k).length=n:=by unfold Kn.chgL;rw[List.length_set,HN.out]
  have hch:X.set k ⟨ma,mb,mc,md,mp⟩=Kn.chgL X k:=by unfold Kn.chgL;rw[HXC.out,HMC.out]
  refine bodyPost_ret (v:=.agg #[.slice (some ⟨g,0,none⟩) n c3,.int .i64 L]) (by simp[results,Tryz.results19,go_sem,p1,p2]) rfl ⟨_,rfl,?_,HN2.out.next HF.out fun i hi=>.inr (by rw[hi,HRB.out];exact Nat.le_refl _)⟩
  rw[hlen,←hch]
  exact HF.out.owns HSET.out fun i hi e=>hgr (by have:g=i:=Option.some.inj hi;omega)
end Go.Proofs.YtlicglicfijelaaGreat

/- Walks: of. -/
namespace Go.Proofs.YtlicglicfijelaaGreat
open Go.RowKit
open Kn (E2 L2 cf szL sl exB ofL)

def GaveMp(l:L2)(w:World)(e:Ending)(w':World):Prop:=∃mb,e=.returned (.map (some mb))∧Hid (PMap w' mb (szL l) l)∧New w w'
theorem with_only{X:List Kn.Cr}{k:Nat}(hk:k<X.length):Kn.withL X (clS X (Kn.only k) X.length) (Kn.only k)=Kn.smL X k∧Kn.ringN X (clS X (Kn.only k) X.length) (Kn.only k)=Kn.smN X k:=by
 rw[clS_only,if_pos hk];exact⟨rfl,rfl⟩
theorem ofL_bd{f:Nat}{X:List Kn.Cr}(hX:Kn.Ok X){L:Nat}(hl:X.length≤8)(hL:(Kn.strandsL X).length+L+X.length≤40)(hf:f≤200):szL (ofL f X L)≤120508569176408064∧exB 1000000 (ofL f X L):=by
 obtain⟨h1,h2⟩:=Kn.ofL_sz f hX L
 refine⟨Nat.le_trans h1 ?_,h2.mono (by omega)⟩
 have h3:=Kn.lv_le hX.bX_le
 have h4:Kn.sN X.length≤109601:=by
  have gen:∀n,n≤8→Kn.sN n≤109601:=by
   intro n hn
   match n,hn with
   |0,_=>decide
   |1,_=>decide
   |2,_=>decide
   |3,_=>decide
   |4,_=>decide
   |5,_=>decide
   |6,_=>decide
   |7,_=>decide
   |8,_=>decide
  exact gen _ hl
 have h5:2 ^ ((Kn.strandsL X).length+L+X.length)≤2 ^ 40:=Nat.pow_le_pow_right (by decide) hL
 exact Nat.le_trans (Nat.mul_le_mul (Nat.le_trans h3 h4) h5) (by decide)
theorem smLen{X:List Kn.Cr}{k:Nat}(hk:k<X.length):(Kn.smL X k).length+1=X.length:=Kn.smL_len hk
set_option maxRecDepth 100000 in
set_option maxHeartbeats 4000000 in
theorem of_any:∀(f:Nat) (a:Option Addr) (n c:Nat) (X:List Kn.Cr) (L:Nat) (w:World) (_:CrsAt w a X) (_:Kn.Ok X) (_:n=X.length) (_:n≤8) (_:(Kn.strandsL X).length+L+X.length≤40) (_:1≤(Kn.strandsL X).length+L) (_:X.length*X.length+Kn.bX X+1≤f) (_:f≤200),
 Calls Tryz.prog 13 #[.agg #[.slice a n c,.int .i64 (L:Nat)]] w (GaveMp (ofL f X L) w)
 |0,a,n,c,X,L,w,_,_,_,_,_,_,hf,_=>by omega
 |f+1,a,n,c,X,L,w,hx,hX,hn,hl,hL,h1,hf,hf2=>by
  have IH:=Lib.hid (of_any f);have HCX:=Lib.hid hx;have HX:=Lib.hid hX;have HN:=Lib.hid hn;have HL:=Lib.hid hL;have H1:=Lib.hid h1;have HF:=Lib.hid hf;have hmm:=@run_makeMap Tryz.prog
  have hL40:L≤40:=by omega
  clear hx hX hn hL h1 hf
  go_enter Tryz.func13,Tryz.ntmps13
  go_wp2_with fail;have hNa:New w (w.alloc (.cells #[.slice a n c,.int .i64 (L:Nat)] 24)):=(Fr.refl _ _).alloc _;have hb:=build_any a c X (L:Nat) _ (New.crs hNa HCX.out) (by have:=HN.out;omega);rw[←HN.out,(Kn.ok_iff X).2 HX.out]at hb
  refine hb.mono ?_
  clear hb;rintro e w1 ⟨hF,h5⟩
  obtain⟨_,b,rfl,hs,_⟩:=h5.resolve_right fun h=>absurd h.1 (by decide)
  have HN1:Hid (New w w1):=Lib.hid (hNa.trans hF);have HS1:=Lib.hid hs;clear hNa hF h5 hs;go_wp2_with fail;refine(low_any b X (L:Nat) w1 HS1.out HX.out (by have:=HN.out;omega)).mono ?_;rintro e w2 ⟨rfl,hF⟩
  obtain⟨np,HNP⟩:∃np,Hid (np=(Kn.strandsL X).length):=⟨_,Lib.hid rfl⟩
  rw[←HNP.out];have HN2:Hid (New w w2):=Lib.hid (HN1.out.trans hF);have HS2:Hid (ShAt w2 b X (L:Nat)):=Lib.hid (New.shAt hF HS1.out)
  have hnp:np≤40:=by have:=HNP.out;have:=HL.out;omega
  clear hF
  cases hlow:Kn.lowX X with
  |none=>
   have hz:lowZ X = -1:=by unfold lowZ;rw[hlow]
   rw[hz]
   have HO:Hid (ofL (f+1) X L=Kn.rgL (np+L) (np+L-1)):=Lib.hid (by
    unfold Kn.ofL
    rw[hlow,HNP.out];rfl)
   have hloop:=HS2.out.loops;have HW:Hid (((np:Int)+(L:Int))=((np+L:Nat):Int)):=Lib.hid (by omega);go_wp2_with fail;rw[HW.out];refine(rgs_any (np+L) (by have:=H1.out;have:=HNP.out;omega) (by have:=HL.out;have:=HNP.out;omega) _).mono ?_;rintro e w3 ⟨mb,rfl,hP,hF⟩;go_wp2;go_ret
   exact⟨mb,rfl,by rw[HO.out];exact hP,HN2.out.trans hF⟩
  |some k=>
   have hz:lowZ X=(k:Nat):=by unfold lowZ;rw[hlow]
   rw[hz];obtain⟨hk,hb1⟩:=HX.out.low_lt hlow;have HK:=Lib.hid hk
   have hkn:k<n:=by have:=HN.out;omega
   have HLOW:=Lib.hid hlow;clear hz hk hlow
   have hk0:¬((k:Nat):Int)<0:=by omega
   go_wp2_with fail;refine(change_any b k X (L:Nat) w2 HS2.out HK.out (by have:=HN.out;omega)).mono ?_;rintro e w3 ⟨sc,rfl,ho,hF⟩;obtain⟨a3,c3,rfl,hc3⟩:=CrsAt.of_owns ho
   have hlen:(Kn.chgL X k).length=n:=by unfold Kn.chgL;rw[List.length_set,HN.out]
   rw[hlen];have HC3:=Lib.hid hc3;have HN3:Hid (New w w3):=Lib.hid (HN2.out.trans hF);have HS3:Hid (ShAt w3 b X (L:Nat)):=Lib.hid (New.shAt hF HS2.out);have HLEN:=Lib.hid hlen;clear ho hF hc3 hlen;have hstr:=HX.out.strands_chg HK.out;have hbx:=HX.out.bX_chg HLOW.out;go_wp2_with fail;refine(IH.out a3 n c3 (Kn.chgL X k) L w3 HC3.out (HX.out.chg_ok HK.out) HLEN.out.symm hl (by rw[hstr,HLEN.out,HN.out];exact HL.out) (by rw[hstr];exact H1.out) (by rw[HLEN.out,HN.out];have:=HF.out;omega) (by omega)).mono ?_;rintro e w4 ⟨m1,rfl,hP,hF⟩;have HP4:=hP
   have HN4:Hid (New w w4):=Lib.hid (HN3.out.trans hF);have HS4:Hid (ShAt w4 b X (L:Nat)):=Lib.hid (New.shAt hF HS3.out);clear hP hF hstr hbx
   obtain⟨g,HG⟩:∃z,Hid (z=w4.heap.size):=⟨_,Lib.hid rfl⟩
   obtain⟨wg,HWG⟩:∃z,Hid (z=w4.alloc (.cells #[.int .i64 (k:Nat)] 3)):=⟨_,Lib.hid rfl⟩
   have hFg:New w4 wg:=by rw[HWG.out];exact(Fr.refl _ _).alloc _
   have HPg:Hid (PMap wg m1 (szL (ofL f (Kn.chgL X k) L)) (ofL f (Kn.chgL X k) L)):=Lib.hid (HP4.out.fr hFg fun x=>x);have HNg:Hid (New w wg):=Lib.hid (HN4.out.trans hFg);have HSg:Hid (ShAt wg b X (L:Nat)):=Lib.hid (New.shAt hFg HS4.out)
   have HIg:Hid (IntsAt wg g [(k:Int)]):=Lib.hid fun i hi=>by
    obtain rfl:i=0:=by simp at hi;omega
    rw[HWG.out,HG.out]
    exact cell_of_row _ _ 0 _ 3 (0,0) (heap_alloc_new w4 _)
   clear hFg HP4 HN4 HS4;go_wp2_with fail;rw[←HWG.out,←HG.out];have hwo:=withoutA_any b g 1 1 [(k:Int)] (Kn.only k) X (L:Nat) wg HSg.out HX.out (by have:=HN.out;omega) (by omega) (by omega) HIg.out rfl (by omega) (fun d _=>by unfold Kn.only;rw[Bool.eq_iff_iff,decide_eq_true_eq,decide_eq_true_eq,List.mem_singleton];omega);rw[(with_only HK.out).1,(with_only HK.out).2]at hwo
   refine hwo.mono ?_
   clear hwo;rintro e w5 ⟨sc,rfl,ho,hF⟩;obtain⟨a5,c5,rfl,hc5⟩:=CrsAt.of_owns ho
   obtain⟨n5,HN5L⟩:∃z,Hid (z=(Kn.smL X k).length):=⟨_,Lib.hid rfl⟩
   rw[←HN5L.out,show (L:Int)+(Kn.smN X k:Nat)=((L+Kn.smN X k:Nat):Int)by omega];have HC5:=Lib.hid hc5;have HN5:Hid (New w w5):=Lib.hid (HNg.out.trans hF);have HS5:Hid (ShAt w5 b X (L:Nat)):=Lib.hid (New.shAt hF HSg.out);have HP5:Hid (PMap w5 m1 (szL (ofL f (Kn.chgL X k) L)) (ofL f (Kn.chgL X k) L)):=Lib.hid (HPg.out.fr hF fun x=>x);clear ho hF hc5;have hsm:=smLen HK.out;have hks:=HX.out.k_smooth HK.out L;have hb2:=(HX.out.smooth_ok HK.out).bX_le
   have h9:(Kn.smL X k).length*(Kn.smL X k).length+Kn.bX (Kn.smL X k)+1≤f:=by
    have h8:=HF.out
    obtain⟨m,hm⟩:∃m,m=(Kn.smL X k).length:=⟨_,rfl⟩
    rw[←hm]at hsm hb2 ⊢;rw[←hsm]at h8
    have:(m+1)*(m+1)=m*m+2*m+1:=by rw[Nat.add_mul,Nat.mul_add,Nat.mul_one,Nat.one_mul];omega
    omega
   go_wp2_with fail;refine(IH.out a5 n5 c5 (Kn.smL X k) (L+Kn.smN X k) w5 HC5.out (HX.out.smooth_ok HK.out) HN5L.out (by have:=HN.out;have:=HN5L.out;omega) (by have:=HL.out;omega) hks.1 h9 (by omega)).mono ?_;rintro e w6 ⟨m2,rfl,hP,hF⟩;have HQ6:=hP;have HN6:Hid (New w w6):=Lib.hid (HN5.out.trans hF);have HP6:Hid (PMap w6 m1 (szL (ofL f (Kn.chgL X k) L)) (ofL f (Kn.chgL X k) L)):=Lib.hid (HP5.out.fr hF fun x=>x);obtain⟨a7,c7,s0,_,hcr⟩:=(New.shAt hF HS5.out).crs
   have HB1:Hid (szL (ofL f (Kn.chgL X k) L)≤120508569176408064∧exB 1000000 (ofL f (Kn.chgL X k) L)):=Lib.hid (ofL_bd (HX.out.chg_ok HK.out) (by unfold Kn.chgL;rw[List.length_set];have:=HN.out;omega) (by rw[HX.out.strands_chg HK.out];unfold Kn.chgL;rw[List.length_set];exact HL.out) (by omega));have HB2:Hid (szL (ofL f (Kn.smL X k) (L+Kn.smN X k))≤120508569176408064∧exB 1000000 (ofL f (Kn.smL X k) (L+Kn.smN X k))):=Lib.hid (ofL_bd (HX.out.smooth_ok HK.out) (by have:=HN.out;omega) (by have:=HL.out;omega) (by omega))
   have HO:Hid (ofL (f+1) X L=Kn.cmb (Kn.cr X k).p (ofL f (Kn.chgL X k) L) (ofL f (Kn.smL X k) (L+Kn.smN X k))):=Lib.hid (by
    conv=>lhs;unfold Kn.ofL
    rw[HLOW.out])
   obtain⟨u,HU⟩:∃z,Hid (z=ofL f (Kn.chgL X k) L):=⟨_,Lib.hid rfl⟩
   obtain⟨v,HV⟩:∃z,Hid (z=ofL f (Kn.smL X k) (L+Kn.smN X k)):=⟨_,Lib.hid rfl⟩
   rw[←HU.out]at HP6 HB1 HO;rw[←HV.out]at HQ6 HB2 HO
   obtain⟨su,HSU⟩:∃z,Hid (z=szL u):=⟨_,Lib.hid rfl⟩
   obtain⟨sv,HSV⟩:∃z,Hid (z=szL v):=⟨_,Lib.hid rfl⟩
   rw[←HSU.out]at HP6 HB1;rw[←HSV.out]at HQ6 HB2;have hu1:=HB1.out.1;have hv1:=HB2.out.1;obtain⟨bx,ox,rfl,x1,x2,x3,x4,x5⟩:=hcr.at HK.out;rw[←HN.out]at s0;clear hP hF hcr hsm hks hb2 h9 HP5 HC5 HS5 HPg HSg HIg x1 x2 x3 x4
   obtain⟨pp,HPP⟩:∃z,Hid (z=(Kn.cr X k).p):=⟨_,Lib.hid rfl⟩
   rw[←HPP.out]at x5 HO
   obtain⟨mo,HMO⟩:∃z,Hid (z=w6.heap.size):=⟨_,Lib.hid rfl⟩
   obtain⟨w7,HW7⟩:∃z,Hid (z=w6.alloc (.map #[] 0)):=⟨_,Lib.hid rfl⟩
   have hF7:New w6 w7:=by rw[HW7.out];exact(Fr.refl _ _).alloc _
   have HM7:Hid (PMap w7 mo 0 []):=Lib.hid (by rw[HW7.out,HMO.out];exact PMap.made w6);have HP7:=Lib.hid (HP6.out.fr hF7 fun x=>x);have HQ7:=Lib.hid (HQ6.out.fr hF7 fun x=>x);have HN7:Hid (New w w7):=Lib.hid (HN6.out.trans hF7)
   have hm1:mo≠m1:=by rw[HMO.out];have:=HP6.out.lt;omega
   have hm2:mo≠m2:=by rw[HMO.out];have:=HQ6.out.lt;omega
   have hmw:w.heap.size≤mo:=by rw[HMO.out];exact HN6.out.size
   have s7:=hF7.cell s0 fun x=>x
   have y5:=hF7.cell x5 fun x=>x
   rw[HW7.out]at s7 y5;clear hF7 s0 x5
   have i1:(0:Int)≤(k:Int):=by omega
   have i2:(k:Int)<(n:Int):=by omega
   have e0:szL []=0:=rfl
   cases pp
   focus
    go_wp2_with fail;rw[←HW7.out,←HMO.out];refine(add_any mo m1 0 su [] u 2 0 1 w7 HM7.out HP7.out hm1 (.inl rfl) (by omega) (by omega) HB1.out.2 (by rw[e0,←HSU.out];omega) (by omega)).mono ?_;rintro e w8 ⟨rfl,hP,hF⟩;rw[Nat.zero_add,List.nil_append]at hP;have HM8:=Lib.hid hP;have HQ8:=Lib.hid (HQ7.out.fr hF fun e=>hm2 e.symm);have HN8:Hid (New w w8):=Lib.hid (HN7.out.next hF fun i hi=>.inr (by rw[hi];exact hmw));clear hP hF s7 y5;go_wp2_with fail
    refine(add_any mo m2 su sv (sl (2,0) 1 u) v 1 1 (-1) w8 HM8.out HQ8.out hm2 (.inr rfl) (by omega) (by omega) HB2.out.2 (by rw[Kn.szL_sl _ rfl,←HSU.out,←HSV.out];omega) (by omega)).mono ?_
   rotate_left
   focus
    go_wp2_with fail;rw[←HW7.out,←HMO.out];refine(add_any mo m1 0 su [] u (-2) 0 1 w7 HM7.out HP7.out hm1 (.inl rfl) (by omega) (by omega) HB1.out.2 (by rw[e0,←HSU.out];omega) (by omega)).mono ?_;rintro e w8 ⟨rfl,hP,hF⟩;rw[Nat.zero_add,List.nil_append]at hP;have HM8:=Lib.hid hP;have HQ8:=Lib.hid (HQ7.out.fr hF fun e=>hm2 e.symm);have HN8:Hid (New w w8):=Lib.hid (HN7.out.next hF fun i hi=>.inr (by rw[hi];exact hmw));clear hP hF s7 y5;go_wp2_with fail
    refine(add_any mo m2 su sv (sl (-2,0) 1 u) v (-1) 1 1 w8 HM8.out HQ8.out hm2 (.inl rfl) (by omega) (by omega) HB2.out.2 (by rw[Kn.szL_sl _ rfl,←HSU.out,←HSV.out];omega) (by omega)).mono ?_
   all_goals
    rintro e w9 ⟨rfl,hP,hF⟩;have HN9:Hid (New w w9):=Lib.hid (HN8.out.next hF fun i hi=>.inr (by rw[hi];exact hmw));have HM9:=Lib.hid hP;clear hP hF;go_wp2;go_ret
    refine⟨mo,rfl,Lib.hid ?_,HN9.out⟩
    rw[HO.out,Kn.cmb_sz,←HSU.out,←HSV.out]
    exact HM9.out
end Go.Proofs.YtlicglicfijelaaGreat

/- Walks: wind.Open, homfly.open. -/
namespace Go.Proofs.YtlicglicfijelaaGreat
open Go.RowKit

def GaveOpen(c:Nat)(X:List Kn.Cr)(L:Int)(w:World)(e:Ending)(w':World):Prop:=
 New w w'∧((c=0∧∃b,e=.returned (.tuple #[.pointer (some ⟨b,0,none⟩),.int .i64 0])∧ShAt w' b X L)∨(c≠0∧e=.returned (.tuple #[.pointer none,.int .i64 c])))
def opC(X:List Kn.Cr)(L:Int):Nat:=if Kn.mayB X L then(if Kn.planarB X then 0 else 5)else 7
set_option maxRecDepth 100000 in
set_option maxHeartbeats 1000000 in
theorem wopen_any(a:Option Addr)(n c:Nat)(X:List Kn.Cr)(L:Int)(w:World)(hx:CrsAt w a X)(hn:n=X.length)(lx:n≤9223372036854775807)(l1:-9223372036854775808≤L)(l2:L≤9223372036854775807):
 Calls Tryz.prog 22 #[.agg #[.slice a n c,.int .i64 L]] w (GaveOpen (opC X L) X L w):=by
 have HN:=Lib.hid hn;have HX:=Lib.hid hx;clear hx hn
 go_enter Tryz.func22,Tryz.ntmps22
 go_wp2_with (go_at_call 41;refine(new_any a n c X L _ (New.crs ((Fr.refl _ _).alloc _) HX.out) HN.out lx l1 l2).mono ?_;rintro e w4 ⟨hF,h5⟩;rcases h5 with⟨ho,b,rfl,hs,_⟩|⟨ho,rfl⟩)
 · have HF:Hid (New w w4):=Lib.hid (((Fr.refl _ _).alloc _).trans hF)
   have HO:=Lib.hid ho;have HS:=Lib.hid hs;have HOK:=Lib.hid (mayB_ok ho);clear hF ho hs
   obtain⟨p,HP⟩:∃p,Hid (p=Kn.planarB X):=⟨_,Lib.hid rfl⟩
   have HOC:Hid (opC X L=if p then 0 else 5):=Lib.hid (by unfold opC;rw[HO.out,if_pos rfl,HP.out])
   cases p
   all_goals
    go_wp2_with (go_at_call 42;refine(planar_any b X L _ HS.out HOK.out.1 HOK.out.2).mono ?_;rintro e w5 ⟨rfl,hE⟩;rw[←HP.out];have HE:=Lib.hid hE;clear hE)
    go_ret2
   · exact⟨HF.out.trans HE.out,.inr ⟨by rw[HOC.out];decide,by rw[HOC.out];rfl⟩⟩
   · exact⟨HF.out.trans HE.out,.inl ⟨by rw[HOC.out];rfl,b,rfl,New.shAt HE.out HS.out⟩⟩
 · have HF:Hid (New w w4):=Lib.hid (((Fr.refl _ _).alloc _).trans hF)
   have HOC:Hid (opC X L=7):=Lib.hid (by unfold opC;rw[ho];rfl);clear hF ho;go_wp2;go_ret2
   exact⟨HF.out,.inr ⟨by rw[HOC.out];decide,by rw[HOC.out];rfl⟩⟩
def hoC(X:List Kn.Cr)(L:Int):Nat:=if opC X L=0 then(if 8<X.length then 2 else 0)else opC X L
set_option maxRecDepth 100000 in
set_option maxHeartbeats 2000000 in
theorem hopen_any(a:Option Addr)(n c:Nat)(X:List Kn.Cr)(L:Int)(w:World)(hx:CrsAt w a X)(hn:n=X.length)(lx:n≤9223372036854775807)(l1:-9223372036854775808≤L)(l2:L≤9223372036854775807):
 Calls Tryz.prog 12 #[.agg #[.slice a n c,.int .i64 L],.int .i64 0,.bool false] w (GaveOpen (hoC X L) X L w):=by
 have HN:=Lib.hid hn;have HX:=Lib.hid hx;clear hx hn
 go_enter Tryz.func12,Tryz.ntmps12
 go_wp2_with fail;have hNa:New w (w.alloc (.cells #[.slice a n c,.int .i64 L] 24)):=(Fr.refl _ _).alloc _;refine(wopen_any a n c X L _ (New.crs hNa HX.out) HN.out lx l1 l2).mono ?_;rintro e w1 ⟨hF,h5⟩;have HF:Hid (New w w1):=Lib.hid (hNa.trans hF);clear hNa hF
 rcases h5 with⟨hc,b,rfl,hs⟩|⟨hc,rfl⟩
 · obtain⟨a1,c1,s0,_,_⟩:=hs.crs
   rw[←HN.out]at s0;have HS:=Lib.hid hs;have HC:=Lib.hid hc;clear hs hc
   by_cases h8:8<n
   · have h8':(8:Int)<(n:Int):=by omega
     have HO:Hid (hoC X L=2):=Lib.hid (by unfold hoC;rw[if_pos HC.out,if_pos (by have:=HN.out;omega)]);go_wp2;go_ret2
     exact⟨HF.out,.inr ⟨by rw[HO.out];decide,by rw[HO.out];rfl⟩⟩
   · have h8':¬(8:Int)<(n:Int):=by omega
     have HO:Hid (hoC X L=0):=Lib.hid (by unfold hoC;rw[if_pos HC.out,if_neg (by have:=HN.out;omega)]);go_wp2;go_ret2
     exact⟨HF.out,.inl ⟨HO.out,b,rfl,HS.out⟩⟩
 · have HO:Hid (hoC X L=opC X L):=Lib.hid (by unfold hoC;rw[if_neg hc])
   obtain⟨q,HQ⟩:∃q,Hid (q=opC X L):=⟨_,Lib.hid rfl⟩
   rw[←HQ.out]at hc ⊢
   have hq:((q:Int)==0)=false:=by simp;exact hc
   have HC:=Lib.hid hc;clear hc;go_wp2;go_ret2
   exact⟨HF.out,.inr ⟨by rw[HO.out,←HQ.out];exact HC.out,by rw[HO.out,←HQ.out];rfl⟩⟩
end Go.Proofs.YtlicglicfijelaaGreat
