/- Walks: Do whatever the kind, moved. -/
import Derived.Test.YtlicglicfijelaaGreatH9
import Derived.Test.YtlicglicfijelaaGreatN36b
/- Walks: Do whatever the kind, moved. -/
namespace Go.Proofs.YtlicglicfijelaaGreat
open Go.RowKit

theorem mvO_no{X:List Kn.Cr}{L k x y u v e:Int}{ub vb ov:Bool}(h:mvO X L k x y u v ub vb ov=.no e):e≠0:=by
 unfold mvO curlO unO pushO pullO slideO takeO at h
 repeat' split at h
 all_goals first|(injection h with h;omega)|cases h
theorem do_mv(a:Option Addr)(n c:Nat)(X:List Kn.Cr)(L k x y u v:Int)(ub vb ov:Bool)(w:World)(hx:CrsAt w a X)(hn:n=X.length)(lx:n≤9223372036854775807)(l1:-9223372036854775808≤L)(l2:L≤9223372036854775807)(hm:Kn.mayB X L=true)(hp:Kn.planarB X=true):
 Calls Tryz.prog 18 #[.agg #[.slice a n c,.int .i64 L],mvV k x y u v ub vb ov] w (GaveDo (mvO X L k x y u v ub vb ov) w):=by
 have e:∀o,doO X L o=o:=fun o=>by unfold doO;rw[hm,hp];rfl
 unfold mvO
 by_cases h1:k=1
 · rw[if_pos h1,h1,←e (curlO X L x y)];exact do_curl a n c X L x y u v ub vb ov w hx hn lx l1 l2
 rw[if_neg h1]
 by_cases h2:k=2
 · rw[if_pos h2,h2,←e (unO X L x)];exact do_un2 a n c X L x y u v ub vb ov w hx hn lx l1 l2
 rw[if_neg h2]
 by_cases h3:k=3
 · rw[if_pos h3,h3,←e (pushO X L u v ub vb ov)];exact do_push a n c X L x y u v ub vb ov w hx hn lx l1 l2
 rw[if_neg h3]
 by_cases h4:k=4
 · rw[if_pos h4,h4,←e (pullO X L x y)];exact do_pull2 a n c X L x y u v ub vb ov w hx hn lx l1 l2
 rw[if_neg h4]
 by_cases h5:k=5
 · rw[if_pos h5,h5,←e (slideO X L x)];exact do_slide a n c X L x y u v ub vb ov w hx hn lx l1 l2
 rw[if_neg h5];have:=do_other a n c X L k x y u v ub vb ov w hx hn lx l1 l2 h1 h2 h3 h4 h5;rw[hm,hp]at this
 exact this
theorem CrsAt.kept{S:Nat→Prop}{w w':World}{a:Option Addr}{Y:List Kn.Cr}(h:CrsAt w a Y)(hF:Fr S w w')(hne:∀ad,a=some ad→¬S ad.block):CrsAt w' a Y:=by
 rcases h with rfl|⟨b,o,rfl,hc⟩
 · exact .inl rfl
 · have hn:=hne _ rfl
   refine .inr ⟨b,o,rfl,fun i hi=>?_⟩
   obtain⟨c1,c2,c3,c4,c5⟩:=hc i hi
   exact⟨hF.cell c1 hn,hF.cell c2 hn,hF.cell c3 hn,hF.cell c4 hn,hF.cell c5 hn⟩
def GaveMoved(X:List Kn.Cr)(L k x y u v:Int)(ub vb ov:Bool)(w:World)(e:Ending)(w':World):Prop:=
 New w w'∧((∃Y N a' m c',mvO X L k x y u v ub vb ov=.ok Y N∧Y.length≤8∧e=.returned (.tuple #[.agg #[.slice a' m c',.int .i64 N],.bool true])∧Hid (m=Y.length)∧CrsAt w' a' Y)∨∃a' m c' N,e=.returned (.tuple #[.agg #[.slice a' m c',.int .i64 N],.bool false]))
set_option maxRecDepth 100000 in
set_option maxHeartbeats 2000000 in
theorem moved_any(a:Option Addr)(n c:Nat)(X:List Kn.Cr)(L k x y u v:Int)(ub vb ov:Bool)(w:World)(hx:CrsAt w a X)(hn:n=X.length)(h8:n≤8)(l1:0≤L)(l2:L≤16)(hm:Kn.mayB X L=true)(hp:Kn.planarB X=true):
 Calls Tryz.prog 6 #[.agg #[.slice a n c,.int .i64 L],mvV k x y u v ub vb ov,.int .i64 8] w (GaveMoved X L k x y u v ub vb ov w):=by
 have HN:=Lib.hid hn;have HX:=Lib.hid hx;have HM:=Lib.hid hm;have HP:=Lib.hid hp;clear hx hn hm hp
 go_enter Tryz.func6,Tryz.ntmps6
 have i1:¬(8:Int)<(n:Int):=by omega
 go_wp2_with fail
 obtain⟨w1,HW1⟩:∃w1,Hid (w1=((w.alloc (.cells #[.slice a n c,.int .i64 L] 24)).alloc (.cells #[.int .i64 k,.int .i64 x,.int .i64 y,.int .i64 u,.bool ub,.int .i64 v,.bool vb,.bool ov] 28)).alloc (.cells #[.slice none 0 0,.int .i64 0] 24)):=⟨_,Lib.hid rfl⟩
 obtain⟨B6,HB6⟩:∃z,Hid (z=w.heap.size+1+1):=⟨_,Lib.hid rfl⟩
 have HN1:Hid (New w w1):=Lib.hid (by rw[HW1.out];exact(((Fr.refl _ w).alloc _).alloc _).alloc _)
 have HR1:Hid (w1.heap[B6]?=some (.cells #[.slice none 0 0,.int .i64 0] 24 (0,0))):=Lib.hid (by
  have h0:=heap_alloc_new ((w.alloc (.cells #[.slice a n c,.int .i64 L] 24)).alloc (.cells #[.int .i64 k,.int .i64 x,.int .i64 y,.int .i64 u,.bool ub,.int .i64 v,.bool vb,.bool ov] 28)) (.cells #[.slice none 0 0,.int .i64 0] 24);rw[World.size_alloc,World.size_alloc]at h0
  rw[HW1.out,HB6.out];exact h0)
 rw[←HW1.out,←HB6.out];have hdo:=do_mv a n c X L k x y u v ub vb ov w1 (New.crs HN1.out HX.out) HN.out (by omega) (by omega) (by omega) HM.out HP.out
 obtain⟨o,HO⟩:∃z,Hid (z=mvO X L k x y u v ub vb ov):=⟨_,Lib.hid rfl⟩
 rw[←HO.out]at hdo
 refine hdo.mono ?_
 clear hdo;rintro e w2 ⟨hF,hM⟩;have HN2:=Lib.hid (HN1.out.trans hF);have HR2:=Lib.hid (hF.blk HR1.out fun x=>x);clear hF
 cases o with
 |no x'=>
  obtain rfl:=hM;have hx':¬x'=0:=mvO_no HO.out.symm
  have hq:(x'==0)=false:=by simpa using hx'
  have hF3:New w2 (w2.alloc (.cells #[.slice none 0 0,.int .i64 0] 24)):=(Fr.refl _ _).alloc _;have hb3:=heap_alloc_new w2 (.cells #[.slice none 0 0,.int .i64 0] 24)
  have hR3:=hF3.blk HR2.out fun x=>x
  have hne:¬w2.heap.size=B6:=by have:=(Array.getElem?_eq_some_iff.1 HR2.out).1;omega
  have HN3:=Lib.hid (HN2.out.trans hF3);go_wp2_with fail
  obtain⟨w3,HW3⟩:∃z,Hid (z=w2.alloc (.cells #[.slice none 0 0,.int .i64 0] 24)):=⟨_,Lib.hid rfl⟩
  obtain⟨B8,HB8⟩:∃z,Hid (z=w2.heap.size):=⟨_,Lib.hid rfl⟩
  rw[←HW3.out]at hF3 hb3 hR3 HN3;rw[←HB8.out]at hb3 hne;rw[←HW3.out,←HB8.out]
  refine wp_region_held_drew (S:=fun wz=>wz.cell? ⟨B8,0,none⟩=some (.slice none 0 0)∧wz.cell? ⟨B8,1,none⟩=some (.int .i64 0)) (by kernel_rfl) ⟨(two_c (show w3.drew.heap[B8]?=_ from hb3)).1,(two_c (show w3.drew.heap[B8]?=_ from hb3)).2.1⟩ (fun hHeld=>?_)
  obtain⟨y0,HY0⟩:∃z,Hid (z=w3.drew):=⟨_,Lib.hid rfl⟩
  have HFy:Hid (New w3 y0):=Lib.hid (by rw[HY0.out];exact(Fr.refl _ _).drew);have HRy:Hid (y0.heap[B6]?=some (.cells #[.slice none 0 0,.int .i64 0] 24 (0,0))):=Lib.hid (HFy.out.blk hR3 fun x=>x);have HF3:=Lib.hid hF3;rw[←HY0.out]at hHeld ⊢;clear hF3 hb3 hR3
  refine' sq 0 (h:=sq 1 (h:=sq 2 (h:=sq 3 (h:=?_))))
  refine' skO (i:=4) ?_;(try simp only[Act.put,lq1,lq2,lq3,lq4,lq5,lq6]);refine' skO (i:=5) ?_;(try simp only[Act.put,lq1,lq2,lq3,lq4,lq5,lq6]);refine' skO (i:=6) ?_;(try simp only[Act.put,lq1,lq2,lq3,lq4,lq5,lq6]);refine' skO (i:=7) ?_;(try simp only[Act.put,lq1,lq2,lq3,lq4,lq5,lq6]);refine' skO (i:=8) ?_;(try simp only[Act.put,lq1,lq2,lq3,lq4,lq5,lq6])
  refine' sq 9 (h:=?_)
  refine rdO (i:=10) (fun K hK=>?_);(try simp only[lq1,lq2,lq3]);obtain⟨j0,_,z0,_⟩:=box2_c HRy.out;have hb1:=(box2_set HRy.out (.slice none 0 0)).1;have hb2:=(box2_set hb1 (.int .i64 0)).2;obtain⟨_,j1,_,z1⟩:=box2_c hb1;obtain⟨m5,m6,_,_⟩:=box2_c hb2
  have hS:Fr (fun j=>j=B6) y0 ((y0.setCell ⟨B6,0,none⟩ (.slice none 0 0)).setCell ⟨B6,1,none⟩ (.int .i64 0)):=by refine Fr.setCell (Fr.setCell (Fr.refl _ y0) ?_ _) ?_ _<;>exact .inl rfl
  go_simp;have hH2:=And.intro (hS.cell hHeld.1 hne) (hS.cell hHeld.2 hne);have HN4:=Lib.hid ((HN3.out.trans HFy.out).next hS fun j hj=>.inr (by rw[hj,HB6.out];omega));have HS4:=Lib.hid hS;clear j0 z0 j1 z1 hb1 hb2 hS hHeld;generalize (y0.setCell ⟨B6,0,none⟩ (.slice none 0 0)).setCell ⟨B6,1,none⟩ (.int .i64 0)=w4 at hH2 HN4 HS4 m5 m6 ⊢;refine hK.out _ _ hH2 (fun hHeld=>?_);clear hK K hH2;(try simp only[Act.put,lq1,lq2,lq3,lq4,lq5,lq6])
  refine' sq 11 (h:=?_)
  refine wpAnyH_done (by kernel_rfl) ?_ _;go_wp2
  exact bodyPost_ret (v:=.tuple #[.agg #[.slice none 0 0,.int .i64 0],.bool false]) (by simp[results,Tryz.results6,go_sem,m5,m6]) rfl ⟨HN4.out,.inr ⟨_,_,_,_,rfl⟩⟩
 |ok Y N=>
  obtain⟨a',c',rfl,hcr,hnw⟩:=hM;have HC:=Lib.hid hcr
  have HCB:Hid (∀ad,a'=some ad→¬ad.block=B6):=Lib.hid fun ad e=>by have:=hnw ad e;have:=(Array.getElem?_eq_some_iff.1 HR1.out).1;omega
  clear hcr hnw
  obtain⟨m,HML⟩:∃z,Hid (z=Y.length):=⟨_,Lib.hid rfl⟩
  rw[←HML.out]
  obtain⟨bm,HBM⟩:∃b,Hid (b=decide ((m:Int)≤8)):=⟨_,Lib.hid rfl⟩
  have hbm:decide ((m:Int)≤8)=bm:=HBM.out.symm;have hF3:New w2 (w2.alloc (.cells #[.slice a' m c',.int .i64 N] 24)):=(Fr.refl _ _).alloc _;have hb3:=heap_alloc_new w2 (.cells #[.slice a' m c',.int .i64 N] 24)
  have hR3:=hF3.blk HR2.out fun x=>x
  have hne:¬w2.heap.size=B6:=by have:=(Array.getElem?_eq_some_iff.1 HR2.out).1;omega
  have HN3:=Lib.hid (HN2.out.trans hF3);go_wp2_with fail
  obtain⟨w3,HW3⟩:∃z,Hid (z=w2.alloc (.cells #[.slice a' m c',.int .i64 N] 24)):=⟨_,Lib.hid rfl⟩
  obtain⟨B8,HB8⟩:∃z,Hid (z=w2.heap.size):=⟨_,Lib.hid rfl⟩
  rw[←HW3.out]at hF3 hb3 hR3 HN3;rw[←HB8.out]at hb3 hne;rw[←HW3.out,←HB8.out]
  refine wp_region_held_drew (S:=fun wz=>wz.cell? ⟨B8,0,none⟩=some (.slice a' m c')∧wz.cell? ⟨B8,1,none⟩=some (.int .i64 N)) (by kernel_rfl) ⟨(two_c (show w3.drew.heap[B8]?=_ from hb3)).1,(two_c (show w3.drew.heap[B8]?=_ from hb3)).2.1⟩ (fun hHeld=>?_)
  obtain⟨y0,HY0⟩:∃z,Hid (z=w3.drew):=⟨_,Lib.hid rfl⟩
  have HFy:Hid (New w3 y0):=Lib.hid (by rw[HY0.out];exact(Fr.refl _ _).drew);have HRy:Hid (y0.heap[B6]?=some (.cells #[.slice none 0 0,.int .i64 0] 24 (0,0))):=Lib.hid (HFy.out.blk hR3 fun x=>x);have HF3:=Lib.hid hF3;rw[←HY0.out]at hHeld ⊢;clear hF3 hb3 hR3
  refine' sq 0 (h:=sq 1 (h:=sq 2 (h:=sq 3 (h:=sq 4 (h:=sq 5 (h:=sq 6 (h:=sq 7 (h:=sq 8 (h:=sq 9 (h:=?_))))))))))
  refine rdO (i:=10) (fun K hK=>?_);(try simp only[lq1,lq2,lq3]);obtain⟨j0,_,z0,_⟩:=box2_c HRy.out;have hb1:=(box2_set HRy.out (.slice a' m c')).1;have hb2:=(box2_set hb1 (.int .i64 N)).2;obtain⟨_,j1,_,z1⟩:=box2_c hb1;obtain⟨m5,m6,_,_⟩:=box2_c hb2
  have hS:Fr (fun j=>j=B6) y0 ((y0.setCell ⟨B6,0,none⟩ (.slice a' m c')).setCell ⟨B6,1,none⟩ (.int .i64 N)):=by refine Fr.setCell (Fr.setCell (Fr.refl _ y0) ?_ _) ?_ _<;>exact .inl rfl
  go_simp;have hH2:=And.intro (hS.cell hHeld.1 hne) (hS.cell hHeld.2 hne);have HN4:=Lib.hid ((HN3.out.trans HFy.out).next hS fun j hj=>.inr (by rw[hj,HB6.out];omega));have HS4:=Lib.hid hS;clear j0 z0 j1 z1 hb1 hb2 hS hHeld;generalize (y0.setCell ⟨B6,0,none⟩ (.slice a' m c')).setCell ⟨B6,1,none⟩ (.int .i64 N)=w4 at hH2 HN4 HS4 m5 m6 ⊢;refine hK.out _ _ hH2 (fun hHeld=>?_);clear hK K hH2;(try simp only[Act.put,lq1,lq2,lq3,lq4,lq5,lq6])
  refine' sq 11 (h:=?_)
  refine wpAnyH_done (by kernel_rfl) ?_ _;go_wp2;have HCR:=Lib.hid (CrsAt.kept (New.crs (HF3.out.trans HFy.out) HC.out) HS4.out (fun ad e=>HCB.out ad e))
  refine bodyPost_ret (v:=.tuple #[.agg #[.slice a' m c',.int .i64 N],.bool bm]) (by simp[results,Tryz.results6,go_sem,m5,m6]) rfl ⟨HN4.out,?_⟩
  cases bm with
  |false=>exact .inr ⟨_,_,_,_,rfl⟩
  |true=>
   have h9:m≤8:=by have:=of_decide_eq_true HBM.out.symm;omega
   exact .inl ⟨Y,N,a',m,c',HO.out.symm,by rw[←HML.out];exact h9,rfl,HML,HCR.out⟩
end Go.Proofs.YtlicglicfijelaaGreat

/- Walks: the law HomflySkein. -/
namespace Go.Proofs.YtlicglicfijelaaGreat
open Go.RowKit
open Kn (E2 L2 cf tt szL exB ofL F2 sumT insT)

structure TL(w:World)(a:Option Addr)(n:Nat)(l:L2):Prop where
 at_:T2At w a l
 len:n=l.length
 few:n≤1000000
 ex:exB 1000000000 l
 sz:szL l≤120508569176408064
theorem TL.nw{w w':World}{a:Option Addr}{n:Nat}{l:L2}(h:TL w a n l)(hF:New w w'):TL w' a n l:=⟨New.t2 hF h.at_,h.len,h.few,h.ex,h.sz⟩
theorem got_tl{a:Option Addr}{n c:Nat}{X:List Kn.Cr}{L:Nat}{w:World}(hx:CrsAt w a X)(hn:n=X.length)(hg:Gd X L):
 Calls Tryz.prog 4 #[.agg #[.slice a n c,.int .i64 (L:Nat)]] w fun e w'=>New w w'∧∃a' m c' l,e=.returned (.tuple #[.slice a' m c',.int .i64 0])∧Hid (TL w' a' m l)∧Hid (HomF X L l):=by
 have h1:=hg.len;have h2:=hg.few;refine(homfly_got a n c X (L:Nat) w hx hn (by omega) (by omega) (by omega)).mono ?_;rintro e w' ⟨hF,h⟩
 obtain⟨_,a',m,c',l,rfl,h3,h4,h5,h6⟩:=h.resolve_right fun h=>h.1 (gd_ho hg).1
 have h7:HomF X L l:=h6.out
 exact⟨hF,a',m,c',l,rfl,Lib.hid ⟨h5.out,h4.out,h3,(h7.ex hg).mono (by omega),h7.sz1 hg⟩,Lib.hid h7⟩
theorem same_tl{a a':Option Addr}{n n' c c':Nat}{x y:L2}{w:World}(h:TL w a n x)(hy:T2At w a' y)(hn':n'=y.length)(e:x=y):
 Calls Tryz.prog 7 #[.slice a n c,.slice a' n' c'] w fun e w'=>e=.returned (.bool true)∧New w w':=by
 subst e
 exact same_yes a a' n n' c c' x w h.at_ hy h.len hn' h.few (by rw[hn',←h.len];exact h.few)
theorem sum_tl(v:Value)(n0:Nat)(l:L2){a:Option Addr}{n c:Nat}{x:L2}{w:World}(d1 d2 k:Int)(ho:w.ownsRow 0 63 3 v n0 (tcells l))(hn0:n0=l.length)(h8:n0≤1000000)(hs:szL l≤120508569176408064)(h:TL w a n x)(hd1:-1≤d1∧d1≤1)(hd2:-1≤d2∧d2≤1)(hk:k.natAbs=1):
 Calls Tryz.prog 11 #[v,.slice a n c,.int .i64 d1,.int .i64 d2,.int .i64 k] w fun e w'=>∃a' m c',e=.returned (.slice a' m c')∧Hid (m=(sumT l x (d1,d2) k).length)∧Hid (w'.ownsRow 0 63 3 (.slice a' m c') m (tcells (sumT l x (d1,d2) k)))∧New w w':=by
 have h2:=h.few;have h3:=h.sz;refine(sumtwo_any v 0 n0 l x a n c d1 d2 k w ho (Nat.zero_le _) hn0 h.at_ h.len (by omega) h.ex (by omega) (by omega) (by rw[hk];omega)).mono ?_;rintro e w' ⟨v',rfl,ho',hF⟩;obtain⟨a',c',rfl,_⟩:=own_shape2 ho'.out
 exact⟨a',_,c',rfl,Lib.hid rfl,ho',hF⟩
set_option maxRecDepth 100000 in
set_option maxHeartbeats 4000000 in
theorem sklaw_any(a:Option Addr)(n c:Nat)(X:List Kn.Cr)(L kk mk mx my mu mv:Int)(ub vb ov:Bool)(w:World)(hx:CrsAt w a X)(hn:n=X.length)(lx:n≤9223372036854775807)(l1:-9223372036854775808≤L)(l2:L≤9223372036854775807)(a1:-9223372036854775808≤kk)(a2:kk≤9223372036854775807):
 Calls Tryz.prog 3 #[.agg #[.slice a n c,.int .i64 L],.int .i64 kk,mvV mk mx my mu mv ub vb ov] w (fun e w'=>e=.returned (.bool true)∧New w w'):=by
 have HN:=Lib.hid hn;have HX:=Lib.hid hx;clear hx hn
 go_enter Tryz.func3,Tryz.ntmps3
 go_wp2_with fail
 obtain⟨w1,HW1⟩:∃w1,Hid (w1=(w.alloc (.cells #[.slice a n c,.int .i64 L] 24)).alloc (.cells #[.int .i64 mk,.int .i64 mx,.int .i64 my,.int .i64 mu,.bool ub,.int .i64 mv,.bool vb,.bool ov] 28)):=⟨_,Lib.hid rfl⟩
 have HN1:Hid (New w w1):=Lib.hid (by rw[HW1.out];exact((Fr.refl _ w).alloc _).alloc _)
 obtain⟨B3,HB3⟩:∃z,Hid (z=w.heap.size):=⟨_,Lib.hid rfl⟩
 obtain⟨B5,HB5⟩:∃z,Hid (z=w.heap.size+1):=⟨_,Lib.hid rfl⟩
 have HA1:Hid (w1.heap[B3]?=some (.cells #[.slice a n c,.int .i64 L] 24 (0,0))):=Lib.hid (by
  rw[HW1.out,HB3.out];exact((Fr.refl (fun _=>False) _).alloc _).blk (heap_alloc_new w _) fun x=>x)
 have HM1:Hid (w1.heap[B5]?=some (.cells #[.int .i64 mk,.int .i64 mx,.int .i64 my,.int .i64 mu,.bool ub,.int .i64 mv,.bool vb,.bool ov] 28 (0,0))):=Lib.hid (by
  have h0:=heap_alloc_new (w.alloc (.cells #[.slice a n c,.int .i64 L] 24)) (.cells #[.int .i64 mk,.int .i64 mx,.int .i64 my,.int .i64 mu,.bool ub,.int .i64 mv,.bool vb,.bool ov] 28);rw[World.size_alloc]at h0
  rw[HW1.out,HB5.out];exact h0)
 rw[←HW1.out,←HB5.out,←HB3.out];refine(trefoil_any w1).mono ?_;rintro e w2 ⟨ta,tc,rfl,htx,hF⟩;have HN2:Hid (New w w2):=Lib.hid (HN1.out.trans hF);have HA2:=Lib.hid (hF.blk HA1.out fun x=>x);have HM2:=Lib.hid (hF.blk HM1.out fun x=>x);clear hF;go_wp2_with fail;refine(homfly_got ta 3 tc Kn.trefoil 0 w2 htx rfl (by omega) (by omega) (by omega)).mono ?_;rintro e w3 ⟨hF,h5⟩
 obtain⟨_,a3,m3,c3,l3,rfl,_,hm3,_,hl3⟩:=h5.resolve_right fun h=>h.1 (gd_ho tref_gd).1
 obtain rfl:m3=3:=by rw[hm3.out];exact tref_len hl3.out
 have HN3:Hid (New w w3):=Lib.hid (HN2.out.trans hF);have HA3:=Lib.hid (hF.blk HA2.out fun x=>x);have HM3:=Lib.hid (hF.blk HM2.out fun x=>x);clear hF h5 hm3 hl3 htx;obtain⟨p1,p2,_,_⟩:=box2_c HA3.out;go_wp2_with fail;refine(homfly_got a n c X L w3 (New.crs HN3.out HX.out) HN.out lx l1 l2).mono ?_;rintro e w4 ⟨hF,h5⟩;have HN4:Hid (New w w4):=Lib.hid (HN3.out.trans hF);have HA4:=Lib.hid (hF.blk HA3.out fun x=>x);have HM4:=Lib.hid (hF.blk HM3.out fun x=>x);clear hF p1 p2
 rcases h5 with⟨hc,a4,np,c4,p,rfl,hnp,hnp2,hpa,hp⟩|⟨hc,rfl⟩
 · obtain⟨Ln,rfl,hg,hm⟩:=ho_gd hc
   have HP:Hid (HomF X Ln p):=hp;have HG:=Lib.hid hg;have HMY:=Lib.hid hm;have HTP:Hid (TL w4 a4 np p):=Lib.hid ⟨hpa.out,hnp2.out,hnp,(HP.out.ex hg).mono (by omega),HP.out.sz1 hg⟩
   have hn8:n≤8:=by have:=hg.len;have:=HN.out;omega
   have hL16:Ln≤16:=hg.few;clear hg hm hc hpa hnp2 hp;obtain⟨p1,p2,_,_⟩:=box2_c HA4.out
   by_cases g1:n≤7
   · have h1:¬7<(n:Int):=by omega
     have h1':decide (7<(n:Int))=false:=decide_eq_false h1
     by_cases g2:Ln≤8
     · have h2:¬8<(Ln:Int):=by omega
       have h2':decide (8<(Ln:Int))=false:=decide_eq_false h2;obtain⟨q0,q1,q2,q3,q4,q5,q6,q7⟩:=eight_c HM4.out;go_wp2_with fail;refine(moved_any a n c X Ln mk mx my mu mv ub vb ov w4 (New.crs HN4.out HX.out) HN.out hn8 (by omega) (by omega) HMY.out HG.out.pl).mono ?_;rintro e w5 ⟨hF,h5⟩
       obtain⟨a5,m5,c5,N5,bm,rfl,HOK⟩:∃a' m c' N bm,e=.returned (.tuple #[.agg #[.slice a' m c',.int .i64 N],.bool bm])∧Hid (bm=true→∃(Y:List Kn.Cr) (Nn:Nat),N=(Nn:Int)∧m=Y.length∧CrsAt w5 a' Y∧Gd Y Nn∧∀q,HomF Y Nn q→p=q):=by
        rcases h5 with⟨Y,N,a',m,c',ho,h8,rfl,hml,hcr⟩|⟨a',m,c',N,rfl⟩
        · refine⟨a',m,c',N,true,rfl,Lib.hid fun _=>?_⟩
          obtain⟨b1,b2,b3,b4⟩:=(mv_inv (K:=Kn.K2.toCA) ⟨HMY.out,HG.out.pl⟩ ho).1.b
          obtain⟨Nn,rfl⟩:∃Nn:Nat,N=(Nn:Int):=⟨N.toNat,by omega⟩
          obtain⟨hY,_⟩:=mv_same HG.out ho h8 HP.out (q:=p)
          exact⟨Y,Nn,rfl,hml.out,hcr,hY,fun q hq=>(mv_same HG.out ho h8 HP.out).choose_spec hq⟩
        · exact⟨a',m,c',N,false,rfl,Lib.hid fun h=>by cases h⟩
       have hF6:=hF.alloc (.cells #[.slice a5 m5 c5,.int .i64 N5] 24);have HN6:=Lib.hid (HN4.out.trans hF6);have HA6:=Lib.hid (hF6.blk HA4.out fun x=>x);have HTP6:=Lib.hid (HTP.out.nw hF6);have hs6:=heap_alloc_new w5 (.cells #[.slice a5 m5 c5,.int .i64 N5] 24);have HF56:Hid (New w5 (w5.alloc (.cells #[.slice a5 m5 c5,.int .i64 N5] 24))):=Lib.hid ((Fr.refl _ _).alloc _);clear hF hF6 h5 p1 p2 q0 q1 q2 q3 q4 q5 q6 q7
       obtain⟨w6,HW6⟩:∃z,Hid (z=w5.alloc (.cells #[.slice a5 m5 c5,.int .i64 N5] 24)):=⟨_,Lib.hid rfl⟩
       obtain⟨B10,HB10⟩:∃z,Hid (z=w5.heap.size):=⟨_,Lib.hid rfl⟩
       go_upto_if 60 with fail
       rw[←HW6.out]at HN6 HA6 HTP6 hs6 HF56 ⊢;rw[←HB10.out]at hs6 ⊢;have HS6:=Lib.hid hs6;clear hs6
       go_cut [12] (fun _ wz=>Hid (New w6 wz))
       case first=>
        cases bm
        · go_wp2
          go_meet
          exact Lib.hid (Fr.refl _ _)
        · obtain⟨Y,Nn,rfl,hmY,hcY,hgY,hpq⟩:=HOK.out rfl
          have HPQ:=Lib.hid hpq;obtain⟨p1,p2,_,_⟩:=box2_c HS6.out;have hgot:=got_tl (a:=a5) (n:=m5) (c:=c5) (X:=Y) (L:=Nn) (w:=w6) (New.crs HF56.out hcY) hmY hgY;clear hpq hmY hcY hgY;go_wp2_with fail
          refine hgot.mono ?_
          rintro e w7 ⟨hF,a7,m7,c7,q,rfl,hq,hqh⟩;have HF7:=Lib.hid hF;have hpq:p=q:=HPQ.out q hqh.out;have hsm:=same_tl (c:=c4) (c':=c7) (HTP6.out.nw hF) hq.out.at_ hq.out.len hpq;clear hF hq hqh hpq p1 p2 hgot;go_wp2_with fail
          refine hsm.mono ?_
          rintro e w8 ⟨rfl,hF⟩;have HF8:=Lib.hid (HF7.out.trans hF);clear hF hsm;go_wp2
          go_meet
          exact HF8
       case rest=>
        obtain⟨w9,rfl⟩:∃u,u=wc:=⟨_,rfl⟩
        have HF9:=hcut;have HN9:=Lib.hid (HN6.out.trans HF9.out);have HA9:=Lib.hid (HF9.out.blk HA6.out fun x=>x);have HTP9:=Lib.hid (HTP6.out.nw HF9.out);obtain⟨p1,p2,_,_⟩:=box2_c HA9.out
        by_cases g0:n=0
        · have h0:(n:Int)=0:=by omega
          go_wp2;go_ret
          exact⟨rfl,HN9.out⟩
        have h0:¬(n:Int)=0:=by omega
        obtain⟨k,hk,hpk⟩:=picked_nat kk n a1 a2 (by omega) (by omega);have HPK:=Lib.hid hpk
        have hkX:k<X.length:=by have:=HN.out;omega
        clear hpk;go_wp2_with fail;refine(HPK.out _).mono ?_;rintro e w' ⟨rfl,rfl⟩;go_wp2_with fail;refine(hchange_any a n c k X Ln _ (New.crs HN9.out HX.out) HN.out HG.out hk).mono ?_;rintro e w10 ⟨a10,c10,rfl,hcr,hF⟩;have hF11:=hF.alloc (.cells #[.slice a10 n c10,.int .i64 (Ln:Nat)] 24);have HN11:=Lib.hid (HN9.out.trans hF11);have HA11:=Lib.hid (hF11.blk HA9.out fun x=>x);have HTP11:=Lib.hid (HTP9.out.nw hF11);have HC11:=Lib.hid (New.crs ((Fr.refl _ w10).alloc (.cells #[.slice a10 n c10,.int .i64 (Ln:Nat)] 24)) hcr)
        have HS11:=Lib.hid (heap_alloc_new w10 (.cells #[.slice a10 n c10,.int .i64 (Ln:Nat)] 24));clear hF hF11 hcr p1 p2
        obtain⟨w11,HW11⟩:∃z,Hid (z=w10.alloc (.cells #[.slice a10 n c10,.int .i64 (Ln:Nat)] 24)):=⟨_,Lib.hid rfl⟩
        obtain⟨B15,HB15⟩:∃z,Hid (z=w10.heap.size):=⟨_,Lib.hid rfl⟩
        rw[←HW11.out]at HN11 HA11 HTP11 HC11 HS11;rw[←HB15.out]at HS11;obtain⟨p1,p2,_,_⟩:=box2_c HA11.out;rw[HW11.out]at p1 p2
        obtain⟨m,HML⟩:∃m,Hid (m=(Kn.smL X k).length):=⟨_,Lib.hid rfl⟩
        obtain⟨Ns,HNS⟩:∃m,Hid (m=Ln+Kn.smN X k):=⟨_,Lib.hid rfl⟩
        have HGC:=Lib.hid (chg_gd HG.out hkX);have HGS:Hid (Gd (Kn.smL X k) Ns):=Lib.hid (by rw[HNS.out];exact sm_gd HG.out hkX g2);have hN16:Ns≤16:=HGS.out.few;go_wp2_with fail;rw[←HW11.out,←HB15.out];clear p1 p2;refine(hsmooth_any a n c k m X Ln Ns w11 (New.crs HN11.out HX.out) HN.out HG.out hk HML.out HNS.out hN16).mono ?_;rintro e w12 ⟨a12,c12,rfl,hcr,hF⟩;have hF13:=hF.alloc (.cells #[.slice a12 m c12,.int .i64 (Ns:Nat)] 24);have HN13:=Lib.hid (HN11.out.trans hF13);have HA13:=Lib.hid (hF13.blk HA11.out fun x=>x)
        have HTP13:=Lib.hid (HTP11.out.nw hF13);have HC13:=Lib.hid (New.crs hF13 HC11.out);have HS13:=Lib.hid (hF13.blk HS11.out fun x=>x);have HD13:=Lib.hid (New.crs ((Fr.refl _ w12).alloc (.cells #[.slice a12 m c12,.int .i64 (Ns:Nat)] 24)) hcr);have HT13:=Lib.hid (heap_alloc_new w12 (.cells #[.slice a12 m c12,.int .i64 (Ns:Nat)] 24));clear hF hF13 hcr
        obtain⟨w13,HW13⟩:∃z,Hid (z=w12.alloc (.cells #[.slice a12 m c12,.int .i64 (Ns:Nat)] 24)):=⟨_,Lib.hid rfl⟩
        obtain⟨B17,HB17⟩:∃z,Hid (z=w12.heap.size):=⟨_,Lib.hid rfl⟩
        rw[←HW13.out]at HN13 HA13 HTP13 HC13 HS13 HD13 HT13;rw[←HB17.out]at HT13;obtain⟨p1,p2,_,_⟩:=box2_c HS13.out;rw[HW13.out]at p1 p2;have HLC:Hid (n=(Kn.chgL X k).length):=Lib.hid (by unfold Kn.chgL;rw[List.length_set];exact HN.out);go_wp2_with fail;rw[←HW13.out,←HB17.out];clear p1 p2;refine(got_tl (a:=a10) (n:=n) (c:=c10) (X:=Kn.chgL X k) (L:=Ln) (w:=w13) HC13.out HLC.out HGC.out).mono ?_;rintro e w14 ⟨hF,a14,m14,c14,q,rfl,hq,hqh⟩;have HN14:=Lib.hid (HN13.out.trans hF);have HA14:=Lib.hid (hF.blk HA13.out fun x=>x)
        have HTP14:=Lib.hid (HTP13.out.nw hF);have HTQ14:=hq;have HQH:=hqh;have HD14:=Lib.hid (New.crs hF HD13.out);have HT14:=Lib.hid (hF.blk HT13.out fun x=>x);clear hF hq hqh;obtain⟨p1,p2,_,_⟩:=box2_c HT14.out;go_wp2_with fail;refine(got_tl (a:=a12) (n:=m) (c:=c12) (X:=Kn.smL X k) (L:=Ns) (w:=w14) HD14.out HML.out HGS.out).mono ?_;rintro e w15 ⟨hF,a15,m15,c15,r,rfl,hr,hrh⟩;have HN15:=Lib.hid (HN14.out.trans hF);have HA15:=Lib.hid (hF.blk HA14.out fun x=>x);have HTP15:=Lib.hid (HTP14.out.nw hF)
        have HTQ15:=Lib.hid (HTQ14.out.nw hF);have HTR15:=hr;have HRH:=hrh;clear hF hr hrh p1 p2
        obtain⟨bp,HBP⟩:∃b,Hid (b=(Kn.cr X k).p):=⟨_,Lib.hid rfl⟩
        have HLAW:Hid ((if bp then skL p q else skL q p)=skR r):=Lib.hid (by rw[HBP.out];exact sk_law HG.out hkX HGC.out (by rw[←HNS.out];exact HGS.out) HP.out HQH.out (by rw[←HNS.out];exact HRH.out));obtain⟨b,o,rfl,hca⟩:=(New.crs HN15.out HX.out).at hkX;obtain⟨_,_,_,_,x5⟩:=hca;rw[←HBP.out]at x5;obtain⟨p1,p2,_,_⟩:=box2_c HA15.out
        have i1:(0:Int)≤(k:Int):=by omega
        have i2:(k:Int)<(n:Int):=by omega
        go_upto_if 125 with fail
        go_cut [9,19] (fun pv qv wz=>∃(s1:Option Addr) (n1 k1:Nat) (y1:L2) (s2:Option Addr) (n2 k2:Nat) (y2:L2),pv=.slice s1 n1 k1∧qv=.slice s2 n2 k2∧Hid (TL w15 s1 n1 y1)∧Hid (TL w15 s2 n2 y2)∧Hid (skL y1 y2=skR r)∧wz=w15)
        case first=>
         cases bp
         · go_wp2
           go_meet
           exact⟨_,_,_,q,_,_,_,p,rfl,rfl,HTQ15,HTP15,Lib.hid HLAW.out,rfl⟩
         · go_wp2
           go_meet
           exact⟨_,_,_,p,_,_,_,q,rfl,rfl,HTP15,HTQ15,Lib.hid HLAW.out,rfl⟩
        case rest=>
         obtain⟨s1,n1,k1,y1,s2,n2,k2,y2,rfl,rfl,HY1,HY2,HSK,rfl⟩:=hcut;clear p1 p2 x5;go_wp2_with fail;refine(sum_tl (.slice none 0 0) 0 [] (c:=k1) 1 0 1 ⟨rfl,.inl ⟨rfl,rfl⟩⟩ rfl (by omega) (by decide) HY1.out (by omega) (by omega) rfl).mono ?_;rintro e w16 ⟨a16,m16,c16,rfl,hm16,ho16,hF⟩;have HN16:=Lib.hid (HN15.out.trans hF);have HY2b:=Lib.hid (HY2.out.nw hF);have HR16:=Lib.hid (HTR15.out.nw hF);have HO16:=ho16;have HM16:=hm16
         have hl16:m16≤1000000:=by have h1:=hm16.out;have h2:=sumT_len (1,0) 1 y1 [];have h3:=HY1.out.len;have h4:=HY1.out.few;simp only[List.length_nil]at h2;omega
         have HZ16:Hid (szL (sumT [] y1 (1,0) 1)≤120508569176408064):=Lib.hid (by have h2:=sumT_sz (1,0) 1 y1 [];have h3:=HY1.out.sz;rw[show szL []=0 from rfl]at h2;simp only[Int.natAbs_one,Nat.one_mul,Nat.zero_add]at h2;omega);clear hF ho16 hm16;go_wp2_with fail;refine(sum_tl (.slice a16 m16 c16) m16 (sumT [] y1 (1,0) 1) (c:=k2) (-1) 0 (-1) HO16.out HM16.out hl16 HZ16.out HY2b.out (by omega) (by omega) rfl).mono ?_;rintro e w17 ⟨a17,m17,c17,rfl,hm17,ho17,hF⟩;have HN17:=Lib.hid (HN16.out.trans hF);have HR17:=Lib.hid (HR16.out.nw hF)
         have HO17:=ho17;have HM17:=hm17;clear hF ho17 hm17;go_wp2_with fail;refine(sum_tl (.slice none 0 0) 0 [] (c:=c15) 0 1 1 ⟨rfl,.inl ⟨rfl,rfl⟩⟩ rfl (by omega) (by decide) HR17.out (by omega) (by omega) rfl).mono ?_;rintro e w18 ⟨a18,m18,c18,rfl,hm18,ho18,hF⟩;have HN18:=Lib.hid (HN17.out.trans hF);have hT17:=T2At.of_owns (hF.owns HO17.out fun _ _ x=>x) HM17.out;have hT18:=T2At.of_owns ho18.out hm18.out;have hsk:sumT (sumT [] y1 (1,0) 1) y2 (-1,0) (-1)=sumT [] r (0,1) 1:=HSK.out
         have hl18:m18≤1000000:=by have h1:=hm18.out;have h2:=sumT_len (0,1) 1 r [];have h3:=HR17.out.len;have h4:=HR17.out.few;simp only[List.length_nil]at h2;omega
         have hl17:m17=m18:=by rw[HM17.out,hm18.out,hsk]
         rw[hsk]at hT17;have hsm:=same_yes a17 a18 m17 m18 c17 c18 (sumT [] r (0,1) 1) w18 hT17 hT18 (by rw[hl17];exact hm18.out) hm18.out (by omega) hl18;have HSM:=Lib.hid hsm;clear hF ho18 hm18 hT17 hT18 hsk hl17 hsm;go_wp2_with fail
         refine HSM.out.mono ?_
         rintro e w19 ⟨rfl,hF⟩;go_wp2;go_ret
         exact⟨rfl,HN18.out.trans hF⟩
     · have h2:8<(Ln:Int):=by omega
       have h2':decide (8<(Ln:Int))=true:=decide_eq_true h2;go_wp2
       all_goals (go_ret;exact⟨rfl,HN4.out⟩)
   · have h1:7<(n:Int):=by omega
     have h1':decide (7<(n:Int))=true:=decide_eq_true h1;go_wp2
     all_goals (go_ret;exact⟨rfl,HN4.out⟩)
 · obtain⟨q,HQ⟩:∃q,Hid (q=hoC X L):=⟨_,Lib.hid rfl⟩
   rw[←HQ.out]at hc
   have hq:((q:Int)==0)=false:=by simp;exact hc
   have hq2:((q:Int) != 0)=true:=by simp;exact hc
   clear hc;rw[←HQ.out];go_wp2;go_ret
   exact⟨rfl,HN4.out⟩
end Go.Proofs.YtlicglicfijelaaGreat
