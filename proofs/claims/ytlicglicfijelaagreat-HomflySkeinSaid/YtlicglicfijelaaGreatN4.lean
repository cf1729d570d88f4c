/- Walks: pull's inner function. -/
import Derived.Test.YtlicglicfijelaaGreatTK
import Derived.Test.YtlicglicfijelaaGreatN2
import Derived.Test.YtlicglicfijelaaGreatW9N
/- Walks: pull's inner function. -/
namespace Go.Proofs.YtlicglicfijelaaGreat
open Go.RowKit

theorem OwnD.cells{w:World}{v:Value}{l:List Kn.Dt}(h:OwnD w v l):∃a c,v=.slice a l.length c∧(l=[]∨∃g,a=some ⟨g,0,none⟩∧∀i (hi:i<l.length),w.cell? ⟨g,i*2,none⟩=some (.int .i64 ((l[i]).1:Nat))∧w.cell? ⟨g,i*2+1,none⟩=some (.bool (l[i]).2)):=by
 rcases h.2 with⟨rfl,h0⟩|⟨g,cap,cur,rfl,hb,hg,h1,h2,h3,h4⟩
 · exact⟨none,0,by rw[h0],.inl (List.length_eq_zero_iff.1 h0)⟩
 · refine⟨_,cap,rfl,.inr ⟨g,rfl,fun i hi=>?_⟩⟩
   have e0:∀(l:List Kn.Dt) (i:Nat) (hi:i<l.length),(dcells l)[i*2]?=some (.int .i64 ((l[i]).1:Nat))∧(dcells l)[i*2+1]?=some (.bool (l[i]).2):=by
    intro l
    induction l with
    |nil=>intro i hi;simp at hi
    |cons d l ih=>
     intro i hi
     match i with
     |0=>exact⟨rfl,rfl⟩
     |i+1=>
      have:=ih i (by simpa using hi)
      refine⟨?_,?_⟩
      · rw[show (i+1)*2=(i*2)+2 by omega];exact this.1
      · rw[show (i+1)*2+1=(i*2+1)+2 by omega];exact this.2
   refine⟨?_,?_⟩
   · have:=World.ownsRow.cells h (g:=g) rfl _ _ (e0 l i hi).1
     rwa [addr_add,Nat.zero_add]at this
   · have:=World.ownsRow.cells h (g:=g) rfl _ _ (e0 l i hi).2
     rwa [addr_add,Nat.zero_add]at this
theorem keep6{w w':World}{B1 b s g a0 a1:Nat}{k0 k1:Bool}(hF:New w w')(h:w.cell? ⟨B1,0,none⟩=some (.pointer (some ⟨b,0,none⟩))∧w.cell? ⟨b,0,none⟩=some (.pointer (some ⟨s,0,none⟩))∧w.cell? ⟨g,0,none⟩=some (.int .i64 (a0:Nat))∧w.cell? ⟨g,1,none⟩=some (.bool k0)∧w.cell? ⟨g,2,none⟩=some (.int .i64 (a1:Nat))∧w.cell? ⟨g,3,none⟩=some (.bool k1)):w'.cell? ⟨B1,0,none⟩=some (.pointer (some ⟨b,0,none⟩))∧w'.cell? ⟨b,0,none⟩=some (.pointer (some ⟨s,0,none⟩))∧w'.cell? ⟨g,0,none⟩=some (.int .i64 (a0:Nat))∧w'.cell? ⟨g,1,none⟩=some (.bool k0)∧w'.cell? ⟨g,2,none⟩=some (.int .i64 (a1:Nat))∧w'.cell? ⟨g,3,none⟩=some (.bool k1):=
 ⟨hF.cell h.1 fun x=>x,hF.cell h.2.1 fun x=>x,hF.cell h.2.2.1 fun x=>x,hF.cell h.2.2.2.1 fun x=>x,hF.cell h.2.2.2.2.1 fun x=>x,hF.cell h.2.2.2.2.2 fun x=>x⟩
def bigF(X:List Kn.Cr)(x y:Int)(f:List Kn.Dt):Bool:=
 match f with
 |[d,e]=>
  let p:Int:=(Kn.head X (d.1,!d.2)).1
  let q:Int:=(Kn.head X (e.1,!e.2)).1
  ((decide (p=x)&&decide (q=y))||(decide (p=y)&&decide (q=x)))&&((ovA X d.1&&ovB X e.1)||(ovB X d.1&&ovA X e.1))
 |_=>false
set_option maxRecDepth 100000 in
set_option maxHeartbeats 4000000 in
theorem pull1_any(b s B1 B2:Nat)(fv v:Value)(X:List Kn.Cr)(L x y:Int)(f:List Kn.Dt)(w:World)(h:BeAt w b s fv X L)(hl:X.length≤16)(ho:OwnD w v f)(hfl:f.length≤64)(hf:∀d∈f,Kn.isArc X d.1)
 (hb:w.cell? ⟨B1,0,none⟩=some (.pointer (some ⟨b,0,none⟩))) (hx:w.cell? ⟨B2,1,none⟩=some (.int .i64 x)) (hy:w.cell? ⟨B2,2,none⟩=some (.int .i64 y)):
 Calls Tryz.prog 86 #[v,.pointer (some ⟨B1,0,none⟩),.pointer (some ⟨B2,0,none⟩)] w (fun e w'=>e=.returned (.bool (bigF X x y f))∧New w w'):=by
 obtain⟨r,HR⟩:∃r,Hid (bigF X x y f=r):=⟨_,Lib.hid rfl⟩
 rw[HR.out];obtain⟨a,c,rfl,hcs⟩:=ho.cells;clear ho
 obtain⟨n,hn⟩:∃n,n=f.length:=⟨_,rfl⟩
 rw[←hn]at hfl ⊢
 by_cases h2:n=2
 · obtain⟨⟨a0,k0⟩,⟨a1,k1⟩,rfl⟩:∃d e,f=[d,e]:=by
    match f,hn.symm.trans h2 with
    |[d,e],_=>exact⟨d,e,rfl⟩
   subst h2;clear hn
   obtain⟨g,rfl,ho⟩:∃g,a=some ⟨g,0,none⟩∧∀i (hi:i<[(a0,k0),(a1,k1)].length),w.cell? ⟨g,i*2,none⟩=some (.int .i64 (([(a0,k0),(a1,k1)][i]).1:Nat))∧w.cell? ⟨g,i*2+1,none⟩=some (.bool ([(a0,k0),(a1,k1)][i]).2):=by
    rcases hcs with hcs|hcs
    · cases hcs
    · exact hcs
   clear hcs;have g0:=(ho 0 (by simp)).1;have g1:=(ho 0 (by simp)).2;have g2:=(ho 1 (by simp)).1;have g3:=(ho 1 (by simp)).2;simp only[List.getElem_cons_zero,List.getElem_cons_succ,Nat.zero_mul,Nat.one_mul,Nat.zero_add]at g0 g1 g2 g3;have HA0:=Lib.hid (hf (a0,k0) (by simp));have HA1:=Lib.hid (hf (a1,k1) (by simp))
   obtain⟨⟨pc,ps⟩,HP⟩:∃p,Hid (Kn.head X (a0,!k0)=p):=⟨_,Lib.hid rfl⟩
   obtain⟨⟨qc,qs⟩,HQ⟩:∃p,Hid (Kn.head X (a1,!k1)=p):=⟨_,Lib.hid rfl⟩
   have H:=Lib.hid h;obtain⟨c0,_⟩:=h.c;clear h ho hf hfl;have hS:(fun w':World=>w'.cell? ⟨B1,0,none⟩=some (.pointer (some ⟨b,0,none⟩))∧w'.cell? ⟨b,0,none⟩=some (.pointer (some ⟨s,0,none⟩))∧w'.cell? ⟨g,0,none⟩=some (.int .i64 a0)∧w'.cell? ⟨g,1,none⟩=some (.bool k0)∧w'.cell? ⟨g,2,none⟩=some (.int .i64 a1)∧w'.cell? ⟨g,3,none⟩=some (.bool k1)) w.drew:=keep6 (Fr.drew (Fr.refl _ _)) ⟨hb,c0,g0,g1,g2,g3⟩;have hM:(w.drew.cell? ⟨B2,1,none⟩=some (.int .i64 x)∧w.drew.cell? ⟨B2,2,none⟩=some (.int .i64 y)):=⟨hx,hy⟩
   have HM0:=Lib.hid hM;have HB0:Hid (BeAt w.drew b s fv X L):=Lib.hid (H.out.new (Fr.drew (Fr.refl _ _)));have HN0:Hid (New w w.drew):=Lib.hid (Fr.drew (Fr.refl _ _))
   have hfld:∀(x y:Int) (w:World),(Instr.field 104 (.agg #[.int .i64 x,.int .i64 y]) 0).run Tryz.prog w=.ok (.int .i64 x) w:=fun x y w=>by kernel_rfl
   clear hM hx hy
   go_enter Tryz.func86,Tryz.ntmps86
   go_wp2_with fail
   refine wp_region_held_drew (S:=fun w'=>w'.cell? ⟨B1,0,none⟩=some (.pointer (some ⟨b,0,none⟩))∧w'.cell? ⟨b,0,none⟩=some (.pointer (some ⟨s,0,none⟩))∧w'.cell? ⟨g,0,none⟩=some (.int .i64 a0)∧w'.cell? ⟨g,1,none⟩=some (.bool k0)∧w'.cell? ⟨g,2,none⟩=some (.int .i64 a1)∧w'.cell? ⟨g,3,none⟩=some (.bool k1)) (by kernel_rfl) hS (fun hHeld=>?_)
   have HS0:=Lib.hid hS;clear hS hb c0 g0 g1 g2 g3;generalize w.drew=r0 at hHeld HS0 HM0 HB0 HN0 ⊢
   refine' sq 0 (h:=sq 1 (h:=sq 2 (h:=sq 3 (h:=sq 4 (h:=sq 5 (h:=sq 6 (h:=sq 9 (h:=sq 10 (h:=sq 11 (h:=sq 12 (h:=sq 13 (h:=sq 14 (h:=sq 15 (h:=?_))))))))))))))
   refine rdO (i:=7) (fun K hK=>?_);(try simp only[lq1,lq2,lq3]);go_simp;refine(tail_any s a0 k0 X L _ HB0.out.sh hl HA0.out).mono ?_;rintro e r1 ⟨rfl,hF⟩;rw[HP.out];have HS1:=Lib.hid (keep6 hF HS0.out);have HB1:=Lib.hid (HB0.out.new hF);have HN1:=Lib.hid (HN0.out.trans hF);have HM1:=Lib.hid (show r1.cell? ⟨B2,1,none⟩=some (.int .i64 x)∧r1.cell? ⟨B2,2,none⟩=some (.int .i64 y)from⟨hF.cell HM0.out.1 fun x=>x,hF.cell HM0.out.2 fun x=>x⟩);clear hF;go_wp2_with fail;refine hK.out _ _ HS1.out (fun hHeld=>?_);clear hK K
   (try simp only[Act.put,lq1,lq2,lq3,lq4,lq5,lq6])
   refine' sq 8 (h:=?_)
   refine rdO (i:=16) (fun K hK=>?_);(try simp only[lq1,lq2,lq3]);go_simp;refine(tail_any s a1 k1 X L _ HB1.out.sh hl HA1.out).mono ?_;rintro e r2 ⟨rfl,hF⟩;rw[HQ.out];have HS2:=Lib.hid (keep6 hF HS1.out);have HB2:=Lib.hid (HB1.out.new hF);have HN2:=Lib.hid (HN1.out.trans hF);have HM2:=Lib.hid (show r2.cell? ⟨B2,1,none⟩=some (.int .i64 x)∧r2.cell? ⟨B2,2,none⟩=some (.int .i64 y)from⟨hF.cell HM1.out.1 fun x=>x,hF.cell HM1.out.2 fun x=>x⟩);clear hF;go_wp2_with fail;refine hK.out _ _ HS2.out (fun hHeld=>?_);clear hK K
   (try simp only[Act.put,lq1,lq2,lq3,lq4,lq5,lq6])
   refine' sq 17 (h:=sq 18 (h:=sq 19 (h:=?_)))
   refine wpAnyH_done (by kernel_rfl) ?_ _;obtain⟨m1,m2⟩:=HM2.out;have HC2:=Lib.hid HS2.out;obtain⟨s1,_,s3,_,s5,_⟩:=HS2.out
   obtain⟨z,HZ⟩:∃z,Hid (((ovA X a0&&ovB X a1)||(ovB X a0&&ovA X a1))=z):=⟨_,Lib.hid rfl⟩
   obtain⟨pa,HPA⟩:∃z,Hid (ovA X a0=z):=⟨_,Lib.hid rfl⟩
   obtain⟨pb,HPB⟩:∃z,Hid (ovB X a0=z):=⟨_,Lib.hid rfl⟩
   obtain⟨qa,HQA⟩:∃z,Hid (ovA X a1=z):=⟨_,Lib.hid rfl⟩
   obtain⟨qb,HQB⟩:∃z,Hid (ovB X a1=z):=⟨_,Lib.hid rfl⟩
   have HZ2:Hid (((pa&&qb)||(pb&&qa))=z):=Lib.hid (by rw[←HPA.out,←HPB.out,←HQA.out,←HQB.out];exact HZ.out)
   have HR2:Hid ((((((pc:Int)==x)&&((qc:Int)==y))||(((pc:Int)==y)&&((qc:Int)==x)))&&z)=r):=Lib.hid (by
    rw[←HR.out]
    unfold bigF
    simp only[HP.out,HQ.out,HZ.out]
    rfl)
   obtain⟨E1,K1⟩:∃z,((pc:Int)==x)=z:=⟨_,rfl⟩
   obtain⟨E2,K2⟩:∃z,((qc:Int)==y)=z:=⟨_,rfl⟩
   obtain⟨E3,K3⟩:∃z,((pc:Int)==y)=z:=⟨_,rfl⟩
   obtain⟨E4,K4⟩:∃z,((qc:Int)==x)=z:=⟨_,rfl⟩
   rw[K1,K2,K3,K4]at HR2;clear HR HZ hfld
   cases E1
   · cases E3
     · go_wp2_with fail
       go_ret
       exact⟨ret_bool (by rw[←HR2.out];rfl),HN2.out⟩
     · cases E4
       · go_wp2_with fail
         go_ret
         exact⟨ret_bool (by rw[←HR2.out];rfl),HN2.out⟩
       · go_wp2_with fail
         clear m1 m2 s1 s3 s5
         refine wp_region_held_drew (S:=fun w'=>w'.cell? ⟨B1,0,none⟩=some (.pointer (some ⟨b,0,none⟩))∧w'.cell? ⟨b,0,none⟩=some (.pointer (some ⟨s,0,none⟩))∧w'.cell? ⟨g,0,none⟩=some (.int .i64 a0)∧w'.cell? ⟨g,1,none⟩=some (.bool k0)∧w'.cell? ⟨g,2,none⟩=some (.int .i64 a1)∧w'.cell? ⟨g,3,none⟩=some (.bool k1)) (by kernel_rfl) (keep6 (Fr.drew (Fr.refl _ _)) HC2.out) (fun hHeld=>?_)
         have HC2d:=Lib.hid (keep6 (Fr.drew (Fr.refl _ _)) HC2.out);have HB2d:Hid (BeAt r2.drew b s fv X L):=Lib.hid (HB2.out.new (Fr.drew (Fr.refl _ _)));have HN2d:Hid (New w r2.drew):=Lib.hid (HN2.out.drew);generalize r2.drew=q2 at hHeld HC2d HB2d HN2d ⊢
         refine' sq 0 (h:=sq 1 (h:=sq 2 (h:=sq 3 (h:=sq 4 (h:=?_)))))
         refine rdO (i:=5) (fun K hK=>?_);(try simp only[lq1,lq2,lq3]);go_simp;refine(over_any b s fv X L a0 _ HB2d.out hl HA0.out).mono ?_;rintro e r3 ⟨rfl,hF⟩;rw[HPA.out,HPB.out];have HC3:=Lib.hid (keep6 hF HC2d.out);have HB3:=Lib.hid (HB2d.out.new hF);have HN3:=Lib.hid (HN2d.out.trans hF);clear hF;go_wp2_with fail;refine hK.out _ _ HC3.out (fun hHeld=>?_);clear hK K;(try simp only[Act.put,lq1,lq2,lq3,lq4,lq5,lq6])
         refine' sq 6 (h:=sq 7 (h:=sq 8 (h:=sq 9 (h:=sq 10 (h:=?_)))))
         refine wpAnyH_done (by kernel_rfl) ?_ _;go_wp2_with fail
         refine wp_region_held_drew (S:=fun w'=>w'.cell? ⟨B1,0,none⟩=some (.pointer (some ⟨b,0,none⟩))∧w'.cell? ⟨b,0,none⟩=some (.pointer (some ⟨s,0,none⟩))∧w'.cell? ⟨g,0,none⟩=some (.int .i64 a0)∧w'.cell? ⟨g,1,none⟩=some (.bool k0)∧w'.cell? ⟨g,2,none⟩=some (.int .i64 a1)∧w'.cell? ⟨g,3,none⟩=some (.bool k1)) (by kernel_rfl) (keep6 (Fr.drew (Fr.refl _ _)) HC3.out) (fun hHeld=>?_)
         have HC3d:=Lib.hid (keep6 (Fr.drew (Fr.refl _ _)) HC3.out);have HB3d:Hid (BeAt r3.drew b s fv X L):=Lib.hid (HB3.out.new (Fr.drew (Fr.refl _ _)));have HN3d:Hid (New w r3.drew):=Lib.hid (HN3.out.drew);generalize r3.drew=q3 at hHeld HC3d HB3d HN3d ⊢
         refine' sq 0 (h:=sq 1 (h:=sq 2 (h:=sq 3 (h:=sq 4 (h:=?_)))))
         refine rdO (i:=5) (fun K hK=>?_);(try simp only[lq1,lq2,lq3]);go_simp;refine(over_any b s fv X L a1 _ HB3d.out hl HA1.out).mono ?_;rintro e r4 ⟨rfl,hF⟩;rw[HQA.out,HQB.out];have HC4:=Lib.hid (keep6 hF HC3d.out);have HB4:=Lib.hid (HB3d.out.new hF);have HN4:=Lib.hid (HN3d.out.trans hF);clear hF;go_wp2_with fail;refine hK.out _ _ HC4.out (fun hHeld=>?_);clear hK K;(try simp only[Act.put,lq1,lq2,lq3,lq4,lq5,lq6])
         refine' sq 6 (h:=sq 7 (h:=sq 8 (h:=sq 9 (h:=sq 10 (h:=?_)))))
         refine wpAnyH_done (by kernel_rfl) ?_ _;go_wp2_with fail
         all_goals
          go_ret
          refine⟨ret_bool ?_,HN4.out⟩
          rw[←HR2.out,←HZ2.out]
          cases pa<;>cases pb<;>cases qa<;>cases qb<;>first|rfl|contradiction
   · cases E2
     · cases E3
       · go_wp2_with fail
         go_ret
         exact⟨ret_bool (by rw[←HR2.out];rfl),HN2.out⟩
       · cases E4
         · go_wp2_with fail
           go_ret
           exact⟨ret_bool (by rw[←HR2.out];rfl),HN2.out⟩
         · go_wp2_with fail
           clear m1 m2 s1 s3 s5
           refine wp_region_held_drew (S:=fun w'=>w'.cell? ⟨B1,0,none⟩=some (.pointer (some ⟨b,0,none⟩))∧w'.cell? ⟨b,0,none⟩=some (.pointer (some ⟨s,0,none⟩))∧w'.cell? ⟨g,0,none⟩=some (.int .i64 a0)∧w'.cell? ⟨g,1,none⟩=some (.bool k0)∧w'.cell? ⟨g,2,none⟩=some (.int .i64 a1)∧w'.cell? ⟨g,3,none⟩=some (.bool k1)) (by kernel_rfl) (keep6 (Fr.drew (Fr.refl _ _)) HC2.out) (fun hHeld=>?_)
           have HC2d:=Lib.hid (keep6 (Fr.drew (Fr.refl _ _)) HC2.out);have HB2d:Hid (BeAt r2.drew b s fv X L):=Lib.hid (HB2.out.new (Fr.drew (Fr.refl _ _)));have HN2d:Hid (New w r2.drew):=Lib.hid (HN2.out.drew);generalize r2.drew=q2 at hHeld HC2d HB2d HN2d ⊢
           refine' sq 0 (h:=sq 1 (h:=sq 2 (h:=sq 3 (h:=sq 4 (h:=?_)))))
           refine rdO (i:=5) (fun K hK=>?_);(try simp only[lq1,lq2,lq3]);go_simp;refine(over_any b s fv X L a0 _ HB2d.out hl HA0.out).mono ?_;rintro e r3 ⟨rfl,hF⟩;rw[HPA.out,HPB.out];have HC3:=Lib.hid (keep6 hF HC2d.out);have HB3:=Lib.hid (HB2d.out.new hF);have HN3:=Lib.hid (HN2d.out.trans hF);clear hF;go_wp2_with fail;refine hK.out _ _ HC3.out (fun hHeld=>?_);clear hK K;(try simp only[Act.put,lq1,lq2,lq3,lq4,lq5,lq6])
           refine' sq 6 (h:=sq 7 (h:=sq 8 (h:=sq 9 (h:=sq 10 (h:=?_)))))
           refine wpAnyH_done (by kernel_rfl) ?_ _;go_wp2_with fail
           refine wp_region_held_drew (S:=fun w'=>w'.cell? ⟨B1,0,none⟩=some (.pointer (some ⟨b,0,none⟩))∧w'.cell? ⟨b,0,none⟩=some (.pointer (some ⟨s,0,none⟩))∧w'.cell? ⟨g,0,none⟩=some (.int .i64 a0)∧w'.cell? ⟨g,1,none⟩=some (.bool k0)∧w'.cell? ⟨g,2,none⟩=some (.int .i64 a1)∧w'.cell? ⟨g,3,none⟩=some (.bool k1)) (by kernel_rfl) (keep6 (Fr.drew (Fr.refl _ _)) HC3.out) (fun hHeld=>?_)
           have HC3d:=Lib.hid (keep6 (Fr.drew (Fr.refl _ _)) HC3.out);have HB3d:Hid (BeAt r3.drew b s fv X L):=Lib.hid (HB3.out.new (Fr.drew (Fr.refl _ _)));have HN3d:Hid (New w r3.drew):=Lib.hid (HN3.out.drew);generalize r3.drew=q3 at hHeld HC3d HB3d HN3d ⊢
           refine' sq 0 (h:=sq 1 (h:=sq 2 (h:=sq 3 (h:=sq 4 (h:=?_)))))
           refine rdO (i:=5) (fun K hK=>?_);(try simp only[lq1,lq2,lq3]);go_simp;refine(over_any b s fv X L a1 _ HB3d.out hl HA1.out).mono ?_;rintro e r4 ⟨rfl,hF⟩;rw[HQA.out,HQB.out];have HC4:=Lib.hid (keep6 hF HC3d.out);have HB4:=Lib.hid (HB3d.out.new hF);have HN4:=Lib.hid (HN3d.out.trans hF);clear hF;go_wp2_with fail;refine hK.out _ _ HC4.out (fun hHeld=>?_);clear hK K;(try simp only[Act.put,lq1,lq2,lq3,lq4,lq5,lq6])
           refine' sq 6 (h:=sq 7 (h:=sq 8 (h:=sq 9 (h:=sq 10 (h:=?_)))))
           refine wpAnyH_done (by kernel_rfl) ?_ _;go_wp2_with fail
           all_goals
            go_ret
            refine⟨ret_bool ?_,HN4.out⟩
            rw[←HR2.out,←HZ2.out]
            cases pa<;>cases pb<;>cases qa<;>cases qb<;>first|rfl|contradiction
     · go_wp2_with fail
       clear m1 m2 s1 s3 s5
       refine wp_region_held_drew (S:=fun w'=>w'.cell? ⟨B1,0,none⟩=some (.pointer (some ⟨b,0,none⟩))∧w'.cell? ⟨b,0,none⟩=some (.pointer (some ⟨s,0,none⟩))∧w'.cell? ⟨g,0,none⟩=some (.int .i64 a0)∧w'.cell? ⟨g,1,none⟩=some (.bool k0)∧w'.cell? ⟨g,2,none⟩=some (.int .i64 a1)∧w'.cell? ⟨g,3,none⟩=some (.bool k1)) (by kernel_rfl) (keep6 (Fr.drew (Fr.refl _ _)) HC2.out) (fun hHeld=>?_)
       have HC2d:=Lib.hid (keep6 (Fr.drew (Fr.refl _ _)) HC2.out);have HB2d:Hid (BeAt r2.drew b s fv X L):=Lib.hid (HB2.out.new (Fr.drew (Fr.refl _ _)));have HN2d:Hid (New w r2.drew):=Lib.hid (HN2.out.drew);generalize r2.drew=q2 at hHeld HC2d HB2d HN2d ⊢
       refine' sq 0 (h:=sq 1 (h:=sq 2 (h:=sq 3 (h:=sq 4 (h:=?_)))))
       refine rdO (i:=5) (fun K hK=>?_);(try simp only[lq1,lq2,lq3]);go_simp;refine(over_any b s fv X L a0 _ HB2d.out hl HA0.out).mono ?_;rintro e r3 ⟨rfl,hF⟩;rw[HPA.out,HPB.out];have HC3:=Lib.hid (keep6 hF HC2d.out);have HB3:=Lib.hid (HB2d.out.new hF);have HN3:=Lib.hid (HN2d.out.trans hF);clear hF;go_wp2_with fail;refine hK.out _ _ HC3.out (fun hHeld=>?_);clear hK K;(try simp only[Act.put,lq1,lq2,lq3,lq4,lq5,lq6])
       refine' sq 6 (h:=sq 7 (h:=sq 8 (h:=sq 9 (h:=sq 10 (h:=?_)))))
       refine wpAnyH_done (by kernel_rfl) ?_ _;go_wp2_with fail
       refine wp_region_held_drew (S:=fun w'=>w'.cell? ⟨B1,0,none⟩=some (.pointer (some ⟨b,0,none⟩))∧w'.cell? ⟨b,0,none⟩=some (.pointer (some ⟨s,0,none⟩))∧w'.cell? ⟨g,0,none⟩=some (.int .i64 a0)∧w'.cell? ⟨g,1,none⟩=some (.bool k0)∧w'.cell? ⟨g,2,none⟩=some (.int .i64 a1)∧w'.cell? ⟨g,3,none⟩=some (.bool k1)) (by kernel_rfl) (keep6 (Fr.drew (Fr.refl _ _)) HC3.out) (fun hHeld=>?_)
       have HC3d:=Lib.hid (keep6 (Fr.drew (Fr.refl _ _)) HC3.out);have HB3d:Hid (BeAt r3.drew b s fv X L):=Lib.hid (HB3.out.new (Fr.drew (Fr.refl _ _)));have HN3d:Hid (New w r3.drew):=Lib.hid (HN3.out.drew);generalize r3.drew=q3 at hHeld HC3d HB3d HN3d ⊢
       refine' sq 0 (h:=sq 1 (h:=sq 2 (h:=sq 3 (h:=sq 4 (h:=?_)))))
       refine rdO (i:=5) (fun K hK=>?_);(try simp only[lq1,lq2,lq3]);go_simp;refine(over_any b s fv X L a1 _ HB3d.out hl HA1.out).mono ?_;rintro e r4 ⟨rfl,hF⟩;rw[HQA.out,HQB.out];have HC4:=Lib.hid (keep6 hF HC3d.out);have HB4:=Lib.hid (HB3d.out.new hF);have HN4:=Lib.hid (HN3d.out.trans hF);clear hF;go_wp2_with fail;refine hK.out _ _ HC4.out (fun hHeld=>?_);clear hK K;(try simp only[Act.put,lq1,lq2,lq3,lq4,lq5,lq6])
       refine' sq 6 (h:=sq 7 (h:=sq 8 (h:=sq 9 (h:=sq 10 (h:=?_)))))
       refine wpAnyH_done (by kernel_rfl) ?_ _;go_wp2_with fail
       all_goals
        go_ret
        refine⟨ret_bool ?_,HN4.out⟩
        rw[←HR2.out,←HZ2.out]
        cases pa<;>cases pb<;>cases qa<;>cases qb<;>first|rfl|contradiction
 · have HR0:Hid (r=false):=Lib.hid (by
    rw[←HR.out]
    match f,hn with
    |[],_=>rfl
    |[_],_=>rfl
    |[_,_],hn=>exact absurd hn h2
    |_ :: _ :: _ :: _,_=>rfl)
   rw[HR0.out]
   have hne:((n:Int)==2)=false:=by
    rw[Bool.eq_false_iff];intro e;rw[beq_iff_eq]at e;omega
   have hne2:((n:Int) != 2)=true:=by rw[bne,hne];rfl
   clear hn hcs HR HR0 h hb hx hy hf
   go_enter Tryz.func86,Tryz.ntmps86
   go_wp2;go_ret
   exact⟨rfl,Fr.refl _ _⟩
end Go.Proofs.YtlicglicfijelaaGreat

/- Walks: IndexFunc, ContainsFunc of faces, at pull's inner function; need, where something holds. -/
namespace Go.Proofs.YtlicglicfijelaaGreat
open Go.RowKit

structure PuAt(w:World)(b s B1 B2:Nat)(fv:Value)(X:List Kn.Cr)(L x y:Int):Prop where
 be:BeAt w b s fv X L
 cb:w.cell? ⟨B1,0,none⟩=some (.pointer (some ⟨b,0,none⟩))
 cx:w.cell? ⟨B2,1,none⟩=some (.int .i64 x)
 cy:w.cell? ⟨B2,2,none⟩=some (.int .i64 y)
theorem PuAt.new{w w':World}{b s B1 B2:Nat}{fv:Value}{X:List Kn.Cr}{L x y:Int}(h:PuAt w b s B1 B2 fv X L x y)(k:New w w'):PuAt w' b s B1 B2 fv X L x y:=
 ⟨h.be.new k,k.cell h.cb fun x=>x,k.cell h.cx fun x=>x,k.cell h.cy fun x=>x⟩
def FacesOk(X:List Kn.Cr)(F:List (List Kn.Dt)):Prop:=F.length≤64∧∀f∈F,f.length≤64∧∀d∈f,Kn.isArc X d.1
set_option maxRecDepth 100000 in
set_option maxHeartbeats 2000000 in
theorem indexF_any(b s B1 B2:Nat)(fv v:Value)(X:List Kn.Cr)(L x y:Int)(F:List (List Kn.Dt))(w:World)(h:PuAt w b s B1 B2 fv X L x y)(hl:X.length≤16)(hF:FacesOk X F)(hr:Rows OwnD 0 118 w v F):
 Calls Tryz.prog 102 #[v,.func (.func 86) #[] #[.pointer (some ⟨B1,0,none⟩),.pointer (some ⟨B2,0,none⟩)]] w (fun e w'=>(∃r,e=.returned (.int .i64 r)∧(0≤r↔F.any (bigF X x y)=true))∧New w w'):=by
 obtain⟨a,c,rfl⟩:=hr.sl
 obtain⟨n,hn⟩:∃n,n=F.length:=⟨_,rfl⟩
 rw[←hn]at hr ⊢;have HN:=Lib.hid hn;have H:=Lib.hid h;have HFO:=Lib.hid hF;have HR:=Lib.hid hr
 have hn64:n≤64:=by rw[hn];exact hF.1
 clear hn h hF hr
 go_enter Tryz.func102,Tryz.ntmps102
 go_wp2
 go_loopw [8] (fun i wr=>∃k:Nat,k≤n∧i=.int .i64 k∧Hid (New w wr)∧Hid ((F.take k).any (bigF X x y)=false)) (fun i _=>n-(intOf i).toNat)
 case atStart=>exact⟨0,by omega,rfl,Lib.hid (Fr.refl _ _),Lib.hid rfl⟩
 case round=>
  obtain⟨k,hk,rfl,HW,HT⟩:=hrel
  by_cases hlt:k<n
  · have hkl:k<F.length:=by have:=HN.out;omega
    obtain⟨g,c',u,he,hcell,hown⟩:=(RowsD.new HR.out HW.out).at hkl;rw[←HN.out]at he
    cases he
    have HB:=HFO.out.2 _ (List.getElem_mem hkl)
    obtain⟨z,HZ⟩:∃z,Hid (bigF X x y F[k]=z):=⟨_,Lib.hid rfl⟩
    have CC:=Lib.hid (pull1_any b s B1 B2 fv u X L x y F[k] wr (H.out.new HW.out).be hl hown HB.1 HB.2 (H.out.new HW.out).cb (H.out.new HW.out).cx (H.out.new HW.out).cy);rw[HZ.out]at CC;have hown2:=hown.cells;obtain⟨ua,uc,rfl,_⟩:=hown2
    have i1:(0:Int)≤(k:Int):=by omega
    have i2:(k:Int)<(n:Int):=by omega
    have HL:=Lib.hid HB.1
    have HT2:Hid ((F.take (k+1)).any (bigF X x y)=z):=Lib.hid (by
     rw[List.take_succ_eq_append_getElem hkl,List.any_append,HT.out,List.any_cons,List.any_nil,HZ.out];simp)
    clear hown HB HT HZ;go_wp2_with fail
    refine CC.out.mono ?_
    rintro e w1 ⟨rfl,hn1⟩;have HF1:Hid (New w w1):=Lib.hid (HW.out.trans hn1);clear hn1 hcell
    cases z
    · go_wp2
      go_roundw
      case rel=>exact⟨k+1,by omega,by go_num,HF1,HT2⟩
      case measure=>simp[intOf];omega
    · go_wp2
      go_ret
      refine⟨⟨_,rfl,?_⟩,HF1.out⟩
      constructor
      · intro _
        have:=HT2.out;rw[List.any_eq_true]at this ⊢;obtain⟨f,h1,h2⟩:=this
        exact⟨f,List.mem_of_mem_take h1,h2⟩
      · intro _;omega
  · obtain rfl:k=n:=by omega
    go_wp2;go_ret
    refine⟨⟨_,rfl,?_⟩,HW.out⟩
    have:=HT.out;rw[List.take_of_length_le (by have:=HN.out;omega)]at this;rw[this]
    constructor
    · intro h;omega
    · intro h;cases h
set_option maxRecDepth 100000 in
set_option maxHeartbeats 1000000 in
theorem containsF_any(b s B1 B2:Nat)(fv v:Value)(X:List Kn.Cr)(L x y:Int)(F:List (List Kn.Dt))(w:World)(h:PuAt w b s B1 B2 fv X L x y)(hl:X.length≤16)(hF:FacesOk X F)(hr:Rows OwnD 0 118 w v F):
 Calls Tryz.prog 79 #[v,.func (.func 86) #[] #[.pointer (some ⟨B1,0,none⟩),.pointer (some ⟨B2,0,none⟩)]] w (fun e w'=>e=.returned (.bool (F.any (bigF X x y)))∧New w w'):=by
 have CC:=Lib.hid (indexF_any b s B1 B2 fv v X L x y F w h hl hF hr)
 obtain⟨r,HR⟩:∃r,Hid (F.any (bigF X x y)=r):=⟨_,Lib.hid rfl⟩
 rw[HR.out];clear h hF hr
 go_enter Tryz.func79,Tryz.ntmps79
 go_wp2_with fail
 refine CC.out.mono ?_
 rintro e w1 ⟨⟨z,rfl,hz⟩,hn1⟩;have HN:=Lib.hid hn1;have HX:Hid (decide (0≤z)=r):=Lib.hid (by rw[←HR.out,Bool.eq_iff_iff,decide_eq_true_eq];exact hz);clear hn1 hz;go_wp2;go_ret
 exact⟨ret_bool HX.out,HN.out⟩
end Go.Proofs.YtlicglicfijelaaGreat
