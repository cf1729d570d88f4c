/- Walks: Without, where the strands go on. -/
import Derived.Test.YtfplmbmenjdlhaaGreatDoorN9
set_option linter.unusedVariables false
set_option maxRecDepth 100000
set_option maxHeartbeats 16000000
namespace Go.Proofs.YtfplmbmenjdlhaaGreatDoor
open Go.RowKit
open Act (put)
open Fr (drew refl)
open Kn (Cr Dt aa cr head oM ah fH over)
open Go.Proofs.Tryz (func104 prog)
variable {L:Int} {X:List Cr} {fv:Value} {w:World}
theorem XI(hX:Kn.Ok X){k:Nat}(hk:k<X.length):ab1 (cr X k)=.agg #[.int .i64 (aa X (k,0):Nat),.int .i64 (aa X (k,2):Nat),.int .i64 (aa X (k,over (cr X k).p):Nat),.int .i64 (aa X (k,(over (cr X k).p+2)%4):Nat)]:=by
 obtain⟨f1,f2,f3,f4,_⟩:=G5 hX hk;unfold ab1 upA upB;cases (cr X k).p
 · simp only[jN,if_false,f1,f2,f3,f4,over]
 simp only[if_true,f1,f2,f3,f4,over]
theorem FL(b g ng cg:Nat)(gs:List Int)(gone:Nat->Bool)(X:List Cr)(L:Int)(w:World)(h:fS w b X L)(hX:Kn.Ok X)(hl:X.length<=16)(l1:-1000<=L)(l2:L<=1000)(hg:vM w g gs)(hng:ng=gs.length)(vo:ng<=16)
 (mP:∀c,c<X.length->gone c=decide ((c:Int)∈gs)):
 Calls prog 117 #[.pointer (some ⟨b,0,none⟩),.func (.func 118) #[] #[],.slice (some ⟨g,0,none⟩) ng cg] w (KQ (Kn.bF X gone) (L+Kn.takeN X gone) w):=
 H7 b g ng cg gs gone X L w h hX hl l1 l2 hg hng vo mP 118 (λargs w=>by kernel_rfl) (Kn.iq X gone) (λk=>aa X (k,0)) (λk=>aa X (k,2)) (λk=>aa X (k,over (cr X k).p)) (λk=>aa X (k,(over (cr X k).p+2)%4))
  rfl (λk hk=>if_neg (by simp[hk])) (λk _ hk=>if_pos hk) ⟨_,hX.j5 gone _ (jH _)⟩
  (λk _ u hu=>by
   simp only[jy,jz,or_false]at hu
   rcases hu with rfl|rfl|rfl|rfl
   · exact⟨0,by omega,rfl⟩
   · exact⟨2,by omega,rfl⟩
   · exact⟨_,Kn.lT _,rfl⟩
   exact⟨_,jQ _ (by omega),rfl⟩)
  (λk hk w=>by rw[<-XI hX hk];exact Ii _ w)
open Go.RowKit
structure j8(w:World)(b s:Nat)(fv:Value)(X:List Cr)(L:Int):Prop where
 blk:w.heap[b]?=some (.cells #[.pointer (some ⟨s,0,none⟩),fv] 103 (0,0))
 sh:fS w s X L
theorem j8.new{w':World}{b s:Nat}(h:j8 w b s fv X L)(k:New w w'):j8 w' b s fv X L:=⟨k.blk h.blk λx=>x,k.kM h.sh⟩
theorem j8.c{b s:Nat}(h:j8 w b s fv X L):w.cell? ⟨b,0,none⟩=some (.pointer (some ⟨s,0,none⟩))/\w.cell? ⟨b,1,none⟩=some fv:=
 ⟨cell_of_row _ _ 0 _ 103 (0,0) h.blk,cell_of_row _ _ 1 _ 103 (0,0) h.blk⟩
def oT(X:List Cr)(c:Int):Bool:=decide (0<=c)&&decide (c<X.length)
theorem tS(b s:Nat)(fv:Value)(X:List Cr)(L:Int)(c:Int)(w:World)(h:j8 w b s fv X L)(hl:X.length<=16):
 Calls prog 95 #[.pointer (some ⟨b,0,none⟩),.int .i64 c] w (λe w'=>e=.returned (.bool (oT X c))/\w'=w):=by
 obtain⟨a,cc,h0,_,_⟩:=h.sh.uh;obtain⟨c0,_⟩:=h.c
 obtain⟨n,hn⟩:∃n,n=X.length:=⟨_,rfl⟩
 unfold oT;rw[<-hn]at h0 hl ⊢;clear h hn
 go_enter Tryz.func95,Tryz.ntmps95
 by_cases hc:0<=c
 · have hb:decide (0<=c)=true:=jk hc
   go_wp2;go_ret;exact⟨cq (by simp[hc]),rfl⟩
 have hb:decide (0<=c)=false:=jm hc;go_wp2;go_ret;exact⟨cq (by simp[]),rfl⟩
def RY(X:List Cr)(a:Nat):Bool:=decide ((oM X a).2%2=1)&&decide ((fH X a).2%2=1)
def RX(X:List Cr)(a:Nat):Bool:=(!decide ((oM X a).2%2=1)) && !decide ((fH X a).2%2=1)
theorem aa2(k:Nat):((k:Int)%2==1)=decide (k%2=1):=by
 rw[jD,beq_iff_eq,jh];omega
theorem nW(b s:Nat)(fv:Value)(X:List Cr)(L:Int)(a:Nat)(w:World)(h:j8 w b s fv X L)(hl:X.length<=16)(ha:ah X a):
 Calls prog 106 #[.pointer (some ⟨b,0,none⟩),.int .i64 a] w (λe w'=>e=.returned (.tuple #[.bool (RY X a),.bool (RX X a)])/\New w w'):=by
 have hn0:0<X.length:=by have:=ha.1;have:=ha.2;unfold Kn.ag at this;omega
 obtain⟨n,bx,ox,cc,bi,bo,r⟩:=h.sh.read hn0
 have JN:a<2*n+1:=by have:=ha.2;unfold Kn.ag at this;have:=r.len;omega
 have i1:(0:Int)<=(a:Int):=by omega
 have i2:(a:Int)<2*(n:Int)+1:=by omega
 obtain⟨c0,_⟩:=h.c;obtain⟨g1,g2⟩:=r.pi a JN;obtain⟨k1,k2⟩:=r.po a JN;have g0:=r.c2;have k0:=r.c3
 obtain⟨x,HX⟩:∃x,Hd ((oM X a).2=x):=⟨_,jd rfl⟩
 obtain⟨y,HY⟩:∃y,Hd ((fH X a).2=y):=⟨_,jd rfl⟩
 rw[HX.o]at g2;rw[HY.o]at k2
 obtain⟨p,HP⟩:∃p,Hd (decide (x%2=1)=p):=⟨_,jd rfl⟩
 obtain⟨q,HQ⟩:∃q,Hd (decide (y%2=1)=q):=⟨_,jd rfl⟩
 have hp:((x:Int)%2==1)=p:=(aa2 x).trans HP.o;have hq:((y:Int)%2==1)=q:=(aa2 y).trans HQ.o
 have HR:Hd (RY X a=(p&&q)/\RX X a=(!p && !q)):=jd (by
  unfold RY RX
  rw[HX.o,HY.o,HP.o,HQ.o];exact⟨rfl,rfl⟩)
 rw[HR.o.1,HR.o.2];clear r h ha
 go_enter Tryz.func106,Tryz.ntmps106
 obtain⟨r1,H1⟩:∃r,Hd ((p&&q)=r):=⟨_,jd rfl⟩
 obtain⟨r2,H2⟩:∃r,Hd ((!p && !q)=r):=⟨_,jd rfl⟩
 rw[H1.o,H2.o]
 cases p<;>cases q
 rotate_left;rotate_left;rotate_left
 all_goals
  go_wp2_with fail
  go_quiet (fail)
  go_wp2;go_ret2;exact⟨by rw[<-H1.o,<-H2.o];rfl,(refl _ _).drewN _⟩
theorem BN(b a:Nat)(back:Bool)(X:List Cr)(L:Int)(w:World)(h:fS w b X L)(hl:X.length<=16)(ha:ah X a):
 Calls prog 105 #[.pointer (some ⟨b,0,none⟩),.agg #[.int .i64 a,.bool back]] w (Nt (head X (a,!back)) w):=by
 obtain⟨p,HP⟩:∃p,Hd (head X (a,!back)=p):=⟨_,jd rfl⟩
 rw[HP.o];obtain⟨x,y⟩:=p;have H:=jd h;have HA:=jd ha;clear h ha
 go_enter Tryz.func105,Tryz.ntmps105
 go_wp2_with fail;have hz:=heap_alloc_new (w.alloc (.cells #[.int .i64 (a:Int),.bool back] 26)) (.cells #[.int .i64 0,.int .i64 0] 158);rw[World.size_alloc]at hz;have HZ:=jd hz;have HN:=jd (((refl (λ_=>False) w).alloc (.cells #[.int .i64 (a:Int),.bool back] 26)).alloc (.cells #[.int .i64 0,.int .i64 0] 158));clear hz;refine(CX b a (!back) X L _ (New.kM HN.o H.o) hl HA.o).mono ?_;rintro e w4 ⟨rfl,hF⟩;rw[HP.o];have HR:=jd (hF.blk HZ.o λx=>x);have HF:=jd (HN.o.trans hF);clear hF;obtain⟨m1,m2,m3,m4,m5,m6⟩:=F3 HR.o;go_wp2
 refine bodyPost_ret (v:=.agg #[.int .i64 (x:Int),.int .i64 (y:Int)]) (by simp[results,Tryz.results105,go_sem,m5,m6]) rfl ⟨rfl,?_⟩
 exact(HF.o.setCell (.inr (Nat.le_succ _)) _).setCell (.inr (Nat.le_succ _)) _
open Go.RowKit
theorem kN.cells{w:World}{v:Value}{l:List Dt}(h:kN w v l):∃a c,v=.slice a l.length c/\(l=[]\/∃g,a=some ⟨g,0,none⟩/\∀i (hi:i<l.length),w.cell? ⟨g,i*2,none⟩=some (.int .i64 ((l[i]).1:Nat))/\w.cell? ⟨g,i*2+1,none⟩=some (.bool (l[i]).2)):=by
 rcases h.2 with⟨rfl,h0⟩|⟨g,cap,cur,rfl,hb,hg,h1,h2,h3,h4⟩
 · exact⟨none,0,by rw[h0],.inl (List.length_eq_zero_iff.1 h0)⟩
 refine⟨_,cap,rfl,.inr ⟨g,rfl,λi hi=>?_⟩⟩
 have e0:∀(l:List Dt) (i:Nat) (hi:i<l.length),(lK l)[i*2]?=some (.int .i64 ((l[i]).1:Nat))/\(lK l)[i*2+1]?=some (.bool (l[i]).2):=by
  intro l
  induction l with
  |nil=>intro i hi;simp at hi
  |cons d l ih=>
   intro i hi
   match i with
   |0=>exact⟨rfl,rfl⟩
   |i+1=>
    have:=ih i (by simpa using hi);refine⟨?_,?_⟩
    · rw[show (i+1)*2=(i*2)+2 by omega];exact this.1
    rw[show (i+1)*2+1=(i*2+1)+2 by omega];exact this.2
 refine⟨?_,?_⟩
 · have:=World.ownsRow.cells h (g:=g) rfl _ _ (e0 l i hi).1
   rwa [dN,Nat.zero_add]at this
 have:=World.ownsRow.cells h (g:=g) rfl _ _ (e0 l i hi).2
 rwa [dN,Nat.zero_add]at this
theorem iI{w':World}{B1 b s g a0 a1:Nat}{k0 k1:Bool}(hF:New w w')(h:w.cell? ⟨B1,0,none⟩=some (.pointer (some ⟨b,0,none⟩))/\w.cell? ⟨b,0,none⟩=some (.pointer (some ⟨s,0,none⟩))/\w.cell? ⟨g,0,none⟩=some (.int .i64 (a0:Nat))/\w.cell? ⟨g,1,none⟩=some (.bool k0)/\w.cell? ⟨g,2,none⟩=some (.int .i64 (a1:Nat))/\w.cell? ⟨g,3,none⟩=some (.bool k1)):w'.cell? ⟨B1,0,none⟩=some (.pointer (some ⟨b,0,none⟩))/\w'.cell? ⟨b,0,none⟩=some (.pointer (some ⟨s,0,none⟩))/\w'.cell? ⟨g,0,none⟩=some (.int .i64 (a0:Nat))/\w'.cell? ⟨g,1,none⟩=some (.bool k0)/\w'.cell? ⟨g,2,none⟩=some (.int .i64 (a1:Nat))/\w'.cell? ⟨g,3,none⟩=some (.bool k1):=
 ⟨hF.cell h.1 λx=>x,hF.cell h.2.1 λx=>x,hF.cell h.2.2.1 λx=>x,hF.cell h.2.2.2.1 λx=>x,hF.cell h.2.2.2.2.1 λx=>x,hF.cell h.2.2.2.2.2 λx=>x⟩
def vt(X:List Cr)(x y:Int)(f:List Dt):Bool:=
 match f with
 |[d,e]=>
  let p:Int:=(head X (d.1,!d.2)).1
  let q:Int:=(head X (e.1,!e.2)).1
  ((decide (p=x)&&decide (q=y))||(decide (p=y)&&decide (q=x)))&&((RY X d.1&&RX X e.1)||(RX X d.1&&RY X e.1))
 |_=>false
theorem P3(b s B1 B2:Nat)(fv v:Value)(X:List Cr)(L x y:Int)(f:List Dt)(w:World)(h:j8 w b s fv X L)(hl:X.length<=16)(ho:kN w v f)(hfl:f.length<=64)(hf:∀d∈f,ah X d.1)
 (hb:w.cell? ⟨B1,0,none⟩=some (.pointer (some ⟨b,0,none⟩))) (hx:w.cell? ⟨B2,1,none⟩=some (.int .i64 x)) (hy:w.cell? ⟨B2,2,none⟩=some (.int .i64 y)):
 Calls prog 104 #[v,.pointer (some ⟨B1,0,none⟩),.pointer (some ⟨B2,0,none⟩)] w (λe w'=>e=.returned (.bool (vt X x y f))/\New w w'):=by
 obtain⟨r,HR⟩:∃r,Hd (vt X x y f=r):=⟨_,jd rfl⟩
 rw[HR.o];obtain⟨a,c,rfl,hcs⟩:=ho.cells;clear ho
 obtain⟨n,hn⟩:∃n,n=f.length:=⟨_,rfl⟩
 rw[<-hn]at hfl ⊢;by_cases h2:n=2;rotate_left
 · have sY:Hd (r=false):=jd (by
    rw[<-HR.o]
    match f,hn with
    |[],_=>rfl
    |[_],_=>rfl
    |[_,_],hn=>exact absurd hn h2
    |_ :: _ :: _ :: _,_=>rfl)
   rw[sY.o]
   have hne:((n:Int)==2)=false:=by
    rw[Bool.eq_false_iff];intro e;rw[beq_iff_eq]at e;omega
   have hne2:((n:Int) != 2)=true:=by rw[bne,hne];rfl
   clear hn hcs HR sY h hb hx hy hf
   go_enter func104,Tryz.ntmps104
   go_wp2;go_ret;exact⟨rfl,refl _ _⟩
 obtain⟨⟨a0,k0⟩,⟨a1,k1⟩,rfl⟩:∃d e,f=[d,e]:=by
  match f,hn.symm.trans h2 with
  |[d,e],_=>exact⟨d,e,rfl⟩
 subst h2;clear hn
 obtain⟨g,rfl,ho⟩:∃g,a=some ⟨g,0,none⟩/\∀i (hi:i<[(a0,k0),(a1,k1)].length),w.cell? ⟨g,i*2,none⟩=some (.int .i64 (([(a0,k0),(a1,k1)][i]).1:Nat))/\w.cell? ⟨g,i*2+1,none⟩=some (.bool ([(a0,k0),(a1,k1)][i]).2):=by
  rcases hcs with hcs|hcs
  · cases hcs
  exact hcs
 clear hcs;have g0:=(ho 0 (by simp)).1;have g1:=(ho 0 (by simp)).2;have g2:=(ho 1 (by simp)).1;have g3:=(ho 1 (by simp)).2;simp only[List.getElem_cons_zero,List.getElem_cons_succ,Nat.zero_mul,Nat.one_mul,Nat.zero_add]at g0 g1 g2 g3;have Ps:=jd (hf (a0,k0) (by simp));have HA1:=jd (hf (a1,k1) (by simp))
 obtain⟨⟨pc,ps⟩,HP⟩:∃p,Hd (head X (a0,!k0)=p):=⟨_,jd rfl⟩
 obtain⟨⟨qc,qs⟩,HQ⟩:∃p,Hd (head X (a1,!k1)=p):=⟨_,jd rfl⟩
 have H:=jd h;obtain⟨c0,_⟩:=h.c;clear h ho hf hfl;have hS:(λw':World=>w'.cell? ⟨B1,0,none⟩=some (.pointer (some ⟨b,0,none⟩))/\w'.cell? ⟨b,0,none⟩=some (.pointer (some ⟨s,0,none⟩))/\w'.cell? ⟨g,0,none⟩=some (.int .i64 a0)/\w'.cell? ⟨g,1,none⟩=some (.bool k0)/\w'.cell? ⟨g,2,none⟩=some (.int .i64 a1)/\w'.cell? ⟨g,3,none⟩=some (.bool k1)) w.drew:=iI (drew (refl _ _)) ⟨hb,c0,g0,g1,g2,g3⟩;have hM:(w.drew.cell? ⟨B2,1,none⟩=some (.int .i64 x)/\w.drew.cell? ⟨B2,2,none⟩=some (.int .i64 y)):=⟨hx,hy⟩;have DF:=jd hM
 have oY:Hd (j8 w.drew b s fv X L):=jd (H.o.new (drew (refl _ _)));have iu:Hd (New w w.drew):=jd (drew (refl _ _))
 have YK:∀(x y:Int) (w:World),(Instr.field 158 (.agg #[.int .i64 x,.int .i64 y]) 0).run prog w=.ok (.int .i64 x) w:=λx y w=>by kernel_rfl
 clear hM hx hy
 go_enter func104,Tryz.ntmps104
 go_wp2_with fail
 refine wp_region_held_drew (S:=λw'=>w'.cell? ⟨B1,0,none⟩=some (.pointer (some ⟨b,0,none⟩))/\w'.cell? ⟨b,0,none⟩=some (.pointer (some ⟨s,0,none⟩))/\w'.cell? ⟨g,0,none⟩=some (.int .i64 a0)/\w'.cell? ⟨g,1,none⟩=some (.bool k0)/\w'.cell? ⟨g,2,none⟩=some (.int .i64 a1)/\w'.cell? ⟨g,3,none⟩=some (.bool k1)) (by kernel_rfl) hS (λhHeld=>?_)
 have Ph:=jd hS;clear hS hb c0 g0 g1 g2 g3;generalize w.drew=r0 at hHeld Ph DF oY iu ⊢
 refine' sq 0 (h:=sq 1 (h:=sq 2 (h:=sq 3 (h:=sq 4 (h:=sq 5 (h:=sq 6 (h:=sq 9 (h:=sq 10 (h:=sq 11 (h:=sq 12 (h:=sq 13 (h:=sq 14 (h:=sq 15 (h:=?_))))))))))))))
 refine dQ (i:=7) (λK hK=>?_);(try simp only[aR,aP,aO]);go_simp;refine(BN s a0 k0 X L _ oY.o.sh hl Ps.o).mono ?_;rintro e r1 ⟨rfl,hF⟩;rw[HP.o];have KA:=jd (iI hF Ph.o);have eU:=jd (oY.o.new hF);have gQ:=jd (iu.o.trans hF);have nN:=jd (show r1.cell? ⟨B2,1,none⟩=some (.int .i64 x)/\r1.cell? ⟨B2,2,none⟩=some (.int .i64 y)from⟨hF.cell DF.o.1 λx=>x,hF.cell DF.o.2 λx=>x⟩);clear hF;go_wp2_with fail;refine hK.out _ _ KA.o (λhHeld=>?_);clear hK K;(try simp only[put,aR,aP,aO,bQ,bP,bO])
 refine' sq 8 (h:=?_)
 refine dQ (i:=16) (λK hK=>?_);(try simp only[aR,aP,aO]);go_simp;refine(BN s a1 k1 X L _ eU.o.sh hl HA1.o).mono ?_;rintro e r2 ⟨rfl,hF⟩;rw[HQ.o];have Hr:=jd (iI hF KA.o);have fD:=jd (eU.o.new hF);have kZ:=jd (gQ.o.trans hF);have nA:=jd (show r2.cell? ⟨B2,1,none⟩=some (.int .i64 x)/\r2.cell? ⟨B2,2,none⟩=some (.int .i64 y)from⟨hF.cell nN.o.1 λx=>x,hF.cell nN.o.2 λx=>x⟩);clear hF;go_wp2_with fail;refine hK.out _ _ Hr.o (λhHeld=>?_);clear hK K;(try simp only[put,aR,aP,aO,bQ,bP,bO])
 refine' sq 17 (h:=sq 18 (h:=sq 19 (h:=?_)))
 refine wpAnyH_done (by kernel_rfl) ?_ _;obtain⟨m1,m2⟩:=nA.o;have vw:=jd Hr.o;obtain⟨s1,_,s3,_,s5,_⟩:=Hr.o
 obtain⟨z,HZ⟩:∃z,Hd (((RY X a0&&RX X a1)||(RX X a0&&RY X a1))=z):=⟨_,jd rfl⟩
 obtain⟨pa,ZM⟩:∃z,Hd (RY X a0=z):=⟨_,jd rfl⟩
 obtain⟨pb,Bv⟩:∃z,Hd (RX X a0=z):=⟨_,jd rfl⟩
 obtain⟨qa,HQA⟩:∃z,Hd (RY X a1=z):=⟨_,jd rfl⟩
 obtain⟨qb,Wn⟩:∃z,Hd (RX X a1=z):=⟨_,jd rfl⟩
 have Xh:Hd (((pa&&qb)||(pb&&qa))=z):=jd (by rw[<-ZM.o,<-Bv.o,<-HQA.o,<-Wn.o];exact HZ.o)
 have lO:Hd ((((((pc:Int)==x)&&((qc:Int)==y))||(((pc:Int)==y)&&((qc:Int)==x)))&&z)=r):=jd (by
  rw[<-HR.o];unfold vt;simp only[HP.o,HQ.o,HZ.o]
  rfl)
 obtain⟨E1,K1⟩:∃z,((pc:Int)==x)=z:=⟨_,rfl⟩
 obtain⟨E2,K2⟩:∃z,((qc:Int)==y)=z:=⟨_,rfl⟩
 obtain⟨E3,K3⟩:∃z,((pc:Int)==y)=z:=⟨_,rfl⟩
 obtain⟨E4,K4⟩:∃z,((qc:Int)==x)=z:=⟨_,rfl⟩
 rw[K1,K2,K3,K4]at lO;clear HR HZ YK;cases E1
 · cases E3
   · go_wp2_with fail
     go_ret;exact⟨cq (by rw[<-lO.o];rfl),kZ.o⟩
   cases E4
   · go_wp2_with fail
     go_ret;exact⟨cq (by rw[<-lO.o];rfl),kZ.o⟩
   go_wp2_with fail;clear m1 m2 s1 s3 s5
   refine wp_region_held_drew (S:=λw'=>w'.cell? ⟨B1,0,none⟩=some (.pointer (some ⟨b,0,none⟩))/\w'.cell? ⟨b,0,none⟩=some (.pointer (some ⟨s,0,none⟩))/\w'.cell? ⟨g,0,none⟩=some (.int .i64 a0)/\w'.cell? ⟨g,1,none⟩=some (.bool k0)/\w'.cell? ⟨g,2,none⟩=some (.int .i64 a1)/\w'.cell? ⟨g,3,none⟩=some (.bool k1)) (by kernel_rfl) (iI (drew (refl _ _)) vw.o) (λhHeld=>?_)
   have KP:=jd (iI (drew (refl _ _)) vw.o);have DJ:Hd (j8 r2.drew b s fv X L):=jd (fD.o.new (drew (refl _ _)));have KJ:Hd (New w r2.drew):=jd (kZ.o.drew);generalize r2.drew=q2 at hHeld KP DJ KJ ⊢
   refine' sq 0 (h:=sq 1 (h:=sq 2 (h:=sq 3 (h:=sq 4 (h:=?_)))))
   refine dQ (i:=5) (λK hK=>?_);(try simp only[aR,aP,aO]);go_simp;refine(nW b s fv X L a0 _ DJ.o hl Ps.o).mono ?_;rintro e r3 ⟨rfl,hF⟩;rw[ZM.o,Bv.o];have AP:=jd (iI hF KP.o);have kQ:=jd (DJ.o.new hF);have pO:=jd (KJ.o.trans hF);clear hF;go_wp2_with fail;refine hK.out _ _ AP.o (λhHeld=>?_);clear hK K;(try simp only[put,aR,aP,aO,bQ,bP,bO])
   refine' sq 6 (h:=sq 7 (h:=sq 8 (h:=sq 9 (h:=sq 10 (h:=?_)))))
   refine wpAnyH_done (by kernel_rfl) ?_ _;go_wp2_with fail
   refine wp_region_held_drew (S:=λw'=>w'.cell? ⟨B1,0,none⟩=some (.pointer (some ⟨b,0,none⟩))/\w'.cell? ⟨b,0,none⟩=some (.pointer (some ⟨s,0,none⟩))/\w'.cell? ⟨g,0,none⟩=some (.int .i64 a0)/\w'.cell? ⟨g,1,none⟩=some (.bool k0)/\w'.cell? ⟨g,2,none⟩=some (.int .i64 a1)/\w'.cell? ⟨g,3,none⟩=some (.bool k1)) (by kernel_rfl) (iI (drew (refl _ _)) AP.o) (λhHeld=>?_)
   have KO:=jd (iI (drew (refl _ _)) AP.o);have DI:Hd (j8 r3.drew b s fv X L):=jd (kQ.o.new (drew (refl _ _)));have KH:Hd (New w r3.drew):=jd (pO.o.drew);generalize r3.drew=q3 at hHeld KO DI KH ⊢
   refine' sq 0 (h:=sq 1 (h:=sq 2 (h:=sq 3 (h:=sq 4 (h:=?_)))))
   refine dQ (i:=5) (λK hK=>?_);(try simp only[aR,aP,aO]);go_simp;refine(nW b s fv X L a1 _ DI.o hl HA1.o).mono ?_;rintro e r4 ⟨rfl,hF⟩;rw[HQA.o,Wn.o];have Pr:=jd (iI hF KO.o);have u9:=jd (DI.o.new hF);have oW:=jd (KH.o.trans hF);clear hF;go_wp2_with fail;refine hK.out _ _ Pr.o (λhHeld=>?_);clear hK K;(try simp only[put,aR,aP,aO,bQ,bP,bO])
   refine' sq 6 (h:=sq 7 (h:=sq 8 (h:=sq 9 (h:=sq 10 (h:=?_)))))
   refine wpAnyH_done (by kernel_rfl) ?_ _;go_wp2_with fail
   all_goals
    go_ret;refine⟨cq ?_,oW.o⟩;rw[<-lO.o,<-Xh.o]
    cases pa<;>cases pb<;>cases qa<;>cases qb<;>first|rfl|contradiction
 cases E2
 · cases E3
   · go_wp2_with fail
     go_ret;exact⟨cq (by rw[<-lO.o];rfl),kZ.o⟩
   cases E4
   · go_wp2_with fail
     go_ret;exact⟨cq (by rw[<-lO.o];rfl),kZ.o⟩
   go_wp2_with fail;clear m1 m2 s1 s3 s5
   refine wp_region_held_drew (S:=λw'=>w'.cell? ⟨B1,0,none⟩=some (.pointer (some ⟨b,0,none⟩))/\w'.cell? ⟨b,0,none⟩=some (.pointer (some ⟨s,0,none⟩))/\w'.cell? ⟨g,0,none⟩=some (.int .i64 a0)/\w'.cell? ⟨g,1,none⟩=some (.bool k0)/\w'.cell? ⟨g,2,none⟩=some (.int .i64 a1)/\w'.cell? ⟨g,3,none⟩=some (.bool k1)) (by kernel_rfl) (iI (drew (refl _ _)) vw.o) (λhHeld=>?_)
   have KP:=jd (iI (drew (refl _ _)) vw.o);have DJ:Hd (j8 r2.drew b s fv X L):=jd (fD.o.new (drew (refl _ _)));have KJ:Hd (New w r2.drew):=jd (kZ.o.drew);generalize r2.drew=q2 at hHeld KP DJ KJ ⊢
   refine' sq 0 (h:=sq 1 (h:=sq 2 (h:=sq 3 (h:=sq 4 (h:=?_)))))
   refine dQ (i:=5) (λK hK=>?_);(try simp only[aR,aP,aO]);go_simp;refine(nW b s fv X L a0 _ DJ.o hl Ps.o).mono ?_;rintro e r3 ⟨rfl,hF⟩;rw[ZM.o,Bv.o];have AP:=jd (iI hF KP.o);have kQ:=jd (DJ.o.new hF);have pO:=jd (KJ.o.trans hF);clear hF;go_wp2_with fail;refine hK.out _ _ AP.o (λhHeld=>?_);clear hK K;(try simp only[put,aR,aP,aO,bQ,bP,bO])
   refine' sq 6 (h:=sq 7 (h:=sq 8 (h:=sq 9 (h:=sq 10 (h:=?_)))))
   refine wpAnyH_done (by kernel_rfl) ?_ _;go_wp2_with fail
   refine wp_region_held_drew (S:=λw'=>w'.cell? ⟨B1,0,none⟩=some (.pointer (some ⟨b,0,none⟩))/\w'.cell? ⟨b,0,none⟩=some (.pointer (some ⟨s,0,none⟩))/\w'.cell? ⟨g,0,none⟩=some (.int .i64 a0)/\w'.cell? ⟨g,1,none⟩=some (.bool k0)/\w'.cell? ⟨g,2,none⟩=some (.int .i64 a1)/\w'.cell? ⟨g,3,none⟩=some (.bool k1)) (by kernel_rfl) (iI (drew (refl _ _)) AP.o) (λhHeld=>?_)
   have KO:=jd (iI (drew (refl _ _)) AP.o);have DI:Hd (j8 r3.drew b s fv X L):=jd (kQ.o.new (drew (refl _ _)));have KH:Hd (New w r3.drew):=jd (pO.o.drew);generalize r3.drew=q3 at hHeld KO DI KH ⊢
   refine' sq 0 (h:=sq 1 (h:=sq 2 (h:=sq 3 (h:=sq 4 (h:=?_)))))
   refine dQ (i:=5) (λK hK=>?_);(try simp only[aR,aP,aO]);go_simp;refine(nW b s fv X L a1 _ DI.o hl HA1.o).mono ?_;rintro e r4 ⟨rfl,hF⟩;rw[HQA.o,Wn.o];have Pr:=jd (iI hF KO.o);have u9:=jd (DI.o.new hF);have oW:=jd (KH.o.trans hF);clear hF;go_wp2_with fail;refine hK.out _ _ Pr.o (λhHeld=>?_);clear hK K;(try simp only[put,aR,aP,aO,bQ,bP,bO])
   refine' sq 6 (h:=sq 7 (h:=sq 8 (h:=sq 9 (h:=sq 10 (h:=?_)))))
   refine wpAnyH_done (by kernel_rfl) ?_ _;go_wp2_with fail
   all_goals
    go_ret;refine⟨cq ?_,oW.o⟩;rw[<-lO.o,<-Xh.o]
    cases pa<;>cases pb<;>cases qa<;>cases qb<;>first|rfl|contradiction
 go_wp2_with fail;clear m1 m2 s1 s3 s5
 refine wp_region_held_drew (S:=λw'=>w'.cell? ⟨B1,0,none⟩=some (.pointer (some ⟨b,0,none⟩))/\w'.cell? ⟨b,0,none⟩=some (.pointer (some ⟨s,0,none⟩))/\w'.cell? ⟨g,0,none⟩=some (.int .i64 a0)/\w'.cell? ⟨g,1,none⟩=some (.bool k0)/\w'.cell? ⟨g,2,none⟩=some (.int .i64 a1)/\w'.cell? ⟨g,3,none⟩=some (.bool k1)) (by kernel_rfl) (iI (drew (refl _ _)) vw.o) (λhHeld=>?_)
 have KP:=jd (iI (drew (refl _ _)) vw.o);have DJ:Hd (j8 r2.drew b s fv X L):=jd (fD.o.new (drew (refl _ _)));have KJ:Hd (New w r2.drew):=jd (kZ.o.drew);generalize r2.drew=q2 at hHeld KP DJ KJ ⊢
 refine' sq 0 (h:=sq 1 (h:=sq 2 (h:=sq 3 (h:=sq 4 (h:=?_)))))
 refine dQ (i:=5) (λK hK=>?_);(try simp only[aR,aP,aO]);go_simp;refine(nW b s fv X L a0 _ DJ.o hl Ps.o).mono ?_;rintro e r3 ⟨rfl,hF⟩;rw[ZM.o,Bv.o];have AP:=jd (iI hF KP.o);have kQ:=jd (DJ.o.new hF);have pO:=jd (KJ.o.trans hF);clear hF;go_wp2_with fail;refine hK.out _ _ AP.o (λhHeld=>?_);clear hK K;(try simp only[put,aR,aP,aO,bQ,bP,bO])
 refine' sq 6 (h:=sq 7 (h:=sq 8 (h:=sq 9 (h:=sq 10 (h:=?_)))))
 refine wpAnyH_done (by kernel_rfl) ?_ _;go_wp2_with fail
 refine wp_region_held_drew (S:=λw'=>w'.cell? ⟨B1,0,none⟩=some (.pointer (some ⟨b,0,none⟩))/\w'.cell? ⟨b,0,none⟩=some (.pointer (some ⟨s,0,none⟩))/\w'.cell? ⟨g,0,none⟩=some (.int .i64 a0)/\w'.cell? ⟨g,1,none⟩=some (.bool k0)/\w'.cell? ⟨g,2,none⟩=some (.int .i64 a1)/\w'.cell? ⟨g,3,none⟩=some (.bool k1)) (by kernel_rfl) (iI (drew (refl _ _)) AP.o) (λhHeld=>?_)
 have KO:=jd (iI (drew (refl _ _)) AP.o);have DI:Hd (j8 r3.drew b s fv X L):=jd (kQ.o.new (drew (refl _ _)));have KH:Hd (New w r3.drew):=jd (pO.o.drew);generalize r3.drew=q3 at hHeld KO DI KH ⊢
 refine' sq 0 (h:=sq 1 (h:=sq 2 (h:=sq 3 (h:=sq 4 (h:=?_)))))
 refine dQ (i:=5) (λK hK=>?_);(try simp only[aR,aP,aO]);go_simp;refine(nW b s fv X L a1 _ DI.o hl HA1.o).mono ?_;rintro e r4 ⟨rfl,hF⟩;rw[HQA.o,Wn.o];have Pr:=jd (iI hF KO.o);have u9:=jd (DI.o.new hF);have oW:=jd (KH.o.trans hF);clear hF;go_wp2_with fail;refine hK.out _ _ Pr.o (λhHeld=>?_);clear hK K;(try simp only[put,aR,aP,aO,bQ,bP,bO])
 refine' sq 6 (h:=sq 7 (h:=sq 8 (h:=sq 9 (h:=sq 10 (h:=?_)))))
 refine wpAnyH_done (by kernel_rfl) ?_ _;go_wp2_with fail
 all_goals
  go_ret;refine⟨cq ?_,oW.o⟩;rw[<-lO.o,<-Xh.o]
  cases pa<;>cases pb<;>cases qa<;>cases qb<;>first|rfl|contradiction
end Go.Proofs.YtfplmbmenjdlhaaGreatDoor
