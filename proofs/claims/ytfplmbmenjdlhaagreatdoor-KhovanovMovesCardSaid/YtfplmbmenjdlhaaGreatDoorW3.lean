/- Words for shapes; what Build keeps from place to place. -/
import Derived.Test.YtfplmbmenjdlhaaGreatDoorW2
namespace Go.Proofs.YtfplmbmenjdlhaaGreatDoor
open Go.RowKit
open Kn (Cr Pl at_ cm cnt iL last nJ)
variable {L:Int} {X:List Cr} {g h:Nat->Pl} {f:Nat->Value} {v:Value} {w w' w0:World}
theorem Tryz.Yr:(Tryz.prog.info? 158).map (λi=>(i.zero,i.size,i.bytes))=some (some (.agg #[.int .i64 0,.int .i64 0]),2,16):=by kernel_rfl
theorem Tryz.xX:(Tryz.prog.info? 3).map (λi=>(i.zero,i.size,i.bytes))=some (some (.int .i64 0),1,8):=by kernel_rfl
def im(g:Nat->Pl)(j:Nat):Value:=if j%2=0 then .int .i64 ((g (j / 2)).1:Nat)else .int .i64 ((g (j / 2)).2:Nat)
def bS(g:Nat->Nat)(j:Nat):Value:=.int .i64 (g j:Nat)
theorem vY(g:Nat->Pl)(a:Nat):im g (a*2)=.int .i64 ((g a).1:Nat):=by
 unfold im;rw[show a*2 / 2=a by omega,if_pos (by omega)]
theorem vX(g:Nat->Pl)(a:Nat):im g (a*2+1)=.int .i64 ((g a).2:Nat):=by
 unfold im;rw[show (a*2+1) / 2=a by omega,if_neg (by omega)]
theorem mh(w:World)(m:Nat):(w.alloc (.cells (madeCells #[.int .i64 0,.int .i64 0] m) 158)).rowIs w.heap.size 158 m (im λ_=>(0,0)):=by
 have:=World.rowIs_alloc w (madeCells #[.int .i64 0,.int .i64 0] m) 158 (im λ_=>(0,0)) (λi hi=>by
  rw[size_madeCells]at hi
  have e:(madeCells #[Value.int .i64 0,.int .i64 0] m)[i]?=some (#[Value.int .i64 0,.int .i64 0][i%2]!):=by simp[madeCells,hi]
  rw[e];unfold im
  rcases Nat.mod_two_eq_zero_or_one i with h|h<;>rw[h]<;>rfl)
 rwa [size_madeCells]at this
theorem bu{b t n:Nat}{g:Nat->Value}(h:w.rowIs b t n f)(hg:∀j,j<n->g j=f j):w.rowIs b t n g:=by
 obtain⟨c,h1,h2,h3⟩:=h;exact⟨c,h1,h2,λi hi=>by rw[h3 i hi,hg i hi]⟩
theorem Ca{b m:Nat}(h:w.rowIs b 158 m (im g))(a:Nat)(p:Pl):
 ((w.setCell ⟨b,a*2,none⟩ (.int .i64 (p.1:Nat))).setCell ⟨b,a*2+1,none⟩ (.int .i64 (p.2:Nat))).rowIs b 158 m (im λx=>if x=a then p else g x):=by
 refine bu ((h.set _ _).set _ _) λj _=>?_
 unfold im;by_cases c:j / 2=a
 · subst c
   simp only[if_true];by_cases e:j%2=0
   · rw[if_pos e,if_neg (by omega),if_pos (by omega)]
   rw[if_neg e,if_pos (by omega)]
 have e1:¬j=a*2:=by omega
 have e2:¬j=a*2+1:=by omega
 simp only[if_neg c,if_neg e1,if_neg e2]
theorem gI{b m:Nat}{g:Nat->Nat}(h:w.rowIs b 3 m (bS g))(a v:Nat):(w.setCell ⟨b,a,none⟩ (.int .i64 (v:Nat))).rowIs b 3 m (bS λx=>if x=a then v else g x):=by
 refine bu (h.set _ _) λj _=>?_
 unfold bS;by_cases c:j=a
 · simp only[if_pos c]
 simp only[if_neg c]
theorem mg{b b' t t' n n':Nat}{f':Nat->Value}(h:w.rowIs b t n f)(h':w.rowIs b' t' n' f')(ht:t≠t'):b≠b':=by
 rintro rfl;obtain⟨c,h1,_⟩:=h;obtain⟨c',h1',_⟩:=h';rw[h1]at h1'
 injection h1' with h1'
 injection h1' with _ h1'
 exact ht h1'
def XR(v:Value)(L:Int)(bi bo m:Nat):Array Value:=#[v,.int .i64 L,.slice (some ⟨bi,0,none⟩) m m,.slice (some ⟨bo,0,none⟩) m m]
abbrev bA(X:List Cr):Nat:=2*X.length+1
structure Sh(w:World)(b:Nat)(X:List Cr)(L:Int)(v:Value)(bi bo base:Nat)(g h:Nat->Pl):Prop where
 blk:w.heap[b]?=some (.cells (XR v L bi bo (bA X)) 70 (0,0))
 own:w.ownsRow base 109 5 v X.length (bE X)
 ri:w.rowIs bi 158 (bA X*2) (im g)
 ro:w.rowIs bo 158 (bA X*2) (im h)
 ne:bi≠bo
def fS(w:World)(b:Nat)(X:List Cr)(L:Int):Prop:=∃v bi bo base,Sh w b X L v bi bo base (Kn.oM X) (Kn.fH X)
theorem Sh.lt{b:Nat}{bi bo base:Nat}(s:Sh w b X L v bi bo base g h):b<w.heap.size:=(jf.1 s.blk).1
theorem Sh.kept{S:Nat->Prop}{b:Nat}{bi bo base:Nat}(s:Sh w b X L v bi bo base g h)(hf:Fr S w w')
 (h0:¬S b) (h1:¬S bi) (h2:¬S bo) (h3:∀k,v.ownBlock=some k->¬S k):Sh w' b X L v bi bo base g h:=
 ⟨(hf.block b s.lt h0).trans s.blk,hf.owns s.own h3,hf.row s.ri h1,hf.row s.ro h2,s.ne⟩
theorem New.sh(hf:New w w'){b:Nat}{bi bo base:Nat}(s:Sh w b X L v bi bo base g h):Sh w' b X L v bi bo base g h:=
 s.kept hf (λx=>x) (λx=>x) (λx=>x) (λ_ _ x=>x)
theorem New.kM(hf:New w w'){b:Nat}(s:fS w b X L):fS w' b X L:=by
 obtain⟨v,bi,bo,base,s⟩:=s;exact⟨v,bi,bo,base,hf.sh s⟩
theorem Sh.c2{b:Nat}{bi bo base:Nat}(s:Sh w b X L v bi bo base g h):
 w.cell? ⟨b,0,none⟩=some v/\w.cell? ⟨b,1,none⟩=some (.int .i64 L)/\w.cell? ⟨b,2,none⟩=some (.slice (some ⟨bi,0,none⟩) (bA X) (bA X))/\w.cell? ⟨b,3,none⟩=some (.slice (some ⟨bo,0,none⟩) (bA X) (bA X)):=
 ⟨cell_of_row w b 0 _ 70 (0,0) s.blk,cell_of_row w b 1 _ 70 (0,0) s.blk,cell_of_row w b 2 _ 70 (0,0) s.blk,cell_of_row w b 3 _ 70 (0,0) s.blk⟩
structure En(w0 w:World)(X:List Cr)(L:Int)(b:Nat)(v:Value)(bi bo ci co base:Nat)(k:Nat):Prop where
 sh:Sh w b X L v bi bo base (last X true k) (last X false k)
 rc:w.rowIs ci 3 (bA X) (bS (cnt X true k))
 rd:w.rowIs co 3 (bA X) (bS (cnt X false k))
 ne:ci≠co
 lb:w0.heap.size<=b
 li:w0.heap.size<=bi
 lo:w0.heap.size<=bo
 lc:w0.heap.size<=ci
 ld:w0.heap.size<=co
 new:New w0 w
 wN:Kn.Gu X k
theorem New.bst(hf:New w w'){b:Nat}{bi bo ci co base k:Nat}(s:En w0 w X L b v bi bo ci co base k):En w0 w' X L b v bi bo ci co base k:=
 ⟨hf.sh s.sh,hf.row s.rc λx=>x,hf.row s.rd λx=>x,s.ne,s.lb,s.li,s.lo,s.lc,s.ld,s.new.trans hf,s.wN⟩
theorem eE{base e sz n:Nat}{xs:List Value}(h:w.ownsRow base e sz v n xs){b t m:Nat}(hr:w.rowIs b t m f)(ht:e≠t):∀k,v.ownBlock=some k->¬k=b:=by
 intro k hk hb
 rcases h.2 with⟨rfl,_⟩|⟨g,cap,cur,rfl,_,hg,_⟩
 · simp[Value.ownBlock]at hk
 simp only[Value.ownBlock,Option.some.injEq]at hk;subst hk hb;obtain⟨c,h1,_⟩:=hr;rw[h1]at hg
 injection hg with hg
 injection hg with _ hg
 exact ht hg.symm
theorem dF{b t b' t' n:Nat}{cs:Array Value}(h:w.heap[b]?=some (.cells cs t (0,0)))(hr:w.rowIs b' t' n f)(ht:t≠t'):b≠b':=by
 rintro rfl;obtain⟨c,h1,_⟩:=hr;rw[h1]at h
 injection h with h
 injection h with _ h
 exact ht h.symm
theorem En.XL{b:Nat}{bi bo ci co base k n:Nat}(s:En w0 w X L b v bi bo ci co base k)
 (hc:cm X (Kn.pl k)=true) (ha:at_ X (Kn.pl k)=(n:Int)) (h1:1<=n) (h2:n<=2*X.length):
 En w0 (((w.setCell ⟨bi,n*2,none⟩ (.int .i64 ((Kn.pl k).1:Nat))).setCell ⟨bi,n*2+1,none⟩ (.int .i64 ((Kn.pl k).2:Nat))).setCell ⟨ci,n,none⟩ (.int .i64 ((cnt X true k n+1:Nat):Int))) X L b v bi bo ci co base (k+1):=by
 have d1:b≠bi:=dF s.sh.blk s.sh.ri (by decide);have d2:b≠ci:=dF s.sh.blk s.rc (by decide);have d3:bi≠ci:=mg s.sh.ri s.rc (by decide);have d4:bo≠ci:=mg s.sh.ro s.rc (by decide);have d5:=eE s.sh.own s.sh.ri (by decide);have d6:=eE s.sh.own s.rc (by decide)
 have hF:Fr (λx=>x=bi\/x=ci) w (((w.setCell ⟨bi,n*2,none⟩ (.int .i64 ((Kn.pl k).1:Nat))).setCell ⟨bi,n*2+1,none⟩ (.int .i64 ((Kn.pl k).2:Nat))).setCell ⟨ci,n,none⟩ (.int .i64 ((cnt X true k n+1:Nat):Int))):=
  (((Fr.refl _ w).setCell (.inl (.inl rfl)) _).setCell (.inl (.inl rfl)) _).setCell (.inl (.inr rfl)) _
 have hN:New w0 (((w.setCell ⟨bi,n*2,none⟩ (.int .i64 ((Kn.pl k).1:Nat))).setCell ⟨bi,n*2+1,none⟩ (.int .i64 ((Kn.pl k).2:Nat))).setCell ⟨ci,n,none⟩ (.int .i64 ((cnt X true k n+1:Nat):Int))):=
  ((s.new.setCell (.inr s.li) _).setCell (.inr s.li) _).setCell (.inr s.lc) _
 refine⟨⟨(hF.block b s.sh.lt (by omega)).trans s.sh.blk,hF.owns s.sh.own (λk' hk' hs=>hs.elim (d5 k' hk') (d6 k' hk')),?_,?_,s.sh.ne⟩,?_,?_,s.ne,s.lb,s.li,s.lo,s.lc,s.ld,hN,λj hj=>?_⟩
 · refine bu ((Ca s.sh.ri n (Kn.pl k)).setOther d3 _) λj _=>?_
   unfold im
   have:∀x,last X true (k+1) x=if x=n then Kn.pl k else last X true k x:=λx=>by
    rw[nJ,ha];by_cases c:x=n
    · subst c;rw[if_pos ⟨hc,rfl⟩,if_pos rfl]
    rw[if_neg (λh=>c (Int.ofNat_inj.1 h.2).symm),if_neg c]
   simp only[this]
 · refine hF.row (bu s.sh.ro λj _=>?_) (λh=>h.elim (λe=>s.sh.ne e.symm) d4)
   unfold im
   have:∀x,last X false (k+1) x=last X false k x:=λx=>by
    rw[nJ,if_neg (λh=>by rw[hc]at h;cases h.1)]
   simp only[this]
 · have h3:=((s.rc.setOther (a:=⟨bi,n*2,none⟩) d3.symm (.int .i64 ((Kn.pl k).1:Nat))).setOther (a:=⟨bi,n*2+1,none⟩) d3.symm (.int .i64 ((Kn.pl k).2:Nat)))
   refine bu (gI h3 n (cnt X true k n+1)) λj _=>?_
   unfold bS
   have:cnt X true (k+1) j=if j=n then cnt X true k n+1 else cnt X true k j:=by
    rw[iL,ha];by_cases c:j=n
    · subst c;rw[if_pos ⟨hc,rfl⟩,if_pos rfl]
    rw[if_neg (λh=>c (Int.ofNat_inj.1 h.2).symm),if_neg c];rfl
   rw[this]
 · refine hF.row (bu s.rd λj _=>?_) (λh=>h.elim (mg s.rd s.sh.ri (by decide)) (λe=>s.ne e.symm))
   unfold bS
   rw[iL,if_neg (λh=>by rw[hc]at h;cases h.1)];rfl
 by_cases c:j=k
 · subst c;rw[ha];unfold Kn.ag;omega
 exact s.wN j (by omega)
theorem En.SZ{b:Nat}{bi bo ci co base k n:Nat}(s:En w0 w X L b v bi bo ci co base k)
 (hc:cm X (Kn.pl k)=false) (ha:at_ X (Kn.pl k)=(n:Int)) (h1:1<=n) (h2:n<=2*X.length):
 En w0 (((w.setCell ⟨bo,n*2,none⟩ (.int .i64 ((Kn.pl k).1:Nat))).setCell ⟨bo,n*2+1,none⟩ (.int .i64 ((Kn.pl k).2:Nat))).setCell ⟨co,n,none⟩ (.int .i64 ((cnt X false k n+1:Nat):Int))) X L b v bi bo ci co base (k+1):=by
 have d1:b≠bo:=dF s.sh.blk s.sh.ro (by decide);have d2:b≠co:=dF s.sh.blk s.rd (by decide);have d3:bo≠co:=mg s.sh.ro s.rd (by decide);have d4:bi≠co:=mg s.sh.ri s.rd (by decide);have d5:=eE s.sh.own s.sh.ro (by decide);have d6:=eE s.sh.own s.rd (by decide)
 have hF:Fr (λx=>x=bo\/x=co) w (((w.setCell ⟨bo,n*2,none⟩ (.int .i64 ((Kn.pl k).1:Nat))).setCell ⟨bo,n*2+1,none⟩ (.int .i64 ((Kn.pl k).2:Nat))).setCell ⟨co,n,none⟩ (.int .i64 ((cnt X false k n+1:Nat):Int))):=
  (((Fr.refl _ w).setCell (.inl (.inl rfl)) _).setCell (.inl (.inl rfl)) _).setCell (.inl (.inr rfl)) _
 have hN:New w0 (((w.setCell ⟨bo,n*2,none⟩ (.int .i64 ((Kn.pl k).1:Nat))).setCell ⟨bo,n*2+1,none⟩ (.int .i64 ((Kn.pl k).2:Nat))).setCell ⟨co,n,none⟩ (.int .i64 ((cnt X false k n+1:Nat):Int))):=
  ((s.new.setCell (.inr s.lo) _).setCell (.inr s.lo) _).setCell (.inr s.ld) _
 refine⟨⟨(hF.block b s.sh.lt (by omega)).trans s.sh.blk,hF.owns s.sh.own (λk' hk' hs=>hs.elim (d5 k' hk') (d6 k' hk')),?_,?_,s.sh.ne⟩,?_,?_,s.ne,s.lb,s.li,s.lo,s.lc,s.ld,hN,λj hj=>?_⟩
 · refine hF.row (bu s.sh.ri λj _=>?_) (λh=>h.elim (λe=>s.sh.ne e) d4)
   unfold im
   have:∀x,last X true (k+1) x=last X true k x:=λx=>by
    rw[nJ,if_neg (λh=>by rw[hc]at h;cases h.1)]
   simp only[this]
 · refine bu ((Ca s.sh.ro n (Kn.pl k)).setOther d3 _) λj _=>?_
   unfold im
   have:∀x,last X false (k+1) x=if x=n then Kn.pl k else last X false k x:=λx=>by
    rw[nJ,ha];by_cases c:x=n
    · subst c;rw[if_pos ⟨hc,rfl⟩,if_pos rfl]
    rw[if_neg (λh=>c (Int.ofNat_inj.1 h.2).symm),if_neg c]
   simp only[this]
 · refine hF.row (bu s.rc λj _=>?_) (λh=>h.elim (mg s.rc s.sh.ro (by decide)) (λe=>s.ne e))
   unfold bS
   rw[iL,if_neg (λh=>by rw[hc]at h;cases h.1)];rfl
 · have h3:=((s.rd.setOther (a:=⟨bo,n*2,none⟩) d3.symm (.int .i64 ((Kn.pl k).1:Nat))).setOther (a:=⟨bo,n*2+1,none⟩) d3.symm (.int .i64 ((Kn.pl k).2:Nat)))
   refine bu (gI h3 n (cnt X false k n+1)) λj _=>?_
   unfold bS
   have:cnt X false (k+1) j=if j=n then cnt X false k n+1 else cnt X false k j:=by
    rw[iL,ha];by_cases c:j=n
    · subst c;rw[if_pos ⟨hc,rfl⟩,if_pos rfl]
    rw[if_neg (λh=>c (Int.ofNat_inj.1 h.2).symm),if_neg c];rfl
   rw[this]
 by_cases c:j=k
 · subst c;rw[ha];unfold Kn.ag;omega
 exact s.wN j (by omega)
theorem En.Vn{b:Nat}{bi bo ci co base k n:Nat}(s:En w0 w X L b v bi bo ci co base k)(h2:n<=2*X.length):
 w.cell? ⟨b,2,none⟩=some (.slice (some ⟨bi,0,none⟩) (bA X) (bA X)) /\
 w.cell? ⟨bi,n*2,none⟩=some (im (last X true k) (n*2))/\w.frozen? ⟨bi,n*2,none⟩=false /\
 (∀Y,(w.setCell ⟨bi,n*2,none⟩ Y).cell? ⟨bi,n*2+1,none⟩=some (im (last X true k) (n*2+1)))/\(∀Y,(w.setCell ⟨bi,n*2,none⟩ Y).frozen? ⟨bi,n*2+1,none⟩=false) /\
 (∀Y Z,((w.setCell ⟨bi,n*2,none⟩ Y).setCell ⟨bi,n*2+1,none⟩ Z).cell? ⟨ci,n,none⟩=some (.int .i64 (cnt X true k n:Nat)))/\(∀Y Z,((w.setCell ⟨bi,n*2,none⟩ Y).setCell ⟨bi,n*2+1,none⟩ Z).frozen? ⟨ci,n,none⟩=false):=by
 have d3:ci≠bi:=mg s.rc s.sh.ri (by decide);refine⟨s.sh.c2.2.2.1,s.sh.ri.cell (by unfold bA;omega),s.sh.ri.frozen _,λY=>?_,λY=>(s.sh.ri.set _ Y).frozen _,λY Z=>?_,λY Z=>((s.rc.setOther (a:=⟨bi,n*2,none⟩) d3 Y).setOther (a:=⟨bi,n*2+1,none⟩) d3 Z).frozen _⟩
 · have:=(s.sh.ri.set (n*2) Y).cell (i:=n*2+1) (by unfold bA;omega)
   rwa [if_neg (by omega)]at this
 exact((s.rc.setOther (a:=⟨bi,n*2,none⟩) d3 Y).setOther (a:=⟨bi,n*2+1,none⟩) d3 Z).cell (by unfold bA;omega)
theorem En.Q1{b:Nat}{bi bo ci co base k n:Nat}(s:En w0 w X L b v bi bo ci co base k)(h2:n<=2*X.length):
 w.cell? ⟨b,3,none⟩=some (.slice (some ⟨bo,0,none⟩) (bA X) (bA X)) /\
 w.cell? ⟨bo,n*2,none⟩=some (im (last X false k) (n*2))/\w.frozen? ⟨bo,n*2,none⟩=false /\
 (∀Y,(w.setCell ⟨bo,n*2,none⟩ Y).cell? ⟨bo,n*2+1,none⟩=some (im (last X false k) (n*2+1)))/\(∀Y,(w.setCell ⟨bo,n*2,none⟩ Y).frozen? ⟨bo,n*2+1,none⟩=false) /\
 (∀Y Z,((w.setCell ⟨bo,n*2,none⟩ Y).setCell ⟨bo,n*2+1,none⟩ Z).cell? ⟨co,n,none⟩=some (.int .i64 (cnt X false k n:Nat)))/\(∀Y Z,((w.setCell ⟨bo,n*2,none⟩ Y).setCell ⟨bo,n*2+1,none⟩ Z).frozen? ⟨co,n,none⟩=false):=by
 have d3:co≠bo:=mg s.rd s.sh.ro (by decide);refine⟨s.sh.c2.2.2.2,s.sh.ro.cell (by unfold bA;omega),s.sh.ro.frozen _,λY=>?_,λY=>(s.sh.ro.set _ Y).frozen _,λY Z=>?_,λY Z=>((s.rd.setOther (a:=⟨bo,n*2,none⟩) d3 Y).setOther (a:=⟨bo,n*2+1,none⟩) d3 Z).frozen _⟩
 · have:=(s.sh.ro.set (n*2) Y).cell (i:=n*2+1) (by unfold bA;omega)
   rwa [if_neg (by omega)]at this
 exact((s.rd.setOther (a:=⟨bo,n*2,none⟩) d3 Y).setOther (a:=⟨bo,n*2+1,none⟩) d3 Z).cell (by unfold bA;omega)
end Go.Proofs.YtfplmbmenjdlhaaGreatDoor
