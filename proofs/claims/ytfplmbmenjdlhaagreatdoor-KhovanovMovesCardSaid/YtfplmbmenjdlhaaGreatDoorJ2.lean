/- Walks: the cube in memory: its states; how many marks; which mark. -/
import Derived.Test.YtfplmbmenjdlhaaGreatDoorU2
set_option linter.unusedVariables false
set_option maxRecDepth 100000
set_option maxHeartbeats 16000000
namespace Go.Proofs.YtfplmbmenjdlhaaGreatDoor
open Go.RowKit
open IntKind (i64)
open Kn (Cr Qd at_ cr ag qd aw rt ij eY un)
open Go.Proofs.Tryz (prog)
variable {s:Kn.Rt} {X:List Cr} {k:Nat} {S:Nat->Bool} {w:World}
def ints(l:List Nat):List Int:=l.map λn:Nat=>(n:Int)
theorem xV(l:List Nat):(ints l).length=l.length:=by simp[ints]
theorem Ag(r:Nat):∀(l:List Nat) (k:Nat),r∈l->Lib.idxFrom (ints l) (r:Int) k=(k:Int)+(l.idxOf r:Nat)
 |[],_,h=>by cases h
 |a :: l,k,h=>by
  unfold ints;rw[List.map_cons,Lib.idxFrom];by_cases c:a=r
  · subst c;simp
  rw[if_neg (by omega)]
  rcases jy.1 h with h|h
  · exact absurd h.symm c
  have:=Ag r l (k+1) h;unfold ints at this;rw[this,List.idxOf_cons,beq_false_of_ne c];simp only[cond_false];omega
theorem E7{l:List Nat}{r:Nat}(h:r∈l):Lib.idxOf (ints l) (r:Int)=(l.idxOf r:Nat):=by
 unfold Lib.idxOf
 rw[Ag r l 0 h];omega
theorem OB(a:Option Addr)(n c:Nat)(zs:List Int)(x:Int)(w:World)(h:mN w a zs)(hn:n=zs.length)(hb:n<=9223372036854775807):
 Calls prog 50 #[.slice a n c,.int .i64 x] w λe w'=>e=.returned (.int .i64 (Lib.idxOf zs x))/\w'=w:=by
 subst hn
 rcases h with rfl|⟨b,o,rfl,hc⟩
 · exact Tryz.slices_Index_int_empty a c x w
 have:=Tryz.slices_Index_int b o zs.length c zs x w (jH _) hb hc
 rw[List.take_length]at this;exact this
def Rv(w:World)(X:List Cr)(S:Nat->Bool)(va vb:Value):Prop:=
 ∃rB gs gl gc,va=.slice (some ⟨rB,0,none⟩) (ag X+1) (ag X+1)/\vb=.slice gs gl gc/\w.rowIs rB 3 (ag X+1) (bS (Kn.fB X S))/\mN w gs (ints (aw X S))/\gl=(aw X S).length
theorem Rv.new{w':World}{va vb:Value}(h:Rv w X S va vb)(k:New w w'):Rv w' X S va vb:=by
 obtain⟨rB,gs,gl,gc,h1,h2,h3,h4,h5⟩:=h;exact⟨rB,gs,gl,gc,h1,h2,k.row h3 λx=>x,k.ints h4,h5⟩
theorem ur.st{w':World}{e:Ending}(h:ur X S (ag X+1) w e w'):∃va vb,e=.returned (.agg #[va,vb])/\New w w'/\Rv w' X S va vb:=by
 obtain⟨rB,gs,gl,gc,rfl,h1,h2,h3,h4,h5⟩:=h;rw[A3]at h4;obtain⟨a,c,e1,e2,h6⟩:=pF h4
 obtain⟨rfl,rfl⟩:gs=a/\gc=c:=by injection e1 with e1 e3 e4;exact⟨e1,e4⟩
 exact⟨_,_,rfl,h1,rB,gs,gl,gc,rfl,rfl,h3,h6,h5.out⟩
structure qg(w:World)(bc b sB:Nat)(X:List Cr)(L:Nat):Prop where
 ptr:w.cell? ⟨bc,0,none⟩=some (.pointer (some ⟨b,0,none⟩))
 sh:fS w b X (L:Int)
 row:∃c,w.cell? ⟨bc,1,none⟩=some (.slice (some ⟨sB,0,none⟩) (2 ^ X.length) c)
 sts:∀st,st<2 ^ X.length->∃va vb,w.cell? ⟨sB,st*2,none⟩=some va/\w.cell? ⟨sB,st*2+1,none⟩=some vb/\Rv w X st.testBit va vb
theorem qg.new{w w':World}{bc b sB:Nat}{X:List Cr}{L:Nat}(h:qg w bc b sB X L)(k:New w w'):qg w' bc b sB X L:=by
 obtain⟨h1,h2,⟨c,h3⟩,h4⟩:=h;refine⟨k.cell h1 λx=>x,k.kM h2,⟨c,k.cell h3 λx=>x⟩,λst hst=>?_⟩;obtain⟨va,vb,g1,g2,g3⟩:=h4 st hst;exact⟨va,vb,k.cell g1 (λx=>x),k.cell g2 (λx=>x),g3.new k⟩
theorem iE(X:List Cr)(S:Nat->Bool):(aw X S).length<=2*X.length:=by
 unfold aw
 refine jJ (List.length_filter_le _ _) ?_
 unfold Kn.yA ag;simp
theorem Lz{n st:Nat}(h:st<2 ^ n)(h6:n<=6):st<64:=jT h (jI (by omega) h6:2 ^ n<=2 ^ 6)
theorem IE(bc b sB st:Nat)(X:List Cr)(L:Nat)(w:World)(h:qg w bc b sB X L)(hst:st<2 ^ X.length)(h6:X.length<=6)(hL:L<=2):
 Calls prog 27 #[.pointer (some ⟨bc,0,none⟩),.int .i64 (st:Nat)] w (λe w'=>e=.returned (.int .i64 (eY X L st.testBit:Nat))/\New w w'):=by
 obtain⟨c,h1⟩:=h.row;obtain⟨va,vb,h2,h3,rB,gs,gl,gc,rfl,rfl,hr,hi,Mv⟩:=h.sts st hst;have h4:=h.ptr;have h5:=h.sh.loops;have hl:=iE X st.testBit;rw[<-Mv]at hl;have FD:=jd Mv
 obtain⟨N,hN⟩:∃N,N=2 ^ X.length:=⟨_,rfl⟩
 rw[<-hN]at h1 hst
 have hNb:N<=64:=by rw[hN];exact(jI (by omega) h6:2 ^ X.length<=2 ^ 6)
 have i1:(0:Int)<=(st:Int):=by omega
 have i2:(st:Int)<(N:Int):=by omega
 clear h hi Mv hr h2
 go_enter Tryz.func27,Tryz.ntmps27
 go_wp2_with fail
 go_quiet (fail)
 go_wp2;go_ret;exact⟨by unfold eY;rw[FD.o];simp,(Fr.refl _ _).drewN _⟩
open Go.RowKit
theorem Nx{n a b:Nat}{c r:Nat->Nat}(hl:s.1.length=2*n+1)(hr:∀a,a<=2*n->rt s.1 a=r a)(ha:a<=2*n)(hb:b<=2*n)(hn:r a≠r b):
 (un s a b).2=s.2+1/\∀x,x<=2*n->rt (un s a b).1 x=if r x=r a then r b else r x:=by
 unfold un;rw[if_neg (by rw[hr a ha,hr b hb];exact hn)];refine⟨rfl,λx hx=>?_⟩;rw[aci _ _ (by omega),hr x hx,hr a ha,hr b hb]
theorem XB{n a b:Nat}{r:Nat->Nat}(hr:∀a,a<=2*n->rt s.1 a=r a)(ha:a<=2*n)(hb:b<=2*n)(hn:r a=r b):un s a b=s:=by
 unfold un;rw[if_pos (by rw[hr a ha,hr b hb];exact hn)]
theorem Ze(w:World):Hg (w.alloc (.cells #[.int .i64 0,.int .i64 0,.int .i64 0,.int .i64 0,.int .i64 0,.int .i64 0,.int .i64 0,.int .i64 0,.int .i64 0,.int .i64 0,.int .i64 0,.int .i64 0,.int .i64 0,.int .i64 0,.int .i64 0,.int .i64 0,.int .i64 0,.int .i64 0,.int .i64 0,.int .i64 0,.int .i64 0,.int .i64 0,.int .i64 0,.int .i64 0,.int .i64 0] 147)) w.heap.size (λ_=>0):=by
 refine⟨_,heap_alloc_new w _,rfl,λi hi=>?_⟩
 have:i=0\/i=1\/i=2\/i=3\/i=4\/i=5\/i=6\/i=7\/i=8\/i=9\/i=10\/i=11\/i=12\/i=13\/i=14\/i=15\/i=16\/i=17\/i=18\/i=19\/i=20\/i=21\/i=22\/i=23\/i=24:=by omega
 rcases this with rfl|rfl|rfl|rfl|rfl|rfl|rfl|rfl|rfl|rfl|rfl|rfl|rfl|rfl|rfl|rfl|rfl|rfl|rfl|rfl|rfl|rfl|rfl|rfl|rfl<;>rfl
theorem VO{cb:Nat}{c:Nat->Nat}(h:Hg w cb c)(a v:Nat):Hg (w.setCell ⟨cb,a,none⟩ (.int .i64 (v:Nat))) cb (λx=>if x=a then v else c x):=by
 refine bu (h.set _ _) λj _=>?_
 unfold bS;by_cases c:j=a
 · simp only[if_pos c]
 simp only[if_neg c]
theorem xl{W:World}{B C t t':Nat}{a b c d e x y:Value}(h:W.heap[B]?=some (.cells #[a,b,c,d,e] t (0,0)))(h':W.heap[C]?=some (.cells #[x,y] t' (0,0))):
 W.cell? ⟨B,0,none⟩=some a/\W.cell? ⟨B,1,none⟩=some b/\W.cell? ⟨B,2,none⟩=some c/\W.cell? ⟨B,3,none⟩=some d/\W.cell? ⟨B,4,none⟩=some e/\W.cell? ⟨C,0,none⟩=some x/\W.cell? ⟨C,1,none⟩=some y:=by
 obtain⟨h1,h2,h3,h4,h5⟩:=uW h;obtain⟨h6,h7⟩:=tk h';exact⟨h1,h2,h3,h4,h5,h6,h7⟩
def WU(q:Qd)(s:Nat):Nat:=if s=0 then q.1 else if s=1 then q.2.1 else if s=2 then q.2.2.1 else q.2.2.2
def stp(s:Kn.Rt)(q:Qd)(bit:Nat):Nat->Kn.Rt
 |0=>s
 |1=>un s (WU q (rr (4*bit))) (WU q (rr (4*bit+1)))
 |_=>Kn.unA s q bit
theorem SY(s:Kn.Rt)(q:Qd){bit j:Nat}(hb:bit=0\/bit=1)(hj:j=0\/j=1):stp s q bit (j+1)=un (stp s q bit j) (WU q (rr (4*bit+2*j))) (WU q (rr (4*bit+2*j+1))):=by
 rcases hb with rfl|rfl<;>rcases hj with rfl|rfl<;>rfl
theorem SL(i:Nat):rr i<4:=by
 unfold rr
 match i with
 |0|1|2|3|4|5|6|7=>decide
 |i+8=>simp
theorem anP(a b c d:Int)(w:World):(Instr.index 149 (.agg #[.int .i64 a,.int .i64 b,.int .i64 c,.int .i64 d]) (.int .i64 0)).run prog w=.ok (.agg #[.int .i64 a,.int .i64 b]) w:=by kernel_rfl
theorem anO(a b c d:Int)(w:World):(Instr.index 149 (.agg #[.int .i64 a,.int .i64 b,.int .i64 c,.int .i64 d]) (.int .i64 1)).run prog w=.ok (.agg #[.int .i64 c,.int .i64 d]) w:=by kernel_rfl
theorem hix(bit j:Nat)(hj:j=0\/j=1)(w:World):
 (Instr.index 149 (.agg #[.int .i64 (rr (4*bit):Nat),.int .i64 (rr (4*bit+1):Nat),.int .i64 (rr (4*bit+2):Nat),.int .i64 (rr (4*bit+3):Nat)]) (.int .i64 (j:Nat))).run prog w=.ok (.agg #[.int .i64 (rr (4*bit+2*j):Nat),.int .i64 (rr (4*bit+2*j+1):Nat)]) w:=by
 rcases hj with rfl|rfl
 · exact anP _ _ _ _ w
 exact anO _ _ _ _ w
theorem Pb(hX:Kn.Ok X)(hk:k<X.length){xa xb xc xd:Int}{xp:Bool}(h:cr X k=⟨xa,xb,xc,xd,xp⟩){u:Nat}(hu:u<4):
 wJ xa xb xc xd u=(WU (qd (cr X k)) u:Nat)/\WU (qd (cr X k)) u<=2*X.length:=by
 have h1:=hX.wN (k,u) ⟨hk,hu⟩
 have e:at_ X (k,u)=wJ xa xb xc xd u:=by
  unfold at_
  rw[h];rfl
 rw[e]at h1
 have h2:(ag X:Int)=2*X.length:=by unfold ag;omega
 rw[h]
 have h3:(WU (qd ⟨xa,xb,xc,xd,xp⟩) u:Int)=wJ xa xb xc xd u:=by
  have h4:WU (qd ⟨xa,xb,xc,xd,xp⟩) u=(wJ xa xb xc xd u).toNat:=by
   match u,hu with
   |0,_=>rfl
   |1,_=>rfl
   |2,_=>rfl
   |3,_=>rfl
  rw[h4];omega
 exact⟨h3.symm,by omega⟩
theorem K9.join{w wr:World}{cb n ua va:Nat}{s:Kn.Rt}{c r:Nat->Nat}(h:K9 w wr cb n s)(hcb:cb=w.heap.size)(hz:Hg wr cb c)(hf:oJ c r)(hr:∀a,a<=2*n->rt s.1 a=r a)(Vd:n<=12)(ha:ua<=2*n)(hb:va<=2*n)(hn:r ua≠r va):
 K9 w (wr.setCell ⟨cb,r ua,none⟩ (.int .i64 (r va:Nat))) cb n (un s ua va):=by
 obtain⟨h1,h2⟩:=Nx (c:=c) h.len hr ha hb hn;exact⟨h.new.setCell (.inr (by rw[hcb];exact jH _)) _,⟨_,_,VO hz (r ua) (r va),hf.join (by omega) (by omega) hn,h2⟩,by rw[abR];exact h.len⟩
theorem Y4(h:k<X.length):(X.map qd).drop k=qd (cr X k) :: (X.map qd).drop (k+1):=by
 rw[List.drop_eq_getElem_cons (by simpa using h)]
 congr 1
 unfold cr
 rw[List.getElem_map,jc,je h];rfl
theorem PV(b st n:Nat)(X:List Cr)(L:Nat)(w:World)(h:fS w b X (L:Int))(hX:Kn.Ok X)(hn:n=X.length)(Vd:n<=12)(hst:st<4096)(hL:L<=16)(ht:He w):
 Calls prog 40 #[.pointer (some ⟨b,0,none⟩),.int .i64 st] w λe w'=>e=.returned (.int .i64 ((2*n+L-(ij (X.map qd) (Kn.start n) st).2:Nat):Int))/\New w w':=by
 have HS:=jd h;have HX:=jd hX;have HN:=jd hn;have HT:=jd ht;obtain⟨cb,DG⟩:=jb w.heap.size;obtain⟨a1,c1,h0w,hLw,iw⟩:=h.uh;rw[<-hn]at h0w;have WG:=jd iw;have H0W:=jd h0w;have HLW:=jd hLw;clear h hX hn ht iw h0w hLw
 go_enter Tryz.func40,Tryz.ntmps40
 go_wp2;have H0:Hd (Hg (w.alloc (.cells #[.int .i64 0,.int .i64 0,.int .i64 0,.int .i64 0,.int .i64 0,.int .i64 0,.int .i64 0,.int .i64 0,.int .i64 0,.int .i64 0,.int .i64 0,.int .i64 0,.int .i64 0,.int .i64 0,.int .i64 0,.int .i64 0,.int .i64 0,.int .i64 0,.int .i64 0,.int .i64 0,.int .i64 0,.int .i64 0,.int .i64 0,.int .i64 0,.int .i64 0] 147)) cb (λ_=>0)):=jd (by rw[DG.o];exact Ze w);rw[<-DG.o]
 go_loopw [15] (λi wr=>∃k:Nat,k<=25/\i=.int .i64 k/\Hd (New w wr)/\Hd (∃c,Hg wr cb c/\∀a,a<k->c a=a)) (λi _=>25-(intOf i).toNat)
 case atStart=>exact⟨0,by omega,rfl,jd ((Fr.refl _ _).alloc _),jd ⟨_,H0.o,λa ha=>by omega⟩⟩
 case round=>
 obtain⟨k,hk,rfl,HF,HC⟩:=hrel;by_cases hlt:k<25
 · obtain⟨c,hc⟩:∃c,Hd (Hg wr cb c/\∀a,a<k->c a=a):=by obtain⟨c,h⟩:=HC.o;exact⟨c,jd h⟩
   have hcell:=hc.out.1.cell (i:=k) hlt;have hfz:=hc.out.1.frozen k;simp only[bS]at hcell
   have i1:(0:Int)<=(k:Int):=by omega
   have i2:(k:Int)<25:=by omega
   go_wp2;go_roundw
   case rel=>exact⟨k+1,by omega,by go_num,jd (HF.o.setCell (.inr (by rw[DG.o];exact jH _)) _),jd ⟨_,VO hc.out.1 k k,λa ha=>by
    by_cases e:a=k
    · simp only[if_pos e];exact e.symm
    simp only[if_neg e];exact hc.out.2 a (by omega)⟩⟩
   case measure=>simp[intOf];omega
 obtain rfl:25=k:=by omega
 have Po:Hd (K9 w wr cb n (Kn.start n)):=jd (by
  obtain⟨c,h1,h2⟩:=HC.o
  exact⟨HF.o,⟨λa=>a,λa=>a,bu h1 λj hj=>by unfold bS;rw[h2 j hj],oJ.start,λa ha=>Rt.start n ha⟩,by simp[Kn.start]⟩)
 have h0:=HF.o.cell H0W.o (λx=>x);clear HC H0;obtain⟨m,HM⟩:=jb (ag X)
 have hm:m=2*n:=by rw[HM.o,HN.o];rfl
 have nA:=jd hm
 have hm24:m<=24:=by omega
 clear hm
 go_wp2_with (go_at_call 46;refine(M5 b m X L _ (New.kM HF.o HS.o) (by have:=HN.o;omega) HM.o).mono ?_;rintro e w4 ⟨rfl,hE⟩;obtain rfl:=hE)
 go_loopw [8,31] (λnv i wr=>∃(k:Nat) (s:Kn.Rt),k<=n/\i=.int .i64 k/\nv=.int .i64 ((m:Int)-(s.2:Nat))/\s.2<=2*k/\Hd (K9 w wr cb n s)/\Hd (ij ((X.map qd).drop k) s (st / 2 ^ k)=ij (X.map qd) (Kn.start n) st)) (λ_ i _=>n-(intOf i).toNat)
 case atStart=>exact⟨0,Kn.start n,by omega,rfl,by simp[Kn.start],by simp[Kn.start],Po,jd (by simp)⟩
 case round=>
 obtain⟨k,s,hk,rfl,rfl,hs2,HI,HE⟩:=hrel;by_cases hkn:k<n;rotate_left
 · obtain rfl:n=k:=by omega
   have hL1:=HI.o.new.cell HLW.o λx=>x
   have hsl:s.2<=2*n:=hs2;obtain⟨s2,Hr⟩:=jb s.2;rw[<-Hr.o]at hsl ⊢
   have he:ij (X.map qd) (Kn.start n) st=s:=by
    rw[<-HE.o,List.drop_of_length_le (by simp;have:=HN.o;omega)];rfl
   have HEE:=jd he;clear he;go_wp2;go_ret;exact⟨rG (by rw[HEE.o,<-Hr.o];have:=nA.o;omega),HI.o.new⟩
 obtain⟨bit,aeQ⟩:=jb (st / 2 ^ k%2)
 have hb2:bit=0\/bit=1:=by have:=aeQ.o;omega
 have hq:st / 2 ^ k<4096:=Nat.lt_of_le_of_lt (Nat.div_le_self _ _) hst
 have E9:k<X.length:=by have:=HN.o;omega
 obtain⟨bx,ox,rfl,hx⟩:=WG.o.at E9;obtain⟨xa,xb,xc,xd,xp,qV⟩:=Kn.qP X k;rw[qV.o]at hx
 have OD:=HI.o.new.Kd hx λx=>x
 obtain⟨x1,x2,x3,x4,x5⟩:=OD
 have i1:(0:Int)<=(k:Int):=by omega
 have i2:(k:Int)<(n:Int):=by omega
 clear hx hq
 have ani:s.2<=24:=by omega
 obtain⟨s2,Hr⟩:=jb s.2;rw[<-Hr.o]at hs2 ani ⊢;go_upto_region 12 with fail;obtain⟨wb,Ry⟩:=jb (wr.alloc (.cells #[.int .i64 xa,.int .i64 xb,.int .i64 xc,.int .i64 xd,.bool xp] 109));obtain⟨Bx,Bz⟩:=jb wr.heap.size;have HIb:Hd (K9 w wb cb n s):=jd (by rw[Ry.o];exact HI.o.new' ((Fr.refl _ _).alloc _));have HBb:Hd (wb.heap[Bx]?=some (.cells #[.int .i64 xa,.int .i64 xb,.int .i64 xc,.int .i64 xd,.bool xp] 109 (0,0))):=jd (by rw[Ry.o,Bz.o];exact heap_alloc_new wr _);rw[<-Ry.o,<-Bz.o];have hT:=HIb.o.new.Y0 HT.o;clear x1 x2 x3 x4 x5 i1 i2
 have Sc:bits BinOp.and i64 ((st:Int) / 2 ^ k) 1=(bit:Int):=by
  have:=jl (List.all_eq_true.1 Pd (st / 2 ^ k) (jw.2 (Nat.lt_of_le_of_lt (Nat.div_le_self _ _) hst)));rw[<-aeQ.o]at this;simpa using this
 go_cut [41,42] (λs41 s42 wx=>Hd (wx=wb/\s42=.int .i64 0/\s41=.agg #[.int .i64 (rr (4*bit):Nat),.int .i64 (rr (4*bit+1):Nat),.int .i64 (rr (4*bit+2):Nat),.int .i64 (rr (4*bit+3):Nat)]))
 case first=>
  rcases hb2 with rfl|rfl
  · have aob:bits BinOp.and i64 ((st:Int) / 2 ^ k) 1=0:=Sc
    clear Sc;have t0:=hT 0 (by omega);have t1:=hT 1 (by omega);have t2:=hT 2 (by omega);have t3:=hT 3 (by omega);clear hT;go_wp2_with fail;go_meet;exact jd ⟨rfl,rfl,rfl⟩
  have aob:bits BinOp.and i64 ((st:Int) / 2 ^ k) 1=1:=Sc;clear Sc;have t0:=hT 4 (by omega);have t1:=hT 5 (by omega);have t2:=hT 6 (by omega);have t3:=hT 7 (by omega);clear hT;go_wp2_with fail;go_meet;exact jd ⟨rfl,rfl,rfl⟩
 case rest=>
 obtain⟨rfl,rfl,rfl⟩:=Hd.o hcut;clear hcut hT Sc Ry Bz;go_wp2_with fail
 go_loopw [8,42] (λnv i wr=>∃(j:Nat) (sj:Kn.Rt),j<=2/\i=.int .i64 j/\nv=.int .i64 ((m:Int)-(sj.2:Nat))/\sj.2<=s2+j/\Hd (sj=stp s (qd (cr X k)) bit j)/\Hd (K9 w wr cb n sj)/\Hd (wr.heap[Bx]?=some (.cells #[.int .i64 xa,.int .i64 xb,.int .i64 xc,.int .i64 xd,.bool xp] 109 (0,0)))) (λ_ i _=>2-(intOf i).toNat)
 case atStart=>exact⟨0,s,by omega,rfl,by rw[Hr.o],by rw[Hr.o];exact jH _,jd rfl,HIb,HBb⟩
 case round=>
 obtain⟨j,sj,hj,rfl,rfl,hsj,HSJ,HIj,HBj⟩:=hrel;by_cases hj2:j<2;rotate_left
 · obtain rfl:2=j:=by omega
   go_wp2;go_roundw
   case rel=>
    refine⟨k+1,sj,by omega,by go_num,rfl,by omega,HIj,jd ?_⟩;have:=HE.o;rw[Y4 E9,ij,<-aeQ.o]at this;rw[HSJ.o,Nat.pow_succ,<-Nat.div_div_eq_div_mul];exact this
   case measure=>simp[intOf];omega
 have ahS:j=0\/j=1:=by omega
 have hxx:=hix bit j ahS;obtain⟨u,HU⟩:=jb (rr (4*bit+2*j));obtain⟨v,HV⟩:=jb (rr (4*bit+2*j+1));rw[<-HU.o,<-HV.o]at hxx
 have hu4:u<4:=by rw[HU.o];exact SL _
 have hv4:v<4:=by rw[HV.o];exact SL _
 obtain⟨ua,Pf⟩:=jb (WU (qd (cr X k)) u);obtain⟨va,HVA⟩:=jb (WU (qd (cr X k)) v);have hau:=Pb HX.o E9 qV.o hu4;have hav:=Pb HX.o E9 qV.o hv4;rw[<-Pf.o,<-HN.o]at hau;rw[<-HVA.o,<-HN.o]at hav;have HU1:=jd hau.1;have yC:=jd hav.1;have hua:ua<=2*n:=hau.2;have hva:va<=2*n:=hav.2;clear hau hav;obtain⟨cf,rf,hz0,hfo,hrf⟩:=HIj.o.cls;have Np:=jd hfo;have Wl:=jd hrf
 have ZD:Hd (stp s (qd (cr X k)) bit (j+1)=un sj ua va):=jd (by rw[SY s _ hb2 ahS,<-HSJ.o,<-HU.o,<-HV.o,<-Pf.o,<-HVA.o]);obtain⟨sn,ZC⟩:=jb sj.2;rw[<-ZC.o]at hsj ⊢
 obtain⟨ra,Nk⟩:∃z,Hd (rf ua=z):=⟨_,jd rfl⟩
 obtain⟨rb,sV⟩:∃z,Hd (rf va=z):=⟨_,jd rfl⟩
 have aoT:=jd hz0;clear hfo hrf hz0;go_upto_region 15 with fail;obtain⟨Bt,HBT⟩:=jb wr.heap.size;obtain⟨r0,sY⟩:=jb ((wr.alloc (.cells #[.int .i64 (u:Nat),.int .i64 (v:Nat)] 148)).drew)
 have HNy:New wr r0:=by rw[sY.o];exact((Fr.refl _ _).alloc _).drew
 have Po:Hd (K9 w r0 cb n sj):=jd (HIj.o.new' HNy);have oY:Hd (r0.heap[Bx]?=some (.cells #[.int .i64 xa,.int .i64 xb,.int .i64 xc,.int .i64 xd,.bool xp] 109 (0,0))):=jd (HNy.blk HBj.o λx=>x);have HC0:Hd (r0.heap[Bt]?=some (.cells #[.int .i64 (u:Nat),.int .i64 (v:Nat)] 148 (0,0))):=jd (by rw[sY.o,HBT.o];exact heap_alloc_new wr _);have Hp:=jd (HNy.row aoT.o λx=>x);rw[<-HBT.o];have kG:=xl oY.o HC0.o;rw[sY.o]at kG
 refine wp_region_held_drew (S:=λwz=>wz.cell? ⟨Bx,0,none⟩=some (.int .i64 xa)/\wz.cell? ⟨Bx,1,none⟩=some (.int .i64 xb)/\wz.cell? ⟨Bx,2,none⟩=some (.int .i64 xc)/\wz.cell? ⟨Bx,3,none⟩=some (.int .i64 xd)/\wz.cell? ⟨Bx,4,none⟩=some (.bool xp)/\wz.cell? ⟨Bt,0,none⟩=some (.int .i64 (u:Nat))/\wz.cell? ⟨Bt,1,none⟩=some (.int .i64 (v:Nat))) (by kernel_rfl) kG (λhHeld=>?_)
 rw[<-sY.o]at hHeld ⊢;clear kG HNy
 refine' sq 0 (h:=sq 1 (h:=sq 2 (h:=sq 3 (h:=sq 6 (h:=sq 7 (h:=sq 8 (h:=sq 9 (h:=?_))))))))
 refine dQ (i:=4) (λK hK=>?_);(try simp only[aR,aP,aO]);go_simp;refine(nu xa xb xc xd xp u _ (by assumption)).mono ?_;rintro e r1 ⟨rfl,hF⟩;rw[HU1.o];have HI1:Hd (K9 w r1 cb n sj):=jd (Po.o.new' hF);have eU:=jd (hF.blk oY.o λx=>x);have Bw:=jd (hF.blk HC0.o λx=>x);have Kw:=jd (hF.row Hp.o λx=>x);clear hF;go_wp2_with fail;refine hK.out _ _ (xl eU.o Bw.o) (λhHeld=>?_);clear hK K;(try simp only[Act.put,aR,aP,aO,bQ,bP,bO]);refine dQ (i:=5) (λK hK=>?_);(try simp only[aR,aP,aO]);go_simp
 refine(IQ cb ua cf rf _ Kw.o Np.o (by omega)).mono ?_;rintro e r2 ⟨rfl,hF⟩;have RN:Hd (K9 w r2 cb n sj):=jd (HI1.o.new' hF);have fD:=jd (hF.blk eU.o λx=>x);have vw:=jd (hF.blk Bw.o λx=>x);have Xh:=jd (hF.row Kw.o λx=>x);clear hF;go_wp2_with fail;refine hK.out _ _ (xl fD.o vw.o) (λhHeld=>?_);clear hK K;(try simp only[Act.put,aR,aP,aO,bQ,bP,bO]);refine dQ (i:=10) (λK hK=>?_);(try simp only[aR,aP,aO]);go_simp;refine(nu xa xb xc xd xp v _ (by assumption)).mono ?_;rintro e r3 ⟨rfl,hF⟩
 rw[yC.o];have HI3:Hd (K9 w r3 cb n sj):=jd (RN.o.new' hF);have kQ:=jd (hF.blk fD.o λx=>x);have AP:=jd (hF.blk vw.o λx=>x);have Zw:=jd (hF.row Xh.o λx=>x);clear hF;go_wp2_with fail;refine hK.out _ _ (xl kQ.o AP.o) (λhHeld=>?_);clear hK K;(try simp only[Act.put,aR,aP,aO,bQ,bP,bO]);refine dQ (i:=11) (λK hK=>?_);(try simp only[aR,aP,aO]);go_simp;refine(IQ cb va cf rf _ Zw.o Np.o (by omega)).mono ?_;rintro e r4 ⟨rfl,hF⟩;have HI4:Hd (K9 w r4 cb n sj):=jd (HI3.o.new' hF)
 have u9:=jd (hF.blk kQ.o λx=>x);have Pr:=jd (hF.blk AP.o λx=>x);have HZ4:=jd (hF.row Zw.o λx=>x);clear hF;go_wp2_with fail;refine hK.out _ _ (xl u9.o Pr.o) (λhHeld=>?_);clear hK K;(try simp only[Act.put,aR,aP,aO,bQ,bP,bO])
 refine' sq 12 (h:=sq 13 (h:=?_))
 refine wpAnyH_done (by kernel_rfl) ?_ _;rw[Nk.o,sV.o];have hra:rf ua<25:=(Np.o.choose_spec ua (by omega)).2.1;rw[Nk.o]at hra;have hcell:=HZ4.o.cell (i:=ra) hra;have hfz:=HZ4.o.frozen ra
 have j1:(0:Int)<=(ra:Int):=by omega
 have j2:(ra:Int)<25:=by omega
 by_cases e:ra=rb
 · have HEQ:Hd (un sj ua va=sj):=jd (XB Wl.o hua hva (by rw[Nk.o,sV.o];exact e))
   subst e;clear hcell hfz;go_wp2;go_roundw
   case rel=>exact⟨j+1,sj,by omega,by go_num,by rw[ZC.o],by have:=ZC.o;omega,jd (by rw[ZD.o,HEQ.o]),HI4,u9⟩
   case measure=>simp[intOf];omega
 have e':¬(ra:Int)=(rb:Int):=by omega
 have HJ:Hd (K9 w (r4.setCell ⟨cb,ra,none⟩ (.int .i64 (rb:Nat))) cb n (un sj ua va)):=jd (by
  have:=HI4.o.join DG.o HZ4.o Np.o Wl.o Vd hua hva (by rw[Nk.o,sV.o];exact e)
  rwa [Nk.o,sV.o]at this)
 have G8:Hd ((un sj ua va).2=sn+1):=jd (by rw[ZC.o];exact(Nx (c:=cf) HIj.o.len Wl.o hua hva (by rw[Nk.o,sV.o];exact e)).1)
 have Bz:Hd (Bx≠cb):=jd λh=>dF u9.o HZ4.o (by decide) h
 go_wp2;go_roundw
 case rel=>exact⟨j+1,_,by omega,by go_num,by rw[G8.o];go_num,by rw[G8.o];omega,jd ZD.o.symm,HJ,jd (((Fr.refl (λk=>k=cb) r4).setCell (.inl rfl) _).blk u9.o Bz.o)⟩
 case measure=>simp[intOf];omega
end Go.Proofs.YtfplmbmenjdlhaaGreatDoor
