/- Walks: push's inner function; faces asked by it. -/
import Derived.Test.YtfplmbmenjdlhaaGreatDoorN27
import Derived.Test.YtfplmbmenjdlhaaGreatDoorKM1
set_option maxRecDepth 100000
set_option maxHeartbeats 16000000
namespace Go.Proofs.YtfplmbmenjdlhaaGreatDoor
open Go.RowKit
open Act (put)
open AllReadyH (cons nil)
open Fr (refl)
open Kn (Cr Dt four pn)
open Go.Proofs.Tryz (prog)
variable {cs:Array Value} {L:Int} {X Z:List Cr} {D bi bo s:Nat} {fv v:Value} {w:World}
def FQ(x y:Dt)(f:List Dt):Bool:=decide (x∈f)&&decide (y∈f)
structure Ru(w:World)(B2:Nat)(x y:Dt):Prop where
 u:w.cell? ⟨B2,3,none⟩=some (.int .i64 (x.1:Nat))
 ub:w.cell? ⟨B2,4,none⟩=some (.bool x.2)
 v:w.cell? ⟨B2,5,none⟩=some (.int .i64 (y.1:Nat))
 vb:w.cell? ⟨B2,6,none⟩=some (.bool y.2)
theorem Ru.new{w':World}{B2:Nat}{x y:Dt}(h:Ru w B2 x y)(k:New w w'):Ru w' B2 x y:=⟨k.cell h.u λx=>x,k.cell h.ub λx=>x,k.cell h.v λx=>x,k.cell h.vb λx=>x⟩
theorem PZ(B2:Nat)(v:Value)(x y:Dt)(f:List Dt)(w:World)(h:Ru w B2 x y)(ho:kN w v f)(hl:f.length<=64):
 Calls prog 98 #[v,.pointer (some ⟨B2,0,none⟩)] w (λe w'=>e=.returned (.bool (FQ x y f))/\New w w'):=by
 obtain⟨x1,x2⟩:=x;obtain⟨y1,y2⟩:=y;have H:=jd h;have HO:=jd ho;obtain⟨a,c,rfl,_⟩:=ho.cells
 obtain⟨p,HP⟩:∃p,Hd (decide ((x1,x2)∈f)=p):=⟨_,jd rfl⟩
 obtain⟨q,HQ⟩:∃q,Hd (decide ((y1,y2)∈f)=q):=⟨_,jd rfl⟩
 unfold FQ;rw[HP.o,HQ.o];obtain⟨c1,c2,c3,c4⟩:=h;simp only at c1 c2 c3 c4;clear ho;obtain⟨n,HN⟩:=jb f.length;rw[<-HN.o]at HO ⊢
 go_enter Tryz.func98,Tryz.ntmps98
 go_wp2_with fail;refine(vI _ f x1 x2 _ HO.o hl).mono ?_;rintro e w1 ⟨rfl,hN⟩;rw[HP.o];have gQ:=jd hN;have RH:=jd (hN.owns HO.o λ_ _ x=>x);obtain⟨_,_,d3,d4⟩:=H.o.new hN;simp only at d3 d4;clear hN c1 c2 c3 c4;cases p
 · go_wp2
   go_ret;exact⟨rfl,gQ.o⟩
 go_wp2_with fail;refine(vI _ f y1 y2 _ RH.o hl).mono ?_;rintro e w2 ⟨rfl,hN⟩;rw[HQ.o];have kZ:=jd (gQ.o.trans hN);clear hN d3 d4;go_wp2;go_ret;exact⟨rfl,kZ.o⟩
theorem Mj(B2:Nat)(v:Value)(x y:Dt)(F:List (List Dt))(w:World)(h:Ru w B2 x y)(hF:∀f∈F,f.length<=64)(hF2:F.length<=64)(hr:Rows kN 0 156 w v F):
 Calls prog 119 #[v,.func (.func 98) #[] #[.pointer (some ⟨B2,0,none⟩)]] w (λe w'=>(∃r,e=.returned (.int .i64 r)/\(0<=r↔F.any (FQ x y)=true))/\New w w'):=by
 obtain⟨a,c,rfl⟩:=hr.sl
 obtain⟨n,hn⟩:∃n,n=F.length:=⟨_,rfl⟩
 rw[<-hn]at hr ⊢;have HN:=jd hn;have H:=jd h;have Np:=jd hF;have HR:=jd hr
 have ahE:n<=64:=by rw[hn];exact hF2
 clear hn h hF hF2 hr
 go_enter Tryz.func119,Tryz.ntmps119
 go_wp2
 go_loopw [8] (λi wr=>∃k:Nat,k<=n/\i=.int .i64 k/\Hd (New w wr)/\Hd ((F.take k).any (FQ x y)=false)) (λi _=>n-(intOf i).toNat)
 case atStart=>exact⟨0,by omega,rfl,jd (refl _ _),jd rfl⟩
 case round=>
 obtain⟨k,hk,rfl,HW,HT⟩:=hrel;by_cases hlt:k<n;rotate_left
 · obtain rfl:k=n:=by omega
   go_wp2;go_ret;refine⟨⟨_,rfl,?_⟩,HW.o⟩;have:=HT.o;rw[List.take_of_length_le (by have:=HN.o;omega)]at this;rw[this];constructor
   · intro h;omega
   intro h;cases h
 have fY:k<F.length:=by have:=HN.o;omega
 obtain⟨g,c',u,he,hcell,hown⟩:=(Ar.new HR.o HW.o).at fY;rw[<-HN.o]at he;cases he;have HB:=Np.o _ (jM fY)
 obtain⟨z,HZ⟩:∃z,Hd (FQ x y F[k]=z):=⟨_,jd rfl⟩
 have CC:=jd (PZ B2 u x y F[k] wr (H.o.new HW.o) hown HB);rw[HZ.o]at CC;have dz:=hown.cells;obtain⟨ua,uc,rfl,_⟩:=dz
 have i1:(0:Int)<=(k:Int):=by omega
 have i2:(k:Int)<(n:Int):=by omega
 have HL:=jd HB
 have ZB:Hd ((F.take (k+1)).any (FQ x y)=z):=jd (by
  rw[jq fY,List.any_append,HT.o,List.any_cons,List.any_nil,HZ.o];simp)
 clear hown HB HT HZ;go_wp2_with fail
 refine CC.o.mono ?_
 rintro e w1 ⟨rfl,zq⟩;have k9:Hd (New w w1):=jd (HW.o.trans zq);clear zq hcell;cases z
 · go_wp2
   go_roundw
   case rel=>exact⟨k+1,by omega,by go_num,k9,ZB⟩
   case measure=>simp[intOf];omega
 go_wp2;go_ret;refine⟨⟨_,rfl,?_⟩,k9.o⟩;constructor
 · intro _
   have:=ZB.o;rw[List.any_eq_true]at this ⊢;obtain⟨f,h1,h2⟩:=this;exact⟨f,List.mem_of_mem_take h1,h2⟩
 intro _;omega
theorem Ee(B2:Nat)(v:Value)(x y:Dt)(F:List (List Dt))(w:World)(h:Ru w B2 x y)(hF:∀f∈F,f.length<=64)(hF2:F.length<=64)(hr:Rows kN 0 156 w v F):
 Calls prog 97 #[v,.func (.func 98) #[] #[.pointer (some ⟨B2,0,none⟩)]] w (λe w'=>e=.returned (.bool (F.any (FQ x y)))/\New w w'):=by
 have CC:=jd (Mj B2 v x y F w h hF hF2 hr)
 obtain⟨r,HR⟩:∃r,Hd (F.any (FQ x y)=r):=⟨_,jd rfl⟩
 rw[HR.o];clear h hF hF2 hr
 go_enter Tryz.func97,Tryz.ntmps97
 go_wp2_with fail
 refine CC.o.mono ?_
 rintro e w1 ⟨⟨z,rfl,hz⟩,zq⟩;have HN:=jd zq;have HX:Hd (decide (0<=z)=r):=jd (by rw[<-HR.o,jD,jh];exact hz);clear zq hz;go_wp2;go_ret;exact⟨cq HX.o,HN.o⟩
open Go.RowKit
theorem BW.app{w7:World}{b s:Nat}{o:Obj}{g c n:Nat}{x:Cr}(h:BW D w b s fv v bi bo X Z L)(hn:n=Z.length)
 (hown:w7.ownsRow D 109 5 (.slice (some ⟨g,0,none⟩) (n+1) c) (n+1) (bE Z++[.int .i64 x.a,.int .i64 x.b,.int .i64 x.c,.int .i64 x.d,.bool x.p])) (hg:(w.alloc o).grownBy w7 v.ownBlock):
 w7.heap[s]?=some (.cells #[v,.int .i64 L,.slice (some ⟨bi,0,none⟩) (bA X) (bA X),.slice (some ⟨bo,0,none⟩) (bA X) (bA X)] 70 (0,0)) /\
 BW D (w7.setCell ⟨s,0,none⟩ (.slice (some ⟨g,0,none⟩) (n+1) c)) b s fv (.slice (some ⟨g,0,none⟩) (n+1) c) bi bo X (Z++[x]) L/\Fr (λk=>v.ownBlock=some k) w w7/\w7.heap[b]?=some (.cells #[.pointer (some ⟨s,0,none⟩),fv] 103 (0,0)):=by
 subst hn
 have hF:Fr (λk=>v.ownBlock=some k) w w7:=((refl _ w).alloc o).grown hg λk e=>.inl e
 have ho:w7.ownsRow D 109 5 (.slice (some ⟨g,0,none⟩) (Z.length+1) c) (Z++[x]).length (bE (Z++[x])):=by
  rw[ym,ju,List.length_singleton];exact hown
 have h1:=hF.blk h.blk (aU h.blk h.own (by decide));have h2:=hF.blk h.FW (aU h.FW h.own (by decide));have h3:=hF.row h.ri (λe=>eE h.own h.ri (by decide) _ e rfl);have h4:=hF.row h.ro (λe=>eE h.own h.ro (by decide) _ e rfl);have hS:Fr (λk=>k=s) w7 (w7.setCell ⟨s,0,none⟩ (.slice (some ⟨g,0,none⟩) (Z.length+1) c)):=(refl (λk=>k=s) w7).setCell (.inl rfl) _
 have hnS:∀{B:Nat} {t:TypeId} {cs:Array Value},t≠70->w7.heap[B]?=some (.cells cs t (0,0))->¬B=s:=λht hB e=>by
  subst e;rw[hB]at h2;cases h2;exact ht rfl
 refine⟨h2,⟨hS.blk h1 (hnS (by decide) h1),?_,hS.owns ho ?_,hS.row h3 ?_,hS.row h4 ?_,h.ne,h.lb,h.ls⟩,hF,h1⟩
 · unfold World.setCell;simp[Array.getElem?_modify,h2]
 · exact λk hk e=>aU h2 ho (by decide) (e ▸ hk)
 · obtain⟨cs,k1,_⟩:=h3;exact hnS (by decide) k1
 obtain⟨cs,k1,_⟩:=h4;exact hnS (by decide) k1
structure PM(w:World)(B0 B4 b:Nat)(ra rb rc rd:Int):Prop where
 b0:w.heap[B0]?=some (.cells #[.pointer (some ⟨b,0,none⟩)] 92 (0,0))
 b4:w.heap[B4]?=some (.cells #[.int .i64 ra,.int .i64 rb,.int .i64 rc,.int .i64 rd] 181 (0,0))
section
variable {w w':World} {B0 B4 b:Nat} {ra rb rc rd:Int}
theorem PM.new(h:PM w B0 B4 b ra rb rc rd)(k:New w w'):PM w' B0 B4 b ra rb rc rd:=⟨k.blk h.b0 λx=>x,k.blk h.b4 λx=>x⟩
theorem BW.keep(h:BW D w b s fv v bi bo X Z L)(hF:Fr (λk=>k=s\/v.ownBlock=some k) w w'){B t:Nat}(hb:w.heap[B]?=some (.cells cs t (0,0)))(h1:t≠70)(h2:109≠t):w'.heap[B]?=some (.cells cs t (0,0)):=by
 refine hF.blk hb λe=>?_
 rcases e with e|e
 · rw[e,h.FW]at hb;cases hb;exact h1 rfl
 exact aU hb h.own h2 e
theorem PM.kept(h:PM w B0 B4 b ra rb rc rd)(k:BW D w b s fv v bi bo X Z L)(hF:Fr (λk=>k=s\/v.ownBlock=some k) w w'):PM w' B0 B4 b ra rb rc rd:=
 ⟨k.keep hF h.b0 (by decide) (by decide),k.keep hF h.b4 (by decide) (by decide)⟩
theorem PM.set(h:PM w B0 B4 b ra rb rc rd)(k:w.heap[s]?=some (.cells cs 70 (0,0)))(u:Value):PM (w.setCell ⟨s,0,none⟩ u) B0 B4 b ra rb rc rd:=by
 have hF:Fr (λk=>k=s) w (w.setCell ⟨s,0,none⟩ u):=(refl (λk=>k=s) w).setCell (.inl rfl) _;exact⟨hF.blk h.b0 (λe=>by have h1:=h.b0;rw[e,k]at h1;cases h1),hF.blk h.b4 (λe=>by have h1:=h.b4;rw[e,k]at h1;cases h1)⟩
theorem BW.big(h:BW D w b s fv v bi bo X Z L):D<=w.heap.size:=by
 have:=(jf.1 h.blk).1;have:=h.lb;omega
end
theorem EF(D B0 B2 b s:Nat)(fv v:Value)(bi bo:Nat)(X Z:List Cr)(L k x y u vv ra rb rc rd:Int)(ub vb ov:Bool)(TZ:Nat)(w:World)(h:BW D w b s fv v bi bo X Z L)(hz:Z.length<=20)(hui:TZ<4)
 (hb0:w.heap[B0]?=some (.cells #[.pointer (some ⟨b,0,none⟩)] 92 (0,0))) (hb2:w.heap[B2]?=some (.cells #[.int .i64 k,.int .i64 x,.int .i64 y,.int .i64 u,.bool ub,.int .i64 vv,.bool vb,.bool ov] 28 (0,0))):
 Calls prog 101 #[.agg #[.int .i64 ra,.int .i64 rb,.int .i64 rc,.int .i64 rd],.int .i64 (TZ:Nat),.pointer (some ⟨B2,0,none⟩),.pointer (some ⟨B0,0,none⟩)] w (λe w'=>∃v',e=.returned (.tuple #[])/\BW D w' b s fv v' bi bo X (Z++[pn (four ra rb rc rd) (if vb then 2 else 0) TZ ov]) L/\Fr (λk=>k=s\/v.ownBlock=some k) w w'):=by
 obtain⟨WV,HVI⟩:=jb (if vb then 2 else 0)
 have hvi:WV<4:=by have:=HVI.o;split at this<;>omega
 have hvI:(if vb=true then(2:Int)else 0)=(WV:Int):=by rw[HVI.o];split<;>rfl
 rw[<-HVI.o];obtain⟨nz,Xn⟩:=jb Z.length
 have hnz:nz<=20:=by have:=Xn.o;omega
 obtain⟨i5,hi5,ada,ac9,ac8⟩:=info_parts Tryz.Bd;obtain⟨B4,u9⟩:=jb w.heap.size;obtain⟨w1,cU⟩:=jb (w.alloc (.cells #[.int .i64 ra,.int .i64 rb,.int .i64 rc,.int .i64 rd] 181))
 have hN:New w w1:=by rw[cU.o];exact(refl _ w).alloc _
 have HN:=jd hN;have HB:=jd (h.new hN);have HM:Hd (PM w1 B0 B4 b ra rb rc rd):=jd ⟨hN.blk hb0 λx=>x,by rw[cU.o,u9.o];exact heap_alloc_new _ _⟩
 have ah4:=hN.blk hb2 λx=>x
 obtain⟨_,_,_,_,_,_,m6,m7⟩:=cH ah4
 have j9:Hd (∀wz:World,wz.heap[b]?=some (.cells #[.pointer (some ⟨s,0,none⟩),fv] 103 (0,0))->PM wz B0 B4 b ra rb rc rd->wz.cell? ⟨B0,0,none⟩=some (.pointer (some ⟨b,0,none⟩))/\wz.cell? ⟨b,0,none⟩=some (.pointer (some ⟨s,0,none⟩))/\wz.cell? ⟨B4,0,none⟩=some (.int .i64 ra)/\wz.cell? ⟨B4,1,none⟩=some (.int .i64 rb)/\wz.cell? ⟨B4,2,none⟩=some (.int .i64 rc)/\wz.cell? ⟨B4,3,none⟩=some (.int .i64 rd)):=jd λwz hbk hm=>by
  obtain⟨c0,c1,c2,c3,_⟩:=mI hm.b4;exact⟨(Aa hm.b0).1,(ay hbk).1,c0,c1,c2,c3⟩
 clear h hb0 hb2 hN hz ah4;have m6':=m6;rw[cU.o]at m6'
 go_enter Tryz.func101,Tryz.ntmps101
 go_wp2_with fail;clear m6';rw[<-cU.o,<-u9.o];refine(wF vb 0 2 _).mono ?_;rintro e w2 ⟨rfl,hw2⟩;rw[hvI];rw[<-hw2]at HN HB HM m6 m7;clear hw2;cases ov
 focus
  obtain⟨⟨xa,xb,xc,xd,xp⟩,qV⟩:∃x,Hd (Kn.D6 (four ra rb rc rd) TZ WV=x):=⟨_,jd rfl⟩
  have gO:Hd (pn (four ra rb rc rd) WV TZ false=⟨xa,xb,xc,xd,xp⟩):=jd (by rw[<-qV.o];rfl)
  have CC:Hd (∀r,Calls prog 103 #[.agg #[.int .i64 ra,.int .i64 rb,.int .i64 rc,.int .i64 rd],.int .i64 (TZ:Nat),.int .i64 (WV:Nat)] r (λe w'=>e=.returned (.agg #[.int .i64 xa,.int .i64 xb,.int .i64 xc,.int .i64 xd,.bool xp])/\New r w')):=jd λr=>(yl ra rb rc rd TZ WV r hui hvi).mono (by
   rintro e w' ⟨rfl,hN⟩
   rw[qV.o];exact⟨rfl,hN⟩)
 rotate_left
 focus
  obtain⟨⟨xa,xb,xc,xd,xp⟩,qV⟩:∃x,Hd (Kn.D6 (four ra rb rc rd) WV TZ=x):=⟨_,jd rfl⟩
  have gO:Hd (pn (four ra rb rc rd) WV TZ true=⟨xa,xb,xc,xd,xp⟩):=jd (by rw[<-qV.o];rfl)
  have CC:Hd (∀r,Calls prog 103 #[.agg #[.int .i64 ra,.int .i64 rb,.int .i64 rc,.int .i64 rd],.int .i64 (WV:Nat),.int .i64 (TZ:Nat)] r (λe w'=>e=.returned (.agg #[.int .i64 xa,.int .i64 xb,.int .i64 xc,.int .i64 xd,.bool xp])/\New r w')):=jd λr=>(yl ra rb rc rd WV TZ r hvi hui).mono (by
   rintro e w' ⟨rfl,hN⟩
   rw[qV.o];exact⟨rfl,hN⟩)
 all_goals
  go_wp2_with fail
  refine FK ?_
  have kG:=j9.o w2.drew HB.o.blk (HM.o.new (refl _ w2).drew)
  refine wp_region_held_drew (S:=λwz=>wz.cell? ⟨B0,0,none⟩=some (.pointer (some ⟨b,0,none⟩))/\wz.cell? ⟨b,0,none⟩=some (.pointer (some ⟨s,0,none⟩))/\wz.cell? ⟨B4,0,none⟩=some (.int .i64 ra)/\wz.cell? ⟨B4,1,none⟩=some (.int .i64 rb)/\wz.cell? ⟨B4,2,none⟩=some (.int .i64 rc)/\wz.cell? ⟨B4,3,none⟩=some (.int .i64 rd)) (by kernel_rfl) kG (λhHeld=>?_)
  clear kG;have iu:Hd (New w w2.drew):=jd HN.o.drew;have oY:Hd (BW D w2.drew b s fv v bi bo X Z L):=jd (HB.o.new (refl _ w2).drew);have DF:Hd (PM w2.drew B0 B4 b ra rb rc rd):=jd (HM.o.new (refl _ w2).drew);generalize w2.drew=r0 at hHeld iu oY DF ⊢
  refine' sq 0 (h:=sq 1 (h:=sq 2 (h:=sq 3 (h:=sq 4 (h:=sq 5 (h:=sq 6 (h:=sq 7 (h:=sq 8 (h:=sq 9 (h:=sq 10 (h:=sq 12 (h:=sq 13 (h:=sq 14 (h:=?_))))))))))))))
  refine wpAnyH_ready (rs:=[11,15]) (by kernel_rfl) (by simp) ?_
  refine cons rfl (λK hK=>?_) (cons rfl (λK hK=>?_) nil)
  focus
   skip;(try simp only[aR,aP,aO]);obtain⟨_,q0,_⟩:=oY.o.box;go_simp;clear q0;refine hK.out _ _ (j9.o _ oY.o.blk DF.o) (λhHeld=>?_);clear hK K;(try simp only[put,aR,aP,aO,bQ,bP,bO]);refine dQ (i:=15) (λK hK=>?_);(try simp only[aR,aP,aO]);go_simp;refine(CC.o _).mono ?_;rintro e r1 ⟨rfl,hN⟩;have gQ:=jd (iu.o.trans hN);have eU:=jd (oY.o.new hN);have nN:=jd (DF.o.new hN);clear hN;go_wp2_with fail;refine hK.out _ _ (j9.o _ eU.o.blk nN.o) (λhHeld=>?_);clear hK K
   (try simp only[put,aR,aP,aO,bQ,bP,bO]);refine dQ (i:=16) (λK hK=>?_);(try simp only[aR,aP,aO]);go_simp;have fD:=jd (eU.o.new ((refl (λ_=>False) r1).alloc (.cells #[.int .i64 xa,.int .i64 xb,.int .i64 xc,.int .i64 xd,.bool xp] 109)));have nA:=jd (nN.o.new ((refl (λ_=>False) r1).alloc (.cells #[.int .i64 xa,.int .i64 xb,.int .i64 xc,.int .i64 xd,.bool xp] 109)))
  rotate_left
  focus
   skip;(try simp only[aR,aP,aO]);go_simp;refine(CC.o _).mono ?_;rintro e r1 ⟨rfl,hN⟩;have gQ:=jd (iu.o.trans hN);have eU:=jd (oY.o.new hN);have nN:=jd (DF.o.new hN);clear hN;go_wp2_with fail;refine hK.out _ _ (j9.o _ eU.o.blk nN.o) (λhHeld=>?_);clear hK K;(try simp only[put,aR,aP,aO,bQ,bP,bO])
   refine wpAnyH_ready (rs:=[11,16]) (by kernel_rfl) (by simp) ?_
   refine cons rfl (λK hK=>?_) (cons rfl (λK hK=>?_) nil)
   focus
    skip;(try simp only[aR,aP,aO]);obtain⟨_,q0,_⟩:=eU.o.box;go_simp;clear q0;refine hK.out _ _ (j9.o _ eU.o.blk nN.o) (λhHeld=>?_);clear hK K;(try simp only[put,aR,aP,aO,bQ,bP,bO]);refine dQ (i:=16) (λK hK=>?_);(try simp only[aR,aP,aO]);go_simp;have fD:=jd (eU.o.new ((refl (λ_=>False) r1).alloc (.cells #[.int .i64 xa,.int .i64 xb,.int .i64 xc,.int .i64 xd,.bool xp] 109)))
    have nA:=jd (nN.o.new ((refl (λ_=>False) r1).alloc (.cells #[.int .i64 xa,.int .i64 xb,.int .i64 xc,.int .i64 xd,.bool xp] 109)))
   rotate_left
   focus
    skip;(try simp only[aR,aP,aO]);go_simp;have fD:=jd (eU.o.new ((refl (λ_=>False) r1).alloc (.cells #[.int .i64 xa,.int .i64 xb,.int .i64 xc,.int .i64 xd,.bool xp] 109)));have nA:=jd (nN.o.new ((refl (λ_=>False) r1).alloc (.cells #[.int .i64 xa,.int .i64 xb,.int .i64 xc,.int .i64 xd,.bool xp] 109)));refine hK.out _ _ (j9.o _ fD.o.blk nA.o) (λhHeld=>?_);clear hK K;(try simp only[put,aR,aP,aO,bQ,bP,bO]);refine dQ (i:=11) (λK hK=>?_);(try simp only[aR,aP,aO]);obtain⟨_,q0,_⟩:=fD.o.box;go_simp
    clear q0
  all_goals
   refine hK.out _ _ (j9.o _ fD.o.blk nA.o) (λhHeld=>?_);clear hK K;(try simp only[put,aR,aP,aO,bQ,bP,bO]);refine dQ (i:=17) (λK hK=>?_);(try simp only[aR,aP,aO]);rw[if_pos (by rfl)];have KF:=jd eU.o.own;rw[<-Xn.o]at KF;have hdr:=eU.o.big
   refine wp_append_lies _ _ _ 22 rfl D 109 i5 (.agg #[.int .i64 0,.int .i64 0,.int .i64 0,.int .i64 0,.bool false]) 5 40 Tryz.underlying22 hi5 ada ac9 ac8 rfl (by decide) _ nz (bE Z) rfl (World.ownsRow.alloc KF.o _) ⟨r1.heap.size,0,none⟩ 1 1 [.int .i64 xa,.int .i64 xb,.int .i64 xc,.int .i64 xd,.bool xp] rfl rfl (wD rfl) (Cs _ _ _ _ _) (by omega) (by unfold maxLen;omega) (by omega) (by simp only[World.size_alloc];omega) _ rfl ?_
   intro g cap w9 hown cN _ _;obtain⟨hs9,hb9,hf9,Va⟩:=eU.o.app (x:=⟨xa,xb,xc,xd,xp⟩) Xn.o hown cN;have Hx:=jd hb9;have Hu:=jd hf9;have HS9:=jd hs9;have HM9:=jd (nN.o.kept eU.o (hf9.mono λ_ h=>.inr h));have aeP:=jd Va;have aeL:=jd ((refl (λk=>k=s\/v.ownBlock=some k) w9).setCell (a:=⟨s,0,none⟩) (.inl (.inl rfl)) (.slice (some ⟨g,0,none⟩) (nz+1) cap));clear hown cN hb9 hf9 hs9 hdr Va;refine hK.out _ _ (j9.o _ aeP.o HM9.o) (λhHeld=>?_);clear hK K;(try simp only[put,bQ,bP,bO])
   refine' sq 18 (h:=sq 19 (h:=sq 20 (h:=?_)))
   refine dQ (i:=21) (λK hK=>?_);(try simp only[aR,aP,aO]);obtain⟨q0,_,_,_,q4,_,_,_⟩:=mI HS9.o;go_simp;clear q0 q4;refine hK.out _ _ (j9.o _ Hx.o.blk (HM9.o.set HS9.o _)) (λhHeld=>?_);clear hK K;(try simp only[put,aR,aP,aO,bQ,bP,bO]);refine wpAnyH_done (by kernel_rfl) ?_ _
   dsimp only
   go_wp2_with fail;go_end0;refine⟨.slice (some ⟨g,0,none⟩) (nz+1) cap,rfl,?_,?_⟩
   · rw[gO.o];exact Hx.o
   exact((gQ.o.mono λ_ h=>h.elim).trans (Hu.o.mono λ_ h=>.inr h)).trans aeL.o
open Go.RowKit
def vQ(D b s:Nat)(fv:Value)(o:Out)(w:World)(e:Ending)(w':World):Prop:=
 Fr (λk=>D<=k) w w'/\match o with
  |.no x=>e=.panicked (sZ x)
  |.ok Y L=>e=.returned (.tuple #[])/\w'.heap[b]?=some (.cells #[.pointer (some ⟨s,0,none⟩),fv] 103 (0,0))/\∃a c,w'.cell? ⟨s,0,none⟩=some (.slice a Y.length c)/\w'.cell? ⟨s,1,none⟩=some (.int .i64 L)/\bV w' a Y/\∀ad,a=some ad->D<=ad.block
theorem BW.gave{w':World}{b s:Nat}{Y:List Cr}(h:BW D w' b s fv v bi bo X Y L)(hF:Fr (λk=>D<=k) w w'):vQ D b s fv (.ok Y L) w (.returned (.tuple #[])) w':=by
 obtain⟨_,s0,s1,_⟩:=h.box;obtain⟨a,c,rfl,hc⟩:=bV.gu h.own;exact⟨hF,rfl,h.blk,a,c,s0,s1,hc,λad e=>dR h.own ad.block (by rw[e];rfl)⟩
end Go.Proofs.YtfplmbmenjdlhaaGreatDoor
