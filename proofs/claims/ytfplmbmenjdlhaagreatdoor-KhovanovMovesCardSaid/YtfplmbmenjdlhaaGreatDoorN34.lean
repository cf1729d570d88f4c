/- Walks: slide's inner function; slides. -/
import Derived.Test.YtfplmbmenjdlhaaGreatDoorN31
set_option maxRecDepth 100000
set_option maxHeartbeats 16000000
namespace Go.Proofs.YtfplmbmenjdlhaaGreatDoor
open Go.RowKit
open Fr (refl)
open IntKind (i64)
open IntWalk (i64_in)
open Kn (Cr Dt Pl head meet dS)
open Maps (IsMap size)
open Go.Proofs.Tryz (func107 prog)
variable {p:Pl} {f:Pl->Option Nat} {X:List Cr} {N:List Nat} {k mb n x:Nat} {S:Nat->Prop} {W:World}
abbrev Hj(p:Pl):Value:=.agg #[.int .i64 (p.1:Nat),.int .i64 (p.2:Nat)]
theorem Dw(c s:Nat)(w:World)(hs:s<4):Calls prog 108 #[.agg #[.int .i64 (c:Nat),.int .i64 (s:Nat)]] w λe w'=>e=.returned (.agg #[.int .i64 (c:Nat),.int .i64 ((s+2)%4:Nat)])/\New w w':=by
 obtain⟨t,HT⟩:=jb ((s+2)%4);have hw:i64.wrap ((s:Int)+2)=(s:Int)+2:=i64_in _ (by omega)
 have ht:((s:Int)+2).tmod 4=(t:Int):=by rw[Int.tmod_eq_emod_of_nonneg (by omega)];have:=HT.o;omega
 have ht':((s:Int)+2)%4=(t:Int):=by have:=HT.o;omega
 rw[<-HT.o]
 go_enter Tryz.func108,Tryz.ntmps108
 go_wp2_with fail;have hN:New w ((w.alloc (.cells #[.int .i64 (c:Nat),.int .i64 (s:Nat)] 158)).alloc (.cells #[.int .i64 (c:Nat),.int .i64 (t:Nat)] 158)):=((refl _ w).alloc _).alloc _;have h:=heap_alloc_new (w.alloc (.cells #[.int .i64 (c:Nat),.int .i64 (s:Nat)] 158)) (.cells #[.int .i64 (c:Nat),.int .i64 (t:Nat)] 158);rw[World.size_alloc]at h;obtain⟨y1,y2,_⟩:=ay h;exact bodyPost_ret (v:=.agg #[.int .i64 (c:Nat),.int .i64 (t:Nat)]) (by simp[results,Tryz.results108,go_sem,y1,y2]) rfl ⟨rfl,hN⟩
open Go.RowKit
def fg(W:World)(mb k:Nat)(N:List Nat):Prop:=
 ∃D:DataW Unit,W.ownsMap prog 3 (plainElem prog 4) mb k D/\IsMap D/\size D=N.length/\∀x:Nat,Maps.has D (.int .i64 (x:Nat))=decide (x∈N)
theorem fg.made(w:World):fg (w.alloc (.map #[] 0)) w.heap.size 0 []:=⟨_,World.ownsMap_made _ _ _ _,Maps.isMap_empty,rfl,λx=>by rw[jm (by simp)];rfl⟩
theorem fg.fr{W':World}(h:fg W mb k N)(hf:Fr S W W')(hs:¬S mb):fg W' mb k N:=by
 obtain⟨D,⟨es,ck,hb,r⟩,h1⟩:=h;exact⟨D,⟨es,ck,(hf.block mb (jf.1 hb).1 hs).trans hb,r⟩,h1⟩
theorem fg.block(h:fg W mb k N):∃es ck,W.heap[mb]?=some (.map es ck):=by
 obtain⟨D,⟨es,ck,hb,_⟩,_⟩:=h;exact⟨es,ck,hb⟩
theorem Ot(h:x∈N):meet N x=N:=by unfold meet;rw[if_pos h]
theorem Jr(h:x∉N):meet N x=N++[x]:=by unfold meet;rw[if_neg h]
theorem fg.put{W':World}{mb k x:Nat}{N:List Nat}{D:DataW Unit}(h1:IsMap D)(ht:Maps.Tidy D)(hs:size D=N.length)(h2:∀x:Nat,Maps.has D (.int .i64 (x:Nat))=decide (x∈N))
 (ho:W'.ownsMap prog 3 (plainElem prog 4) mb (k+1) (D.put (.int .i64 (x:Nat)) (.lit (.bool true)))):fg W' mb (k+1) (meet N x):=by
 have hk:WideAt.IsKeyLit (.int .i64 (x:Nat)):=trivial;refine⟨_,ho,h1.put _ _,?_,λz=>?_⟩
 · rw[Maps.size_put ht,h2 x]
   by_cases c:x∈N
   · rw[jk c,if_pos rfl,hs,Ot c]
   rw[jm c,if_neg (by simp),hs,Jr c,ju,List.length_singleton]
 have hm:z∈meet N x↔z=x\/z∈N:=by
  by_cases c:x∈N
  · rw[Ot c];exact⟨.inr,λh=>h.elim (λe=>e ▸ c) id⟩
  rw[Jr c];simp[or_comm]
 by_cases c:z=x
 · subst c
   rw[Maps.has_put_same h1 hk,jk (hm.2 (.inl rfl))]
 have hne:(Lit.int .i64 (z:Nat))≠.int .i64 (x:Nat):=λe=>c (by injection e with _ e;omega)
 rw[Maps.has_put_other hne,h2 z,jL,hm];exact⟨.inr,λh=>h.elim (λe=>absurd e c) id⟩
theorem Jq(a b c:Nat):(meet (meet (meet [] a) b) c).length=3↔[a,b,c].Nodup:=by
 unfold meet;by_cases h1:b=a
 · subst h1
   by_cases h2:c=b
   · subst h2;simp
   simp[h2]
 by_cases h2:c=a
 · subst h2;simp[h1]
 by_cases h3:c=b
 · subst h3;simp[h1]
 have h4:¬a=b:=λe=>h1 e.symm
 have h5:¬a=c:=λe=>h2 e.symm
 have h6:¬b=c:=λe=>h3 e.symm
 simp[h1,h2,h3,h4,h5,h6]
def lJ(X:List Cr)(f:List Dt)(k:Nat):List Nat:=(f.take k).foldl (λN d=>meet N (head X (d.1,!d.2)).1) []
theorem J0{f:List Dt}(h:k<f.length):lJ X f (k+1)=meet (lJ X f k) (head X ((f[k]).1,!(f[k]).2)).1:=by
 unfold lJ
 rw[jq h,List.foldl_append];rfl
def Ki(X:List Cr)(f:List Dt)(k:Nat):Nat:=(f.take k).countP λd=>RY X d.1
def Kg(X:List Cr)(f:List Dt)(k:Nat):Nat:=(f.take k).countP λd=>RX X d.1
theorem Rb{f:List Dt}(h:k<f.length):Ki X f (k+1)=Ki X f k+if RY X (f[k]).1 then 1 else 0:=by
 unfold Ki
 rw[jq h,List.countP_append];simp[jG]
theorem Ra{f:List Dt}(h:k<f.length):Kg X f (k+1)=Kg X f k+if RX X (f[k]).1 then 1 else 0:=by
 unfold Kg
 rw[jq h,List.countP_append];simp[jG]
theorem PO{f:List Dt}(h:f.length=3):dS X f=(decide ((lJ X f 3).length=3)&&decide (Ki X f 3=1)&&decide (Kg X f 3=1)):=by
 match f,h with
 |[d,e,g],_=>
  unfold dS;have e1:(lJ X [d,e,g] 3).length=3↔([d,e,g].map λd=>(head X (d.1,!d.2)).1).Nodup:=Jq _ _ _;rw[jL.2 e1];rfl
open Go.RowKit
theorem j8.kept{w w':World}{b s:Nat}{fv:Value}{X:List Cr}{L:Int}{mb:Nat}{es:Array MapEntry}{ck:Nat}(h:j8 w b s fv X L)(hF:Fr (λk=>k=mb) w w')(hn:∀{B t:Nat} {cs:Array Value},w.heap[B]?=some (.cells cs t (0,0))->¬B=mb)(yJ:w.heap[mb]?=some (.map es ck)):j8 w' b s fv X L:=by
 obtain⟨v,bi,bo,base,sh⟩:=h.sh;refine⟨hF.blk h.blk (hn h.blk),v,bi,bo,base,sh.kept hF (hn sh.blk) ?_ ?_ ?_⟩
 · obtain⟨cs,h1,_⟩:=sh.ri;exact hn h1
 · obtain⟨cs,h1,_⟩:=sh.ro;exact hn h1
 intro k hk e;subst e;exact cM sh.own yJ _ hk rfl
theorem Ll(b s:Nat)(fv v:Value)(X:List Cr)(L:Int)(f:List Dt)(w:World)(h:j8 w b s fv X L)(hX:Kn.Ok X)(hl:X.length<=16)(ho:kN w v f)(hf:∀d∈f,Kn.ah X d.1):
 Calls prog 107 #[.pointer (some ⟨b,0,none⟩),v] w (λe w'=>e=.returned (.bool (dS X f))/\New w w'):=by
 have HX:=jd hX;have HH:=jd h;have HF:=jd hf;have HO:=jd ho;obtain⟨a,c,rfl,hcs⟩:=ho.cells;have HCS:=jd hcs;obtain⟨n,HN⟩:=jb f.length;rw[<-HN.o]at HO ⊢;clear h hX ho hf hcs;by_cases h3:n=3;rotate_left
 · have hb:((n:Int) != 3)=true:=by simp;omega
   have hs:dS X f=false:=by
    unfold dS
    rw[jm (show ¬f.length=3 by have:=HN.o;omega)];rfl
   rw[hs];clear hs
   go_enter func107,Tryz.ntmps107
   go_wp2;go_ret;exact⟨rfl,refl _ _⟩
 obtain⟨r,HR⟩:∃r,Hd (dS X f=r):=⟨_,jd rfl⟩
 rw[HR.o];subst h3;have qY:Hd (f.length=3):=jd HN.o.symm;clear HN
 have YK:∀(x y:Int) (w:World),(Instr.field 158 (.agg #[.int .i64 x,.int .i64 y]) 0).run prog w=.ok (.int .i64 x) w:=λx y w=>by kernel_rfl
 have Ai:=@run_makeMap prog
 go_enter func107,Tryz.ntmps107
 go_wp2_with fail;obtain⟨mb,uq⟩:=jb w.heap.size
 have hmw:w.heap.size<=mb:=by have:=uq.o;omega
 obtain⟨w0,Se⟩:=jb (w.alloc (.map #[] 0));have HE:Hd (fg w0 mb 0 []):=jd (by rw[Se.o,uq.o];exact fg.made w);have yK:Hd (New w w0):=jd (by rw[Se.o];exact(refl _ w).alloc _);rw[<-Se.o,<-uq.o];clear Se uq
 go_loopw [6,7,18] (λs6 s7 s18 wr=>∃k:Nat,k<=3/\s18=.int .i64 k/\s6=.int .i64 (Ki X f k:Nat)/\s7=.int .i64 (Kg X f k:Nat)/\Hd (fg wr mb k (lJ X f k))/\Hd (New w wr)) (λ_ _ i _=>3-(intOf i).toNat)
 case atStart=>exact⟨0,by omega,rfl,rfl,rfl,HE,yK⟩
 case round=>
 obtain⟨k,hk,rfl,rfl,rfl,HE,yK⟩:=hrel;obtain⟨ca,HCA⟩:=jb (Ki X f k);obtain⟨cb,DG⟩:=jb (Kg X f k)
 have hca:ca<=3:=by rw[HCA.o];unfold Ki;exact jJ (List.countP_le_length ..) (by rw[List.length_take,qY.o];omega)
 have hcb:cb<=3:=by rw[DG.o];unfold Kg;exact jJ (List.countP_le_length ..) (by rw[List.length_take,qY.o];omega)
 rw[<-HCA.o,<-DG.o];by_cases hlt:k<3;rotate_left
 · obtain rfl:k=3:=by omega
   have Nh:Hd (r=(decide ((lJ X f 3).length=3)&&decide (ca=1)&&decide (cb=1))):=jd (by
    rw[<-HR.o,PO qY.o,HCA.o,DG.o])
   obtain⟨DD,hown,h1,hs,h2⟩:=HE.o;have hlen:=hown.len Tryz.XD 3;rw[hs]at hlen;obtain⟨z,HZ⟩:=jb ((lJ X f 3).length);rw[<-HZ.o]at hlen Nh;clear hown h1 hs h2
   obtain⟨q1,HQ1⟩:∃q,Hd (decide (z=3)=q):=⟨_,jd rfl⟩
   obtain⟨q2,HQ2⟩:∃q,Hd (decide (ca=1)=q):=⟨_,jd rfl⟩
   obtain⟨q3,HQ3⟩:∃q,Hd (decide (cb=1)=q):=⟨_,jd rfl⟩
   have e1:((z:Int)==3)=q1:=by rw[<-HQ1.o,jD];simp;omega
   have e2:((ca:Int)==1)=q2:=by rw[<-HQ2.o,jD];simp;omega
   have e3:((cb:Int)==1)=q3:=by rw[<-HQ3.o,jD];simp;omega
   rw[HQ1.o,HQ2.o,HQ3.o]at Nh;cases q1
   · go_wp2
     go_ret;exact⟨cq (by rw[Nh.o];rfl),yK.o⟩
   cases q2
   · go_wp2
     go_ret;exact⟨cq (by rw[Nh.o];rfl),yK.o⟩
   go_wp2;go_ret;exact⟨cq (by rw[Nh.o];rfl),yK.o⟩
 have fY:k<f.length:=by rw[qY.o];exact hlt
 obtain⟨g,rfl,hcell⟩:=HCS.o.resolve_left (λe=>by rw[e]at fY;simp at fY);obtain⟨c1,c2⟩:=hcell k fY;obtain⟨x,HXD⟩:=jb ((f[k]).1);obtain⟨xb,HXB⟩:=jb ((f[k]).2);rw[<-HXD.o]at c1;rw[<-HXB.o]at c2
 have c1':=yK.o.cell c1 λx=>x
 have c2':=yK.o.cell c2 λx=>x
 have HAX:Hd (Kn.ah X x):=jd (by rw[HXD.o];exact HF.o _ (jM fY))
 obtain⟨⟨pc,ps⟩,HP⟩:∃p,Hd (head X (x,!xb)=p):=⟨_,jd rfl⟩
 have R9:pc<X.length:=by have:=(HX.o.bg (d:=(x,!xb)) HAX.o).1;rw[HP.o]at this;exact this
 have i1:(0:Int)<=(k:Int):=by omega
 have i2:(k:Int)<3:=by omega
 clear c1 c2 hcell;go_upto_region 8 with fail;clear c1' c2';obtain⟨B9,Hx⟩:=jb wr.heap.size;obtain⟨w1,cU⟩:=jb (wr.alloc (.cells #[.int .i64 (x:Nat),.bool xb] 26))
 have Bf:New wr w1:=by rw[cU.o];exact(refl _ wr).alloc _
 have HD:Hd (w1.heap[B9]?=some (.cells #[.int .i64 (x:Nat),.bool xb] 26 (0,0))):=jd (by rw[cU.o,Hx.o];exact heap_alloc_new _ _);have WE:=jd (HE.o.fr Bf λx=>x);have gQ:=jd (yK.o.trans Bf);rw[<-cU.o,<-Hx.o];clear Bf cU Hx HE yK
 have j9:Hd (∀wz:World,j8 wz b s fv X L->wz.heap[B9]?=some (.cells #[.int .i64 (x:Nat),.bool xb] 26 (0,0))->wz.cell? ⟨b,0,none⟩=some (.pointer (some ⟨s,0,none⟩))/\wz.cell? ⟨B9,0,none⟩=some (.int .i64 (x:Nat))/\wz.cell? ⟨B9,1,none⟩=some (.bool xb)):=jd λwz h1 h2=>by
  obtain⟨k0,k1,_⟩:=ay h2;exact⟨h1.c.1,k0,k1⟩
 have CT:Hd (∀r,j8 r b s fv X L->Calls prog 105 #[.pointer (some ⟨s,0,none⟩),.agg #[.int .i64 (x:Nat),.bool xb]] r (λe w'=>e=.returned (.agg #[.int .i64 (pc:Nat),.int .i64 (ps:Nat)])/\New r w')):=jd λr hr=>by
  have h1:=BN s x xb X L r hr.sh hl HAX.o
  rw[HP.o]at h1;exact h1
 go_wp2_with fail;have iu:Hd (New w w1.drew):=jd gQ.o.drew;have oY:Hd (j8 w1.drew b s fv X L):=jd (HH.o.new iu.o);have HD0:Hd (w1.drew.heap[B9]?=some (.cells #[.int .i64 (x:Nat),.bool xb] 26 (0,0))):=jd HD.o;have sX:Hd (fg w1.drew mb k (lJ X f k)):=jd (WE.o.fr (refl (λ_=>False) w1).drew λx=>x);have kG:=j9.o _ oY.o HD0.o
 refine wp_region_held_drew (S:=λwz=>wz.cell? ⟨b,0,none⟩=some (.pointer (some ⟨s,0,none⟩))/\wz.cell? ⟨B9,0,none⟩=some (.int .i64 (x:Nat))/\wz.cell? ⟨B9,1,none⟩=some (.bool xb)) (by kernel_rfl) kG (λhHeld=>?_)
 clear kG HD WE gQ;generalize w1.drew=r0 at hHeld iu oY HD0 sX ⊢
 refine' sq 0 (h:=sq 1 (h:=sq 2 (h:=sq 3 (h:=sq 4 (h:=sq 5 (h:=?_))))))
 refine dQ (i:=6) (λK hK=>?_);(try simp only[aR,aP,aO]);go_simp;refine(CT.o _ oY.o).mono ?_;rintro e r1 ⟨rfl,hN⟩;have gQ:=jd (iu.o.trans hN);have eU:=jd (oY.o.new hN);have HD1:=jd (hN.blk HD0.o λx=>x);have WE:=jd (sX.o.fr hN λx=>x);clear hN;go_wp2_with fail;refine hK.out _ _ (j9.o _ eU.o HD1.o) (λhHeld=>?_);clear hK K;(try simp only[Act.put,aR,aP,aO,bQ,bP,bO])
 refine' sq 7 (h:=?_)
 refine dQ (i:=8) (λK hK=>?_);(try simp only[aR,aP,aO]);rw[if_pos (by rfl)];obtain⟨es,ck,yJ⟩:=WE.o.block;obtain⟨DD,hown,h1,hs,h2⟩:=WE.o;have ht:=hown.tidy Tryz.iW
 refine fh _ _ _ _ 86 rfl 3 4 Tryz.iW Tryz.XD _ mb k _ rfl hown (by unfold maxLen;omega) _ _ _ rfl rfl (Maps.keyOf_int_mk Tryz.underlying3 (WR (x:=pc) (by omega))) _ [] (plainElem_bool Tryz.ul4 true) ?_
 intro w6 tW Mw;have HE6:Hd (fg w6 mb (k+1) (meet (lJ X f k) pc)):=jd (fg.put h1 ht hs h2 tW)
 have vq:Fr (λk=>k=mb) r1 w6:=(refl (λk=>k=mb) r1).grown Mw λk e=>.inl (Option.some.inj e).symm
 have hnb:∀{B t:Nat} {cs:Array Value},r1.heap[B]?=some (.cells cs t (0,0))->¬B=mb:=λhb e=>by subst e;rw[hb]at yJ;cases yJ
 have Le:Hd (j8 w6 b s fv X L):=jd (eU.o.kept vq (λhb=>hnb hb) yJ);have HD6:=jd (vq.blk HD1.o (hnb HD1.o));have ZR:Hd (New w w6):=jd (gQ.o.next vq λi hi=>.inr (by rw[hi];exact hmw));clear hown h1 hs h2 ht tW Mw vq hnb yJ;refine hK.out _ _ (j9.o _ Le.o HD6.o) (λhHeld=>?_);clear hK K;(try simp only[Act.put]);refine wpAnyH_done (by kernel_rfl) ?_ _;(try dsimp only)
 obtain⟨pA,ZM⟩:∃p,Hd (RY X x=p):=⟨_,jd rfl⟩
 obtain⟨pB,Bv⟩:∃p,Hd (RX X x=p):=⟨_,jd rfl⟩
 obtain⟨k0,k1,_⟩:=ay HD6.o
 have Gw:i64.wrap ((ca:Int)+1)=((ca+1:Nat):Int):=by rw[i64_in _ (by omega)];rfl
 have hw2:i64.wrap ((cb:Int)+1)=((cb+1:Nat):Int):=by rw[i64_in _ (by omega)];rfl
 have HSA:Hd (Ki X f (k+1)=ca+if pA then 1 else 0):=jd (by rw[Rb fY,<-HCA.o,<-HXD.o,ZM.o]);have ZG:Hd (Kg X f (k+1)=cb+if pB then 1 else 0):=jd (by rw[Ra fY,<-DG.o,<-HXD.o,Bv.o])
 have Wi:Hd (lJ X f (k+1)=meet (lJ X f k) pc):=jd (by
  rw[J0 fY,<-HXD.o,<-HXB.o,HP.o])
 have HE7:Hd (fg w6 mb (k+1) (lJ X f (k+1))):=jd (by rw[Wi.o];exact HE6.o);clear HE6 hHeld;go_wp2_with fail;refine(nW b s fv X L x w6 Le.o hl HAX.o).mono ?_;rintro e w7 ⟨rfl,hN⟩;rw[ZM.o,Bv.o];have Pn:=jd (ZR.o.trans hN);have HE8:=jd (HE7.o.fr hN λx=>x);clear hN k0 k1
 cases pA<;>cases pB
 rotate_left;rotate_left;rotate_left
 all_goals
  go_wp2_with fail;go_roundw
  case rel=>exact⟨k+1,by omega,by go_num,by rw[HSA.o];rfl,by rw[ZG.o];rfl,HE8,Pn⟩
  case measure=>simp[intOf];omega
open Go.RowKit Go.Shelf
open Go.ChangeMaps (setBlock heap_setBlock_same heap_setBlock_other)
open Go.WideMaps (KeyLaw)
open Go.WideElems (entry_then_store)
theorem Tryz.ack:(158:TypeId)<prog.types.size:=jl (by kernel_rfl)
theorem Tryz.Xy:(match prog.underlying 158 with|some (.array _ _)|some (.struct _)=>true|_=>false)=true:=by kernel_rfl
theorem Tryz.acV:prog.keyTypeAt 2 158=true:=by kernel_rfl
theorem Tryz.Oz:KeyLaw prog 158:=deep_law_laid Tryz.laidOut (m:=2) (by omega) Tryz.ack Tryz.acV Tryz.Xy
theorem Tryz.og:Maps.Keyed prog 158:=Maps.Keyed.of_law Tryz.Oz
theorem Tryz.Er:prog.underlying 188=some (.map 158 3):=by kernel_rfl
theorem LA:((List.range 16).all λa=>(List.range 4).all λs=>(keyOf prog 158 (Hj (a,s))).isSome)=true:=by kernel_rfl
theorem I8(p:Pl)(h:p.1<16)(k:p.2<4):∃l,keyOf prog 158 (Hj p)=some l:=by
 have:=List.all_eq_true.1 (List.all_eq_true.1 LA p.1 (jw.2 h)) p.2 (jw.2 k);exact Option.isSome_iff_exists.1 this
theorem N2{q:Pl}(h:Hj p=Hj q):p=q:=by
 obtain⟨a,b⟩:=p;obtain⟨c,d⟩:=q;simp only[Hj,Value.agg.injEq,Array.mk.injEq,List.cons.injEq,Value.int.injEq,true_and,and_true,Int.ofNat_inj]at h;rw[h.1,h.2]
structure Dz(D:DataW Unit)(f:Pl->Option Nat):Prop where
 isMap:IsMap D
 has:∀p kl,keyOf prog 158 (Hj p)=some kl->Maps.has D kl=(f p).isSome
 val:∀p kl v,keyOf prog 158 (Hj p)=some kl->f p=some v->∀zd,D.atKey kl zd=.lit (.int .i64 (v:Nat))
 key:∀kl,Maps.has D kl=true->∃p,keyOf prog 158 (Hj p)=some kl/\(f p).isSome=true
def iX(W:World)(mb n:Nat)(f:Pl->Option Nat):Prop:=∃D:DataW Unit,W.ownsMap prog 158 (plainElem prog 3) mb n D/\Dz D f
def vg(f:Pl->Option Nat)(p:Pl)(v:Nat)(q:Pl):Option Nat:=if q=p then some v else f q
theorem Dz.empty:Dz (.map []) (λ_=>none):=⟨Maps.isMap_empty,λ_ _ _=>rfl,(λ_ _ _ _ h=>by cases h),(λ_ h=>by cases h)⟩
theorem Dz.put{D:DataW Unit}{f:Pl->Option Nat}(h:Dz D f){p:Pl}{v:Nat}{kl:Lit}(hk:keyOf prog 158 (Hj p)=some kl):Dz (D.put kl (.lit (.int .i64 (v:Nat)))) (vg f p v):=by
 have fY:=Tryz.og.key hk
 have ne:∀q k,keyOf prog 158 (Hj q)=some k->q≠p->k≠kl:=λq k hq hn e=>hn (N2 (Tryz.og.inj (e ▸ hq) hk))
 refine⟨h.isMap.put _ _,λq k hq=>?_,λq k u hq hu zd=>?_,λk hx=>?_⟩
 · unfold vg
   by_cases c:q=p
   · subst c
     rw[hk]at hq;cases hq
     rw[Maps.has_put_same h.isMap fY,if_pos rfl];rfl
   rw[Maps.has_put_other (ne q k hq c),if_neg c,h.has q k hq]
 · unfold vg at hu
   by_cases c:q=p
   · subst c
     rw[hk]at hq;cases hq
     rw[if_pos rfl]at hu;cases hu
     rw[Maps.atKey_put_same h.isMap fY]
   rw[if_neg c]at hu;rw[Maps.atKey_put_other (ne q k hq c),h.val q k u hq hu]
 by_cases c:k=kl
 · subst c
   exact⟨p,hk,by unfold vg;rw[if_pos rfl];rfl⟩
 rw[Maps.has_put_other c]at hx;obtain⟨q,hq,hs⟩:=h.key k hx;refine⟨q,hq,?_⟩;unfold vg;split
 · rfl
 exact hs
theorem iX.made(w:World):iX (w.alloc (.map #[] 0)) w.heap.size 0 λ_=>none:=⟨_,World.ownsMap_made _ _ _ _,Dz.empty⟩
theorem iX.fr{W':World}(h:iX W mb n f)(hf:Fr S W W')(hs:¬S mb):iX W' mb n f:=by
 obtain⟨D,⟨es,ck,hb,r⟩,h1⟩:=h;exact⟨D,⟨es,ck,(hf.block mb (jf.1 hb).1 hs).trans hb,r⟩,h1⟩
theorem iX.block(h:iX W mb n f):∃es ck,W.heap[mb]?=some (.map es ck):=by
 obtain⟨D,⟨es,ck,hb,_⟩,_⟩:=h;exact⟨es,ck,hb⟩
theorem iX.entry(h:iX W mb n f)(hn:n<maxLen)(h1:p.1<16)(h2:p.2<4)(v:Nat)(hv:v<=1000):
 ∃(v0:Value) (st:Int) (W1 W2:World),(Instr.mapEntry 188 (.map (some mb)) (Hj p)).run prog W=.ok (.tuple #[v0,.int .i64 st]) W1/\Fr (λk=>k=mb) W W1/\(∃es ck,W1.heap[mb]?=some (.map es ck)) /\
  (Instr.entryStore 188 (.map (some mb)) (.int .i64 st) (.int .i64 (v:Nat))).run prog W1=.ok () W2/\iX W2 mb (n+1) (vg f p v)/\Fr (λk=>k=mb) W W2:=by
 obtain⟨D,hown,hd⟩:=h;obtain⟨kl,hk⟩:=I8 p h1 h2;have hpl:plainElem (H:=Unit) prog 3 (.int .i64 (v:Nat))=some (.lit (.int .i64 (v:Nat)),[]):=plainElem_int Tryz.underlying3 (WR (x:=v) (by omega));obtain⟨w',hrun,mH,JK⟩:=hown.update Tryz.og Tryz.Er hn hk hpl;obtain⟨es,ck,hb,F,_⟩:=hown;obtain⟨v0,st,mQ,VP,hr1,_,hst⟩:=entry_then_store (w:=W) Tryz.Oz Tryz.Er (λu=>Tryz.FH u) hb F hk;have hb1:(setBlock W mb (.map mQ VP)).heap[mb]?=some (.map mQ VP):=heap_setBlock_same hb _
 obtain⟨es',ck',hr2,hr3⟩:=hst (setBlock W mb (.map mQ VP)) (.int .i64 (v:Nat)) hb1;rw[nS]at hr2
 have e:w'=setBlock W mb (.map es' ck'):=by
  rw[hrun]at hr3;cases hr3;rfl
 have hF:∀o,Fr (λk=>k=mb) W (setBlock W mb o):=λo=>⟨rfl,rfl,rfl,by simp[setBlock],λi _ hi=>heap_setBlock_other hb _ (λe=>hi e)⟩
 refine⟨v0,st,_,_,hr1,hF _,⟨_,_,hb1⟩,hr2,⟨_,?_,hd.put hk⟩,hF _⟩
 rw[<-e];exact mH
end Go.Proofs.YtfplmbmenjdlhaaGreatDoor
