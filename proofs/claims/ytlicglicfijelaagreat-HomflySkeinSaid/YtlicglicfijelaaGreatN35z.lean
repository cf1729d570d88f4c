/- Walks: words for slide at work. -/
import Derived.Test.YtlicglicfijelaaGreatN35m
import Derived.Test.YtlicglicfijelaaGreatN30a
/- Walks: words for slide at work. -/
namespace Go.Proofs.YtlicglicfijelaaGreat
open Go.RowKit

theorem BW.kept_map{D:Nat}{w w':World}{b s:Nat}{fv v:Value}{bi bo:Nat}{X Z:List Kn.Cr}{L:Int}{mb:Nat}{es:Array MapEntry}{ck:Nat}(h:BW D w b s fv v bi bo X Z L)(hF:Fr (fun k=>k=mb) w w')(hmb:w.heap[mb]?=some (.map es ck)):BW D w' b s fv v bi bo X Z L:=by
 have hn:∀{B t:Nat} {cs:Array Value},w.heap[B]?=some (.cells cs t (0,0))→¬B=mb:=fun hb e=>by subst e;rw[hb]at hmb;cases hmb
 refine⟨hF.blk h.blk (hn h.blk),hF.blk h.shb (hn h.shb),hF.owns h.own (fun k hk e=>by subst e;exact own_not_map h.own hmb _ hk rfl),hF.row h.ri ?_,hF.row h.ro ?_,h.ne,h.lb,h.ls⟩
 · obtain⟨cs,h1,_⟩:=h.ri;exact hn h1
 · obtain⟨cs,h1,_⟩:=h.ro;exact hn h1
structure SlV(D:Nat)(w W:World)(b s:Nat)(fv v:Value)(bi bo:Nat)(X:List Kn.Cr)(L:Int)(mb n:Nat)(F:Kn.Pl→Option Nat):Prop where
 bw:BW D W b s fv v bi bo X X L
 now:NowMap W mb n F
 new:New w W
 lm:w.heap.size≤mb
section
variable {D:Nat} {w W W':World} {b s:Nat} {fv v:Value} {bi bo:Nat} {X:List Kn.Cr} {L:Int} {mb n n':Nat} {F F':Kn.Pl→Option Nat}
theorem SlV.nw(h:SlV D w W b s fv v bi bo X L mb n F)(k:New W W'):SlV D w W' b s fv v bi bo X L mb n F:=⟨h.bw.new k,h.now.fr k fun x=>x,h.new.trans k,h.lm⟩
theorem SlV.upd(h:SlV D w W b s fv v bi bo X L mb n F)(hn:NowMap W' mb n' F')(hF:Fr (fun k=>k=mb) W W'):SlV D w W' b s fv v bi bo X L mb n' F':=by
 obtain⟨es,ck,hb⟩:=h.now.block
 exact⟨h.bw.kept_map hF hb,hn,h.new.next hF fun i hi=>.inr (by rw[hi];exact h.lm),h.lm⟩
end
def SlS(W:World)(b s B10 B11 fc1 fs1 tc1 ts1:Nat):Prop:=W.cell? ⟨b,0,none⟩=some (.pointer (some ⟨s,0,none⟩))∧W.cell? ⟨B10,0,none⟩=some (.int .i64 (fc1:Nat))∧W.cell? ⟨B10,1,none⟩=some (.int .i64 (fs1:Nat))∧W.cell? ⟨B11,0,none⟩=some (.int .i64 (tc1:Nat))∧W.cell? ⟨B11,1,none⟩=some (.int .i64 (ts1:Nat))
structure SlR(D:Nat)(w W:World)(b s:Nat)(fv v:Value)(bi bo:Nat)(X:List Kn.Cr)(L:Int)(mb n:Nat)(F:Kn.Pl→Option Nat)(B10 B11 fc1 fs1 tc1 ts1:Nat):Prop where
 sv:SlV D w W b s fv v bi bo X L mb n F
 b10:W.heap[B10]?=some (.cells #[.int .i64 (fc1:Nat),.int .i64 (fs1:Nat)] 104 (0,0))
 b11:W.heap[B11]?=some (.cells #[.int .i64 (tc1:Nat),.int .i64 (ts1:Nat)] 104 (0,0))
section
variable {D:Nat} {w W W':World} {b s:Nat} {fv v:Value} {bi bo:Nat} {X:List Kn.Cr} {L:Int} {mb n n':Nat} {F F':Kn.Pl→Option Nat} {B10 B11 fc1 fs1 tc1 ts1:Nat}
theorem SlR.now(h:SlR D w W b s fv v bi bo X L mb n F B10 B11 fc1 fs1 tc1 ts1):NowMap W mb n F:=h.sv.now
theorem SlR.new(h:SlR D w W b s fv v bi bo X L mb n F B10 B11 fc1 fs1 tc1 ts1)(k:New W W'):SlR D w W' b s fv v bi bo X L mb n F B10 B11 fc1 fs1 tc1 ts1:=⟨h.sv.nw k,k.blk h.b10 fun x=>x,k.blk h.b11 fun x=>x⟩
theorem SlR.upd(h:SlR D w W b s fv v bi bo X L mb n F B10 B11 fc1 fs1 tc1 ts1)(hn:NowMap W' mb n' F')(hF:Fr (fun k=>k=mb) W W'):SlR D w W' b s fv v bi bo X L mb n' F' B10 B11 fc1 fs1 tc1 ts1:=by
 obtain⟨es,ck,hb⟩:=h.sv.now.block
 have hne:∀{B t:Nat} {cs:Array Value},W.heap[B]?=some (.cells cs t (0,0))→¬B=mb:=fun hB e=>by subst e;rw[hB]at hb;cases hb
 exact⟨h.sv.upd hn hF,hF.blk h.b10 (hne h.b10),hF.blk h.b11 (hne h.b11)⟩
theorem SlR.sls(h:SlR D w W b s fv v bi bo X L mb n F B10 B11 fc1 fs1 tc1 ts1):SlS W b s B10 B11 fc1 fs1 tc1 ts1:=by
 obtain⟨k0,k1,_⟩:=box2_c h.b10;obtain⟨q0,q1,_⟩:=box2_c h.b11
 exact⟨(box2_c h.sv.bw.blk).1,k0,k1,q0,q1⟩
theorem SlR.part(h:SlR D w W b s fv v bi bo X L mb n F B10 B11 fc1 fs1 tc1 ts1)(hF:Fr (fun k=>k=mb) W W'):SlS W' b s B10 B11 fc1 fs1 tc1 ts1:=by
 obtain⟨es,ck,hb⟩:=h.sv.now.block
 have hne:∀{B t:Nat} {cs:Array Value},W.heap[B]?=some (.cells cs t (0,0))→¬B=mb:=fun hB e=>by subst e;rw[hB]at hb;cases hb
 obtain⟨k0,k1,_⟩:=box2_c (hF.blk h.b10 (hne h.b10));obtain⟨q0,q1,_⟩:=box2_c (hF.blk h.b11 (hne h.b11))
 exact⟨(box2_c (hF.blk h.sv.bw.blk (hne h.sv.bw.blk))).1,k0,k1,q0,q1⟩
end
def CutFT(w:World)(fc1 fs1 tc1 ts1:Nat)(s10 s11:Value)(wx:World):Prop:=∃B10 B11,s10=.pointer (some ⟨B10,0,none⟩)∧s11=.pointer (some ⟨B11,0,none⟩)∧New w wx∧wx.heap[B10]?=some (.cells #[.int .i64 (fc1:Nat),.int .i64 (fs1:Nat)] 104 (0,0))∧wx.heap[B11]?=some (.cells #[.int .i64 (tc1:Nat),.int .i64 (ts1:Nat)] 104 (0,0))
end Go.Proofs.YtlicglicfijelaaGreat

/- Walks: words for slide's last loop: what the map tells is laid. -/
namespace Go.Proofs.YtlicglicfijelaaGreat
open Go.RowKit
open Go.Maps (Keyed)

structure SlZ(X Z:List Kn.Cr)(f:Kn.Pl→Option Nat)(left:Lit→Bool):Prop where
 len:Z.length=X.length
 fl:∀c,c<X.length→(Kn.cr Z c).p=(Kn.cr X c).p
 lay:∀p kl,Kn.isPl X p→keyOf Tryz.prog 104 (plV p)=some kl→Kn.at_ Z p=match f p with|some v=>if left kl then Kn.at_ X p else((v:Nat):Int)|none=>Kn.at_ X p
theorem SlZ.start(X:List Kn.Cr){f:Kn.Pl→Option Nat}{DD:DataW Unit}(hd:NowD DD f):SlZ X X f (Go.Maps.has DD):=⟨rfl,fun _ _=>rfl,fun p kl _ hk=>by
 have h:=hd.has p kl hk
 cases e:f p with
 |none=>rfl
 |some v=>rw[e]at h;show Kn.at_ X p=if Go.Maps.has DD kl then _ else _;rw[h];rfl⟩
theorem SlZ.step{X Z:List Kn.Cr}{f:Kn.Pl→Option Nat}{left:Lit→Bool}(h:SlZ X Z f left){p:Kn.Pl}{kl:Lit}{v:Nat}(hk:keyOf Tryz.prog 104 (plV p)=some kl)(hp:Kn.isPl X p)(hv:f p=some v):
 SlZ X (Kn.putA Z p (v:Nat)) f (fun z=>left z && !z.sameKey kl):=by
 have hpz:Kn.isPl Z p:=⟨by rw[h.len];exact hp.1,hp.2⟩
 refine⟨by rw[Kn.putA_len,h.len],fun c hc=>?_,fun q k hq hkq=>?_⟩
 · rw[←h.fl c hc,Kn.cr_putA hpz]
   split
   · rename_i e;subst e;exact Kn.setA_p _ _ _
   · rfl
 · rw[Kn.at_putA hpz hq.2]
   by_cases e:q=p
   · subst e
     rw[hk]at hkq;cases hkq
     rw[if_pos rfl,hv]
     show ((v:Nat):Int)=if (left kl && !kl.sameKey kl)=true then _ else _
     rw[Go.WideAt.sameKey_self (Tryz.law104.key hk)]
     simp
   · rw[if_neg e,h.lay q k hq hkq]
     have ne:¬k=kl:=fun e'=>e (plV_inj (Tryz.law104.inj (e' ▸ hkq) hk))
     show _=match f q with|some v=>if (left k && !k.sameKey kl)=true then _ else _|none=>_
     rw[Go.Maps.sameKey_ne ne]
     simp
theorem SlZ.done{X Z:List Kn.Cr}{D:Nat→Kn.Dt}{es:List Nat}{left:Lit→Bool}(h:SlZ X Z (nowF X es) left)(hl:∀kl,left kl=false)(ht:Kn.Tri X D)(he:Kn.IsEs D es)(h16:X.length≤16):Z=Kn.slideL X es:=by
 refine slide_done ht he h.len h.fl fun p hp=>?_
 obtain⟨kl,hk⟩:=plKey p (Nat.lt_of_lt_of_le hp.1 h16) hp.2;rw[h.lay p kl hp hk]
 cases nowF X es p with
 |none=>rfl
 |some v=>show (if left kl=true then _ else _)=_;rw[hl kl];rfl

structure SlW(D:Nat)(w W:World)(b s:Nat)(fv v:Value)(bi bo:Nat)(X Z:List Kn.Cr)(L:Int)(mb r n:Nat)(F:Kn.Pl→Option Nat)(DD:DataW Unit)(left:Lit→Bool)(cnt:Nat):Prop where
 bw:BW D W b s fv v bi bo X Z L
 z:SlZ X Z F left
 rg:W.ranges Tryz.prog 104 (plainElem Tryz.prog 3) mb r n DD left cnt
 now:NowD DD F
 sub:∀kl,left kl=true→Go.Maps.has DD kl=true
 fr:Fr (fun k=>D≤k) w W
 lr:D≤r
theorem ranges_fr{S:Nat→Prop}{W W':World}{mb r n:Nat}{DD:DataW Unit}{left:Lit→Bool}{cnt:Nat}(h:W.ranges Tryz.prog 104 (plainElem Tryz.prog 3) mb r n DD left cnt)(hF:Fr S W W')(h1:¬S mb)(h2:¬S r):W'.ranges Tryz.prog 104 (plainElem Tryz.prog 3) mb r n DD left cnt:=by
 have k1:=h.owns.lt;have k2:=h.lt;obtain⟨es,clock,since,seen,c0,hb,F,hs,hD,hr,rest⟩:=h
 exact⟨es,clock,since,seen,c0,(hF.block mb k1 h1).trans hb,F,hs,hD,(hF.block r k2 h2).trans hr,rest⟩
theorem own_not_iter{W:World}{base e sz n r:Nat}{v:Value}{xs:List Value}{o:Option Nat}{a c:Nat}{sn:Array Nat}(h:W.ownsRow base e sz v n xs)(hm:W.heap[r]?=some (.mapIter o a sn c)):∀k,v.ownBlock=some k→¬k=r:=by
 intro k hk e'
 subst e';obtain⟨o,ho,hc⟩:=own_cells h k hk;rw[hm]at ho
 cases ho;cases hc
section
variable {D:Nat} {w W W':World} {b s:Nat} {fv v:Value} {bi bo:Nat} {X Z:List Kn.Cr} {L:Int} {mb r n:Nat} {F:Kn.Pl→Option Nat} {DD:DataW Unit} {left:Lit→Bool} {cnt:Nat}
theorem BW.kept_iter{o:Option Nat}{a c:Nat}{sn:Array Nat}(h:BW D W b s fv v bi bo X Z L)(hF:Fr (fun k=>k=r) W W')(hr:W.heap[r]?=some (.mapIter o a sn c)):BW D W' b s fv v bi bo X Z L:=by
 have hn:∀{B t:Nat} {cs:Array Value},W.heap[B]?=some (.cells cs t (0,0))→¬B=r:=fun hb e=>by subst e;rw[hb]at hr;cases hr
 refine⟨hF.blk h.blk (hn h.blk),hF.blk h.shb (hn h.shb),hF.owns h.own (fun k hk e=>by subst e;exact own_not_iter h.own hr _ hk rfl),hF.row h.ri ?_,hF.row h.ro ?_,h.ne,h.lb,h.ls⟩
 · obtain⟨cs,h1,_⟩:=h.ri;exact hn h1
 · obtain⟨cs,h1,_⟩:=h.ro;exact hn h1
theorem SlW.nw(h:SlW D w W b s fv v bi bo X Z L mb r n F DD left cnt)(k:New W W'):SlW D w W' b s fv v bi bo X Z L mb r n F DD left cnt:=
 ⟨h.bw.new k,h.z,ranges_fr h.rg k (fun x=>x) (fun x=>x),h.now,h.sub,h.fr.trans (k.mono fun _ x=>x.elim),h.lr⟩
theorem SlW.turn(h:SlW D w W b s fv v bi bo X Z L mb r n F DD left cnt)(hF:Fr (fun k=>k=r) W W'):BW D W' b s fv v bi bo X Z L∧Fr (fun k=>D≤k) w W':=by
 obtain⟨es,clock,since,seen,c0,_,_,_,_,hr,_⟩:=h.rg
 exact⟨h.bw.kept_iter hF hr,h.fr.trans (hF.mono fun k e=>by rw[e];exact h.lr)⟩
end
theorem ranges_row{base e sz m:Nat}{xs:List Value}{g c N:Nat}{W W':World}{mb r n:Nat}{DD:DataW Unit}{left:Lit→Bool}{cnt:Nat}(h:W.ranges Tryz.prog 104 (plainElem Tryz.prog 3) mb r n DD left cnt)(ho:W.ownsRow base e sz (.slice (some ⟨g,0,none⟩) N c) m xs)(hF:Fr (fun k=>k=g) W W'):W'.ranges Tryz.prog 104 (plainElem Tryz.prog 3) mb r n DD left cnt:=by
 refine ranges_fr h hF (fun e=>?_) (fun e=>?_)
 · obtain⟨es,clock,_,_,_,hb,_⟩:=h
   exact own_not_map ho hb g rfl e.symm
 · obtain⟨es,clock,since,seen,c0,_,_,_,_,hr,_⟩:=h
   exact own_not_iter ho hr g rfl e.symm
section
variable {w:World} {ops:Array Oper} {rest:List Oper} {o:Oper} {a:Act} {Q:Exit→Act→World→Prop}
theorem wpList_next_now(hg:o.guard=none)(it:Operand)(hop:o.op=Op.next it false)(mb r n:Nat)(DD:DataW Unit)(f:Kn.Pl→Option Nat)(left:Lit→Bool)(cnt:Nat)
 (hit:a.eval it=.pointer (some ⟨r,0,none⟩)) (h:w.ranges Tryz.prog 104 (plainElem Tryz.prog 3) mb r n DD left cnt) (hd:NowD DD f) (hsub:∀kl,left kl=true→Go.Maps.has DD kl=true)
 (hDone:(∀kl,left kl=false)→wpList Tryz.prog ops Q rest (a.put o.dst (.tuple #[.bool false])) w)
 (hMore:∀(pc ps v:Nat) (kl:Lit) (w':World) (cnt':Nat),keyOf Tryz.prog 104 (plV (pc,ps))=some kl→f (pc,ps)=some v→w'.ranges Tryz.prog 104 (plainElem Tryz.prog 3) mb r n DD (fun z=>left z && !z.sameKey kl) cnt'→cnt'<cnt →
  Fr (fun k=>k=r) w w'→(Instr.entry (.pointer (some ⟨r,0,none⟩))).run Tryz.prog w'=.ok (.tuple #[.agg #[.int .i64 (pc:Nat),.int .i64 (ps:Nat)],.int .i64 (v:Nat)]) w' →
  wpList Tryz.prog ops Q rest (a.put o.dst (.tuple #[.bool true,.agg #[.int .i64 (pc:Nat),.int .i64 (ps:Nat)],.int .i64 (v:Nat)])) w'):
 wpList Tryz.prog ops Q (o :: rest) a w:=by
 refine wpList_next_ranges w hg it hop 104 Tryz.law104 (plainElem Tryz.prog 3) id id (fun key _ _=>⟨key,rfl⟩) (fun v _ _=>⟨v,rfl⟩) mb r n DD left cnt hit h (fun _ hl=>hDone hl) ?_
 intro x c kl y w' cnt' hk hl hR hat hrg hlt hgr _ hen
 obtain⟨⟨pc,ps⟩,hkp,hs⟩:=hd.key kl (hsub kl hl);obtain⟨v,hv⟩:=Option.isSome_iff_exists.1 hs;have ex:x=plV (pc,ps):=Tryz.law104.inj hk hkp;obtain⟨cc,ec,ey,_⟩:=plainElem_int_inv Tryz.underlying3 hR;have e1:=hat (.lit (.int .i64 0));rw[hd.val _ kl v hkp hv,ey]at e1
 have e2:((v:Nat):Int)=cc:=by cases e1;rfl
 have ec':c=.int .i64 (v:Nat):=by rw[e2];exact ec
 subst ex ec'
 exact hMore pc ps v kl w' cnt' hkp hv hrg hlt ⟨hgr.os,hgr.tape,hgr.output,hgr.size,fun i hi hne=>hgr.block i hi (fun e=>hne (Option.some.inj e))⟩ hen
end
end Go.Proofs.YtlicglicfijelaaGreat
