/- Walks: the keys of a row of bits; the least of them. -/
import Derived.Test.YtfplmbmenjdlhaaGreatDoorJ2
namespace Go.Proofs
open Go.Shelf
def Tryz.E5:Go.Shelf.Ren:=⟨fun|7=>53|10=>83|n=>n,fun|23=>86|26=>3|3=>4|28=>106|0=>0|27=>105|33=>146|4=>4|n=>n,fun|n=>n⟩
theorem Tryz.aax:Go.Proofs.SlLaysZI.n7 Tryz.prog Tryz.E5:={
 mixed:=by kernel_rfl
 f7:=⟨Tryz.f53.name,by decide,Tryz.func53.trans (congrArg some (by kernel_rfl))⟩
 f10:=⟨Tryz.f83.name,by decide,Tryz.func83.trans (congrArg some (by kernel_rfl))⟩
 t0:=Tryz.underlying0
 a0:=Tryz.isAgg0
 z0:=Tryz.sizeOf0
 v0:=Tryz.zeroValue0
 t4:=Tryz.underlying4
 a4:=Tryz.isAgg4
 z4:=Tryz.sizeOf4
 v4:=Tryz.zeroValue4
 t23:=Tryz.underlying86
 a23:=Tryz.isAgg86
 z23:=Tryz.sizeOf86
 v23:=Tryz.zeroValue86
 t26:=Tryz.underlying3
 a26:=Tryz.isAgg3
 z26:=Tryz.sizeOf3
 v26:=Tryz.zeroValue3
 t27:=Tryz.underlying105
 a27:=Tryz.isAgg105
 z27:=Tryz.sizeOf105
 v27:=Tryz.zeroValue105
 t28:=Tryz.underlying106
 a28:=Tryz.isAgg106
 z28:=Tryz.sizeOf106
 v28:=Tryz.zeroValue106
 t33:=Tryz.underlying146
 a33:=Tryz.isAgg146
 z33:=Tryz.sizeOf146
 v33:=Tryz.zeroValue146 }
end Go.Proofs
namespace Go.Proofs.YtfplmbmenjdlhaaGreatDoor
open Go.RowKit Go.Maps Go.Sort Go.Shelf
open Fence (wide)
open Lib (minOf)
open Maps (size)
open Go.Proofs.Tryz (prog underlying3)
variable {D:DataW Value} {Q:List (Nat×Nat)} {ks:List Nat} {U k lo n x:Nat} {v:Nat->Bool} {W w:World}
theorem Qt(mb:Option Nat)(W:World):Calls prog 53 #[.map mb] W λe w'=>e=.returned (.func (.func 83) #[] #[.pointer (some ⟨W.heap.size,0,none⟩)])/\w'=W.alloc (.cells #[.map mb] 86):=
 (callsIn_wide (n:=5)).1 (AnyZI.keys_in Tryz.aax wide 5 trivial rfl mb W)
def ae3(D:DataW Value)(w:World)(e:Ending)(w':World):Prop:=
 ∃(v:Value) (ss:List Int),e=.returned v/\ss.Perm (intKeys D)/\w'.ownsRow w.heap.size 3 1 v ss.length (ss.map encZ)/\Below w.heap.size w w'
theorem VK(b nn:Nat)(D0:DataW Value)(w:World)(hown:w.ownsMap prog 3 hE b nn D0)(adp:size D0<=maxLen)(hbytes:size D0*8<=140737488355328):
 Calls prog 52 #[.func (.func 83) #[] #[.pointer (some ⟨w.heap.size,0,none⟩)]] (w.alloc (.cells #[.map (some b)] 86)) (ae3 D0 (w.alloc (.cells #[.map (some b)] 86))):=by
 have hbl:=hown.lt
 have hseq:SeqGives wide 3 prog 83 #[.pointer (some ⟨w.heap.size,0,none⟩)] encZ (λss=>ss.Perm (intKeys D0)) (size D0) (w.alloc (.cells #[.map (some b)] 86)):=
  AnyZI.keys_gives (ρ:=Tryz.E5) { Tryz.aax with } wide _ trivial rfl (by omega) w.heap.size b nn D0 (R:=hE) _ (by simp) (by simp) (by
   obtain⟨es,clock,hb,Ft,hs,hD⟩:=hown
   exact⟨es,clock,(Below.heap_alloc _ _ b hbl).trans hb,Ft,hs,hD⟩)
 have cS:=AnyZI.collect_in (ρ:=Tryz.sortedA_ren) { Tryz.sortedA with } wide 5 trivial trivial rfl (by omega) 83 #[.pointer (some ⟨w.heap.size,0,none⟩)] trivial (enters_of Tryz.func83 (by kernel_rfl) rfl) _ _ adp hbytes _ hseq;change CallsIn _ _ prog 52 _ _ _ at cS;refine((callsIn_wide (n:=5)).1 cS).mono ?_;rintro e w' ⟨v,ss,rfl,hS,hrow,hnil,hb⟩;exact⟨v,ss,rfl,hS,hrow,hb⟩
theorem Uj(a:Option Addr)(n c:Nat)(zs:List Int)(w:World)(h:mN w a zs)(hn:n=zs.length)(h0:zs≠[])(hb:n<=9223372036854775807):
 Calls prog 51 #[.slice a n c] w λe w'=>e=.returned (.int .i64 (minOf zs))/\w'=w:=by
 subst hn
 rcases h with rfl|⟨b,o,rfl,hc⟩
 · exact absurd rfl h0
 have:=Tryz.slices_Min_int b o zs.length c zs w (List.length_pos_iff.2 h0) (jH _) hb hc
 rw[List.take_length]at this;exact this
theorem foldl_min:∀(l:List Int) (a:Int),l.foldl min a<=a/\(∀x∈l,l.foldl min a<=x)/\(l.foldl min a=a\/l.foldl min a∈l)
 |[],a=>⟨Int.le_refl _,λ_ h=>(by cases h),.inl rfl⟩
 |b :: l,a=>by
  obtain⟨h1,h2,h3⟩:=foldl_min l (min a b);rw[List.foldl_cons];refine⟨by omega,λx hx=>?_,?_⟩
  · rcases jy.1 hx with rfl|hx
    · omega
    exact h2 x hx
  rcases h3 with h3|h3
  · rw[h3]
    rcases (show min a b=a\/min a b=b by omega)with e|e
    · exact .inl e
    right;rw[e];simp
  right;simp[h3]
theorem Uk{l:List Int}(h:l≠[]):minOf l∈l/\∀x∈l,minOf l<=x:=by
 cases l with
 |nil=>exact absurd rfl h
 |cons a l=>
  have e:minOf (a :: l)=(a :: l).foldl min a:=rfl;rw[e];obtain⟨h1,h2,h3⟩:=foldl_min (a :: l) a;exact⟨by rcases h3 with h3|h3;rw[h3];simp;exact h3,h2⟩
theorem Ae{b n:Nat}(ho:w.ownsMap prog 3 hE b n D):(∀x,x∈intKeys D↔Maps.has D (.int .i64 x)=true)/\(intKeys D).length=size D:=by
 obtain⟨es,hD,hpw,_⟩:=ho.entries iW;obtain⟨es',hD',hko⟩:=ho.keysOf
 obtain rfl:es=es':=by rw[hD]at hD';simpa using hD'
 subst hD
 have hk:∀p∈es,∃x,p.1=.int .i64 x:=λp hp=>by obtain⟨v,hv⟩:=hko p hp;obtain⟨x,_,hx,_⟩:=Maps.keyOf_i64 underlying3 hv;exact⟨x,hx⟩
 refine⟨λx=>?_,?_⟩
 · rw[Maps.has_eq,List.any_eq_true]
   show x∈(es.map λp=>Go.intOf p.1)↔_
   rw[jv];constructor
   · rintro⟨p,DS,rfl⟩
     obtain⟨a,ha⟩:=hk p DS;exact⟨p,DS,by rw[ha];simp[Lit.sameKey,Go.intOf]⟩
   rintro⟨p,DS,hs⟩;obtain⟨a,ha⟩:=hk p DS;rw[ha]at hs;exact⟨p,DS,by rw[ha];simpa[Lit.sameKey,Go.intOf]using hs⟩
 show (es.map λp=>Go.intOf p.1).length=_
 rw[jA,Maps.size_eq]
theorem XU{mb:Nat}(ho:w.ownsMap prog 3 hE mb n D)(hd:GD 3 KV Qf D (vU v) ks)(h0:0<ks.length){ss:List Int}(hp:ss.Perm (intKeys D)):
 ss≠[]/\∃lo:Nat,minOf ss=(lo:Int)/\Kn.AL v lo/\lo∈ks:=by
 obtain⟨h1,h2⟩:=Ae ho
 have hl:ss.length=ks.length:=by rw[hp.length_eq,h2,hd.size]
 have hne:ss≠[]:=λe=>by rw[e]at hl;simp at hl;omega
 have iff:∀x,x∈ss↔∃k:Nat,x=(k:Int)/\k∈ks:=λx=>by
  rw[hp.mem_iff,h1];constructor
  · intro h
    obtain⟨p,wO,hk⟩:=hd.key _ h;have e:=Maps.keyOf_int_mk (P:=prog) underlying3 (a:=(p:Int)) (lg (by unfold Qf at wO;omega));have e2:(some (Lit.int .i64 (p:Int)))=some (Lit.int .i64 x):=e.symm.trans hk;have e3:(p:Int)=x:=(Lit.int.inj (Option.some.inj e2)).2;exact⟨p,e3.symm,(hd.mem p).2 (by rw[<-hd.has p _ hk];exact h)⟩
  rintro⟨k,rfl,hk⟩;have wO:=hd.okk k hk;have e:=Maps.keyOf_int_mk (P:=prog) underlying3 (a:=(k:Int)) (lg (by unfold Qf at wO;omega))
  rw[hd.has k _ e];exact(hd.mem k).1 hk
 obtain⟨m1,m2⟩:=Uk hne;obtain⟨lo,e,KZ⟩:=(iff _).1 m1
 have vk:∀k,k∈ks↔v k=true:=λk=>by
  rw[hd.mem];unfold vU;cases v k<;>simp
 refine⟨hne,lo,e,⟨(vk lo).1 KZ,λi hi=>?_⟩,KZ⟩
 cases hv:v i with
 |false=>rfl
 |true=>
  have:=m2 _ ((iff _).2 ⟨i,rfl,(vk i).2 hv⟩)
  rw[e]at this;omega
open Go.RowKit Go.Shelf
section
variable {α:Type} [DecidableEq α] {K:TypeId} {mk:α->Value} {ok:α->Prop}
omit [DecidableEq α] in
theorem dx.tight{mb:Nat}{f:α->Option Value}{ks:List α}(h:dx K mk ok W mb n f ks){T e:TypeId}(ul:prog.underlying T=some (.map K e)):dx K mk ok W mb ks.length f ks:=by
 obtain⟨D,hown,hd⟩:=h;have h1:=hown.len ul 0;obtain⟨es,clock,hb,F,hs,hD⟩:=hown;refine⟨D,⟨es,clock,hb,F,?_,hD⟩,hd⟩
 have h2:(Builtin.len_ #[T] 0 #[.map (some mb)]).run prog W=.ok (.int .i64 (es.size:Nat)) W:=by
  simp[Builtin.len_,run_underlying ul,MapKept.run_getObj_map hb,Result.andThen];rfl
 rw[h2]at h1;have:=Result.ok.inj h1;have e1:=(Value.int.inj this.1).2;rw[hd.size]at e1;omega
end
structure eV(U:Nat)(W:World)(k:Nat)(v:Nat->Bool):Prop where
 row:∃ks,Ku W k U v ks
 low:∀x,v x=true->x<U
theorem tE(h:Ku W k n v ks)(x:Nat):x∈ks↔v x=true:=by
 obtain⟨D,_,hd⟩:=h
 rw[hd.mem];unfold vU;cases v x<;>simp
theorem NU(h:Ku W k n v ks)(hU:∀x,v x=true->x<U):ks.length<=U:=by
 have nd:ks.Nodup:=by obtain⟨D,_,hd⟩:=h;exact hd.nd
 have:=Kn.tN nd (m:=List.range U) λx hx=>jw.2 (hU x ((tE h x).1 hx))
 simpa using this
theorem Ku.acj(h:Ku W k n v ks)(hU:∀x,v x=true->x<U):eV U W k v:=
 ⟨⟨ks,(dx.tight h Tryz.LS).mono (NU h hU)⟩,hU⟩
theorem eV.fr{S:Nat->Prop}{U:Nat}{W W':World}{k:Nat}{v:Nat->Bool}(h:eV U W k v)(hf:Fr S W W')(hs:¬S k):eV U W' k v:=by
 obtain⟨⟨ks,hk⟩,hl⟩:=h;exact⟨⟨ks,hk.fr hf hs⟩,hl⟩
theorem eV.lt{U:Nat}{W:World}{k:Nat}{v:Nat->Bool}(h:eV U W k v):k<W.heap.size:=by
 obtain⟨⟨ks,hk⟩,_⟩:=h;exact hk.lt
theorem eV.get(h:eV U W k v)(hx:x<1000000000):(Instr.lookup 86 (.map (some k)) (KV x) false).run prog W=.ok (.bool (v x)) W:=by
 obtain⟨⟨ks,hk⟩,_⟩:=h;have:=hk.look K7 Tryz.LS (Tryz.Yf W) (p:=x) hx
 rw[Tl]at this;exact this
open Classical in
noncomputable def Yn (U:Nat) (W:World) (k:Nat):Nat:=(List.range U).countP λi=>decide (∃j,j<=i/\(Instr.lookup 86 (.map (some k)) (KV j) false).run prog W=.ok (.bool true) W)
theorem Ke{p q:Nat->Bool}{l:List Nat}(h:∀x∈l,q x=true->p x=true){a:Nat}(ha:a∈l)(hp:p a=true)(hq:q a=false):l.countP q<l.countP p:=by
 induction l with
 |nil=>cases ha
 |cons b l ih=>
  have mono:∀m:List Nat,(∀x∈m,q x=true->p x=true)->m.countP q<=m.countP p:=λm hm=>List.countP_mono_left hm
  rw[jG,jG]
  rcases jy.1 ha with rfl|ha
  · have:=mono l λx hx=>h x (by simp[hx])
    rw[hp,hq];simp;omega
  have:=ih (λx hx=>h x (by simp[hx])) ha;have hb:=h b (by simp);cases hqb:q b
  · simp;omega
  rw[hb hqb];simp;omega
open Classical in
theorem Qq{W':World}{v':Nat->Bool}(hU:U<=1000000000)(h:eV U W k v)(h':eV U W' k v')(hl:Kn.AL v lo)(hz:∀i,i<=lo->v' i=false):Yn U W' k<Yn U W k:=by
 have a1:∀(W:World) (v:Nat->Bool),eV U W k v->∀j,j<U->((Instr.lookup 86 (.map (some k)) (KV j) false).run prog W=.ok (.bool true) W↔v j=true):=λW v h j hj=>by
  rw[h.get (x:=j) (by omega)];constructor
  · intro e
    have:=Result.ok.inj e;exact Value.bool.inj this.1
  intro e;rw[e]
 have KZ:lo<U:=h.low lo hl.1;unfold Yn
 refine Ke (a:=lo) (λx hx hq=>?_) (jw.2 KZ) ?_ ?_
 · have hx:=jw.1 hx
   rw[jh]at hq ⊢;obtain⟨j,hj,e⟩:=hq;have:=(a1 W' v' h' j (by omega)).1 e
   have W6:¬j<=lo:=λq=>by rw[hz j q]at this;cases this
   exact⟨lo,by omega,(a1 W v h lo KZ).2 hl.1⟩
 · rw[jh]
   exact⟨lo,jH _,(a1 W v h lo KZ).2 hl.1⟩
 rw[jF];rintro⟨j,hj,e⟩;have:=(a1 W' v' h' j (by omega)).1 e
 rw[hz j hj]at this;cases this
open Go.RowKit Go.Shelf
open Kn (dp vz wM gP AL)
def pf(Q:List (Nat×Nat)):Nat->Option Value:=λlo=>(Q.find? λq=>decide (q.1=lo)).map λq=>.map (some q.2)
theorem acw:pf []=λ_=>none:=rfl
theorem X3{lo b:Nat}(h:∀q∈Q,q.1≠lo):gD (pf Q) lo (some (.map (some b)))=pf (Q++[(lo,b)]):=funext λx=>by
 unfold gD pf;rw[List.find?_append];by_cases c:x=lo
 · subst c
   have:(Q.find? λq=>decide (q.1=x))=none:=List.find?_eq_none.2 λq hq=>by simpa using h q hq
   rw[this];simp
 rw[if_neg c]
 cases e:Q.find? λq=>decide (q.1=x)with
 |some q=>rfl
 |none=>simp[show ¬lo=x from λk=>c k.symm]
theorem X2{v:Value}(h:pf Q lo=some v):∃b,v=.map (some b)/\(lo,b)∈Q:=by
 unfold pf at h
 cases e:Q.find? λq=>decide (q.1=lo)with
 |none=>rw[e]at h;cases h
 |some q=>
  rw[e]at h;have h1:=List.find?_some e;have h2:=List.mem_of_find?_eq_some e;simp at h1;subst h1;exact⟨q.2,(Option.some.inj h).symm,h2⟩
theorem N4(h:pf Q lo=none):∀q∈Q,q.1≠lo:=λq hq e=>by
 unfold pf at h
 cases e2:Q.find? λq=>decide (q.1=lo)with
 |none=>have:=List.find?_eq_none.1 e2 q hq;simp[e]at this
 |some q'=>rw[e2]at h;cases h
structure RO(w wr:World)(pm i:Nat)(bs:List Nat)(V:Nat->Nat->Bool)(U:Nat)(Q:List (Nat×Nat))(C:Nat->Nat->Bool):Prop where
 fr:Fr (λk=>k∈bs) w wr
 pl:w.heap.size<=pm
 pmap:∃ks,dx 3 KV Qf wr pm i (pf Q) ks
 rows:∀k∈bs,eV U wr k (C k)
 same:∀j,i<=j->∀k,bs[j]?=some k->C k=V k
 el:wM ((bs.take i).map V) (Q.map λq=>(q.1,C q.2))
 qb:∀q∈Q,q.2∈bs.take i
structure RJ(w wr:World)(pm i rk:Nat)(bs:List Nat)(V:Nat->Nat->Bool)(U:Nat)(Q:List (Nat×Nat))(C:Nat->Nat->Bool)(u:Nat->Bool):Prop where
 fr:Fr (λk=>k∈bs) w wr
 pl:w.heap.size<=pm
 pmap:∃ks,dx 3 KV Qf wr pm i (pf Q) ks
 rows:∀k∈bs,eV U wr k (C k)
 same:∀j,i<j->∀k,bs[j]?=some k->C k=V k
 el:wM ((bs.take i).map V) (Q.map λq=>(q.1,C q.2))
 qb:∀q∈Q,q.2∈bs.take i
 at':bs[i]?=some rk
 cur:C rk=dp (V rk) u
 sp:gP ((Q.map λq=>(q.1,C q.2)).map (·.2)) u
section
variable {w wr wr':World} {pm i rk:Nat} {bs:List Nat} {V:Nat->Nat->Bool} {U:Nat} {Q:List (Nat×Nat)} {C:Nat->Nat->Bool} {u:Nat->Bool}
theorem RO.inner(h:RO w wr pm i bs V U Q C)(hk:bs[i]?=some rk):RJ w wr pm i rk bs V U Q C vz:=
 ⟨h.fr,h.pl,h.pmap,h.rows,λj hj=>h.same j (by omega),h.el,h.qb,hk,by rw[h.same i (jH _) rk hk];exact(Kn.tj _).symm,.z⟩
theorem yX(nd:bs.Nodup)(hk:bs[i]?=some rk)(hx:x∈bs.take i):x≠rk:=λe=>by
 subst e;have hl:=(jg.1 hk).1;rw[<-List.take_append_drop i bs]at nd
 have h2:x∈bs.drop i:=by
  rw[List.drop_eq_getElem_cons hl];have:=(jg.1 hk).2;simp[this]
 exact(jU.1 nd).2.2 x hx x h2 rfl
theorem RJ.aam(h:RJ w wr pm i rk bs V U Q C u)(hb:∀k∈bs,k<w.heap.size)(hk:k∈bs):k≠pm:=λe=>by
 have:=hb k hk;have:=h.pl;omega
theorem RJ.nw(h:RJ w wr pm i rk bs V U Q C u)(hN:New wr wr'):RJ w wr' pm i rk bs V U Q C u:=
 ⟨h.fr.next hN λ_ x=>x.elim,h.pl,by obtain⟨ks,hm⟩:=h.pmap;exact⟨ks,hm.fr hN λx=>x⟩,λk hk=>(h.rows k hk).fr hN λx=>x,h.same,h.el,h.qb,h.at',h.cur,h.sp⟩
theorem RJ.add(h:RJ w wr pm i rk bs V U Q C u)(nd:bs.Nodup)(hb:∀k∈bs,k<w.heap.size){lo pk:Nat}(hq:(lo,pk)∈Q)(hF:Fr (λk=>k=rk) wr wr')(hr:eV U wr' rk (dp (C rk) (C pk))):
 RJ w wr' pm i rk bs V U Q (λk=>if k=rk then dp (C rk) (C pk)else C k) (dp u (C pk)):=by
 have E8:rk∈bs:=List.mem_of_getElem? h.at'
 have Mo:∀q∈Q,q.2≠rk:=λq hq=>yX nd h.at' (h.qb q hq)
 have eQ:(Q.map λq=>(q.1,(λk=>if k=rk then dp (C rk) (C pk)else C k) q.2))=Q.map λq=>(q.1,C q.2):=List.map_congr_left λq hq=>by simp only;rw[if_neg (Mo q hq)]
 refine⟨h.fr.next hF λk e=>.inl (by rw[e];exact E8),h.pl,by obtain⟨ks,hm⟩:=h.pmap;exact⟨ks,hm.fr hF λe=>h.aam hb E8 e.symm⟩,λk hk=>?_,λj hj k hk=>?_,by rw[eQ];exact h.el,h.qb,h.at',?_,by rw[eQ];exact h.sp.plus (jv.2 ⟨(lo,pk),hq,rfl⟩)⟩
 · by_cases e:k=rk
   · subst e;rw[if_pos rfl];exact hr
   rw[if_neg e];exact(h.rows k hk).fr hF e
 · rw[if_neg ?_]
   · exact h.same j hj k hk
   intro e;subst e
   have h1:(bs.take j)[i]?=some k:=by rw[List.getElem?_take_of_lt hj];exact h.at'
   exact yX nd hk (List.mem_of_getElem? h1) rfl
 simp only[if_true];rw[h.cur,Kn.fF]
theorem ux(hk:bs[i]?=some rk):bs.take (i+1)=bs.take i++[rk]:=by
 obtain⟨hl,e⟩:=jg.1 hk;rw[jq hl,e]
theorem RJ.zero(h:RJ w wr pm i rk bs V U Q C u)(hz:∀x,C rk x=false):RO w wr pm (i+1) bs V U Q C:=by
 have e:dp (V rk) u=vz:=by rw[<-h.cur];exact funext hz
 refine⟨h.fr,h.pl,by obtain⟨ks,hm⟩:=h.pmap;exact⟨ks,hm.mono (by omega)⟩,h.rows,λj hj=>h.same j (by omega),?_,λq hq=>by rw[ux h.at'];exact jx.2 (.inl (h.qb q hq))⟩;rw[ux h.at',jP];exact h.el.none h.sp e
theorem RJ.new(h:RJ w wr pm i rk bs V U Q C u)(hb:∀k∈bs,k<w.heap.size){lo:Nat}(hl:AL (C rk) lo)(hn:∀q∈Q,q.1≠lo)(hF:Fr (λk=>k=pm) wr wr')(hm:∃ks,dx 3 KV Qf wr' pm (i+1) (pf (Q++[(lo,rk)])) ks):RO w wr' pm (i+1) bs V U (Q++[(lo,rk)]) C:=by
 rw[h.cur]at hl;refine⟨h.fr.next hF λk e=>.inr (by rw[e];exact h.pl),h.pl,hm,λk hk=>(h.rows k hk).fr hF (h.aam hb hk),λj hj=>h.same j (by omega),?_,λq hq=>?_⟩
 · rw[ux h.at',jP,jP]
   have:=h.el.new h.sp hl (λt ht=>by
    obtain⟨q,hq,rfl⟩:=jv.1 ht
    exact hn q hq)
   rw[<-h.cur]at this;exact this
 rw[ux h.at']
 rcases jx.1 hq with hq|hq
 · exact jx.2 (.inl (h.qb q hq))
 rw[jB.1 hq];simp
end
end Go.Proofs.YtfplmbmenjdlhaaGreatDoor
