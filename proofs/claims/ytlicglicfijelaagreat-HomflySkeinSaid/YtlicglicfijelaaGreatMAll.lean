/- Plain mathematics of diagrams, joined: the second half. -/
import Derived.Test.YtlicglicfijelaaGreatMAlla

namespace Go.Proofs.YtlicglicfijelaaGreat.Kn

def lt(p:Pl):Nat:=2*p.1+if p.2=0 then 0 else 1
def outA(X:List Cr)(l:Nat):Pl:=((ip X l).1,((ip X l).2+2)%4)
def nxA(X:List Cr)(l:Nat):Nat:=if l<2*X.length then lt (other X (outA X l))else l
section
variable {X:List Cr}
theorem ip_one(X:List Cr)(l:Nat):(ip X l).1=l / 2:=rfl
theorem ip_even{l:Nat}(h:l%2=0):ip X l=(l / 2,0):=by unfold ip;rw[if_pos h]
theorem ip_odd{l:Nat}(h:l%2=1):ip X l=(l / 2,over (cr X (l / 2)).p):=by unfold ip;rw[if_neg (by omega)]
theorem lt_ip(l:Nat):lt (ip X l)=l:=by
 unfold lt
 rcases Nat.mod_two_eq_zero_or_one l with h|h
 · rw[ip_even h];simp only[if_true];omega
 · rw[ip_odd h];simp only[if_neg (over_pos _)];omega
theorem ip_lt{p:Pl}(hc:cm X p=true):ip X (lt p)=p:=by
 have h1:=cm_in hc;obtain⟨c,s⟩:=p
 unfold lt
 rcases h1 with h|h
 · simp only at h
   subst h;simp only[if_true];rw[ip_even (by omega)]
   congr 1;omega
 · simp only at h
   have hne:s≠0:=by rw[h];exact over_pos _
   simp only[if_neg hne];rw[ip_odd (by omega)]
   have e:(2*c+1) / 2=c:=by omega
   rw[e,←h]
where
 cm_in {p:Pl} (hc:cm X p=true):p.2=0∨p.2=over (cr X p.1).p:=by
  unfold cm Cr.comes at hc
  simpa using hc
theorem lt_lt{p:Pl}(hp:isPl X p):lt p<2*X.length:=by
 have:=hp.1
 unfold lt;split<;>omega
theorem ip_isPl{l:Nat}(h:l<2*X.length):isPl X (ip X l):=ip_pl h
theorem outA_pl{l:Nat}(h:l<2*X.length):isPl X (outA X l):=isPl_turn (ip_isPl h) 2
theorem outA_cm{l:Nat}(h:l<2*X.length):cm X (outA X l)=false:=by
 have:=cm_opp (ip_isPl h);rw[ip_cm]at this
 exact this
theorem Ok.ip_nx(h:Ok X){l:Nat}(hl:l<2*X.length):ip X (nxA X l)=other X (outA X l):=by
 unfold nxA
 rw[if_pos hl]
 refine ip_lt ?_
 rw[h.cm_other (outA_pl hl),outA_cm hl];rfl
theorem Ok.nx_pm(h:Ok X):Pm (2*X.length) (nxA X):=by
 refine⟨fun x hx=>?_,fun x hx=>?_,fun x y e=>?_⟩
 · unfold nxA;rw[if_pos hx];exact lt_lt (h.isPl_other (outA_pl hx))
 · unfold nxA;rw[if_neg (by omega)]
 · have hlt:∀x,x<2*X.length→nxA X x<2*X.length:=fun x hx=>by
    unfold nxA;rw[if_pos hx];exact lt_lt (h.isPl_other (outA_pl hx))
   by_cases hx:x<2*X.length
   · by_cases hy:y<2*X.length
     · have h1:=h.ip_nx hx
       rw[e,h.ip_nx hy]at h1;have h2:=h.other_other (outA_pl hx);rw[←h1,h.other_other (outA_pl hy)]at h2;have h3:=congrArg Prod.fst h2;have h4:=congrArg Prod.snd h2
       unfold outA at h3 h4
       simp only at h3 h4;have e5:ip X y=ip X x:=Prod.ext h3 (by have:=(ip_isPl hx).2;have:=(ip_isPl hy).2;omega)
       exact(ip_inj e5).symm
     · have:=hlt x hx
       rw[e]at this
       unfold nxA at this;rw[if_neg hy]at this
       exact absurd this hy
   · by_cases hy:y<2*X.length
     · have:=hlt y hy
       rw[←e]at this
       unfold nxA at this;rw[if_neg hx]at this
       exact absurd this hx
     · unfold nxA at e;rw[if_neg hx,if_neg hy]at e;exact e
def Ok.ar(h:Ok X)(L:Nat):Ar:=⟨X.length,nxA X,fun c=>(cr X c).p,L,h.nx_pm⟩
theorem over_cases(b:Bool):(b=true∧over b=3)∨(b=false∧over b=1):=by cases b<;>simp[over]
theorem lz_sub(f g:Nat→Int):∀l:List Nat,lz l (fun d=>f d-g d)=lz l f-lz l g
 |[]=>rfl
 |a :: l=>by rw[lz_cons,lz_cons,lz_cons,lz_sub f g l];omega
def wz(w2:List Nat)(l:Nat):Int:=if l∈w2 then 1 else 0
def zP(X:List Cr)(w2:List Nat)(p:Pl):Int:=if cm X p then wz w2 (lt p)else -wz w2 (lt (other X p))
theorem Ok.face_pot(h:Ok X)(hp:planarB X=true)(L:Nat){S:St}{w2:List Nat}(hc:∀x,x<2*X.length→((h.ar L).nS S x∈w2↔x∈w2)):
 ∃cp:Pl→Int,(∀p,isPl X p→cp (other X (p.1,(p.2+3)%4))=cp p)∧∀p,isPl X p→cp p-cp (other X p)=zP X w2 p:=by
 have hzo:∀p,isPl X p→zP X w2 p = -zP X w2 (other X p):=fun p hp=>by
  unfold zP
  rw[h.cm_other hp,h.other_other hp]
  cases cm X p<;>simp
 obtain⟨z,hz⟩:∃z:Nat→Int,∀d,z d=if d<4*X.length then zP X w2 (pl d)else 0:=⟨_,fun _=>rfl⟩
 have hzp:∀p,isPl X p→z (pk p)=zP X w2 p:=fun p hp=>by
  rw[hz,if_pos (pk_lt hp),pl_pk hp.2]
 have in_z:∀l,l<2*X.length→zP X w2 (ip X l)=wz w2 l:=fun l hl=>by
  unfold zP
  rw[ip_cm,lt_ip];rfl
 have out_z:∀l,l<2*X.length→zP X w2 (outA X l) = -wz w2 (nxA X l):=fun l hl=>by
  unfold zP
  rw[outA_cm hl,←h.ip_nx hl,lt_ip];rfl
 have blk0:∀c,c<X.length→zP X w2 (c,0)+zP X w2 (c,1)+zP X w2 (c,2)+zP X w2 (c,3)=0:=fun c hc'=>by
  have e0:ip X (2*c)=(c,0):=by rw[ip_even (by omega)];congr 1;omega
  have e1:ip X (2*c+1)=(c,over (cr X c).p):=by
   rw[ip_odd (by omega)]
   have:(2*c+1) / 2=c:=by omega
   rw[this]
  have o0:outA X (2*c)=(c,2):=by unfold outA;rw[e0];rfl
  have a1:=in_z (2*c) (by omega);have a2:=in_z (2*c+1) (by omega);have a3:=out_z (2*c) (by omega);have a4:=out_z (2*c+1) (by omega);rw[e0]at a1;rw[e1]at a2;rw[o0]at a3
  have o1:outA X (2*c+1)=(c,(over (cr X c).p+2)%4):=by unfold outA;rw[e1]
  rw[o1]at a4
  have sum:wz w2 (2*c)+wz w2 (2*c+1)=wz w2 (nxA X (2*c))+wz w2 (nxA X (2*c+1)):=by
   have b0:=hc (2*c) (by omega);have b1:=hc (2*c+1) (by omega)
   unfold Ar.nS at b0 b1
   have d0:(2*c) / 2=c:=by omega
   have d1:(2*c+1) / 2=c:=by omega
   have m0:mt (2*c)=2*c+1:=by unfold mt;rw[if_pos (by omega)]
   have m1:mt (2*c+1)=2*c:=by unfold mt;rw[if_neg (by omega)];omega
   rw[d0,m0]at b0;rw[d1,m1]at b1
   cases hS:S c with
   |true=>
    rw[hS,if_pos ⟨rfl,by show 2*c<2*X.length;omega⟩]at b0;rw[hS,if_pos ⟨rfl,by show 2*c+1<2*X.length;omega⟩]at b1;have c0:nxA X (2*c+1)∈w2↔2*c∈w2:=b0;have c1:nxA X (2*c)∈w2↔2*c+1∈w2:=b1
    unfold wz
    simp only[c0,c1]
    omega
   |false=>
    rw[hS,if_neg (by simp)]at b0 b1;have c0:nxA X (2*c)∈w2↔2*c∈w2:=b0;have c1:nxA X (2*c+1)∈w2↔2*c+1∈w2:=b1
    unfold wz
    simp only[c0,c1]
  rcases over_cases (cr X c).p with⟨_,ho⟩|⟨_,ho⟩
  · rw[ho]at a2 a4
    simp only[show (3+2)%4=1 by omega]at a4
    rw[a1,a2,a3,a4];omega
  · rw[ho]at a2 a4
    simp only[show (1+2)%4=3 by omega]at a4
    rw[a1,a2,a3,a4];omega
 obtain⟨col,c1,c2⟩:=colourZ (sig_pm X.length) h.ens_good h.ens_dis (h.flat hp) (z:=z)
  ⟨fun d hd=>by
   have hd:d<4*X.length:=Classical.byContradiction fun k=>hd (by rw[hz,if_neg k])
   obtain⟨e,he,k⟩:=h.mem_ens (isPl_pl hd)
   refine⟨e,he,?_⟩
   have:pk (pl d)=d:=by unfold pk pl;simp only;omega
   rw[this]at k
   exact k.elim (fun k=>.inl k.1) fun k=>.inr k.1,
   fun e he=>by
    obtain⟨a,ha,rfl⟩:=List.mem_map.1 he;have ha:=mem_arcs.1 ha;have p1:=h.isPl_end (io:=true) ha;have p2:=h.isPl_end (io:=false) ha
    show z (pk _) = -z (pk _)
    rw[hzp _ p1,hzp _ p2,hzo _ p1]
    have:other X (endP X true a)=endP X false a:=by
     unfold other
     rw[h.cm_end ha,h.arc_end ha];rfl
    rw[this]⟩
  (fun K hK=>by
   have key:∀m,m≤X.length→sz (4*m) (fun d=>K d*z d)=0:=by
    intro m
    induction m with
    |zero=>intro _;rfl
    |succ m ih=>
     intro hm
     have h1:=ih (by omega)
     have h2:∀s,s<4→K (m*4+s)=K (m*4):=fun s hs=>by
      have:Orb (sig X.length) (m*4) (m*4+s):=(sig_orb (by omega)).2 (by omega)
      exact this.ind (P:=fun y=>K y=K (m*4)) (fun x hx=>(hK x).trans hx) rfl
     have h3:∀s,s<4→z (m*4+s)=zP X w2 (m,s):=fun s hs=>by
      have:=hzp (m,s) ⟨hm,hs⟩
      exact this
     have h4:=blk0 m hm
     unfold sz at h1 ⊢
     rw[range_blk,lz_app,h1]
     unfold blk
     rw[lz_cons,lz_cons,lz_cons,lz_cons];have z0:=h3 0 (by omega);rw[Nat.add_zero]at z0;rw[h2 1 (by omega),h2 2 (by omega),h2 3 (by omega),z0,h3 1 (by omega),h3 2 (by omega),h3 3 (by omega)]
     have:K (m*4)*(zP X w2 (m,0)+zP X w2 (m,1)+zP X w2 (m,2)+zP X w2 (m,3))=0:=by rw[h4];simp
     simp only[Int.mul_add]at this
     show 0+(_+(_+(_+(_+lz [] _))))=_
     have:lz [] (fun d=>K d*z d)=0:=rfl
     omega
   exact key X.length (Nat.le_refl _))
 have ho:∀p,isPl X p→col (pk p)-col (pk (other X p))=zP X w2 p:=fun p hp=>by
  obtain⟨e,he,k⟩:=h.mem_ens hp;have h1:=c2 e he
  rcases k with⟨k1,k2⟩|⟨k1,k2⟩
  · rw[←k1,←k2,hzp p hp]at h1;exact h1
  · rw[←k1,←k2,hzp _ (h.isPl_other hp)]at h1
    rw[hzo p hp];omega
 refine⟨fun p=>col (pk p),fun p hp=>?_,ho⟩
 have h1:=c1 (pk p);have h0:phi (sig X.length) (ens X) (pk p)=pk (other X (p.1,(p.2+3)%4)):=h.fac_pk hp;rw[h0]at h1
 exact h1
def stepZ(X:List Cr)(S:St)(w2:List Nat)(x:Nat):Int:=if crB S w2 x then(if (if x%2=1 then(cr X (x / 2)).p else !(cr X (x / 2)).p)then -1 else 1)else 0
theorem Ok.face_step(h:Ok X)(L:Nat){S:St}{w2:List Nat}(hc:∀x,x<2*X.length→((h.ar L).nS S x∈w2↔x∈w2)){cp:Pl→Int}
 (c1:∀p,isPl X p→cp (other X (p.1,(p.2+3)%4))=cp p) (c2:∀p,isPl X p→cp p-cp (other X p)=zP X w2 p) {x:Nat} (hx:x<2*X.length):
 cp (ip X ((h.ar L).nS S x))-cp (ip X x)=stepZ X S w2 x:=by
 have in_z:∀l,l<2*X.length→zP X w2 (ip X l)=wz w2 l:=fun l hl=>by
  unfold zP
  rw[ip_cm,lt_ip];rfl
 have out_z:∀l,l<2*X.length→zP X w2 (outA X l) = -wz w2 (nxA X l):=fun l hl=>by
  unfold zP
  rw[outA_cm hl,←h.ip_nx hl,lt_ip];rfl
 obtain⟨c,hcx⟩:∃c,c=x / 2:=⟨_,rfl⟩
 have hcl:c<X.length:=by omega
 have mx:mt x<2*X.length:=mt_lt.2 hx
 have turn:∀s,s<4→cp (c,(s+3)%4)-cp (c,s)=zP X w2 (c,(s+3)%4):=fun s hs=>by
  have a1:=c1 (c,s) ⟨hcl,hs⟩;have a2:=c2 (c,(s+3)%4) ⟨hcl,Nat.mod_lt _ (by omega)⟩;simp only at a1
  omega
 have out_cp:∀s,s<4→cp (other X (c,s))=cp (c,(s+1)%4):=fun s hs=>by
  have a1:=c1 (c,(s+1)%4) ⟨hcl,Nat.mod_lt _ (by omega)⟩;simp only at a1;rw[show ((s+1)%4+3)%4=s by omega]at a1
  exact a1
 have ipn:∀l,l<2*X.length→ip X (nxA X l)=other X (outA X l):=fun l hl=>h.ip_nx hl
 have close:wz w2 ((h.ar L).nS S (mt x))=wz w2 (mt x):=by
  unfold wz
  simp only[hc (mt x) mx]
 cases hS:S c with
 |false=>
  have e:(h.ar L).nS S x=nxA X x:=by
   show (if S (x / 2)=true∧x<2*X.length then nxA X (mt x)else nxA X x)=_
   rw[←hcx,hS,if_neg (by simp)]
  have e':(h.ar L).nS S (mt x)=nxA X (mt x):=by
   show (if S (mt x / 2)=true∧mt x<2*X.length then nxA X (mt (mt x))else nxA X (mt x))=_
   rw[mt_div,←hcx,hS,if_neg (by simp)]
  rw[e']at close
  have hcr:crB S w2 x=decide (mt x∈w2):=by unfold crB;rw[←hcx,hS];simp
  rw[e,ipn x hx]
  unfold stepZ
  rw[hcr,←hcx];have a3:=in_z (mt x) mx;have a4:=out_z (mt x) mx;rw[close]at a4
  rcases Nat.mod_two_eq_zero_or_one x with m|m
  · have e0:ip X x=(c,0):=by rw[ip_even m,hcx]
    have m1:mt x%2=1:=by rw[mt_mod];omega
    have e1:ip X (mt x)=(c,over (cr X c).p):=by rw[ip_odd m1,mt_div,hcx]
    have o0:outA X x=(c,2):=by unfold outA;rw[e0];rfl
    have o1:outA X (mt x)=(c,(over (cr X c).p+2)%4):=by unfold outA;rw[e1]
    rw[e1]at a3;rw[o1]at a4;have t:=turn 0 (by omega);rw[o0,e0,out_cp 2 (by omega),m]
    rcases over_cases (cr X c).p with⟨hp,ho⟩|⟨hp,ho⟩
    · rw[ho]at a3 a4
      rw[hp];simp only[show (2+1)%4=3 by omega,show (0+3)%4=3 by omega]at t ⊢;rw[t,a3]
      unfold wz
      by_cases k:mt x∈w2<;>simp[k]
    · rw[ho]at a3 a4
      rw[hp];simp only[show (1+2)%4=3 by omega]at a4;simp only[show (2+1)%4=3 by omega,show (0+3)%4=3 by omega]at t ⊢;rw[t,a4]
      unfold wz
      by_cases k:mt x∈w2<;>simp[k]
  · have e0:ip X x=(c,over (cr X c).p):=by rw[ip_odd m,hcx]
    have m1:mt x%2=0:=by rw[mt_mod];omega
    have e1:ip X (mt x)=(c,0):=by rw[ip_even m1,mt_div,hcx]
    have o0:outA X x=(c,(over (cr X c).p+2)%4):=by unfold outA;rw[e0]
    have o1:outA X (mt x)=(c,2):=by unfold outA;rw[e1];rfl
    rw[e1]at a3;rw[o1]at a4;rw[o0,e0,out_cp _ (Nat.mod_lt _ (by omega)),m]
    rcases over_cases (cr X c).p with⟨hp,ho⟩|⟨hp,ho⟩
    · rw[ho,hp]
      have t:=turn 3 (by omega);simp only[show ((3+2)%4+1)%4=2 by omega,show (3+3)%4=2 by omega]at t ⊢;rw[t,a4]
      unfold wz
      by_cases k:mt x∈w2<;>simp[k]
    · rw[ho,hp]
      have t:=turn 1 (by omega);simp only[show ((1+2)%4+1)%4=0 by omega,show (1+3)%4=0 by omega]at t ⊢;rw[t,a3]
      unfold wz
      by_cases k:mt x∈w2<;>simp[k]
 |true=>
  have e:(h.ar L).nS S x=nxA X (mt x):=by
   show (if S (x / 2)=true∧x<2*X.length then nxA X (mt x)else nxA X x)=_
   rw[←hcx,hS,if_pos ⟨rfl,hx⟩]
  have e':(h.ar L).nS S (mt x)=nxA X x:=by
   show (if S (mt x / 2)=true∧mt x<2*X.length then nxA X (mt (mt x))else nxA X (mt x))=_
   rw[mt_div,←hcx,hS,if_pos ⟨rfl,mx⟩,mt_mt]
  rw[e']at close
  have hcr:crB S w2 x=false:=by unfold crB;rw[←hcx,hS];simp
  rw[e,ipn _ mx]
  unfold stepZ
  rw[hcr];simp only[Bool.false_eq_true,if_false];have a3:=in_z (mt x) mx;have a4:=out_z x hx;rw[close]at a4
  rcases Nat.mod_two_eq_zero_or_one x with m|m
  · have e0:ip X x=(c,0):=by rw[ip_even m,hcx]
    have m1:mt x%2=1:=by rw[mt_mod];omega
    have e1:ip X (mt x)=(c,over (cr X c).p):=by rw[ip_odd m1,mt_div,hcx]
    have o0:outA X x=(c,2):=by unfold outA;rw[e0];rfl
    have o1:outA X (mt x)=(c,(over (cr X c).p+2)%4):=by unfold outA;rw[e1]
    rw[e1]at a3;rw[o0]at a4;rw[o1,e0,out_cp _ (Nat.mod_lt _ (by omega))]
    rcases over_cases (cr X c).p with⟨_,ho⟩|⟨_,ho⟩
    · rw[ho]at a3 ⊢
      have t:=turn 0 (by omega);have t':=turn 3 (by omega);simp only[show ((3+2)%4+1)%4=2 by omega,show (0+3)%4=3 by omega,show (3+3)%4=2 by omega]at t t' ⊢
      omega
    · rw[ho]
      simp only[show ((1+2)%4+1)%4=0 by omega]
      omega
  · have e0:ip X x=(c,over (cr X c).p):=by rw[ip_odd m,hcx]
    have m1:mt x%2=0:=by rw[mt_mod];omega
    have e1:ip X (mt x)=(c,0):=by rw[ip_even m1,mt_div,hcx]
    have o0:outA X x=(c,(over (cr X c).p+2)%4):=by unfold outA;rw[e0]
    have o1:outA X (mt x)=(c,2):=by unfold outA;rw[e1];rfl
    rw[e1]at a3;rw[o0]at a4;rw[o1,e0,out_cp 2 (by omega)]
    rcases over_cases (cr X c).p with⟨_,ho⟩|⟨_,ho⟩
    · rw[ho]
      simp only[show (2+1)%4=3 by omega]
      omega
    · rw[ho]at a4 ⊢
      have t:=turn 1 (by omega);have t':=turn 0 (by omega);simp only[show (1+2)%4=3 by omega]at a4;simp only[show (2+1)%4=3 by omega,show (1+3)%4=0 by omega,show (0+3)%4=3 by omega]at t t' ⊢
      omega
theorem Ok.linked(h:Ok X)(hp:planarB X=true)(L:Nat):LK (h.ar L):=by
 intro S A B w1 w2 hW
 have hpm:=(h.ar L).nS_pm S;have hW2:=hW.cyc w2 (by simp);have hW1:=hW.cyc w1 (by simp)
 have hc:∀x,x<2*X.length→((h.ar L).nS S x∈w2↔x∈w2):=fun x _=>
  ⟨fun k=>cy_orb hW2 k (hpm.back x),fun k=>cy_closed hW2 k⟩
 obtain⟨cp,c1,c2⟩:=h.face_pot hp L hc;have hn:w1.Nodup:=word_nodup hW.nodup (by simp)
 have hp1:(w1.map ((h.ar L).nS S)).Perm w1:=inj_perm hn (fun x hx=>cy_closed hW1 hx) fun x _ y _ e=>hpm.inj x y e
 have e1:=lz_perm hp1 fun x=>cp (ip X x)
 rw[lz_map]at e1
 have e2:lz w1 (fun x=>cp (ip X ((h.ar L).nS S x))-cp (ip X x))=lz w1 (stepZ X S w2):=lz_congr fun x hx=>by
  have hx2:x<2*X.length:=hW.mem.1 (by simp[hx])
  exact h.face_step L hc c1 c2 hx2
 rw[lz_sub,e1,Int.sub_self]at e2
 have e3:∀l:List Nat,lz l (stepZ X S w2)=((l.countP fun x=>crB S w2 x && !sgl (h.ar L) x:Nat):Int)-((l.countP fun x=>crB S w2 x&&sgl (h.ar L) x:Nat):Int):=by
  intro l
  induction l with
  |nil=>rfl
  |cons a l ih=>
   rw[lz_cons,ih,List.countP_cons,List.countP_cons]
   unfold stepZ
   have es:sgl (h.ar L) a=if a%2=1 then(cr X (a / 2)).p else !(cr X (a / 2)).p:=rfl
   rw[←es]
   cases crB S w2 a<;>cases sgl (h.ar L) a<;>simp<;>omega
 rw[e3]at e2
 omega
end
end Go.Proofs.YtlicglicfijelaaGreat.Kn

namespace Go.Proofs.YtlicglicfijelaaGreat.Kn

inductive Via(dead:Nat→Bool)(f:Nat→Nat):Nat→Nat→Prop
 |one {x:Nat}:dead (f x)=false→Via dead f x (f x)
 |more {x y:Nat}:dead (f x)=true→Via dead f (f x) y→Via dead f x y
section
variable {dead:Nat→Bool} {f:Nat→Nat}
theorem Via.live{x y:Nat}(h:Via dead f x y):dead y=false:=by
 induction h with
 |one h=>exact h
 |more _ _ ih=>exact ih
theorem Via.uniq{x y:Nat}(h:Via dead f x y):∀{z:Nat},Via dead f x z→y=z:=by
 induction h with
 |one h=>
  intro z k
  cases k with
  |one _=>rfl
  |more k _=>rw[h]at k;cases k
 |more h _ ih=>
  intro z k
  cases k with
  |one k=>rw[k]at h;cases h
  |more _ k=>exact ih k
theorem Via.orb{x y:Nat}(h:Via dead f x y):Orb f x y:=by
 induction h with
 |one _=>exact Orb.one f _
 |more _ _ ih=>exact(Orb.one f _).trans ih
theorem Via.congr{f':Nat→Nat}(hd:∀y,dead y=true→f' y=f y){x z:Nat}(h:Via dead f x z):∀{x':Nat},f' x'=f x→Via dead f' x' z:=by
 induction h with
 |one h=>
  intro x' e
  rw[←e]
  exact .one (by rw[e];exact h)
 |more h _ ih=>
  intro x' e
  refine .more (by rw[e];exact h) ?_
  rw[e]
  exact ih (hd _ h)
theorem Via.pre{x z:Nat}(h:Via dead f x z):(dead (f x)=false∧z=f x)∨(dead (f x)=true∧Via dead f (f x) z):=by
 cases h with
 |one k=>exact .inl ⟨k,rfl⟩
 |more k k'=>exact .inr ⟨k,k'⟩
end

structure Emb(A Z:Ar)(e r:Nat→Nat)(dead:Nat→Bool):Prop where
 lt:∀l,l<2*Z.n→e l<2*A.n
 mt:∀l,l<2*Z.n→e (mt l)=mt (e l)
 re:∀l,l<2*Z.n→r (e l)=l
 live:∀l,l<2*Z.n→dead (e l)=false
 back:∀x,x<2*A.n→dead x=false→r x<2*Z.n∧e (r x)=x
 sg:∀l,l<2*Z.n→sgl A (e l)=sgl Z l
structure Red(A Z:Ar)(e:Nat→Nat)(dead:Nat→Bool)(S T:St):Prop where
 st:∀l,l<2*Z.n→S (e l / 2)=T (l / 2)
 via:∀l,l<2*Z.n→Via dead (A.nS S) (e l) (e (Z.nS T l))
section
variable {A Z:Ar} {e r:Nat→Nat} {dead:Nat→Bool} {S T:St}
theorem Emb.inj(h:Emb A Z e r dead){l m:Nat}(hl:l<2*Z.n)(hm:m<2*Z.n)(k:e l=e m):l=m:=by rw[←h.re l hl,k,h.re m hm]
theorem Emb.div(h:Emb A Z e r dead){l m:Nat}(hl:l<2*Z.n)(hm:m<2*Z.n):e l / 2=e m / 2↔l / 2=m / 2:=by
 constructor
 · intro k
   rcases of_div k with k|k
   · rw[h.inj hl hm k]
   · rw[←h.mt m hm]at k
     rw[h.inj hl (mt_lt.2 hm) k,mt_div]
 · intro k
   rcases of_div k with rfl|rfl
   · rfl
   · rw[h.mt m hm,mt_div]
theorem Emb.dead_ne(h:Emb A Z e r dead){l y:Nat}(hl:l<2*Z.n)(hy:dead y=true):y / 2≠e l / 2:=fun k=>by
 rcases of_div k with rfl|rfl
 · rw[h.live l hl]at hy;cases hy
 · rw[←h.mt l hl,h.live _ (mt_lt.2 hl)]at hy;cases hy
theorem Red.ad(hE:Emb A Z e r dead)(h:Red A Z e dead S T){l:Nat}(hl:l<2*Z.n)(hT:T (l / 2)=false):Red A Z e dead (ad S (e l / 2)) (ad T (l / 2)):=by
 refine⟨fun m hm=>?_,fun m hm=>?_⟩
 · by_cases k:m / 2=l / 2
   · rw[k,ad_same,(hE.div hm hl).2 k,ad_same]
   · rw[ad_ne k,ad_ne fun k'=>k ((hE.div hm hl).1 k')]
     exact h.st m hm
 · have hd:∀y,dead y=true→A.nS (Kn.ad S (e l / 2)) y=A.nS S y:=fun y hy=>A.nS_ad_ne (hE.dead_ne hl hy)
   by_cases k:m / 2=l / 2
   · have k':=(hE.div hm hl).2 k
     have hTm:T (m / 2)=false:=by rw[k];exact hT
     have e1:Z.nS (Kn.ad T (l / 2)) m=Z.nS T (Kn.mt m):=by rw[←k];exact Z.nS_ad hTm hm
     have e2:A.nS (Kn.ad S (e l / 2)) (e m)=A.nS S (e (Kn.mt m)):=by
      rw[←k',A.nS_ad (by rw[h.st m hm];exact hTm) (hE.lt m hm),hE.mt m hm]
     rw[e1]
     exact(h.via (Kn.mt m) (mt_lt.2 hm)).congr hd e2
   · rw[Z.nS_ad_ne k]
     exact(h.via m hm).congr hd (A.nS_ad_ne fun k'=>k ((hE.div hm hl).1 k'))
theorem Red.orb(hE:Emb A Z e r dead)(h:Red A Z e dead S T){l m:Nat}(hl:l<2*Z.n)(hm:m<2*Z.n):Orb (A.nS S) (e l) (e m)↔Orb (Z.nS T) l m:=by
 constructor
 · intro k
   have key:∀{y:Nat},Orb (A.nS S) (e l) y→(dead y=false∧∃l',l'<2*Z.n∧Orb (Z.nS T) l l'∧y=e l')∨(dead y=true∧∃l',l'<2*Z.n∧Orb (Z.nS T) l l'∧Via dead (A.nS S) y (e (Z.nS T l'))):=by
    intro y k
    refine k.ind (P:=fun y=>(dead y=false∧∃l',l'<2*Z.n∧Orb (Z.nS T) l l'∧y=e l')∨(dead y=true∧∃l',l'<2*Z.n∧Orb (Z.nS T) l l'∧Via dead (A.nS S) y (e (Z.nS T l')))) (fun x hx=>?_) ?_
    · have:∃l',l'<2*Z.n∧Orb (Z.nS T) l l'∧Via dead (A.nS S) x (e (Z.nS T l')):=by
       rcases hx with⟨_,l',h1,h2,h3⟩|⟨_,l',h1,h2,h3⟩
       · exact⟨l',h1,h2,by rw[h3];exact h.via l' h1⟩
       · exact⟨l',h1,h2,h3⟩
      obtain⟨l',h1,h2,h3⟩:=this
      rcases h3.pre with⟨k1,k2⟩|⟨k1,k2⟩
      · exact .inl ⟨k1,Z.nS T l',(Z.nS_pm T).lt _ h1,h2.trans (Orb.one _ _),k2.symm⟩
      · exact .inr ⟨k1,l',h1,h2,k2⟩
    · exact .inl ⟨hE.live l hl,l,hl,Orb.refl _ _,rfl⟩
   rcases key k with⟨_,l',h1,h2,h3⟩|⟨k1,_⟩
   · rw[hE.inj hm h1 h3];exact h2
   · rw[hE.live m hm]at k1;cases k1
 · intro k
   exact(k.ind (P:=fun m=>m<2*Z.n∧Orb (A.nS S) (e l) (e m)) (fun x hx=>⟨(Z.nS_pm T).lt _ hx.1,hx.2.trans (h.via x hx.1).orb⟩) ⟨hl,Orb.refl _ _⟩).2
theorem Ar.k_ad(A:Ar){S:St}{l:Nat}(hl:l<2*A.n)(hS:S (l / 2)=false):
 (Orb (A.nS S) l (mt l)→A.k S+1=A.k (ad S (l / 2)))∧(¬Orb (A.nS S) l (mt l)→A.k (ad S (l / 2))+1=A.k S):=by
 have hpm:=A.nS_pm S
 have e:A.nS (ad S (l / 2))=fun x=>swp (A.nS S l) (A.nS S (mt l)) (A.nS S x):=funext fun x=>by
  by_cases c:x / 2=l / 2
  · rcases of_div c with rfl|rfl
    · rw[swp_a,A.nS_ad hS hl]
    · rw[swp_b,A.nS_ad' hS hl]
  · rw[A.nS_ad_ne c,swp_ne]
    · exact fun k=>c (by rw[hpm.inj _ _ k])
    · exact fun k=>c (by rw[hpm.inj _ _ k,mt_div])
 have o:Orb (A.nS S) (A.nS S l) (A.nS S (mt l))↔Orb (A.nS S) l (mt l):=
  ⟨fun k=>((Orb.one _ l).trans k).trans (hpm.back _),fun k=>((hpm.back l).trans k).trans (Orb.one _ _)⟩
 have hne:A.nS S l≠A.nS S (mt l):=fun k=>mt_ne l (hpm.inj _ _ k).symm
 have h1:=hpm.lt l hl;have h2:=hpm.lt (mt l) (mt_lt.2 hl)
 unfold Ar.k
 rw[e]
 constructor
 · intro k
   have:=cl_part hpm h1 h2 hne (o.2 k)
   omega
 · intro k
   have:=cl_join hpm h1 h2 fun k'=>k (o.1 k')
   omega

def fw(dead:Nat→Bool)(r:Nat→Nat)(w:List Nat):List Nat:=(w.filter fun x=>!dead x).map r
def fil(dead:Nat→Bool)(r:Nat→Nat)(ws:List (List Nat)):List (List Nat):=(ws.map (fw dead r)).filter fun w=>!w.isEmpty
theorem fw_app(u v:List Nat):fw dead r (u++v)=fw dead r u++fw dead r v:=by unfold fw;rw[List.filter_append,List.map_append]
theorem fil_app(u v:List (List Nat)):fil dead r (u++v)=fil dead r u++fil dead r v:=by unfold fil;rw[List.map_append,List.filter_append]
theorem fil_cons(w:List Nat)(ws:List (List Nat)):fil dead r (w :: ws)=if fw dead r w=[]then fil dead r ws else fw dead r w :: fil dead r ws:=by
 unfold fil
 rw[List.map_cons,List.filter_cons]
 cases c:fw dead r w<;>simp
theorem fil_flat:∀ws:List (List Nat),(fil dead r ws).flatten=fw dead r ws.flatten
 |[]=>rfl
 |w :: ws=>by
  rw[fil_cons,List.flatten_cons,fw_app,←fil_flat ws]
  by_cases c:fw dead r w=[]
  · rw[if_pos c,c];rfl
  · rw[if_neg c];rfl
theorem fil_ne{ws:List (List Nat)}{w:List Nat}(h:w∈fil dead r ws):w≠[]:=by
 unfold fil at h
 have:=(List.mem_filter.1 h).2
 intro e;subst e;simp at this
theorem fil_split{X Y:List (List Nat)}{w':List Nat}:∀{ws:List (List Nat)},fil dead r ws=X++w' :: Y→∃WX w WY,ws=WX++w :: WY∧fil dead r WX=X∧fw dead r w=w'∧fil dead r WY=Y
 |[],h=>by
  have h:[]=X++w' :: Y:=h
  simp at h
 |v :: ws,h=>by
  rw[fil_cons]at h
  by_cases c:fw dead r v=[]
  · rw[if_pos c]at h
    obtain⟨WX,w,WY,h1,h2,h3,h4⟩:=fil_split h
    exact⟨v :: WX,w,WY,by rw[h1];rfl,by rw[fil_cons,if_pos c,h2],h3,h4⟩
  · rw[if_neg c]at h
    cases X with
    |nil=>
     injection h with h1 h2
     exact⟨[],v,ws,rfl,rfl,h1,h2⟩
    |cons x X=>
     injection h with h1 h2
     obtain⟨WX,w,WY,k1,k2,k3,k4⟩:=fil_split h2
     exact⟨v :: WX,w,WY,by rw[k1];rfl,by rw[fil_cons,if_neg c,k2,h1],k3,k4⟩
theorem fw_split{w u v:List Nat}(h:fw dead r w=u++v):∃p q,w=p++q∧fw dead r p=u∧fw dead r q=v:=by
 unfold fw at h
 obtain⟨a,b,h1,h2,h3⟩:=List.map_eq_append_iff.1 h;obtain⟨p,q,h4,h5,h6⟩:=List.filter_eq_append_iff.1 h1
 exact⟨p,q,h4,by unfold fw;rw[h5,h2],by unfold fw;rw[h6,h3]⟩
theorem ch_fw(hE:Emb A Z e r dead)(h:Red A Z e dead S T){m:Nat}(hm:m<2*Z.n):∀{w:List Nat} {x l:Nat},(∀y∈w,y<2*A.n)→l<2*Z.n→(∀y,Via dead (A.nS S) x y→Via dead (A.nS S) (e l) y) →
 Ch (A.nS S) x w (e m)→Ch (Z.nS T) l (fw dead r w) m
 |[],x,l,_,hl,hv,hc=>by
  have h1:A.nS S x=e m:=hc
  have h2:Via dead (A.nS S) x (e m):=by rw[←h1];exact .one (by rw[h1];exact hE.live m hm)
  have h3:=(hv _ h2).uniq (h.via l hl)
  show Z.nS T l=m
  exact(hE.inj hm ((Z.nS_pm T).lt l hl) h3).symm
 |y :: w,x,l,hw,hl,hv,hc=>by
  obtain⟨h1,h2⟩:=hc
  have hw':∀z∈w,z<2*A.n:=fun z hz=>hw z (by simp[hz])
  cases c:dead y with
  |true=>
   have:fw dead r (y :: w)=fw dead r w:=by unfold fw;rw[List.filter_cons_of_neg (by simp[c])]
   rw[this]
   exact ch_fw hE h hm hw' hl (fun z hz=>hv z (.more (by rw[h1];exact c) (by rw[h1];exact hz))) h2
  |false=>
   have:fw dead r (y :: w)=r y :: fw dead r w:=by unfold fw;rw[List.filter_cons_of_pos (by simp[c]),List.map_cons]
   rw[this];obtain⟨b1,b2⟩:=hE.back y (hw y (by simp)) c
   have h3:Via dead (A.nS S) x y:=by rw[←h1];exact .one (by rw[h1];exact c)
   have h4:=(hv _ h3).uniq (h.via l hl);have h5:r y=Z.nS T l:=hE.inj b1 ((Z.nS_pm T).lt l hl) (b2.trans h4)
   refine⟨h5.symm,ch_fw hE h hm hw' b1 (fun z hz=>?_) h2⟩
   rw[b2];exact hz
theorem Ws.fil(hE:Emb A Z e r dead)(h:Red A Z e dead S T){ws:List (List Nat)}(hW:Ws (2*A.n) (A.nS S) ws):Ws (2*Z.n) (Z.nS T) (fil dead r ws):=by
 refine⟨?_,fun w' hw'=>?_⟩
 · rw[fil_flat]
   have h1:(fw dead r ws.flatten).Nodup:=by
    unfold fw
    refine map_nodup (hW.nodup.filter _) fun x hx y hy k=>?_
    rw[List.mem_filter]at hx hy;have b1:=(hE.back x (hW.mem.1 hx.1) (by simpa using hx.2)).2;have b2:=(hE.back y (hW.mem.1 hy.1) (by simpa using hy.2)).2;rw[←b1,k,b2]
   refine(List.perm_ext_iff_of_nodup h1 List.nodup_range).2 fun x=>?_
   unfold fw
   rw[List.mem_map,List.mem_range]
   constructor
   · rintro⟨y,hy,rfl⟩
     rw[List.mem_filter]at hy
     exact(hE.back y (hW.mem.1 hy.1) (by simpa using hy.2)).1
   · intro hx
     exact⟨e x,List.mem_filter.2 ⟨hW.mem.2 (hE.lt x hx),by rw[hE.live x hx];rfl⟩,hE.re x hx⟩
 · have hne:=fil_ne hw'
   unfold Kn.fil at hw'
   obtain⟨w,hw,e1⟩:=List.mem_map.1 (List.mem_filter.1 hw').1
   obtain⟨a,u,hau⟩:∃a u,w.filter (fun x=>!dead x)=a :: u:=by
    cases k:w.filter (fun x=>!dead x)with
    |nil=>exact absurd (by rw[←e1];unfold fw;rw[k];rfl) hne
    |cons a u=>exact⟨a,u,rfl⟩
   have ha:a∈w∧dead a=false:=by
    have:a∈w.filter (fun x=>!dead x):=by rw[hau];simp
    rw[List.mem_filter]at this
    exact⟨this.1,by simpa using this.2⟩
   obtain⟨p,q,hpq,hp,hq⟩:=List.filter_eq_append_iff.1 (show w.filter (fun x=>!dead x)=[]++(a :: u)from hau)
   obtain⟨p',q',hq1,hq2,hq3⟩:∃p' q',q=p'++a :: q'∧p'.filter (fun x=>!dead x)=[]∧q'.filter (fun x=>!dead x)=u:=by
    obtain⟨l1,l2,k1,k2,k3,k4⟩:=List.filter_eq_cons_iff.1 hq
    exact⟨l1,l2,k1,by rw[List.filter_eq_nil_iff];exact k2,k4⟩
   have hmem:∀y∈w,y<2*A.n:=fun y hy=>hW.mem.1 (List.mem_flatten.2 ⟨w,hw,hy⟩)
   have hc:Cy (A.nS S) ((p++p')++a :: q'):=by
    have:=hW.cyc w hw;rw[hpq,hq1,←List.append_assoc]at this
    exact this
   have hc2:=cy_cut.1 hc;obtain⟨b1,b2⟩:=hE.back a (hmem a ha.1) ha.2
   have h3:=ch_fw hE h (m:=r a) b1 (w:=q'++(p++p')) (x:=a) (l:=r a) (fun y hy=>hmem y (by
    rw[hpq,hq1];simp only[List.mem_append,List.mem_cons]at hy ⊢
    rcases hy with k|k|k
    · exact .inr (.inr (.inr k))
    · exact .inl k
    · exact .inr (.inl k))) b1 (fun z hz=>by rw[b2];exact hz) (by rw[b2];exact hc2)
   have h4:fw dead r (q'++(p++p'))=u.map r:=by
    unfold fw
    rw[List.filter_append,List.filter_append,hq3,hp,hq2]
    simp
   rw[h4]at h3;rw[←e1]
   unfold fw
   rw[hau]
   exact h3
theorem lift_any(hE:Emb A Z e r dead)(h:Red A Z e dead S T){zs:List (List Nat)}(hz:Ws (2*Z.n) (Z.nS T) zs):∃ws,Ws (2*A.n) (A.nS S) ws∧fil dead r ws=zs:=by
 obtain⟨ws0,hw0⟩:=A.ws_ex S;have:=conn (N:=2*Z.n) (f:=Z.nS T) (P:=fun zs=>∃ws,Ws (2*A.n) (A.nS S) ws∧fil dead r ws=zs) (fun X Y u v _ h2=>?_) (fun X Y u v _ h2=>?_) (vs:=zs) (ws:=fil dead r ws0) (Z:=[]) (hw0.fil hE h) hz ⟨ws0,hw0,rfl⟩
 · exact this
 · obtain⟨ws,h3,h4⟩:=h2
   obtain⟨WX,w1,W',k1,k2,k3,k4⟩:=fil_split h4;obtain⟨WD,w2,WY,j1,j2,j3,j4⟩:=fil_split (X:=[]) k4
   refine⟨WX++w2 :: (WD++w1 :: WY),h3.of_perm ?_,?_⟩
   · rw[k1,j1]
     refine List.perm_iff_count.2 fun z=>?_
     simp only[List.count_append,List.count_cons]
     omega
   · have n1:fw dead r w1≠[]:=by
      rw[k3]
      exact fil_ne (dead:=dead) (r:=r) (ws:=ws) (by rw[h4];simp)
     have n2:fw dead r w2≠[]:=by
      rw[j3]
      exact fil_ne (dead:=dead) (r:=r) (ws:=ws) (by rw[h4];simp)
     rw[fil_app,fil_cons,if_neg n2,fil_app,fil_cons,if_neg n1,k2,j2,j3,k3,j4]
     rfl
 · obtain⟨ws,h3,h4⟩:=h2
   obtain⟨WX,w,WY,k1,k2,k3,k4⟩:=fil_split h4;obtain⟨p,q,j1,j2,j3⟩:=fw_split k3;have hne:u++v≠[]:=fil_ne (dead:=dead) (r:=r) (ws:=ws) (by rw[h4];simp)
   have h5:Ws (2*A.n) (A.nS S) (WX++(p++q) :: WY):=by rw[←j1,←k1];exact h3
   refine⟨WX++(q++p) :: WY,h5.rot,?_⟩
   have n1:fw dead r (q++p)≠[]:=by
    rw[fw_app,j2,j3]
    intro k
    rw[List.append_eq_nil_iff]at k
    exact hne (by rw[k.1,k.2];rfl)
   rw[fil_app,fil_cons,if_neg n1,fw_app,k2,j2,j3,k4]
end
end Go.Proofs.YtlicglicfijelaaGreat.Kn

namespace Go.Proofs.YtlicglicfijelaaGreat.Kn

def lst:Nat→List Nat→Nat
 |x,[]=>x
 |_,y :: t=>lst y t
def Run(f:Nat→Nat):Nat→List Nat→Prop
 |_,[]=>True
 |x,y :: t=>f x=y∧Run f y t
theorem run_pre{f:Nat→Nat}{z:Nat}:∀{t v:List Nat} {x:Nat},Ch f x v z→Run f x t→z∉t→∃R,v=t++R∧Ch f (lst x t) R z
 |[],v,x,h,_,_=>⟨v,rfl,h⟩
 |y :: t,v,x,h,hr,hz=>by
  obtain⟨h1,h2⟩:=hr
  cases v with
  |nil=>
   have:f x=z:=h;rw[h1]at this
   exact absurd (by simp[this]) hz
  |cons b v=>
   have e:b=y:=h.1.symm.trans h1;subst e
   obtain⟨R,k1,k2⟩:=run_pre h.2 h2 fun k=>hz (by simp[k])
   exact⟨R,by rw[k1];rfl,k2⟩
theorem via_first{dead:Nat→Bool}{f:Nat→Nat}{z a:Nat}{u:List Nat}:∀{x:Nat} {w:List Nat},Ch f x w z→(w.filter fun y=>!dead y)=a :: u→Via dead f x a
 |x,[],_,h=>by simp at h
 |x,y :: w,h,k=>by
  have e:f x=y:=h.1
  cases c:dead y with
  |false=>
   rw[List.filter_cons_of_pos (by simp[c])]at k
   injection k with k1 _
   rw[←k1,←e]
   exact .one (by rw[e];exact c)
  |true=>
   rw[List.filter_cons_of_neg (by simp[c])]at k
   refine .more (by rw[e];exact c) ?_
   rw[e]
   exact via_first h.2 k
theorem bef_map{r:Nat→Nat}{x y:Nat}:∀{G:List Nat},(∀a∈G,r a=r x→a=x)→(∀a∈G,r a=r y→a=y)→(bef (G.map r) (r x) (r y)↔bef G x y)
 |[],_,_=>by simp[bef]
 |a :: G,hx,hy=>by
  have ih:=bef_map (G:=G) (fun b hb=>hx b (by simp[hb])) (fun b hb=>hy b (by simp[hb]))
  have e1:(r a==r x)=(a==x):=by
   by_cases c:a=x
   · subst c;simp
   · have:r a≠r x:=fun k=>c (hx a (by simp) k)
     rw[beq_eq_false_iff_ne.2 this,beq_eq_false_iff_ne.2 c]
  have e2:(r a==r y)=(a==y):=by
   by_cases c:a=y
   · subst c;simp
   · have:r a≠r y:=fun k=>c (hy a (by simp) k)
     rw[beq_eq_false_iff_ne.2 this,beq_eq_false_iff_ne.2 c]
  unfold bef at ih ⊢
  rw[List.map_cons,List.idxOf_cons,List.idxOf_cons,List.idxOf_cons,List.idxOf_cons,e1,e2]
  cases (a==x)<;>cases (a==y)<;>simp[ih]
theorem Ar.ws_at(A:Ar)(S:St){m:Nat}(hm:m<2*A.n):∃u Y,Ws (2*A.n) (A.nS S) ((m :: u) :: Y):=by
 obtain⟨ws,hW⟩:=A.ws_ex S;obtain⟨w,hw,hx⟩:=hW.word hm;obtain⟨P,Q,rfl⟩:=List.append_of_mem hw;obtain⟨p,q,rfl⟩:=List.append_of_mem hx;have h1:=hW.rot
 exact⟨q++p,P++Q,h1.of_perm (List.perm_iff_count.2 fun z=>by simp only[List.count_append,List.count_cons,List.cons_append];omega)⟩

section
variable {A Z:Ar} {e r:Nat→Nat} {dead:Nat→Bool} {S T:St}
theorem Emb.dead_mt(hE:Emb A Z e r dead){x:Nat}(hx:x<2*A.n):dead (Kn.mt x)=dead x:=by
 have key:∀x,x<2*A.n→dead x=false→dead (Kn.mt x)=false:=fun x hx hd=>by
  obtain⟨b1,b2⟩:=hE.back x hx hd;rw[←b2,←hE.mt _ b1]
  exact hE.live _ (mt_lt.2 b1)
 cases c:dead x with
 |false=>exact key x hx c
 |true=>
  cases c':dead (Kn.mt x)with
  |true=>rfl
  |false=>
   have:=key (Kn.mt x) (mt_lt.2 hx) c'
   rw[mt_mt,c]at this;cases this
theorem lift_top(hE:Emb A Z e r dead)(h:Red A Z e dead S T){zs:List (List Nat)}(hz:Ws (2*Z.n) (Z.nS T) zs){y1:Nat}{t:List Nat}(hd:∀y∈y1 :: t,y<2*A.n∧dead y=true)(hn:(y1 :: t).Nodup)
 (hr:Run (A.nS S) y1 t) (hh:∀m,m<2*Z.n→Via dead (A.nS S) (lst y1 t) (e m)→∃u Y,zs=(m :: u) :: Y):
 ∃ws G,Ws (2*A.n) (A.nS S) ws∧fw dead r ws.flatten=zs.flatten∧ws.flatten=(y1 :: t)++G:=by
 obtain⟨ws,hW,hf⟩:=lift_any hE h hz;obtain⟨w,hw,hx⟩:=hW.word (hd y1 (by simp)).1;obtain⟨P,Q,rfl⟩:=List.append_of_mem hw;obtain⟨p,q,rfl⟩:=List.append_of_mem hx;have W1:=hW.rot;have W2:Ws (2*A.n) (A.nS S) ((y1 :: q++p) :: (P++Q)):=W1.of_perm (List.perm_iff_count.2 fun z=>by simp only[List.count_append,List.count_cons,List.cons_append];omega);have n1:(y1 :: (q++p)).Nodup:=word_nodup W2.nodup (by simp);obtain⟨R,k1,k2⟩:=run_pre (z:=y1) (W2.cyc (y1 :: q++p) (by simp)) hr (List.nodup_cons.1 hn).1;have k1:q++p=t++R:=k1
 have hfl:((y1 :: q++p) :: (P++Q)).flatten=(y1 :: t)++(R++(P++Q).flatten):=by
  rw[List.flatten_cons,List.cons_append,k1]
  simp
 refine⟨_,R++(P++Q).flatten,W2,?_,hfl⟩
 have dt:fw dead r (y1 :: t)=[]:=by
  unfold fw
  rw[List.map_eq_nil_iff,List.filter_eq_nil_iff]
  intro y hy
  simp[(hd y hy).2]
 have eW:fw dead r (y1 :: q++p)=fw dead r R:=by
  have:y1 :: q++p=(y1 :: t)++R:=by rw[List.cons_append,k1];rfl
  rw[this,fw_app,dt];rfl
 have same:fw dead r (y1 :: q++p)=fw dead r (y1 :: q)++fw dead r p:=fw_app _ _;have same':fw dead r (p++y1 :: q)=fw dead r p++fw dead r (y1 :: q):=fw_app _ _;rw[List.flatten_cons,fw_app,←fil_flat (P++Q),fil_app];rw[fil_app,fil_cons]at hf
 cases c:fw dead r (y1 :: q++p)with
 |nil=>
  rw[same,List.append_eq_nil_iff]at c;rw[same',c.1,c.2,List.append_nil,if_pos rfl]at hf
  rw[hf];rfl
 |cons m u'=>
  have hne:fw dead r (p++y1 :: q)≠[]:=fun k=>by
   rw[same',List.append_eq_nil_iff]at k
   rw[same,k.1,k.2]at c;cases c
  rw[if_neg hne]at hf
  have hW2:Ws (2*Z.n) (Z.nS T) ((m :: u') :: fil dead r (P++Q)):=by
   have:=W2.fil hE h;rw[fil_cons,if_neg (by rw[c];simp),c]at this
   exact this
  have hm:m<2*Z.n:=hW2.mem.1 (by simp)
  obtain⟨a,v,hav,hra⟩:∃a v,R.filter (fun x=>!dead x)=a :: v∧r a=m:=by
   rw[eW]at c
   unfold fw at c
   obtain⟨a,v,j1,j2,j3⟩:=List.map_eq_cons_iff.1 c
   exact⟨a,v,j1,j2⟩
  have hv:=via_first k2 hav
  have ha2:a<2*A.n:=hv.orb.lt (A.nS_pm S) (by
   have:lst y1 t∈y1 :: t:=by
    have gen:∀(t:List Nat) (x:Nat),lst x t∈x :: t:=fun t=>by
     induction t with
     |nil=>intro x;simp[lst]
     |cons y t ih=>intro x;exact List.mem_cons_of_mem _ (ih y)
    exact gen t y1
   exact(hd _ this).1)
  have ham:e m=a:=by rw[←hra];exact(hE.back a ha2 hv.live).2
  rw[←ham]at hv;obtain⟨u,Y,hzs⟩:=hh m hm hv
  have hmem:m∈fw dead r (p++y1 :: q):=by
   have:m∈fw dead r (y1 :: q++p):=by rw[c];simp
   rw[same,List.mem_append]at this;rw[same',List.mem_append]
   exact this.symm
  have hP:fil dead r P=[]:=by
   cases k:fil dead r P with
   |nil=>rfl
   |cons w0 R0=>
    exfalso
    rw[k,hzs]at hf
    injection hf with f1 f2
    have hzn:=hz.nodup;rw[hzs,←f2]at hzn;simp only[List.flatten_cons,List.flatten_append]at hzn;rw[List.nodup_append]at hzn
    refine hzn.2.2 m (by simp) m ?_ rfl
    simp[hmem]
  rw[hP,List.nil_append,hzs]at hf
  injection hf with f1 f2
  have n3:(m :: u').Nodup:=word_nodup hW2.nodup (by simp)
  have n4:(m :: u).Nodup:=by rw[hzs]at hz;exact word_nodup hz.nodup (by simp)
  have e3:u'=u:=cy_uniq (hW2.cyc (m :: u') (by simp)) (by rw[hzs]at hz;exact hz.cyc (m :: u) (by simp)) (List.nodup_cons.1 n3).1 (List.nodup_cons.1 n4).1
  rw[hP,hzs,e3,f2];rfl

def lf(dead:Nat→Bool)(r:Nat→Nat)(hD h:St):St:=fun d=>if dead (2*d)then hD d else ov h (r (2*d+1))
theorem ov_lf(hE:Emb A Z e r dead){hD h:St}{l:Nat}(hl:l<2*Z.n):ov (lf dead r hD h) (e l)=ov h l:=by
 have h1:=hE.lt l hl;have h2:=hE.live l hl;have h3:=hE.live (mt l) (mt_lt.2 hl);rw[hE.mt l hl]at h3
 rcases Nat.mod_two_eq_zero_or_one (e l)with m|m
 · have e1:2*(e l / 2)=e l:=by omega
   have e2:2*(e l / 2)+1=mt (e l):=by unfold mt;rw[if_pos m];omega
   show (if e l%2=1 then lf dead r hD h (e l / 2)else !lf dead r hD h (e l / 2))=_
   rw[if_neg (by omega)]
   unfold lf
   rw[e1,h2,if_neg (by simp)];rw[show e l+1=mt (e l)by rw[←e2,e1]]at *;rw[←hE.mt l hl,hE.re _ (mt_lt.2 hl),ov_mt,Bool.not_not]
 · have e1:2*(e l / 2)+1=e l:=by omega
   have e2:2*(e l / 2)=mt (e l):=by unfold mt;rw[if_neg (by omega)];omega
   show (if e l%2=1 then lf dead r hD h (e l / 2)else !lf dead r hD h (e l / 2))=_
   rw[if_pos m]
   unfold lf
   rw[e1,e2,h3,if_neg (by simp),hE.re l hl]
theorem ov_lf_dead(hE:Emb A Z e r dead){hD h:St}{y:Nat}(hy:y<2*A.n)(hd:dead y=true):ov (lf dead r hD h) y=ov hD y:=by
 refine ov_congr ?_
 unfold lf
 have:dead (2*(y / 2))=true:=by
  rcases Nat.mod_two_eq_zero_or_one y with m|m
  · rw[show 2*(y / 2)=y by omega];exact hd
  · rw[show 2*(y / 2)=mt y by unfold mt;rw[if_neg (by omega)];omega,hE.dead_mt hy];exact hd
 rw[this,if_pos rfl]
theorem lf_fl(hE:Emb A Z e r dead){hD h:St}{l:Nat}(hl:l<2*Z.n){d:Nat}(hd:d<A.n):lf dead r hD (fl h (l / 2)) d=fl (lf dead r hD h) (e l / 2) d:=by
 have e2:(2*d+1) / 2=d:=by omega
 have e3:(2*d) / 2=d:=by omega
 have m1:mt (2*d)=2*d+1:=by unfold mt;rw[if_pos (by omega)]
 cases c:dead (2*d)with
 |true=>
  have hne:d≠e l / 2:=fun k=>hE.dead_ne hl c (by rw[e3];exact k)
  rw[fl_ne hne]
  unfold lf
  rw[c,if_pos rfl,if_pos rfl]
 |false=>
  have c':dead (2*d+1)=false:=by rw[←m1,hE.dead_mt (by omega)];exact c
  obtain⟨b1,b2⟩:=hE.back (2*d+1) (by omega) c'
  have a1:∀g:St,lf dead r hD g d=ov g (r (2*d+1)):=fun g=>by unfold lf;rw[c,if_neg (by simp)]
  by_cases k:d=e l / 2
  · have k':e (r (2*d+1)) / 2=e l / 2:=by rw[b2,e2];exact k
    have k2:=(hE.div b1 hl).1 k';rw[←k,fl_same,a1,a1,←k2,ov_fl]
  · have k2:r (2*d+1) / 2≠l / 2:=fun q=>k (by
     have:=(hE.div b1 hl).2 q
     rw[b2,e2]at this;exact this)
    rw[fl_ne k,a1,a1,ov_fl_ne k2]
structure Tops(A:Ar)(dead:Nat→Bool)(S hD:St)(t:List Nat):Prop where
 mem:∀y∈t,y<2*A.n∧dead y=true∧S (y / 2)=false∧ov hD y=true∧mt y∉t
 nd:t.Nodup
 run:∀y u,t=y :: u→Run (A.nS S) y u
 cov:∀y,y<2*A.n→dead y=true→S (y / 2)=false→y∈t∨mt y∈t
theorem run_congr{f g:Nat→Nat}:∀{t:List Nat} {x:Nat},(∀y∈x :: t,g y=f y)→Run f x t→Run g x t
 |[],_,_,_=>trivial
 |y :: t,x,h,k=>⟨(h x (by simp)).trans k.1,run_congr (fun z hz=>h z (by simp[hz])) k.2⟩
theorem Tops.ad(hE:Emb A Z e r dead){hD:St}{t:List Nat}(h:Tops A dead S hD t){l:Nat}(hl:l<2*Z.n):Tops A dead (ad S (e l / 2)) hD t:=by
 have hne:∀y,dead y=true→y / 2≠e l / 2:=fun y hy=>hE.dead_ne hl hy
 refine⟨fun y hy=>?_,h.nd,fun y u hu=>?_,fun y hy hd hS=>?_⟩
 · obtain⟨a,b,c,d⟩:=h.mem y hy
   exact⟨a,b,by rw[ad_ne (hne y b)];exact c,d⟩
 · refine run_congr (fun z hz=>A.nS_ad_ne (hne z (h.mem z (by rw[hu];exact hz)).2.1)) (h.run y u hu)
 · rw[ad_ne (hne y hd)]at hS
   exact h.cov y hy hd hS
theorem top_words(hE:Emb A Z e r dead)(h:Red A Z e dead S T){hD:St}{t:List Nat}(ht:Tops A dead S hD t){zs:List (List Nat)}(hz:Ws (2*Z.n) (Z.nS T) zs)
 (hh:∀y u,t=y :: u→∀m,m<2*Z.n→Via dead (A.nS S) (lst y u) (e m)→∃u Y,zs=(m :: u) :: Y):
 ∃ws,Ws (2*A.n) (A.nS S) ws∧Desc A.n S (lf dead r hD (dn zs.flatten)) ws.flatten:=by
 obtain⟨ws,G,hW,hf,hG⟩:∃ws G,Ws (2*A.n) (A.nS S) ws∧fw dead r ws.flatten=zs.flatten∧ws.flatten=t++G:=by
  cases c:t with
  |nil=>
   obtain⟨ws,hW,hf⟩:=lift_any hE h hz
   exact⟨ws,ws.flatten,hW,by rw[←fil_flat,hf],rfl⟩
  |cons y u=>
   rw[c]at ht
   exact lift_top hE h hz (fun x hx=>⟨(ht.mem x hx).1,(ht.mem x hx).2.1⟩) ht.nd (ht.run y u rfl) (hh y u c)
 refine⟨ws,hW,fun y hy hS hb=>?_⟩
 cases hd:dead y with
 |true=>
  rw[ov_lf_dead hE hy hd]
  rcases ht.cov y hy hd hS with k|k
  · exact(ht.mem y k).2.2.2.1
  · exfalso
    have:=(ht.mem _ k).2.2.2.2;rw[mt_mt]at this;rw[hG]at hb
    exact not_bef hb (bef_split k this)
 |false=>
  obtain⟨b1,b2⟩:=hE.back y hy hd
  have hT:T (r y / 2)=false:=by rw[←h.st _ b1,b2];exact hS
  rw[←b2,ov_lf hE b1]
  refine dn_desc (n:=Z.n) (S:=T) zs.flatten (r y) b1 hT ?_
  rw[←hf]
  have h1:r (mt y)=mt (r y):=by
   rw[←b2,←hE.mt _ b1,hE.re _ (mt_lt.2 b1),b2]
  rw[←h1]
  have inj:∀x,x<2*A.n→dead x=false→∀a∈ws.flatten.filter (fun x=>!dead x),r a=r x→a=x:=fun x hx hdx a ha k=>by
   rw[List.mem_filter]at ha;have c1:=(hE.back a (hW.mem.1 ha.1) (by simpa using ha.2)).2;have c2:=(hE.back x hx hdx).2;rw[←c1,k,c2]
  have hdm:dead (mt y)=false:=by rw[hE.dead_mt hy];exact hd
  unfold fw
  refine(bef_map (inj y hy hd) (inj (mt y) (mt_lt.2 hy) hdm)).2 ?_
  exact(bef_filter (p:=fun x=>!dead x) (by simp[hd]) (by simp[hdm]) _).2 hb
end
section
variable {W:Type} {K:CA W} {A B Z:Ar} {eA rA eB rB:Nat→Nat} {dA dB:Nat→Bool} {hDA hDB:St} {tA tB:List Nat}
def Cmp(A B Z:Ar)(eA eB:Nat→Nat)(dA dB:Nat→Bool)(SA SB:St)(tA tB:List Nat):Prop:=
 ∀y u,tA=y :: u→∀y' u',tB=y' :: u'→∀m,m<2*Z.n→(Via dA (A.nS SA) (lst y u) (eA m)↔Via dB (B.nS SB) (lst y' u') (eB m))
theorem lst_mem:∀(t:List Nat) (x:Nat),lst x t∈x :: t
 |[],x=>by simp[lst]
 |y :: t,x=>List.mem_cons_of_mem _ (lst_mem t y)
theorem via_ad{A Z:Ar}{e r:Nat→Nat}{dead:Nat→Bool}{S:St}(hE:Emb A Z e r dead){l:Nat}(hl:l<2*Z.n){x z:Nat}(hx:dead x=true):Via dead (A.nS (ad S (e l / 2))) x z↔Via dead (A.nS S) x z:=by
 have hd:∀y,dead y=true→A.nS (ad S (e l / 2)) y=A.nS S y:=fun y hy=>A.nS_ad_ne (hE.dead_ne hl hy)
 exact⟨fun k=>k.congr (fun y hy=>(hd y hy).symm) (hd x hx).symm,fun k=>k.congr hd (hd x hx)⟩
theorem sim(hA:LK A)(hB:LK B)(EA:Emb A Z eA rA dA)(EB:Emb B Z eB rB dB):∀(m:Nat) (T:St),Z.live T=m→∀(SA SB:St),Red A Z eA dA SA T→Red B Z eB dB SB T→Tops A dA SA hDA tA→Tops B dB SB hDB tB →
 Cmp A B Z eA eB dA dB SA SB tA tB→A.k SA=B.k SB→∀h,V K A SA (lf dA rA hDA h)=V K B SB (lf dB rB hDB h):=by
 intro m
 induction m using Nat.strongRecOn with
 |ind m ih=>
  intro T hm SA SB RA RB TA TB hC hk h
  obtain⟨zs,hz,z1,z2⟩:∃zs,Ws (2*Z.n) (Z.nS T) zs∧(∀y u,tA=y :: u→∀m,m<2*Z.n→Via dA (A.nS SA) (lst y u) (eA m)→∃u Y,zs=(m :: u) :: Y) ∧
   ∀y u,tB=y :: u→∀m,m<2*Z.n→Via dB (B.nS SB) (lst y u) (eB m)→∃u Y,zs=(m :: u) :: Y:=by
   by_cases c:∃y u m,tA=y :: u∧m<2*Z.n∧Via dA (A.nS SA) (lst y u) (eA m)
   · obtain⟨y,u,m,h1,h2,h3⟩:=c
     obtain⟨v,Y,hz⟩:=Z.ws_at T h2
     refine⟨_,hz,fun y' u' k m' hm' hv=>?_,fun y' u' k m' hm' hv=>?_⟩
     · rw[h1]at k
       injection k with k1 k2
       subst k1;subst k2
       have:=EA.inj hm' h2 (hv.uniq h3)
       exact⟨v,Y,by rw[this]⟩
     · have:=(hC y u h1 y' u' k m' hm').2 hv
       have:=EA.inj hm' h2 (this.uniq h3)
       exact⟨v,Y,by rw[this]⟩
   · by_cases c':∃y u m,tB=y :: u∧m<2*Z.n∧Via dB (B.nS SB) (lst y u) (eB m)
     · obtain⟨y,u,m,h1,h2,h3⟩:=c'
       obtain⟨v,Y,hz⟩:=Z.ws_at T h2
       refine⟨_,hz,fun y' u' k m' hm' hv=>absurd ⟨y',u',m',k,hm',hv⟩ c,fun y' u' k m' hm' hv=>?_⟩
       rw[h1]at k
       injection k with k1 k2
       subst k1;subst k2
       have:=EB.inj hm' h2 (hv.uniq h3)
       exact⟨v,Y,by rw[this]⟩
     · obtain⟨zs,hz⟩:=Z.ws_ex T
       exact⟨zs,hz,fun y' u' k m' hm' hv=>absurd ⟨y',u',m',k,hm',hv⟩ c,fun y' u' k m' hm' hv=>absurd ⟨y',u',m',k,hm',hv⟩ c'⟩
  have base:V K A SA (lf dA rA hDA (dn zs.flatten))=V K B SB (lf dB rB hDB (dn zs.flatten)):=by
   obtain⟨wsA,wA,qA⟩:=top_words EA RA TA hz z1;obtain⟨wsB,wB,qB⟩:=top_words EB RB TB hz z2;rw[good hA SA wsA wA _ qA,good hB SB wsB wB _ qB,hk]
  obtain⟨h0,hh0⟩:∃h0,h0=dn zs.flatten:=⟨_,rfl⟩
  rw[←hh0]at base
  have key:∀(j:Nat) (h:St),((List.range Z.n).countP fun c=>!T c&&(h c != h0 c))=j→V K A SA (lf dA rA hDA h)=V K B SB (lf dB rB hDB h):=by
   intro j
   induction j with
   |zero=>
    intro h hj
    rw[List.countP_eq_zero]at hj
    have heq:∀c,c<Z.n→T c=false→h c=h0 c:=fun c c1 c2=>by
     have:=hj c (List.mem_range.2 c1)
     simpa[c2]using this
    have gen:∀{A:Ar} {e r:Nat→Nat} {dead:Nat→Bool} {hD S:St},Emb A Z e r dead→Red A Z e dead S T→V K A S (lf dead r hD h)=V K A S (lf dead r hD h0):=fun {A e r dead hD S} hE hR=>by
     refine V_congr K A fun d d1 d2=>?_
     unfold lf
     cases c:dead (2*d)with
     |true=>rw[if_pos rfl,if_pos rfl]
     |false=>
      rw[if_neg (by simp),if_neg (by simp)]
      have c':dead (2*d+1)=false:=by
       have m1:mt (2*d)=2*d+1:=by unfold mt;rw[if_pos (by omega)]
       rw[←m1,hE.dead_mt (by omega)];exact c
      obtain⟨b1,b2⟩:=hE.back (2*d+1) (by omega) c'
      have hT:T (r (2*d+1) / 2)=false:=by
       rw[←hR.st _ b1,b2,show (2*d+1) / 2=d by omega];exact d2
      exact ov_congr (heq _ (by omega) hT)
    rw[gen EA RA,gen EB RB,base]
   |succ j ihj=>
    intro h hj
    have:∃c,c∈List.range Z.n∧(!T c&&(h c != h0 c))=true:=by
     refine List.countP_pos_iff.1 ?_
     omega
    obtain⟨c,hc,hp⟩:=this;simp only[Bool.and_eq_true,Bool.not_eq_true',bne_iff_ne,ne_eq]at hp;obtain⟨hTc,hne⟩:=hp;rw[List.mem_range]at hc
    obtain⟨l,hl,hlc⟩:∃l,l<2*Z.n∧l / 2=c:=⟨2*c,by omega,by omega⟩
    have hTl:T (l / 2)=false:=by rw[hlc];exact hTc
    have f1:V K A SA (lf dA rA hDA (fl h c))=V K B SB (lf dB rB hDB (fl h c)):=by
     refine ihj _ ?_
     have:=countP_but (l:=List.range Z.n) List.nodup_range (p:=fun c=>!T c&&(h c != h0 c)) (q:=fun d=>!T d&&(fl h c d != h0 d)) (x:=c) (List.mem_range.2 hc) (by simp[hTc,hne]) fun d _=>by
      by_cases k:d=c
      · subst k
        rw[fl_same]
        have:(!h d)=h0 d:=by
         revert hne
         cases h d<;>cases h0 d<;>simp
        simp[this]
      · simp[fl_ne k,k]
     omega
    have f2:V K A (ad SA (eA l / 2)) (lf dA rA hDA h)=V K B (ad SB (eB l / 2)) (lf dB rB hDB h):=by
     have hlv:=Z.live_ad hc hTc
     refine ih (Z.live (ad T c)) (by omega) (ad T c) rfl _ _ (by rw[←hlc];exact RA.ad EA hl hTl) (by rw[←hlc];exact RB.ad EB hl hTl) (TA.ad EA hl) (TB.ad EB hl) (fun y u k1 y' u' k2 m hm=>?_) ?_ h
     · have a1:=(TA.mem _ (by rw[k1];exact lst_mem u y)).2.1
       have a2:=(TB.mem _ (by rw[k2];exact lst_mem u' y')).2.1;rw[via_ad EA hl a1,via_ad EB hl a2]
       exact hC y u k1 y' u' k2 m hm
     · obtain⟨p1,p2⟩:=A.k_ad (S:=SA) (EA.lt l hl) (by rw[RA.st l hl];exact hTl)
       obtain⟨q1,q2⟩:=B.k_ad (S:=SB) (EB.lt l hl) (by rw[RB.st l hl];exact hTl);rw[←EA.mt l hl]at p1 p2;rw[←EB.mt l hl]at q1 q2;have o1:=RA.orb EA hl (mt_lt.2 hl);have o2:=RB.orb EB hl (mt_lt.2 hl)
       by_cases o:Orb (Z.nS T) l (mt l)
       · have:=p1 (o1.2 o)
         have:=q1 (o2.2 o)
         omega
       · have:=p2 fun k=>o (o1.1 k)
         have:=q2 fun k=>o (o2.1 k)
         omega
    have s1:V K A SA (fl (lf dA rA hDA h) (eA l / 2))=V K A SA (lf dA rA hDA (fl h c)):=V_congr K A fun d d1 _=>by rw[←hlc];exact(lf_fl EA hl d1).symm
    have s2:V K B SB (fl (lf dB rB hDB h) (eB l / 2))=V K B SB (lf dB rB hDB (fl h c)):=V_congr K B fun d d1 _=>by rw[←hlc];exact(lf_fl EB hl d1).symm
    have g1:sgh A (lf dA rA hDA h) (eA l / 2)=sgh B (lf dB rB hDB h) (eB l / 2):=by
     rw[sgh_ov,sgh_ov,ov_lf EA hl,ov_lf EB hl,EA.sg l hl,EB.sg l hl]
    have ca:eA l / 2<A.n:=by have:=EA.lt l hl;omega
    have cb:eB l / 2<B.n:=by have:=EB.lt l hl;omega
    rw[skein K A SA _ ca (by rw[RA.st l hl];exact hTl),skein K B SB _ cb (by rw[RB.st l hl];exact hTl),s1,s2,f1,f2,g1]
  exact key _ h rfl
end
end Go.Proofs.YtlicglicfijelaaGreat.Kn

namespace Go.Proofs.YtlicglicfijelaaGreat.Kn
abbrev both(x y:Nat):Nat→Bool:=fun d=>decide (d=x)||decide (d=y)
section
variable {X:List Cr}
theorem both_false{x y d:Nat}:both x y d=false↔d≠x∧d≠y:=by simp
theorem mem_eight{x y s t z:Nat}(hs:s<4)(ht:t<4):
 z∈[pk (x,s),pk (x,(s+1)%4),pk (x,(s+2)%4),pk (x,(s+3)%4),pk (y,t),pk (y,(t+3)%4),pk (y,(t+2)%4),pk (y,(t+1)%4)]↔z / 4=x∨z / 4=y:=by
 unfold pk
 simp only[List.mem_cons,List.not_mem_nil,or_false]
 omega
theorem eight_nodup{x y s t:Nat}(hxy:x≠y)(hs:s<4)(ht:t<4):
 [pk (x,s),pk (x,(s+1)%4),pk (x,(s+2)%4),pk (x,(s+3)%4),pk (y,t),pk (y,(t+3)%4),pk (y,(t+2)%4),pk (y,(t+1)%4)].Nodup:=by
 unfold pk
 simp only[List.nodup_cons,List.mem_cons,List.not_mem_nil,or_false,not_or,List.nodup_nil,and_true,not_false_eq_true]
 omega
theorem off{x y s t:Nat}(h:x≠y):((x,s):Pl)≠(y,t):=fun e=>h (by injection e)
theorem Ok.take_bigon(h:Ok X){x y s t:Nat}(hx:x<X.length)(hy:y<X.length)(hxy:x≠y)(hs:s<4)(ht:t<4)
 (oA:other X (x,s)=(y,t)) (oB:other X (x,(s+1)%4)=(y,(t+3)%4)):
 Ok (takeL X (both x y))∧(planarB X=true→planarB (takeL X (both x y))=true):=by
 have m4:∀k,(s+k)%4<4:=fun k=>Nat.mod_lt _ (by omega)
 have n4:∀k,(t+k)%4<4:=fun k=>Nat.mod_lt _ (by omega)
 have hyx:y≠x:=fun e=>hxy e.symm
 have pA:isPl X (x,s):=⟨hx,hs⟩;have pB:isPl X (x,(s+1)%4):=⟨hx,m4 1⟩;have pC:isPl X (x,(s+2)%4):=⟨hx,m4 2⟩;have pD:isPl X (x,(s+3)%4):=⟨hx,m4 3⟩;have pa:isPl X (y,t):=⟨hy,ht⟩;have pb:isPl X (y,(t+3)%4):=⟨hy,n4 3⟩;have pc:isPl X (y,(t+2)%4):=⟨hy,n4 2⟩;have pd:isPl X (y,(t+1)%4):=⟨hy,n4 1⟩;obtain⟨nAB,nAC,nAD,nBC,nBD,nCD⟩:=four_ne (c:=x) hs;obtain⟨nad,nac,nab,ndc,ndb,ncb⟩:=four_ne (c:=y) ht
 have cBD:cm X (x,(s+3)%4)=!cm X (x,(s+1)%4):=by
  have:=cm_opp pB
  rwa [show ((s+1)%4+2)%4=(s+3)%4 by omega]at this
 have cbd:cm X (y,(t+1)%4)=!cm X (y,(t+3)%4):=by
  have:=cm_opp pb
  rwa [show ((t+3)%4+2)%4=(t+1)%4 by omega]at this
 have T1:=h.tied.pass (com_id_equiv []) pA pC pa pc (cm_opp pA) (cm_opp pa) oA (off hxy) (off hxy) (off hxy) nAC nac
 have o1B:(if other X (x,(s+1)%4)=(x,(s+2)%4)then other X (y,(t+2)%4)else if other X (x,(s+1)%4)=(y,(t+2)%4)then other X (x,(s+2)%4)else other X (x,(s+1)%4))=(y,(t+3)%4):=by
  rw[oB,if_neg (off hyx),if_neg (fun e=>ncb e.symm)]
 have T2:=T1.pass (mrg_equiv (mrg_equiv (com_id_equiv []) _ _) _ _) (A:=(x,(s+1)%4)) (C:=(x,(s+3)%4)) (a:=(y,(t+3)%4)) (c:=(y,(t+1)%4))
  ⟨pB,fun e=>nAB e.symm,nBC,off hxy,off hxy⟩ ⟨pD,fun e=>nAD e.symm,fun e=>nCD e.symm,off hxy,off hxy⟩ ⟨pb,off hyx,off hyx,fun e=>nab e.symm,fun e=>ncb e.symm⟩ ⟨pd,off hyx,off hyx,fun e=>nad e.symm,ndc⟩
  cBD cbd o1B (off hxy) (off hxy) (off hxy) nBD (fun e=>ndb e.symm)
 have in8:∀{p:Pl},p.2<4→(both x y p.1=false↔(p≠(x,s)∧p≠(x,(s+2)%4)∧p≠(y,t)∧p≠(y,(t+2)%4))∧p≠(x,(s+1)%4)∧p≠(x,(s+3)%4)∧p≠(y,(t+3)%4)∧p≠(y,(t+1)%4)):=fun {p} hp=>by
  rw[both_false,ne_eq,ne_eq,of_four (c:=x) hs hp,of_four (c:=y) ht hp];simp only[not_or]
  constructor
  · rintro⟨⟨a1,a2,a3,a4⟩,b1,b2,b3,b4⟩;exact⟨⟨a1,a3,b1,b3⟩,a2,a4,b4,b2⟩
  · rintro⟨⟨a1,a3,b1,b3⟩,a2,a4,b4,b2⟩;exact⟨⟨a1,a2,a3,a4⟩,b1,b2,b3,b4⟩
 have T':=T2.congr (live':=fun p=>isPl X p∧both x y p.1=false) (E':=com (fun x=>x) (classE X (both x y) X.length)) (fun p=>by
  constructor
  · rintro⟨h1,h2⟩
    obtain⟨h3,h4⟩:=(in8 h1.2).1 h2
    exact⟨⟨h1,h3⟩,h4⟩
  · rintro⟨⟨h1,h3⟩,h4⟩
    exact⟨h1,(in8 h1.2).2 ⟨h3,h4⟩⟩) (fun u v=>by
  show com (fun x=>x) (classE X (both x y) X.length) u v↔com (fun x=>x) [(arcN X (y,(t+3)%4),arcN X (y,(t+1)%4)),(arcN X (x,(s+1)%4),arcN X (x,(s+3)%4)),(arcN X (y,t),arcN X (y,(t+2)%4)),(arcN X (x,s),arcN X (x,(s+2)%4))] u v
  have gx:both x y x=true:=by simp
  have gy:both x y y=true:=by simp
  constructor
  · refine com_id_mono fun e he=>?_
    obtain⟨d,_,hd,k⟩:=mem_classE.1 he;have hE:=com_id_equiv [(arcN X (y,(t+3)%4),arcN X (y,(t+1)%4)),(arcN X (x,(s+1)%4),arcN X (x,(s+3)%4)),(arcN X (y,t),arcN X (y,(t+2)%4)),(arcN X (x,s),arcN X (x,(s+2)%4))]
    have q:∀{t'},t'<4→com (fun x=>x) [(arcN X (y,(t+3)%4),arcN X (y,(t+1)%4)),(arcN X (x,(s+1)%4),arcN X (x,(s+3)%4)),(arcN X (y,t),arcN X (y,(t+2)%4)),(arcN X (x,s),arcN X (x,(s+2)%4))] (arcN X (d,t')) (arcN X (d,(t'+2)%4)):=fun {t'} ht'=>by
     have hd:d=x∨d=y:=by simpa using hd
     rcases hd with rfl|rfl
     · exact tied_two (s:=s) (com_id_pair (e:=(arcN X (d,s),arcN X (d,(s+2)%4))) (by simp)) (com_id_pair (e:=(arcN X (d,(s+1)%4),arcN X (d,(s+3)%4))) (by simp)) hs ht'
     · exact tied_two (s:=t) (com_id_pair (e:=(arcN X (d,t),arcN X (d,(t+2)%4))) (by simp)) (hE.symm (com_id_pair (e:=(arcN X (d,(t+3)%4),arcN X (d,(t+1)%4))) (by simp))) ht ht'
    rcases k with rfl|rfl
    · exact q (over_lt _)
    · exact q (t':=0) (by omega)
  · refine com_id_mono fun e he=>?_
    rw[List.mem_cons,List.mem_cons,List.mem_cons,List.mem_singleton]at he
    rcases he with rfl|rfl|rfl|rfl
    · have:=tied_all (X:=X) hy gy (n4 3)
      rwa [show ((t+3)%4+2)%4=(t+1)%4 by omega]at this
    · have:=tied_all (X:=X) hx gx (m4 1)
      rwa [show ((s+1)%4+2)%4=(s+3)%4 by omega]at this
    · exact tied_all (X:=X) hy gy ht
    · exact tied_all (X:=X) hx gx hs) fun _ _=>rfl
 have cut:=with_cut h (h.class_rep (both x y) X.length (Nat.le_refl _)) (com_id_equiv _) T' fun _=>Iff.rfl
 refine⟨cut.okY,fun hp=>?_⟩
 obtain⟨sA,sD,sC,sB⟩:=sig4 (n:=X.length) hx hs;obtain⟨sa,sb,sc,sd⟩:=sig4 (n:=X.length) hy ht
 obtain⟨es,m1,g,d,pm,f,hm1,m⟩:=(h.flat hp).bigon (sig_pm _) h.ens_good h.ens_dis (eight_nodup (x:=x) (y:=y) hxy hs ht) sA sD sC sB sa sb sc sd
  (by rw[h.mate_pk pA,oA]) (by rw[h.mate_pk pB,oB]) (h.mate_free pC) (h.mate_free pD) (h.mate_free pc) (h.mate_free pd)
 have liv:∀z,(∀p,(isPl X p∧both x y p.1=false)→pk p≠z)→4*X.length≤z∨z / 4=x∨z / 4=y:=fun z hz=>by
  by_cases k:4*X.length≤z
  · exact .inl k
  · refine .inr (Classical.byContradiction fun k'=>hz (pl z) ⟨isPl_pl (by omega),?_⟩ ?_)
    · rw[both_false]
      exact⟨fun e=>k' (.inl e),fun e=>k' (.inr e)⟩
    · unfold pk pl;simp only;omega
 have out:∀p,(isPl X p∧both x y p.1=false)→pk p∉[pk (x,s),pk (x,(s+1)%4),pk (x,(s+2)%4),pk (x,(s+3)%4),pk (y,t),pk (y,(t+3)%4),pk (y,(t+2)%4),pk (y,(t+1)%4)]:=fun p hp=>by
  rw[mem_eight hs ht,pk_div hp.1.2];have:=both_false.1 hp.2
  exact fun k=>k.elim this.1 this.2
 have pke:∀{p q:Pl},p.2<4→q.2<4→(pk p=pk q↔p=q):=fun {p q} hp hq=>⟨pk_inj hp hq,fun e=>by rw[e]⟩
 have st1:∀q,isPl X q→q≠(x,s)→q≠(x,(s+1)%4)→q≠(y,t)→q≠(y,(t+3)%4)→q≠(x,(s+2)%4)→q≠(y,(t+2)%4) →
  m1 (pk q)=pk (if other X q=(x,(s+2)%4)then other X (y,(t+2)%4)else if other X q=(y,(t+2)%4)then other X (x,(s+2)%4)else other X q) ∧
  (if other X q=(x,(s+2)%4)then other X (y,(t+2)%4)else if other X q=(y,(t+2)%4)then other X (x,(s+2)%4)else other X q).2<4:=fun q hq k1 k2 k3 k4 k5 k6=>by
  have oq:=h.isPl_other hq
  constructor
  · rw[hm1 _ (by
     simp only[List.mem_cons,List.not_mem_nil,or_false,not_or]
     exact⟨fun e=>k1 (pk_inj hq.2 pA.2 e),fun e=>k2 (pk_inj hq.2 pB.2 e),fun e=>k3 (pk_inj hq.2 pa.2 e),fun e=>k4 (pk_inj hq.2 pb.2 e)⟩)]
    rw[if_neg (fun e=>e.elim (fun e=>k5 (pk_inj hq.2 pC.2 e)) fun e=>k6 (pk_inj hq.2 pc.2 e)),h.mate_pk hq,h.mate_pk pc,h.mate_pk pC]
    by_cases c1:other X q=(x,(s+2)%4)
    · rw[if_pos ((pke oq.2 pC.2).2 c1),if_pos c1]
    · rw[if_neg (fun e=>c1 ((pke oq.2 pC.2).1 e)),if_neg c1]
      by_cases c2:other X q=(y,(t+2)%4)
      · rw[if_pos ((pke oq.2 pc.2).2 c2),if_pos c2]
      · rw[if_neg (fun e=>c2 ((pke oq.2 pc.2).1 e)),if_neg c2]
  · split
    · exact(h.isPl_other pc).2
    · split
      · exact(h.isPl_other pC).2
      · exact oq.2
 have mD:=st1 _ pD (fun e=>nAD e.symm) (fun e=>nBD e.symm) (off hxy) (off hxy) (fun e=>nCD e.symm) (off hxy);have md:=st1 _ pd (off hyx) (off hyx) (fun e=>nad e.symm) ndb (off hyx) ndc
 refine cut.planar pm g d f (fun p hp=>?_) (fun z hz=>?_) (fun p hp=>?_) fun z hz=>?_
 · obtain⟨⟨k1,k5,k3,k6⟩,k2,_,k4,_⟩:=(in8 hp.1.2).1 hp.2
   have mp:=st1 p hp.1 k1 k2 k3 k4 k5 k6;rw[m,if_neg (out p hp),mp.1,mD.1,md.1];generalize (if other X p=(x,(s+2)%4)then other X (y,(t+2)%4)else if other X p=(y,(t+2)%4)then other X (x,(s+2)%4)else other X p)=w at mp ⊢
   by_cases c1:w=(x,(s+3)%4)
   · rw[if_pos ((pke mp.2 pD.2).2 c1),if_pos c1]
   · rw[if_neg (fun e=>c1 ((pke mp.2 pD.2).1 e)),if_neg c1]
     by_cases c2:w=(y,(t+1)%4)
     · rw[if_pos ((pke mp.2 pd.2).2 c2),if_pos c2]
     · rw[if_neg (fun e=>c2 ((pke mp.2 pd.2).1 e)),if_neg c2]
 · rw[m]
   rcases liv z hz with k|k
   · have hz':=h.mate_big k
     have far:∀{p},isPl X p→z≠pk p:=fun hp e=>by have:=pk_lt hp;omega
     have e1:m1 z=z:=by
      rw[hm1 z (by
       simp only[List.mem_cons,List.not_mem_nil,or_false,not_or]
       exact⟨far pA,far pB,far pa,far pb⟩),hz',if_neg (far pC),if_neg (far pc)]
      split<;>rfl
     rw[e1,if_neg (far pD),if_neg (far pd)]
     split<;>rfl
   · rw[if_pos ((mem_eight hs ht).2 k)]
 · simp only[if_neg (out p hp)]
 · rcases liv z hz with k|k
   · simp only[(sig_pm X.length).out z k]
     split<;>rfl
   · simp only[if_pos ((mem_eight hs ht).2 k)]
end
end Go.Proofs.YtlicglicfijelaaGreat.Kn

namespace Go.Proofs.YtlicglicfijelaaGreat.Kn
section
variable {X:List Cr}
theorem takeL_len(gone:Nat→Bool):(takeL X gone).length=(kept X.length gone).length:=withL_len
theorem two_filters(p:Nat→Bool):∀l:List Nat,(l.filter fun c=>!p c).length+(l.filter p).length=l.length
 |[]=>rfl
 |x :: l=>by
  have:=two_filters p l
  cases h:p x<;>simp[h]<;>omega
theorem kept_add(n:Nat)(gone:Nat→Bool):(kept n gone).length+((List.range n).filter gone).length=n:=by
 unfold kept
 rw[two_filters,List.length_range]
theorem kept_only{n c:Nat}(hc:c<n):(kept n (only c)).length+1=n:=by
 have h:=kept_add n (only c)
 have:((List.range n).filter (only c)).length=1:=by
  have P:((List.range n).filter (only c)).Perm [c]:=by
   refine(List.perm_ext_iff_of_nodup (List.nodup_range.sublist List.filter_sublist) (by simp)).2 fun x=>?_
   rw[List.mem_filter,List.mem_range,List.mem_singleton];simp only[only,decide_eq_true_eq]
   exact⟨fun h=>h.2,fun h=>⟨h ▸ hc,h⟩⟩
  exact P.length_eq
 omega
theorem kept_both{n x y:Nat}(hx:x<n)(hy:y<n)(hxy:x≠y):(kept n (both x y)).length+2=n:=by
 have h:=kept_add n (both x y)
 have:((List.range n).filter (both x y)).length=2:=by
  have P:((List.range n).filter (both x y)).Perm [x,y]:=by
   refine(List.perm_ext_iff_of_nodup (List.nodup_range.sublist List.filter_sublist) (by simp[hxy])).2 fun z=>?_
   rw[List.mem_filter,List.mem_range,List.mem_cons,List.mem_singleton];simp only[both,Bool.or_eq_true,decide_eq_true_eq]
   exact⟨fun h=>h.2,fun h=>⟨h.elim (fun e=>e ▸ hx) fun e=>e ▸ hy,h⟩⟩
  exact P.length_eq
 omega
theorem Ok.takeN_pos(h:Ok X)(gone:Nat→Bool)(hn:0<X.length)(h0:takeL X gone=[]):1≤takeN X gone:=by
 have hk:kept X.length gone=[]:=by
  have:=takeL_len (X:=X) gone;rw[h0]at this
  exact List.length_eq_zero_iff.1 this.symm
 have hr:=h.class_rep gone X.length (Nat.le_refl _)
 have h1:classF X gone X.length 1=1:=by
  have:=hr.le 1;have:=hr.pos 1 (by omega)
  omega
 unfold takeN ringN
 refine List.countP_pos_iff.2 ⟨0,List.mem_range.2 (by unfold nArcs;omega),?_⟩
 have:leftB X (classF X gone X.length) gone (0+1)=false:=by unfold leftB;rw[hk];rfl
 rw[this]
 simp[h1]
theorem Ok.bigon_of(h:Ok X){d e:Dt}(hd:Kn.isArc X d.1)(h1:left X d=e)(h2:left X e=d):
 other X ((head X e).1,((head X e).2+3)%4)=head X d∧other X (head X e)=((head X d).1,((head X d).2+3)%4):=by
 have he:Kn.isArc X e.1:=h1 ▸ h.isArc_left hd
 have key:∀{d:Dt},Kn.isArc X d.1→head X (left X d)=other X ((head X d).1,((head X d).2+3)%4):=fun {d} hd=>by
  have hp:=isPl_turn (h.isPl_head hd) 3
  show endP X (!(cm X ((head X d).1,((head X d).2+3)%4))) (arcN X ((head X d).1,((head X d).2+3)%4))=_
  rfl
 have k1:=key hd;have k2:=key he;rw[h1]at k1;rw[h2]at k2
 refine⟨k2.symm,?_⟩
 rw[k1,h.other_other (isPl_turn (h.isPl_head hd) 3)]
end
end Go.Proofs.YtlicglicfijelaaGreat.Kn

namespace Go.Proofs.YtlicglicfijelaaGreat.Kn

theorem via_ex{dead:Nat→Bool}{f:Nat→Nat}{N:Nat}(hf:Pm N f){x:Nat}(hx:dead x=false):∃z,Via dead f x z:=by
 obtain⟨n,hn,e⟩:=hf.cycle x
 have key:∀(n:Nat) (x:Nat),dead (it f (n+1) x)=false→∃z,Via dead f x z:=by
  intro n
  induction n with
  |zero=>intro x h;exact⟨f x,.one h⟩
  |succ n ih=>
   intro x h
   cases c:dead (f x)with
   |false=>exact⟨f x,.one c⟩
   |true=>
    have e1:=it_add f 1 x (n+1)
    obtain⟨z,hz⟩:=ih (f x) (by
     have:it f (n+1) (f x)=it f (n+1+1) x:=e1.symm
     rw[this];exact h)
    exact⟨z,.more c hz⟩
 obtain⟨m,rfl⟩:∃m,n=m+1:=⟨n-1,by omega⟩
 exact key m x (by rw[e];exact hx)
def ain(X:List Cr)(x:Nat):Nat:=arcN X (ip X x)
section
variable {X:List Cr}
theorem Ok.ain_nx(h:Ok X){x:Nat}(hx:x<2*X.length):ain X (nxA X x)=arcN X (outA X x):=by
 unfold ain
 rw[h.ip_nx hx,h.arc_other (outA_pl hx)]
theorem Ok.ain_inj(h:Ok X){x y:Nat}(hx:x<2*X.length)(hy:y<2*X.length)(e:ain X x=ain X y):x=y:=by
 refine ip_inj (h.uniq _ _ (ip_isPl hx) (ip_isPl hy) (by rw[ip_cm,ip_cm]) ?_)
 rw[←h.arcN_eq (ip_isPl hx),←h.arcN_eq (ip_isPl hy)]
 exact congrArg _ e
theorem Ok.ain_arc(h:Ok X){x:Nat}(hx:x<2*X.length):Kn.isArc X (ain X x):=h.isArc (ip_isPl hx)
theorem Ok.ain_all(h:Ok X){a:Nat}(ha:Kn.isArc X a):∃x,x<2*X.length∧ain X x=a:=by
 have hp:=h.isPl_end (io:=true) ha;have hc:=h.cm_end (io:=true) ha
 refine⟨Kn.lt (endP X true a),lt_lt hp,?_⟩
 unfold ain
 rw[ip_lt hc,h.arc_end ha]
def eK(n:Nat)(gone:Nat→Bool)(l:Nat):Nat:=2*(kept n gone).getD (l / 2) 0+l%2
def rK(n:Nat)(gone:Nat→Bool)(x:Nat):Nat:=2*(kept n gone).idxOf (x / 2)+x%2
def dK(gone:Nat→Bool)(x:Nat):Bool:=gone (x / 2)
theorem kept_nodup(n:Nat)(gone:Nat→Bool):(kept n gone).Nodup:=List.nodup_range.filter _
theorem kept_idx{n:Nat}{gone:Nat→Bool}{i:Nat}(h:i<(kept n gone).length):(kept n gone).idxOf ((kept n gone).getD i 0)=i:=by
 rw[List.getD_eq_getElem?_getD,List.getElem?_eq_getElem h];have:=(kept_nodup n gone).idxOf_getElem i h
 exact this
theorem idx_kept{n c:Nat}{gone:Nat→Bool}(hc:c<n)(hg:gone c=false):(kept n gone).idxOf c<(kept n gone).length∧(kept n gone).getD ((kept n gone).idxOf c) 0=c:=by
 have h1:=List.idxOf_lt_length_of_mem (mem_kept.2 ⟨hc,hg⟩)
 refine⟨h1,?_⟩
 rw[List.getD_eq_getElem?_getD,List.getElem?_eq_getElem h1]
 exact List.getElem_idxOf h1
theorem mt_two(c b:Nat)(hb:b<2):mt (2*c+b)=2*c+(1-b):=by unfold mt;split<;>omega
theorem ip_two{l c b:Nat}(hl:l=2*c+b)(hb:b<2):ip X l=(c,if b=0 then 0 else over (cr X c).p):=by
 unfold ip
 have h1:l / 2=c:=by omega
 have h2:l%2=b:=by omega
 rw[h1,h2]
variable {f:Nat→Nat} {gone:Nat→Bool}
theorem ip_eK{l:Nat}(hl:l<2*(withL X f gone).length):ip X (eK X.length gone l)=onP (fun i=>(kept X.length gone).getD i 0) (ip (withL X f gone) l):=by
 have hi:l / 2<(kept X.length gone).length:=by rw[←withL_len (X:=X) (f:=f)];omega
 rw[ip_two (X:=X) (l:=eK X.length gone l) (c:=(kept X.length gone).getD (l / 2) 0) (b:=l%2) rfl (by omega),ip_two (X:=withL X f gone) (l:=l) (c:=l / 2) (b:=l%2) (by omega) (by omega)]
 unfold onP
 simp only
 rw[withL_cr hi];rfl
theorem out_eK{l:Nat}(hl:l<2*(withL X f gone).length):outA X (eK X.length gone l)=onP (fun i=>(kept X.length gone).getD i 0) (outA (withL X f gone) l):=by
 unfold outA
 rw[ip_eK hl];rfl
theorem eK_emb(hX:Ok X)(hY:Ok (withL X f gone))(L L':Nat):Emb (hX.ar L) (hY.ar L') (eK X.length gone) (rK X.length gone) (dK gone):=by
 have len:(withL X f gone).length=(kept X.length gone).length:=withL_len
 have hi:∀l,l<2*(withL X f gone).length→l / 2<(kept X.length gone).length:=fun l hl=>by omega
 have hd:∀l,eK X.length gone l / 2=(kept X.length gone).getD (l / 2) 0:=fun l=>by unfold eK;omega
 have hm:∀l,eK X.length gone l%2=l%2:=fun l=>by unfold eK;omega
 refine⟨fun l hl=>?_,fun l hl=>?_,fun l hl=>?_,fun l hl=>?_,fun x hx hxd=>?_,fun l hl=>?_⟩
 · have:=(kept_lt (X:=X) (gone:=gone) (hi l hl)).1
   show eK X.length gone l<2*X.length
   unfold eK;omega
 · show eK X.length gone (mt l)=mt (eK X.length gone l)
   have e1:eK X.length gone l=2*(kept X.length gone).getD (l / 2) 0+l%2:=rfl;rw[e1,mt_two _ _ (by omega)]
   unfold eK
   rw[mt_div,mt_mod]
 · unfold rK
   rw[hd,hm,kept_idx (hi l hl)];omega
 · unfold dK
   rw[hd]
   exact(kept_lt (X:=X) (gone:=gone) (hi l hl)).2
 · have hx:x<2*X.length:=hx
   obtain⟨h1,h2⟩:=idx_kept (n:=X.length) (c:=x / 2) (gone:=gone) (by omega) hxd
   have hl:rK X.length gone x<2*(withL X f gone).length:=by unfold rK;rw[len];omega
   refine⟨hl,?_⟩
   unfold eK
   have e1:rK X.length gone x / 2=(kept X.length gone).idxOf (x / 2):=by unfold rK;omega
   have e2:rK X.length gone x%2=x%2:=by unfold rK;omega
   rw[e1,e2,h2];omega
 · show (if eK X.length gone l%2=1 then(cr X (eK X.length gone l / 2)).p else !(cr X (eK X.length gone l / 2)).p)=if l%2=1 then(cr (withL X f gone) (l / 2)).p else !(cr (withL X f gone) (l / 2)).p
   rw[hm,hd,withL_cr (hi l hl)];rfl
structure Ties(X:List Cr)(hX:Ok X)(f:Nat→Nat)(gone:Nat→Bool)(es:Prs)(o:Pl→Pl)(S:St):Prop where
 rep:Rep f (com (fun x=>x) es)
 tied:Tied X (fun p=>isPl X p∧gone p.1=false) (com (fun x=>x) es) o
 es_:∀e∈es,∃x,x<2*X.length∧gone (x / 2)=true∧(e=(ain X x,ain X ((hX.ar 0).nS S x))∨e=(ain X ((hX.ar 0).nS S x),ain X x))
 in_:∀x,x<2*X.length→gone (x / 2)=true→com (fun x=>x) es (ain X x) (ain X ((hX.ar 0).nS S x))
 st:∀c,c<X.length→gone c=false→S c=false
variable {es:Prs} {o:Pl→Pl} {S:St}
theorem Ties.cut{hX:Ok X}(h:Ties X hX f gone es o S):Cut X (withL X f gone) (fun i=>(kept X.length gone).getD i 0) (fun a=>numF X f gone (f a)) (fun p=>isPl X p∧gone p.1=false) (com (fun x=>x) es) o:=
 with_cut hX h.rep (com_id_equiv _) h.tied fun _=>Iff.rfl
theorem Ties.ok{hX:Ok X}(h:Ties X hX f gone es o S):Ok (withL X f gone):=h.cut.okY
theorem nS_ar(hX:Ok X)(L:Nat)(S:St):(hX.ar L).nS S=(hX.ar 0).nS S:=rfl
theorem Ties.via_tie{hX:Ok X}(h:Ties X hX f gone es o S){x z:Nat}(hv:Via (dK gone) ((hX.ar 0).nS S) x z)(hx:x<2*X.length):com (fun x=>x) es (ain X ((hX.ar 0).nS S x)) (ain X z):=by
 induction hv with
 |one _=>exact(com_id_equiv es).refl _
 |more hd _ ih=>
  have hy:=((hX.ar 0).nS_pm S).lt _ hx
  exact(com_id_equiv es).trans (h.in_ _ hy hd) (ih hy)
theorem Ties.red{hX:Ok X}(h:Ties X hX f gone es o S)(L L':Nat):Red (hX.ar L) (h.ok.ar L') (eK X.length gone) (dK gone) S (fun _=>false):=by
 have hE:=eK_emb (f:=f) hX h.ok L L'
 have hd:∀l,eK X.length gone l / 2=(kept X.length gone).getD (l / 2) 0:=fun l=>by unfold eK;omega
 have hst:∀l,l<2*(withL X f gone).length→S (eK X.length gone l / 2)=false:=fun l hl=>by
  have hi:l / 2<(kept X.length gone).length:=by rw[←withL_len (X:=X) (f:=f)];omega
  have:=kept_lt (X:=X) (gone:=gone) hi;rw[hd]
  exact h.st _ this.1 this.2
 refine⟨fun l hl=>hst l hl,fun l hl=>?_⟩
 have hl:l<2*(withL X f gone).length:=hl;have he:eK X.length gone l<2*X.length:=hE.lt l hl;obtain⟨z,hz⟩:=via_ex (dead:=dK gone) ((hX.ar 0).nS_pm S) (x:=eK X.length gone l) (hE.live l hl);have hz2:z<2*X.length:=hz.orb.lt ((hX.ar 0).nS_pm S) he;have h1:=h.via_tie hz he
 have h2:(hX.ar 0).nS S (eK X.length gone l)=nxA X (eK X.length gone l):=by
  show (if S (eK X.length gone l / 2)=true∧_ then _ else _)=_
  rw[hst l hl,if_neg (by simp)];rfl
 rw[h2,hX.ain_nx he,out_eK hl]at h1;have hY:=h.ok;have ho:=outA_pl (X:=withL X f gone) hl;have hnx:nxA (withL X f gone) l<2*(withL X f gone).length:=hY.nx_pm.lt l hl;have h3:=h.cut.other ho;rw[←hY.ip_nx hl,←ip_eK hnx]at h3;have lv:=h.cut.liv ho
 have h4:ip X z=o (onP (fun i=>(kept X.length gone).getD i 0) (outA (withL X f gone) l)):=by
  refine h.tied.un _ _ ⟨ip_isPl hz2,hz.live⟩ (h.tied.lv _ lv) ?_ ?_
  · rw[ip_cm,h.tied.op _ lv,←h.cut.cm ho,outA_cm hl];rfl
  · exact(com_id_equiv es).trans ((com_id_equiv es).symm h1) (h.tied.eq _ lv)
 rw[←h3]at h4;have h5:z=eK X.length gone (nxA (withL X f gone) l):=ip_inj h4
 have h6:(h.ok.ar L').nS (fun _=>false) l=nxA (withL X f gone) l:=by
  show (if (fun _=>false) (l / 2)=true∧_ then _ else _)=_
  rw[if_neg (by simp)];rfl
 rw[h6,←h5]
 exact hz
theorem Ties.rings{hX:Ok X}(h:Ties X hX f gone es o S)(L:Nat):(hX.ar L).k S=(h.ok.ar (L+ringN X f gone)).k (fun _=>false):=by
 have hE:=eK_emb (f:=f) hX h.ok L (L+ringN X f gone);have hR:=h.red L (L+ringN X f gone);obtain⟨ws,hW⟩:=(hX.ar L).ws_ex S;have hpm:=(hX.ar L).nS_pm S;have hZ:=hW.fil hE hR;rw[Ws.k_eq _ hW,Ws.k_eq _ hZ]
 show ws.length+L=(fil (dK gone) (rK X.length gone) ws).length+(L+ringN X f gone)
 obtain⟨Q,hQ⟩:∃Q:Nat→Bool,∀x,Q x=(decide (f (ain X x)=ain X x) && !leftB X f gone (ain X x)):=⟨_,fun _=>rfl⟩
 have hr:ringN X f gone=(List.range (2*X.length)).countP Q:=by
  have p1:((List.range (2*X.length)).map (ain X)).Perm ((List.range (nArcs X)).map (· + 1)):=by
   refine(List.perm_ext_iff_of_nodup (map_nodup List.nodup_range fun x hx y hy e=>hX.ain_inj (List.mem_range.1 hx) (List.mem_range.1 hy) e) (map_nodup List.nodup_range fun x _ y _ e=>by
    have e:x+1=y+1:=e
    omega)).2 fun a=>?_
   rw[List.mem_map,List.mem_map]
   constructor
   · rintro⟨x,hx,rfl⟩
     obtain⟨q1,q2⟩:=hX.ain_arc (List.mem_range.1 hx)
     exact⟨ain X x-1,List.mem_range.2 (by omega),by show ain X x-1+1=_;omega⟩
   · rintro⟨b,hb,rfl⟩
     rw[List.mem_range]at hb;obtain⟨x,hx,e⟩:=hX.ain_all (a:=b+1) ⟨by omega,by omega⟩
     exact⟨x,List.mem_range.2 hx,e⟩
  have p2:=p1.countP_eq fun a=>decide (f a=a) && !leftB X f gone a
  rw[List.countP_map,List.countP_map]at p2
  unfold ringN
  have e1:(List.range (nArcs X)).countP (fun a=>decide (f (a+1)=a+1) && !leftB X f gone (a+1))=(List.range (nArcs X)).countP ((fun a=>decide (f a=a) && !leftB X f gone a)∘(· + 1)):=rfl;rw[e1,←p2]
  exact List.countP_congr fun x _=>by rw[hQ];rfl
 have hE':=com_id_equiv es
 have sameW:∀{w:List Nat},w∈ws→∀{a b:Nat},com (fun x=>x) es a b→(∃x∈w,ain X x=a)→(∃x∈w,ain X x=b):=by
  intro w hw a b k
  have hcy:=hW.cyc w hw;have eqv:Equivalence (fun a b:Nat=>(∃x∈w,ain X x=a)↔(∃x∈w,ain X x=b)):=⟨fun _=>Iff.rfl,fun h=>h.symm,fun h1 h2=>h1.trans h2⟩;refine(com_least eqv (fun x=>Iff.rfl) (fun e he=>?_) k).1;obtain⟨x,hx,hg,he'⟩:=h.es_ e he
  have step:(∃y∈w,ain X y=ain X x)↔(∃y∈w,ain X y=ain X ((hX.ar 0).nS S x)):=by
   have hnx:=hpm.lt x hx
   constructor
   · rintro⟨y,hy,e⟩
     have hy2:y<2*X.length:=hW.mem.1 (List.mem_flatten.2 ⟨w,hw,hy⟩);have:=hX.ain_inj hy2 hx e;subst this
     exact⟨_,cy_closed hcy hy,rfl⟩
   · rintro⟨y,hy,e⟩
     have hy2:y<2*X.length:=hW.mem.1 (List.mem_flatten.2 ⟨w,hw,hy⟩);have:=hX.ain_inj hy2 hnx e;subst this
     exact⟨x,cy_orb hcy hy (hpm.back x),rfl⟩
  rcases he' with rfl|rfl
  · exact step
  · exact step.symm
 have one:∀w∈ws,w.countP Q=if fw (dK gone) (rK X.length gone) w=[]then 1 else 0:=by
  intro w hw
  have hcy:=hW.cyc w hw
  have hlt:∀x∈w,x<2*X.length:=fun x hx=>hW.mem.1 (List.mem_flatten.2 ⟨w,hw,hx⟩)
  have hwn:w.Nodup:=word_nodup hW.nodup hw
  by_cases c:fw (dK gone) (rK X.length gone) w=[]
  · rw[if_pos c]
    have dead:∀x∈w,gone (x / 2)=true:=fun x hx=>by
     unfold fw at c
     rw[List.map_eq_nil_iff,List.filter_eq_nil_iff]at c;have:=c x hx
     unfold dK at this
     simpa using this
    obtain⟨a,ha⟩:=List.exists_mem_of_ne_nil w (cy_ne hcy)
    have tie:∀x∈w,com (fun x=>x) es (ain X a) (ain X x):=fun x hx=>by
     have:=cy_all hcy ha hx
     exact(this.ind (P:=fun x=>x∈w∧com (fun x=>x) es (ain X a) (ain X x)) (fun y hy=>⟨cy_closed hcy hy.1,hE'.trans hy.2 (h.in_ y (hlt y hy.1) (dead y hy.1))⟩) ⟨ha,hE'.refl _⟩).2
    obtain⟨b,hb,hab⟩:=sameW hw (a:=ain X a) (b:=f (ain X a)) ((h.rep.iff _ _).1 (h.rep.idem _).symm) ⟨a,ha,rfl⟩
    have hQb:Q b=true:=by
     rw[hQ,hab,h.rep.idem]
     have:leftB X f gone (f (ain X a))=false:=by
      rw[←Bool.not_eq_true,leftB_iff];rintro⟨p,hp,hg,e⟩;obtain⟨y,hy,ey⟩:=sameW hw ((h.rep.iff _ _).1 e.symm) ⟨a,ha,rfl⟩;have hy2:=hlt y hy
      have hip:ip X y=p∨ip X y=other X p:=by
       have:=(hX.arc_eq (ip_isPl hy2) hp).1 ey
       rcases this with k|k
       · exact .inl k.symm
       · right;rw[k,hX.other_other (ip_isPl hy2)]
      rcases hip with k|k
      · have:=dead y hy
        rw[←ip_one X y,k,hg]at this;cases this
      · -- the letter ahead of y is at p's crossing
        have hyc:cm X p=false:=by
         have:=ip_cm X y;rw[k,hX.cm_other hp]at this
         simpa using this
        obtain⟨u,hu,eu⟩:∃u,u<2*X.length∧outA X u=p:=by
         have q:=isPl_turn hp 2
         have qc:cm X (p.1,(p.2+2)%4)=true:=by rw[cm_opp hp,hyc];rfl
         refine⟨Kn.lt (p.1,(p.2+2)%4),lt_lt q,?_⟩
         unfold outA
         rw[ip_lt qc]
         refine Prod.ext rfl ?_
         have:=hp.2
         simp only;omega
        have hu1:u / 2=p.1:=by rw[←ip_one X u,←eu];rfl
        have hSu:S (u / 2)=false:=by rw[hu1];exact h.st _ hp.1 hg
        have e1:(hX.ar 0).nS S u=y:=by
         have:(hX.ar 0).nS S u=nxA X u:=by
          show (if S (u / 2)=true∧_ then _ else _)=_
          rw[hSu,if_neg (by simp)];rfl
         rw[this]
         refine ip_inj (Y:=X) ?_
         rw[hX.ip_nx hu,eu,k]
        have:u∈w:=cy_orb hcy hy (by
         have:=hpm.back u;rw[nS_ar hX L S]at this
         rwa [e1]at this)
        have:=dead u this
        rw[hu1,hg]at this;cases this
     simp[this]
    have h0:=countP_but (l:=w) hwn (p:=Q) (q:=fun _=>false) hb hQb fun d hd=>by
     by_cases e:d=b
     · simp[e]
     · have:Q d=false:=by
        rw[hQ];have hfd:f (ain X d)=f (ain X a):=(h.rep.iff _ _).2 (hE'.symm (tie d hd))
        have:¬f (ain X d)=ain X d:=fun k=>e (hX.ain_inj (hlt d hd) (hlt b hb) (by rw[←k,hfd,hab]))
        simp[this]
       simp[this]
    rw[←h0];simp
  · rw[if_neg c,List.countP_eq_zero]
    intro y hy hQy
    rw[hQ]at hQy;simp only[Bool.and_eq_true,decide_eq_true_eq,Bool.not_eq_true']at hQy
    have live:∃z,z∈w∧gone (z / 2)=false∧com (fun x=>x) es (ain X y) (ain X z):=by
     by_cases g:gone (y / 2)=false
     · exact⟨y,hy,g,hE'.refl _⟩
     · have g:gone (y / 2)=true:=by simpa using g
       obtain⟨x,hx,hgx⟩:∃x∈w,gone (x / 2)=false:=Classical.byContradiction fun k=>c (by
        unfold fw
        rw[List.map_eq_nil_iff,List.filter_eq_nil_iff]
        intro x hx
        unfold dK
        cases e:gone (x / 2)with
        |true=>simp
        |false=>exact absurd ⟨x,hx,e⟩ k)
       have:∃z,Via (dK gone) ((hX.ar 0).nS S) y z:=by
        obtain⟨n,hn⟩:=cy_all hcy hy hx
        have gen:∀(n:Nat) (y:Nat),dK gone y=true→dK gone (it ((hX.ar 0).nS S) n y)=false→∃z,Via (dK gone) ((hX.ar 0).nS S) y z:=by
         intro n
         induction n with
         |zero=>intro y h1 h2;rw[show it ((hX.ar 0).nS S) 0 y=y from rfl,h1]at h2;cases h2
         |succ n ih=>
          intro y h1 h2
          cases e:dK gone ((hX.ar 0).nS S y)with
          |false=>exact⟨_,.one e⟩
          |true=>
           have e1:=it_add ((hX.ar 0).nS S) 1 y n
           obtain⟨z,hz⟩:=ih ((hX.ar 0).nS S y) e (by
            have:it ((hX.ar 0).nS S) n ((hX.ar 0).nS S y)=it ((hX.ar 0).nS S) (n+1) y:=e1.symm
            rw[this];exact h2)
           exact⟨z,.more e hz⟩
        exact gen n y g (by
         have hn:it ((hX.ar 0).nS S) n y=x:=hn
         rw[hn];exact hgx)
       obtain⟨z,hz⟩:=this
       refine⟨z,cy_orb hcy hy hz.orb,hz.live,?_⟩
       exact hE'.trans (h.in_ y (hlt y hy) g) (h.via_tie hz (hlt y hy))
    obtain⟨z,hzw,hzg,hzc⟩:=live
    have:leftB X f gone (ain X y)=true:=leftB_iff.2 ⟨ip X z,ip_isPl (hlt z hzw),hzg,by
     have:=(h.rep.iff _ _).2 hzc
     show f (ain X z)=ain X y
     rw[←this];exact hQy.1⟩
    rw[this]at hQy
    exact absurd hQy.2 (by simp)
 have tot:ringN X f gone=(ws.map fun w=>if fw (dK gone) (rK X.length gone) w=[]then 1 else 0).sum:=by
  have e0:ws.flatten.countP Q=(List.range (2*X.length)).countP Q:=hW.perm.countP_eq Q;rw[hr,←e0,countP_flatten']
  congr 1
  exact List.map_congr_left fun w hw=>one w hw
 rw[tot]
 have fin:∀vs:List (List Nat),vs.length=(fil (dK gone) (rK X.length gone) vs).length+(vs.map fun w=>if fw (dK gone) (rK X.length gone) w=[]then 1 else 0).sum:=by
  intro vs
  induction vs with
  |nil=>rfl
  |cons v vs ih=>
   rw[fil_cons,List.map_cons,List.sum_cons,List.length_cons]
   by_cases c:fw (dK gone) (rK X.length gone) v=[]
   · rw[if_pos c,if_pos c];omega
   · rw[if_neg c,if_neg c,List.length_cons];omega
 have:=fin ws
 omega
end
end Go.Proofs.YtlicglicfijelaaGreat.Kn

namespace Go.Proofs.YtlicglicfijelaaGreat.Kn

section
variable {N:Nat} {σ:Nat→Nat}
theorem Flat.smooth(h:Pm N σ){es:Prs}(hg:Good N es)(hd:Dis es)(hf:Flat N σ es){A B C D:Nat}(hnd:[A,B,C,D].Nodup)
 (sA:σ A=C) (sC:σ C=D) (sD:σ D=B) (sB:σ B=A) (hm:∀z∈[A,B,C,D],mate es z≠z) {m1:Nat→Nat}
 (hm1:∀z,m1 z=if mate es z=A then mate es B else if mate es z=B then mate es A else mate es z):
 ∃es',Good N es'∧Dis es'∧Pm N (fun x=>if x∈[A,B,C,D]then x else σ x)∧Flat N (fun x=>if x∈[A,B,C,D]then x else σ x) es' ∧
  ∀z,mate es' z=if z∈[A,B,C,D]then z else if m1 z=C then m1 D else if m1 z=D then m1 C else m1 z:=by
 have hnd':=hnd;simp only[List.nodup_cons,List.mem_cons,List.not_mem_nil,or_false,not_or,List.nodup_nil,and_true,not_false_eq_true]at hnd';obtain⟨⟨nAB,nAC,nAD⟩,⟨nBC,nBD⟩,nCD⟩:=hnd'
 have nBA:¬B=A:=fun e=>nAB e.symm
 have nCA:¬C=A:=fun e=>nAC e.symm
 have nDA:¬D=A:=fun e=>nAD e.symm
 have nCB:¬C=B:=fun e=>nBC e.symm
 have nDB:¬D=B:=fun e=>nBD e.symm
 have nDC:¬D=C:=fun e=>nCD e.symm
 have mA:=hm A (by simp);have mB:=hm B (by simp);have mC:=hm C (by simp);have mD:=hm D (by simp)
 have inN:∀z,mate es z≠z→z<N:=fun z hz=>by
  obtain⟨e,he,k⟩:=(inPrs_iff hg hd z).2 hz;obtain⟨a,b,_⟩:=hg e he
  rcases k with rfl|rfl
  · exact a
  · exact b
 have hB:=inN B mB;have hC:=inN C mC;have oBC:Orb σ B C:=(Orb.one σ B).trans (by rw[sB];have:=Orb.one σ A;rwa [sA]at this);have f1:=hf.split h hg hB hC nBC oBC;have h1:Pm N (fun x=>swp B C (σ x)):=h.swp hB hC
 obtain⟨es1,g1,d1,f2,e1⟩:=f1.suppress h1 hg hd (u:=A) (v:=B) nAB
  (by show swp B C (σ A)=B;rw[sA,swp_b]) (by show swp B C (σ B)=A;rw[sB,swp_ne nAB nAC])
  ((inPrs_iff hg hd A).2 mA) ((inPrs_iff hg hd B).2 mB)
 have hA:=inN A mA;have hD:=inN D mD;have h2:Pm N (fun x=>swp A B (swp B C (σ x))):=h1.swp hA hB
 have e1':∀z,z≠A→z≠B→mate es1 z=m1 z:=fun z k1 k2=>by
  rw[e1,if_neg (fun k=>k.elim k1 k2),hm1]
 have inv:∀x,mate es (mate es x)=x:=fun x=>mate_mate hd x
 have m1C:m1 C≠C:=by
  rw[hm1]
  split
  · next k=>
    intro k'
    have:=congrArg (mate es) k';rw[inv,k]at this
    exact nBA this
  · split
    · next k=>
      intro k'
      have:=congrArg (mate es) k';rw[inv,k]at this
      exact nAB this
    · exact mC
 have m1D:m1 D≠D:=by
  rw[hm1]
  split
  · next k=>
    intro k'
    have:=congrArg (mate es) k';rw[inv,k]at this
    exact nBA this
  · split
    · next k=>
      intro k'
      have:=congrArg (mate es) k';rw[inv,k]at this
      exact nAB this
    · exact mD
 obtain⟨es2,g2,d2,f3,e2⟩:=f2.suppress h2 g1 d1 (u:=C) (v:=D) nCD
  (by show swp A B (swp B C (σ C))=D;rw[sC,swp_ne nDB nDC,swp_ne nDA nDB])
  (by show swp A B (swp B C (σ D))=C;rw[sD,swp_a,swp_ne nCA nCB])
  ((inPrs_iff g1 d1 C).2 (by rw[e1' C nCA nCB];exact m1C)) ((inPrs_iff g1 d1 D).2 (by rw[e1' D nDA nDB];exact m1D))
 have e:(fun x=>if x∈[A,B,C,D]then x else σ x)=fun x=>swp C D (swp A B (swp B C (σ x))):=funext fun x=>by
  by_cases c1:x=A
  · subst c1;simp[sA,swp, *]
  · by_cases c2:x=B
    · subst c2;simp[sB,swp, *]
    · by_cases c3:x=C
      · subst c3;simp[sC,swp, *]
      · by_cases c4:x=D
        · subst c4;simp[sD,swp, *]
        · have w1:¬σ x=A:=fun k=>c2 (h.inj _ _ (k.trans sB.symm))
          have w2:¬σ x=B:=fun k=>c4 (h.inj _ _ (k.trans sD.symm))
          have w3:¬σ x=C:=fun k=>c1 (h.inj _ _ (k.trans sA.symm))
          have w4:¬σ x=D:=fun k=>c3 (h.inj _ _ (k.trans sC.symm))
          simp[swp,w1,w2,w3,w4,c1,c2,c3,c4]
 refine⟨es2,g2,d2,by rw[e];exact h2.swp hC hD,by rw[e];exact f3,fun z=>?_⟩
 rw[e2]
 have aA:mate es1 A=A:=by rw[e1,if_pos (.inl rfl)]
 have aB:mate es1 B=B:=by rw[e1,if_pos (.inr rfl)]
 by_cases c1:z=A
 · subst c1
   rw[if_neg (by simp[nAC,nAD]),aA,if_neg nAC,if_neg nAD,if_pos (by simp)]
 · by_cases c2:z=B
   · subst c2
     rw[if_neg (by simp[nBC,nBD]),aB,if_neg nBC,if_neg nBD,if_pos (by simp)]
   · rw[e1' z c1 c2,e1' D nDA nDB,e1' C nCA nCB]
     simp[c1,c2]
end
section
variable {X:List Cr}
def smF(X:List Cr)(k:Nat):Nat→Nat:=
 joinF (joinF (fun a=>a) (arcN X (k,0)) (arcN X (k,(over (cr X k).p+2)%4))) (arcN X (k,over (cr X k).p)) (arcN X (k,2))
def smE(X:List Cr)(k:Nat):Prs:=[(arcN X (k,over (cr X k).p),arcN X (k,2)),(arcN X (k,0),arcN X (k,(over (cr X k).p+2)%4))]
def smL(X:List Cr)(k:Nat):List Cr:=withL X (smF X k) (only k)
def smN(X:List Cr)(k:Nat):Nat:=ringN X (smF X k) (only k)
def smO(X:List Cr)(k s:Nat)(p:Pl):Pl:=
 let o1:=fun p=>if other X p=(k,s)then other X (k,(s+1)%4)else if other X p=(k,(s+1)%4)then other X (k,s)else other X p
 if o1 p=(k,(s+3)%4)then o1 (k,(s+2)%4)else if o1 p=(k,(s+2)%4)then o1 (k,(s+3)%4)else o1 p
def smS(X:List Cr)(k:Nat):Nat:=if (cr X k).p then 0 else 3
theorem nS_only(hX:Ok X){k x:Nat}(hx:x<2*X.length)(hk:x / 2=k):(hX.ar 0).nS (only k) x=nxA X (mt x):=by
 show (if only k (x / 2)=true∧x<2*X.length then nxA X (mt x)else nxA X x)=_
 rw[if_pos ⟨by simp[hk],hx⟩]
theorem Ok.smooth_ties(hX:Ok X){k:Nat}(hk:k<X.length):Ties X hX (smF X k) (only k) (smE X k) (smO X k (smS X k)) (only k):=by
 have ar:∀s,s<4→1≤arcN X (k,s):=fun s hs=>(hX.isArc (p:=(k,s)) ⟨hk,hs⟩).1
 have R:Rep (smF X k) (com (fun x=>x) (smE X k)):=(Rep.id.join (ar 0 (by omega)) (ar _ (Nat.mod_lt _ (by omega)))).join (ar _ (over_lt _)) (ar 2 (by omega))
 have e0:ain X (2*k)=arcN X (k,0):=by unfold ain;rw[ip_even (by omega),show 2*k / 2=k by omega]
 have e1:ain X (2*k+1)=arcN X (k,over (cr X k).p):=by unfold ain;rw[ip_odd (by omega),show (2*k+1) / 2=k by omega]
 have m0:mt (2*k)=2*k+1:=by unfold mt;rw[if_pos (by omega)]
 have m1:mt (2*k+1)=2*k:=by unfold mt;rw[if_neg (by omega)];omega
 have o0:outA X (2*k)=(k,2):=by unfold outA;rw[ip_even (by omega),show 2*k / 2=k by omega];rfl
 have o1:outA X (2*k+1)=(k,(over (cr X k).p+2)%4):=by unfold outA;rw[ip_odd (by omega),show (2*k+1) / 2=k by omega]
 have n0:ain X ((hX.ar 0).nS (only k) (2*k))=arcN X (k,(over (cr X k).p+2)%4):=by
  rw[nS_only hX (by omega) (by omega),m0,hX.ain_nx (by omega),o1]
 have n1:ain X ((hX.ar 0).nS (only k) (2*k+1))=arcN X (k,2):=by
  rw[nS_only hX (by omega) (by omega),m1,hX.ain_nx (by omega),o0]
 refine⟨R,?_,fun e he=>?_,fun x hx hg=>?_,fun c _ hg=>hg⟩
 · have hs4:smS X k<4:=by unfold smS;split<;>omega
   obtain⟨s,hs⟩:∃s,s=smS X k:=⟨_,rfl⟩
   rw[←hs]at hs4 ⊢
   have m4:∀j,(s+j)%4<4:=fun j=>Nat.mod_lt _ (by omega)
   have pA:isPl X (k,s):=⟨hk,hs4⟩;have pB:isPl X (k,(s+1)%4):=⟨hk,m4 1⟩;have pC:isPl X (k,(s+3)%4):=⟨hk,m4 3⟩;have pD:isPl X (k,(s+2)%4):=⟨hk,m4 2⟩;obtain⟨nAB,nAD,nAC,nBD,nBC,nDC⟩:=four_ne (c:=k) hs4
   have cms:∀t,t<4→cm X (k,t)=(decide (t=0)||decide (t=over (cr X k).p)):=fun _ _=>rfl
   have cAB:cm X (k,(s+1)%4)=!cm X (k,s):=by
    rw[cms _ (m4 1),cms _ hs4,hs]
    unfold smS over
    cases (cr X k).p<;>rfl
   have cCD:cm X (k,(s+2)%4)=!cm X (k,(s+3)%4):=by
    rw[cms _ (m4 2),cms _ (m4 3),hs]
    unfold smS over
    cases (cr X k).p<;>rfl
   have T1:=hX.tied.step (com_id_equiv []) pA pB cAB;have T2:=T1.step (mrg_equiv (com_id_equiv []) _ _) (u:=(k,(s+3)%4)) (v:=(k,(s+2)%4)) ⟨pC,fun e=>nAC e.symm,fun e=>nBC e.symm⟩ ⟨pD,fun e=>nAD e.symm,fun e=>nBD e.symm⟩ cCD
   refine T2.congr (fun p=>?_) (fun x y=>?_) fun _ _=>rfl
   · constructor
     · rintro⟨h1,h2⟩
       have h2:¬p.1=k:=by simpa using h2
       rw[of_four hs4 h1.2]at h2;simp only[not_or]at h2
       exact⟨⟨h1,h2.1,h2.2.1⟩,h2.2.2.2,h2.2.2.1⟩
     · rintro⟨⟨h1,h2,h3⟩,h4,h5⟩
       refine⟨h1,?_⟩
       have:¬p.1=k:=by rw[of_four hs4 h1.2];simp only[not_or];exact⟨h2,h3,h5,h4⟩
       simpa using this
   · show com (fun x=>x) (smE X k) x y↔com (fun x=>x) [(arcN X (k,(s+3)%4),arcN X (k,(s+2)%4)),(arcN X (k,s),arcN X (k,(s+1)%4))] x y
     have hp:=over_cases (cr X k).p
     have symm:∀{es:Prs} {a b:Nat},com (fun x=>x) es a b→com (fun x=>x) es b a:=fun {es}=>(com_id_equiv es).symm
     constructor
     · refine com_id_mono fun e he=>?_
       unfold smE at he
       rw[List.mem_cons,List.mem_singleton]at he
       rcases hp with⟨hp,ho⟩|⟨hp,ho⟩
       · have hs0:s=0:=by rw[hs];unfold smS;rw[hp];rfl
         rw[ho]at he;subst hs0
         rcases he with rfl|rfl
         · exact com_id_pair (e:=(arcN X (k,3),arcN X (k,2))) (by simp)
         · exact com_id_pair (e:=(arcN X (k,0),arcN X (k,1))) (by simp)
       · have hs0:s=3:=by rw[hs];unfold smS;rw[hp];rfl
         rw[ho]at he;subst hs0
         rcases he with rfl|rfl
         · exact symm (com_id_pair (e:=(arcN X (k,2),arcN X (k,1))) (by simp))
         · exact symm (com_id_pair (e:=(arcN X (k,3),arcN X (k,0))) (by simp))
     · refine com_id_mono fun e he=>?_
       rw[List.mem_cons,List.mem_singleton]at he
       rcases hp with⟨hp,ho⟩|⟨hp,ho⟩
       · have hs0:s=0:=by rw[hs];unfold smS;rw[hp];rfl
         have hE:smE X k=[(arcN X (k,3),arcN X (k,2)),(arcN X (k,0),arcN X (k,1))]:=by unfold smE;rw[ho]
         rw[hE];subst hs0
         rcases he with rfl|rfl
         · exact com_id_pair (e:=(arcN X (k,3),arcN X (k,2))) (by simp)
         · exact com_id_pair (e:=(arcN X (k,0),arcN X (k,1))) (by simp)
       · have hs0:s=3:=by rw[hs];unfold smS;rw[hp];rfl
         have hE:smE X k=[(arcN X (k,1),arcN X (k,2)),(arcN X (k,0),arcN X (k,3))]:=by unfold smE;rw[ho]
         rw[hE];subst hs0
         rcases he with rfl|rfl
         · exact symm (com_id_pair (e:=(arcN X (k,1),arcN X (k,2))) (by simp))
         · exact symm (com_id_pair (e:=(arcN X (k,0),arcN X (k,3))) (by simp))
 · unfold smE at he
   rw[List.mem_cons,List.mem_singleton]at he
   rcases he with rfl|rfl
   · exact⟨2*k+1,by omega,by simp;omega,.inl (by rw[e1,n1])⟩
   · exact⟨2*k,by omega,by simp,.inl (by rw[e0,n0])⟩
 · have hg:x / 2=k:=by simpa using hg
   have:x=2*k∨x=2*k+1:=by omega
   rcases this with rfl|rfl
   · rw[e0,n0];exact com_id_pair (e:=(arcN X (k,0),arcN X (k,(over (cr X k).p+2)%4))) (by unfold smE;simp)
   · rw[e1,n1];exact com_id_pair (e:=(arcN X (k,over (cr X k).p),arcN X (k,2))) (by unfold smE;simp)
theorem Ok.smooth_ok(hX:Ok X){k:Nat}(hk:k<X.length):Ok (smL X k):=(hX.smooth_ties hk).ok
theorem Ok.smooth_planar(hX:Ok X){k:Nat}(hk:k<X.length)(hp:planarB X=true):planarB (smL X k)=true:=by
 have cut:=(hX.smooth_ties hk).cut
 have hs4:smS X k<4:=by unfold smS;split<;>omega
 obtain⟨s,hs⟩:∃s,s=smS X k:=⟨_,rfl⟩
 rw[←hs]at hs4 cut
 have m4:∀j,(s+j)%4<4:=fun j=>Nat.mod_lt _ (by omega)
 have pA:isPl X (k,s):=⟨hk,hs4⟩;have pB:isPl X (k,(s+1)%4):=⟨hk,m4 1⟩;have pC:isPl X (k,(s+3)%4):=⟨hk,m4 3⟩;have pD:isPl X (k,(s+2)%4):=⟨hk,m4 2⟩;obtain⟨sA,sC,sD,sB⟩:=sig4 (n:=X.length) hk hs4;have fn:=four_nodup (c:=k) hs4
 have nd:[pk (k,s),pk (k,(s+1)%4),pk (k,(s+3)%4),pk (k,(s+2)%4)].Nodup:=by
  simp only[List.nodup_cons,List.mem_cons,List.not_mem_nil,or_false,not_or,List.nodup_nil,and_true,not_false_eq_true]at fn ⊢;obtain⟨⟨a,b,c⟩,⟨d,e⟩,f⟩:=fn
  exact⟨⟨a,c,b⟩,⟨e,d⟩,fun q=>f q.symm⟩
 have mem4:∀z,z∈[pk (k,s),pk (k,(s+1)%4),pk (k,(s+3)%4),pk (k,(s+2)%4)]↔z / 4=k:=fun z=>by
  rw[←mem_four hs4];simp only[List.mem_cons,List.not_mem_nil,or_false]
  constructor
  · rintro(a|a|a|a)
    · exact .inl a
    · exact .inr (.inl a)
    · exact .inr (.inr (.inr a))
    · exact .inr (.inr (.inl a))
  · rintro(a|a|a|a)
    · exact .inl a
    · exact .inr (.inl a)
    · exact .inr (.inr (.inr a))
    · exact .inr (.inr (.inl a))
 obtain⟨m1,hm1⟩:∃m1:Nat→Nat,∀z,m1 z=if mate (ens X) z=pk (k,s)then mate (ens X) (pk (k,(s+1)%4))else if mate (ens X) z=pk (k,(s+1)%4)then mate (ens X) (pk (k,s))else mate (ens X) z:=⟨_,fun _=>rfl⟩
 obtain⟨es,g,d,pm,f,m⟩:=(hX.flat hp).smooth (sig_pm _) hX.ens_good hX.ens_dis nd sA sC sD sB (fun z hz=>by
  simp only[List.mem_cons,List.not_mem_nil,or_false]at hz
  rcases hz with rfl|rfl|rfl|rfl
  · exact hX.mate_free pA
  · exact hX.mate_free pB
  · exact hX.mate_free pC
  · exact hX.mate_free pD) hm1
 have liv:∀z,(∀p,(isPl X p∧only k p.1=false)→pk p≠z)→4*X.length≤z∨z / 4=k:=fun z hz=>by
  by_cases c:4*X.length≤z
  · exact .inl c
  · refine .inr (Classical.byContradiction fun c'=>hz (pl z) ⟨isPl_pl (by omega),by simpa[pl]using c'⟩ ?_)
    unfold pk pl;simp only;omega
 have out:∀p,(isPl X p∧only k p.1=false)→pk p∉[pk (k,s),pk (k,(s+1)%4),pk (k,(s+3)%4),pk (k,(s+2)%4)]:=fun p hp=>by
  rw[mem4,pk_div hp.1.2]
  simpa using hp.2
 obtain⟨o1,ho1⟩:∃o1:Pl→Pl,∀p,o1 p=if other X p=(k,s)then other X (k,(s+1)%4)else if other X p=(k,(s+1)%4)then other X (k,s)else other X p:=⟨_,fun _=>rfl⟩
 have o1P:∀p,isPl X p→isPl X (o1 p):=fun p hp=>by
  rw[ho1]
  split
  · exact hX.isPl_other pB
  · split
    · exact hX.isPl_other pA
    · exact hX.isPl_other hp
 have iq:∀{p q:Pl},isPl X p→isPl X q→(pk p=pk q↔p=q):=fun hp hq=>⟨pk_inj hp.2 hq.2,fun e=>by rw[e]⟩
 have m1o:∀p,isPl X p→m1 (pk p)=pk (o1 p):=fun p hp=>by
  rw[hm1,ho1,hX.mate_pk hp,hX.mate_pk pA,hX.mate_pk pB];have i:=hX.isPl_other hp
  by_cases c1:other X p=(k,s)
  · rw[if_pos ((iq i pA).2 c1),if_pos c1]
  · rw[if_neg (fun e=>c1 ((iq i pA).1 e)),if_neg c1]
    by_cases c2:other X p=(k,(s+1)%4)
    · rw[if_pos ((iq i pB).2 c2),if_pos c2]
    · rw[if_neg (fun e=>c2 ((iq i pB).1 e)),if_neg c2]
 refine cut.planar pm g d f (fun p hp=>?_) (fun z hz=>?_) (fun p hp=>?_) fun z hz=>?_
 · rw[m,if_neg (out p hp),m1o p hp.1,m1o _ pD,m1o _ pC]
   have e:smO X k s p=if o1 p=(k,(s+3)%4)then o1 (k,(s+2)%4)else if o1 p=(k,(s+2)%4)then o1 (k,(s+3)%4)else o1 p:=by
    rw[ho1,ho1,ho1];rfl
   rw[e];have i:=o1P p hp.1
   by_cases c1:o1 p=(k,(s+3)%4)
   · rw[if_pos ((iq i pC).2 c1),if_pos c1]
   · rw[if_neg (fun e=>c1 ((iq i pC).1 e)),if_neg c1]
     by_cases c2:o1 p=(k,(s+2)%4)
     · rw[if_pos ((iq i pD).2 c2),if_pos c2]
     · rw[if_neg (fun e=>c2 ((iq i pD).1 e)),if_neg c2]
 · rw[m]
   rcases liv z hz with c|c
   · have hz':=hX.mate_big c
     have b1:=pk_lt pA;have b2:=pk_lt pB;have b3:=pk_lt pC;have b4:=pk_lt pD
     have e1:m1 z=z:=by
      rw[hm1,hz',if_neg (show ¬z=pk (k,s)by omega),if_neg (show ¬z=pk (k,(s+1)%4)by omega)]
     rw[e1,if_neg (show ¬z=pk (k,(s+3)%4)by omega),if_neg (show ¬z=pk (k,(s+2)%4)by omega)]
     split<;>rfl
   · rw[if_pos ((mem4 z).2 c)]
 · simp only[if_neg (out p hp)]
 · rcases liv z hz with c|c
   · simp only[(sig_pm X.length).out z c]
     split<;>rfl
   · simp only[if_pos ((mem4 z).2 c)]
end
end Go.Proofs.YtlicglicfijelaaGreat.Kn

namespace Go.Proofs.YtlicglicfijelaaGreat.Kn

def trn(k:Nat→Nat)(p:Pl):Pl:=(p.1,(p.2+k p.1)%4)
def utrn(k:Nat→Nat)(p:Pl):Pl:=(p.1,(p.2+3*k p.1)%4)
theorem trn_utrn(k:Nat→Nat){p:Pl}(h:p.2<4):trn k (utrn k p)=p:=by
 unfold trn utrn;refine Prod.ext rfl ?_;simp only;omega
theorem utrn_trn(k:Nat→Nat){p:Pl}(h:p.2<4):utrn k (trn k p)=p:=by
 unfold trn utrn;refine Prod.ext rfl ?_;simp only;omega
structure Tur(X Y:List Cr)(k:Nat→Nat)(e:Nat→Bool):Prop where
 len:Y.length=X.length
 at_:∀p,isPl X p→at_ Y p=at_ X (trn k p)
 cm:∀p,isPl X p→cm Y p=xor (cm X (trn k p)) (e (arcN X (trn k p)))
section
variable {X Y:List Cr} {k:Nat→Nat} {e:Nat→Bool}
theorem Tur.isPl(h:Tur X Y k e){p:Pl}:isPl Y p↔isPl X p:=by unfold Kn.isPl;rw[h.len]
theorem isPl_trn{p:Pl}(hp:isPl X p):isPl X (trn k p):=⟨hp.1,Nat.mod_lt _ (by omega)⟩
theorem isPl_utrn{p:Pl}(hp:isPl X p):isPl X (utrn k p):=⟨hp.1,Nat.mod_lt _ (by omega)⟩
theorem Tur.arcs(h:Tur X Y k e):nArcs Y=nArcs X:=by unfold nArcs;rw[h.len]
theorem Tur.isArc(h:Tur X Y k e){a:Nat}:isArc Y a↔isArc X a:=by unfold Kn.isArc;rw[h.arcs]
theorem Tur.ok(h:Tur X Y k e)(hX:Ok X):Ok Y:=by
 refine ok_mk (fun p hp=>?_) (fun io a ha=>?_) fun p q hp hq hc ha=>?_
 · have hp:=h.isPl.1 hp
   rw[h.at_ p hp,h.arcs]
   exact hX.rng _ (isPl_trn hp)
 · have ha:=h.isArc.1 ha
   have hq:=hX.isPl_end (io:=xor io (e a)) ha;have hu:=isPl_utrn (k:=k) hq;have et:=trn_utrn k hq.2
   refine⟨utrn k (endP X (xor io (e a)) a),h.isPl.2 hu,?_,?_⟩
   · rw[h.cm _ hu,et,hX.cm_end ha,hX.arc_end ha]
     cases io<;>cases e a<;>rfl
   · rw[h.at_ _ hu,et,hX.at_end ha]
 · have hp:=h.isPl.1 hp
   have hq:=h.isPl.1 hq;rw[h.at_ p hp,h.at_ q hq]at ha
   have hn:Kn.arcN X (trn k p)=Kn.arcN X (trn k q):=by unfold Kn.arcN;rw[ha]
   rw[h.cm p hp,h.cm q hq,hn]at hc;have:=hX.uniq _ _ (isPl_trn hp) (isPl_trn hq) (by revert hc;cases Kn.cm X (trn k p)<;>cases Kn.cm X (trn k q)<;>cases e (Kn.arcN X (trn k q))<;>simp) ha;have:=congrArg (utrn k) this
   rwa [utrn_trn k hp.2,utrn_trn k hq.2]at this
theorem Tur.arcN(h:Tur X Y k e){p:Pl}(hp:Kn.isPl X p):arcN Y p=arcN X (trn k p):=by unfold Kn.arcN;rw[h.at_ p hp]
theorem Tur.other(h:Tur X Y k e)(hX:Ok X){p:Pl}(hp:Kn.isPl X p):trn k (Kn.other Y p)=Kn.other X (trn k p):=by
 have hY:=h.ok hX;have hp':=h.isPl.2 hp;have ho:=h.isPl.1 (hY.isPl_other hp');have ht:=isPl_trn (k:=k) hp
 have a1:Kn.arcN X (trn k (Kn.other Y p))=Kn.arcN X (trn k p):=by rw[←h.arcN ho,←h.arcN hp,hY.arc_other hp']
 refine hX.uniq _ _ (isPl_trn ho) (hX.isPl_other ht) ?_ ?_
 · rw[hX.cm_other ht]
   have c1:=hY.cm_other hp';rw[h.cm _ ho,h.cm _ hp,a1]at c1
   revert c1
   cases Kn.cm X (trn k (Kn.other Y p))<;>cases Kn.cm X (trn k p)<;>cases e (Kn.arcN X (trn k p))<;>simp
 · rw[←hX.arcN_eq (isPl_trn ho),←hX.arcN_eq (hX.isPl_other ht),a1,hX.arc_other ht]
theorem Tur.nbs(h:Tur X Y k e)(hX:Ok X){c d:Nat}(hc:c<X.length):d∈nbs Y c↔d∈nbs X c:=by
 rw[mem_nbs,mem_nbs]
 have key:∀s,s<4→(Kn.other Y (c,s)).1=(Kn.other X (trn k (c,s))).1:=fun s hs=>by
  rw[←h.other hX ⟨hc,hs⟩];rfl
 constructor
 · rintro⟨s,hs,rfl⟩
   exact⟨(s+k c)%4,by omega,key s hs⟩
 · rintro⟨s,hs,rfl⟩
   have:=key ((s+3*k c)%4) (by omega)
   refine⟨(s+3*k c)%4,by omega,?_⟩
   rw[this];have:trn k (c,(s+3*k c)%4)=(c,s):=trn_utrn k (p:=(c,s)) hs;rw[this]
theorem Tur.con(h:Tur X Y k e)(hX:Ok X){c d:Nat}:Con Y c d↔Con X c d:=by
 have key:nbc Y=nbc Y:=rfl
 have hm:∀c d,d∈nbc Y c↔d∈nbc X c:=fun c d=>by
  unfold nbc
  rw[h.len]
  by_cases hc:c<X.length
  · rw[if_pos hc,if_pos hc];exact h.nbs hX hc
  · rw[if_neg hc,if_neg hc]
 constructor
 · intro x
   induction x with
   |refl=>exact .refl _
   |step _ he ih=>exact .step ih ((hm _ _).1 he)
 · intro x
   induction x with
   |refl=>exact .refl _
   |step _ he ih=>exact .step ih ((hm _ _).2 he)
theorem Tur.pieces(h:Tur X Y k e)(hX:Ok X):(piecesL Y).length=(piecesL X).length:=by
 have hY:=h.ok hX;rw[←hX.cl_pieces,←hY.cl_pieces,h.len]
 refine cl_congr_lt fun x y hx _=>?_
 rw[hX.pie_con hx,hY.pie_con (by rw[h.len];exact hx),h.con hX]
theorem Tur.faces(h:Tur X Y k e)(hX:Ok X):(facesL Y).length=(facesL X).length:=by
 have hY:=h.ok hX
 obtain⟨g,hg⟩:∃g:Nat→Nat,∀x,g x=if x<4*X.length then pk (trn k (pl x))else x:=⟨_,fun _=>rfl⟩
 have hgp:∀p,Kn.isPl X p→g (pk p)=pk (trn k p):=fun p hp=>by rw[hg,if_pos (pk_lt hp),pl_pk hp.2]
 have hpl:∀x,x<4*X.length→x=pk (pl x)∧Kn.isPl X (pl x):=fun x hx=>⟨by unfold pk pl;simp only;omega,isPl_pl hx⟩
 have hgl:∀x,x<4*X.length→g x<4*X.length:=fun x hx=>by
  obtain⟨e1,hp⟩:=hpl x hx
  rw[e1,hgp _ hp];exact pk_lt (isPl_trn hp)
 have hgi:∀x y,x<4*X.length→y<4*X.length→g x=g y→x=y:=fun x y hx hy e=>by
  obtain⟨e1,hp⟩:=hpl x hx;obtain⟨e2,hq⟩:=hpl y hy;rw[e1,e2,hgp _ hp,hgp _ hq]at e;have:=pk_inj (isPl_trn hp).2 (isPl_trn hq).2 e;have:=congrArg (utrn k) this;rw[utrn_trn k hp.2,utrn_trn k hq.2]at this;rw[e1,e2,this]
 have hf:∀x,x<4*X.length→g (fac Y x)=fac X (g x):=fun x hx=>by
  obtain⟨e1,hp⟩:=hpl x hx;have hp':=h.isPl.2 hp;have ht:=isPl_turn hp 3;rw[e1,hY.fac_pk hp',hgp _ (h.isPl.1 (hY.isPl_other (isPl_turn hp' 3))),h.other hX ht,hgp _ hp,hX.fac_pk (isPl_trn hp)]
  congr 2
  unfold trn
  simp only
  refine Prod.ext rfl ?_
  simp only;omega
 have hfl:∀x,x<4*X.length→fac Y x<4*X.length:=fun x hx=>by have:=hY.fac_pm.lt x (by rw[h.len];exact hx);rwa [h.len]at this
 have key:∀x y,x<4*X.length→(Orb (fac Y) x y↔y<4*X.length∧Orb (fac X) (g x) (g y)):=fun x y hx=>by
  have hit:∀n,it (fac Y) n x<4*X.length∧g (it (fac Y) n x)=it (fac X) n (g x):=fun n=>by
   induction n with
   |zero=>exact⟨hx,rfl⟩
   |succ n ih=>exact⟨hfl _ ih.1,by rw[it,hf _ ih.1,ih.2];rfl⟩
  constructor
  · rintro⟨n,rfl⟩
    exact⟨(hit n).1,n,(hit n).2.symm⟩
  · rintro⟨hy,n,e⟩
    refine⟨n,hgi _ _ (hit n).1 hy ?_⟩
    rw[(hit n).2,e]
 rw[←hX.cl_faces]
 have hflat:((facesL Y).map (List.map fun d=>pk (head Y d))).flatten.Perm (List.range (4*X.length)):=by have:=hY.faces_flat;rwa [h.len]at this
 have hlt:∀r∈(facesL Y).map (List.map fun d=>pk (head Y d)),∀x∈r,x<4*X.length:=fun r hr x hx=>List.mem_range.1 (hflat.mem_iff.1 (List.mem_flatten.2 ⟨r,hr,hx⟩))
 have hgs:∀y,y<4*X.length→∃x,x<4*X.length∧g x=y:=fun y hy=>by
  have hp:=inj_perm (l:=List.range (4*X.length)) List.nodup_range (fun x hx=>List.mem_range.2 (hgl x (List.mem_range.1 hx))) fun x hx y hy e=>hgi x y (List.mem_range.1 hx) (List.mem_range.1 hy) e
  obtain⟨x,hx,e⟩:=List.mem_map.1 (hp.mem_iff.2 (List.mem_range.2 hy))
  exact⟨x,List.mem_range.1 hx,e⟩
 have:=cl_lists hX.fac_pm.equiv (N:=4*X.length) (ll:=((facesL Y).map (List.map fun d=>pk (head Y d))).map (List.map g)) (by
  rw[←List.map_flatten]
  exact(hflat.map g).trans (inj_perm List.nodup_range (fun x hx=>List.mem_range.2 (hgl x (List.mem_range.1 hx))) fun x hx y hy e=>hgi x y (List.mem_range.1 hx) (List.mem_range.1 hy) e))
  (fun l hl=>by
   obtain⟨r,hr,rfl⟩:=List.mem_map.1 hl;obtain⟨f,hf,rfl⟩:=List.mem_map.1 hr;have:=faces_ne Y f hf
   simpa using this)
  (fun l hl x hx y=>by
   obtain⟨r,hr,rfl⟩:=List.mem_map.1 hl;obtain⟨z,hz,rfl⟩:=List.mem_map.1 hx;have hzl:=hlt r hr z hz;have hcl:=hY.faces_is r hr z hz
   constructor
   · intro hy
     obtain⟨u,hu,rfl⟩:=List.mem_map.1 hy
     exact((key z u hzl).1 ((hcl u).1 hu)).2
   · intro ho
     have hyl:y<4*X.length:=Orb.lt hX.fac_pm (hgl z hzl) ho;obtain⟨u,hu,rfl⟩:=hgs y hyl
     exact List.mem_map.2 ⟨u,(hcl u).2 ((key z u hzl).2 ⟨hu,ho⟩),rfl⟩)
 rw[this,List.length_map,List.length_map]
theorem Tur.planar(h:Tur X Y k e)(hX:Ok X):planarB Y=planarB X:=by
 rw[Bool.eq_iff_iff,hX.planar_iff,(h.ok hX).planar_iff,h.faces hX,h.pieces hX,h.len]
end

def turnC(x:Cr)(k:Nat):Cr:=⟨x.arc (k%4),x.arc ((1+k)%4),x.arc ((2+k)%4),x.arc ((3+k)%4),x.p⟩
def mirC(x:Cr):Cr:={ turnC x (over x.p)with p:=!x.p }
theorem turnC_arc(x:Cr)(k:Nat){s:Nat}(hs:s<4):(turnC x k).arc s=x.arc ((s+k)%4):=by
 match s,hs with
 |0,_=>show x.arc (k%4)=_;rw[Nat.zero_add]
 |1,_=>rfl
 |2,_=>rfl
 |3,_=>rfl
theorem mirC_arc(x:Cr){s:Nat}(hs:s<4):(mirC x).arc s=x.arc ((s+over x.p)%4):=turnC_arc x _ hs
theorem mirC_comes(x:Cr){s:Nat}(hs:s<4):(mirC x).comes s=x.comes ((s+over x.p)%4):=by
 show (decide (s=0)||decide (s=over (!x.p)))=(decide ((s+over x.p)%4=0)||decide ((s+over x.p)%4=over x.p))
 unfold over
 cases x.p<;>match s,hs with
  |0,_=>rfl
  |1,_=>rfl
  |2,_=>rfl
  |3,_=>rfl
section
variable {X:List Cr} {e:Nat→Bool}
end
end Go.Proofs.YtlicglicfijelaaGreat.Kn

namespace Go.Proofs.YtlicglicfijelaaGreat.Kn

abbrev noS:St:=fun _=>false
abbrev tru:St:=fun _=>true
theorem nS_no(A:Ar)(x:Nat):A.nS noS x=A.nx x:=by unfold Ar.nS;rw[if_neg (by simp)]
theorem id_emb(Z:Ar):Emb Z Z (fun l=>l) (fun l=>l) noS:=
 ⟨fun _ h=>h,fun _ _=>rfl,fun _ _=>rfl,fun _ _=>rfl,fun _ h _=>⟨h,rfl⟩,fun _ _=>rfl⟩
theorem id_red(Z:Ar)(T:St):Red Z Z (fun l=>l) noS T T:=⟨fun _ _=>rfl,fun _ _=>.one rfl⟩
theorem tops_nil(A:Ar)(dead S hD:St)(h:∀y,y<2*A.n→dead y=true→S (y / 2)=true):Tops A dead S hD []:=
 ⟨fun _ hy=>(by cases hy),List.nodup_nil,fun _ _ e=>(by cases e),fun y hy hd hS=>(by rw[h y hy hd]at hS;cases hS)⟩
section
variable {W:Type} {K:CA W} {A Z:Ar} {e r:Nat→Nat} {dead:Nat→Bool} {S T hD:St} {t:List Nat}
theorem lf_id(hD h:St)(d:Nat):lf noS (fun l=>l) hD h d=h d:=by
 unfold lf
 rw[if_neg (by simp)]
 show ov h (2*d+1)=h d
 unfold ov
 rw[if_pos (by omega),show (2*d+1) / 2=d by omega]
theorem sim_one(hA:LK A)(hZ:LK Z)(EA:Emb A Z e r dead)(RA:Red A Z e dead S T)(TA:Tops A dead S hD t)(hk:A.k S=Z.k T)(h:St):V K A S (lf dead r hD h)=V K Z T h:=by
 have:=sim (K:=K) (tB:=[]) (hDB:=noS) hA hZ EA (id_emb Z) _ T rfl S T RA (id_red Z T) TA (tops_nil Z noS T noS fun y _ hd=>by cases hd) (fun _ _ _ _ _ k=>by cases k) hk h;rw[this]
 exact V_congr K Z fun d _ _=>lf_id _ _ d
theorem k_same(EA:Emb A Z e r noS)(RA:Red A Z e noS S T)(hL:A.L=Z.L):A.k S=Z.k T:=by
 obtain⟨ws,hW⟩:=A.ws_ex S;have hZ:=hW.fil EA RA;rw[Ws.k_eq _ hW,Ws.k_eq _ hZ,hL]
 congr 1
 have:∀vs:List (List Nat),(∀v∈vs,v≠[])→vs.length=(fil noS r vs).length:=by
  intro vs
  induction vs with
  |nil=>intro _;rfl
  |cons v vs ih=>
   intro h
   rw[fil_cons,if_neg,List.length_cons,List.length_cons,ih fun w hw=>h w (by simp[hw])]
   unfold fw
   rw[List.map_eq_nil_iff,List.filter_eq_nil_iff]
   intro k
   obtain⟨a,ha⟩:=List.exists_mem_of_ne_nil v (h v (by simp));have:=k a ha
   simp at this
 exact this ws fun v hv=>cy_ne (hW.cyc v hv)
end
section
variable {W:Type} (K:CA W) {X:List Cr}
noncomputable def hv (h:Ok X) (L:Nat):W:=V K (h.ar L) noS tru
variable {K}
theorem Ok.hv_smooth(h:Ok X)(hp:planarB X=true){k:Nat}(hk:k<X.length)(L:Nat):V K (h.ar L) (only k) tru=hv K (h.smooth_ok hk) (L+smN X k):=by
 have hT:=h.smooth_ties hk;have hE:=eK_emb (f:=smF X k) (gone:=only k) h hT.ok L (L+smN X k);have hR:=hT.red L (L+smN X k);have:=sim_one (K:=K) (hD:=tru) (h.linked hp L) (hT.ok.linked (h.smooth_planar hk hp) (L+smN X k)) hE hR (tops_nil _ _ _ _ fun y _ hd=>hd) (hT.rings L) tru
 refine Eq.trans ?_ this
 refine V_congr K _ fun d _ _=>?_
 unfold lf
 split
 · rfl
 · unfold ov
   rw[if_pos (by unfold rK;omega)]
def chgL(X:List Cr)(k:Nat):List Cr:=X.set k (mirC (cr X k))
theorem cr_set{k c:Nat}{y:Cr}(hk:k<X.length):cr (X.set k y) c=if c=k then y else cr X c:=by
 unfold cr
 rw[List.getD_eq_getElem?_getD,List.getElem?_set]
 by_cases e:c=k
 · subst e
   rw[if_pos rfl,if_pos rfl,if_pos hk];rfl
 · rw[if_neg fun q=>e q.symm,if_neg e,List.getD_eq_getElem?_getD]
def chgT(X:List Cr)(k c:Nat):Nat:=if c=k then over (cr X k).p else 0
theorem chg_tur{k:Nat}(hk:k<X.length):Tur X (chgL X k) (chgT X k) fun _=>false:=by
 refine⟨by simp[chgL],fun p hp=>?_,fun p hp=>?_⟩
 · unfold at_ chgL
   rw[cr_set hk]
   unfold trn chgT
   by_cases e:p.1=k
   · rw[if_pos e,if_pos e,mirC_arc _ hp.2,e]
   · rw[if_neg e,if_neg e]
     have:=hp.2;rw[show (p.2+0)%4=p.2 by omega]
 · unfold cm chgL
   rw[cr_set hk]
   unfold trn chgT
   by_cases e:p.1=k
   · rw[if_pos e,if_pos e,mirC_comes _ hp.2,e,Bool.xor_false]
   · rw[if_neg e,if_neg e]
     have:=hp.2;rw[show (p.2+0)%4=p.2 by omega,Bool.xor_false]
theorem Ok.chg_ok(h:Ok X){k:Nat}(hk:k<X.length):Ok (chgL X k):=(chg_tur hk).ok h
theorem Ok.chg_planar(h:Ok X){k:Nat}(hk:k<X.length):planarB (chgL X k)=planarB X:=(chg_tur hk).planar h
def chgE(k l:Nat):Nat:=if l / 2=k then mt l else l
theorem chgE_two(k l:Nat):chgE k (chgE k l)=l:=by
 unfold chgE
 by_cases e:l / 2=k
 · rw[if_pos e,if_pos (by rw[mt_div];exact e),mt_mt]
 · rw[if_neg e,if_neg e]
theorem chgE_div(k l:Nat):chgE k l / 2=l / 2:=by unfold chgE;split;exact mt_div l;rfl
theorem ip_chg{k l:Nat}(hk:k<X.length):ip X (chgE k l)=trn (chgT X k) (ip (chgL X k) l):=by
 have hc:cr (chgL X k) (l / 2)=if l / 2=k then mirC (cr X k)else cr X (l / 2):=cr_set hk
 unfold trn chgT
 rw[ip_one]
 by_cases e:l / 2=k
 · rw[if_pos e]
   unfold chgE
   rw[if_pos e]
   rcases Nat.mod_two_eq_zero_or_one l with m|m
   · rw[ip_even m,ip_odd (by rw[mt_mod];omega),mt_div,e]
     simp only
     congr 1
     have:=over_lt (cr X k).p
     omega
   · rw[ip_odd m,ip_even (by rw[mt_mod];omega),mt_div,hc,if_pos e,e]
     show (k,0)=(k,(over (!(cr X k).p)+over (cr X k).p)%4)
     unfold over
     cases (cr X k).p<;>rfl
 · rw[if_neg e]
   unfold chgE
   rw[if_neg e]
   rcases Nat.mod_two_eq_zero_or_one l with m|m
   · rw[ip_even m,ip_even m];rfl
   · rw[ip_odd m,ip_odd m,hc,if_neg e]
     simp only
     have:=over_lt (cr X (l / 2)).p;rw[show (over (cr X (l / 2)).p+0)%4=over (cr X (l / 2)).p by omega]
theorem Ok.chg_emb(h:Ok X){k:Nat}(hk:k<X.length)(L:Nat):Emb (h.ar L) ((h.chg_ok hk).ar L) (chgE k) (chgE k) noS:=by
 have len:(chgL X k).length=X.length:=by simp[chgL]
 have lt:∀l,l<2*X.length→chgE k l<2*X.length:=fun l hl=>by have:=chgE_div k l;omega
 refine⟨fun l hl=>?_,fun l _=>?_,fun l _=>chgE_two k l,fun _ _=>rfl,fun x hx _=>?_,fun l hl=>?_⟩
 · have hl:l<2*(chgL X k).length:=hl
   exact lt l (by omega)
 · unfold chgE
   rw[mt_div]
   split<;>rfl
 · refine⟨?_,chgE_two k x⟩
   show chgE k x<2*(chgL X k).length
   rw[len];exact lt x hx
 · have hc:cr (chgL X k) (l / 2)=if l / 2=k then mirC (cr X k)else cr X (l / 2):=cr_set hk
   show (if chgE k l%2=1 then(cr X (chgE k l / 2)).p else !(cr X (chgE k l / 2)).p)=if l%2=1 then(cr (chgL X k) (l / 2)).p else !(cr (chgL X k) (l / 2)).p
   rw[chgE_div,hc]
   unfold chgE
   by_cases e:l / 2=k
   · rw[if_pos e,if_pos e,mt_mod,e]
     show _=if l%2=1 then(!(cr X k).p)else !(!(cr X k).p)
     rcases Nat.mod_two_eq_zero_or_one l with m|m
     · rw[m];simp
     · rw[m];simp
   · rw[if_neg e,if_neg e]
theorem Ok.chg_red(h:Ok X){k:Nat}(hk:k<X.length)(L:Nat):Red (h.ar L) ((h.chg_ok hk).ar L) (chgE k) noS noS noS:=by
 have len:(chgL X k).length=X.length:=by simp[chgL]
 have hY:=h.chg_ok hk;have hT:=chg_tur (X:=X) hk
 refine⟨fun _ _=>rfl,fun l hl=>?_⟩
 have hl:l<2*(chgL X k).length:=hl
 have hl':l<2*X.length:=by omega
 have he:chgE k l<2*X.length:=by have:=chgE_div k l;omega
 rw[nS_no]
 have e:(h.ar L).nS noS (chgE k l)=chgE k (nxA (chgL X k) l):=by
  rw[nS_no]
  refine ip_inj (Y:=X) ?_
  show ip X (nxA X (chgE k l))=_
  rw[h.ip_nx he,ip_chg hk,hY.ip_nx hl];have ho:=outA_pl (X:=chgL X k) hl;rw[hT.other h (hT.isPl.1 ho)]
  congr 1
  unfold outA
  rw[ip_chg hk]
  unfold trn
  refine Prod.ext rfl ?_
  simp only;omega
 show Via noS ((h.ar L).nS noS) (chgE k l) (chgE k (nxA (chgL X k) l))
 rw[←e]
 exact .one rfl
theorem Ok.hv_chg(h:Ok X)(hp:planarB X=true){k:Nat}(hk:k<X.length)(L:Nat):V K (h.ar L) noS (fl tru k)=hv K (h.chg_ok hk) L:=by
 have hE:=h.chg_emb hk L;have hR:=h.chg_red hk L;have:=sim_one (K:=K) (hD:=tru) (h.linked hp L) ((h.chg_ok hk).linked (by rw[h.chg_planar hk];exact hp) L) hE hR (tops_nil _ _ _ _ fun y _ hd=>by cases hd) (k_same hE hR rfl) tru
 unfold hv
 rw[←this]
 refine V_congr K _ fun d _ _=>?_
 unfold lf
 rw[if_neg (by simp)]
 have e2:(2*d+1) / 2=d:=by omega
 unfold chgE
 by_cases c:d=k
 · rw[c,fl_same,show (2*k+1) / 2=k by omega,if_pos rfl,ov_mt]
   unfold ov
   rw[if_pos (by omega)]
 · rw[fl_ne c,e2,if_neg c]
   unfold ov
   rw[if_pos (by omega)]
theorem Ok.hv_skein(h:Ok X)(hp:planarB X=true){k:Nat}(hk:k<X.length)(L:Nat):hv K h L=K.T (cr X k).p (hv K (h.chg_ok hk) L) (hv K (h.smooth_ok hk) (L+smN X k)):=by
 have e:(only k:St)=ad noS k:=funext fun d=>by
  unfold ad
  by_cases c:d=k
  · simp[c]
  · simp[c]
 have h1:=skein K (h.ar L) noS k hk rfl tru;rw[h.hv_chg hp hk L,←e,h.hv_smooth hp hk L]at h1
 exact h1
end
end Go.Proofs.YtlicglicfijelaaGreat.Kn

namespace Go.Proofs.YtlicglicfijelaaGreat.Kn

section
variable {W:Type} {K:CA W} {A:Ar}
def ng(h:St):St:=fun c=>!h c
end
section
variable {W:Type} {K:CA W} {X:List Cr}
theorem k_pos(A:Ar)(S:St)(h:0<A.n+A.L):1≤A.k S:=by
 obtain⟨ws,hW⟩:=A.ws_ex S;rw[Ws.k_eq _ hW]
 by_cases c:A.n=0
 · omega
 · have:ws≠[]:=by
    rintro rfl;have:=hW.perm.length_eq
    simp at this
    omega
   have:0<ws.length:=List.length_pos_iff.2 this
   omega
end
end Go.Proofs.YtlicglicfijelaaGreat.Kn

namespace Go.Proofs.YtlicglicfijelaaGreat.Kn

structure SumOf(X Y S:List Cr)(x y:Nat):Prop where
 len:S.length=X.length+Y.length
 cx:∀p,isPl X p→cm S p=cm X p
 cy:∀p,isPl Y p→cm S (X.length+p.1,p.2)=cm Y p
 ax:∀p,isPl X p→p≠endP X true x→at_ S p=at_ X p
 ay:∀p,isPl Y p→p≠endP Y true y→at_ S (X.length+p.1,p.2)=at_ Y p+(nArcs X:Int)
 ap:at_ S (endP X true x)=(y:Int)+(nArcs X:Int)
 aq:at_ S (X.length+(endP Y true y).1,(endP Y true y).2)=(x:Int)
def shP(n:Nat)(p:Pl):Pl:=(n+p.1,p.2)
section
variable {X Y S:List Cr} {x y:Nat}
theorem SumOf.arcsEq(h:SumOf X Y S x y):nArcs S=nArcs X+nArcs Y:=by unfold nArcs;rw[h.len];omega
theorem SumOf.plx(h:SumOf X Y S x y){p:Pl}(hp:isPl X p):isPl S p:=⟨by have:=hp.1;rw[h.len];omega,hp.2⟩
theorem SumOf.ply(h:SumOf X Y S x y){p:Pl}(hp:isPl Y p):isPl S (shP X.length p):=⟨by have:=hp.1;rw[h.len];unfold shP;simp only;omega,hp.2⟩
theorem SumOf.split(h:SumOf X Y S x y){p:Pl}(hp:isPl S p):isPl X p∨∃q,isPl Y q∧p=shP X.length q:=by
 have h1:=hp.1;rw[h.len]at h1
 by_cases c:p.1<X.length
 · exact .inl ⟨c,hp.2⟩
 · refine .inr ⟨(p.1-X.length,p.2),⟨by simp only;omega,hp.2⟩,?_⟩
   unfold shP
   exact Prod.ext (by simp only;omega) rfl
def endS(X Y:List Cr)(x y:Nat)(io:Bool)(a:Nat):Pl:=
 if a≤nArcs X then(if a=x∧io=true then shP X.length (endP Y true y)else endP X io a)
 else(if a=y+nArcs X∧io=true then endP X true x else shP X.length (endP Y io (a-nArcs X)))
theorem SumOf.isEnd(h:SumOf X Y S x y)(hX:Ok X)(hY:Ok Y)(hx:isArc X x)(hy:isArc Y y){p:Pl}(hp:isPl S p):endS X Y x y (cm S p) (at_ S p).toNat=p:=by
 have p1:=hX.isPl_end (io:=true) hx;have q1:=hY.isPl_end (io:=true) hy
 unfold endS
 rcases h.split hp with hx' | ⟨q,hq,rfl⟩
 · by_cases e:p=endP X true x
   · subst e
     rw[h.ap,h.cx _ p1,hX.cm_end hx,if_neg (by have:=hy.1;omega),if_pos ⟨by omega,rfl⟩]
   · rw[h.ax p hx' e,h.cx p hx']
     have ha:=hX.isArc hx'
     unfold Kn.arcN at ha
     rw[if_pos ha.2,if_neg (fun k=>?_)]
     · exact hX.end_eq hx'
     · apply e
       have:=hX.end_eq hx'
       unfold Kn.arcN at this
       rw[k.1,k.2]at this
       exact this.symm
 · have key:(cm S (shP X.length q),at_ S (shP X.length q))=(cm S (X.length+q.1,q.2),at_ S (X.length+q.1,q.2)):=rfl
   by_cases e:q=endP Y true y
   · subst e
     have e1:at_ S (shP X.length (endP Y true y))=(x:Int):=h.aq;have e2:cm S (shP X.length (endP Y true y))=cm Y (endP Y true y):=h.cy _ q1;rw[e1,e2,hY.cm_end hy,if_pos (by have:=hx.2;omega),if_pos ⟨by omega,rfl⟩]
   · have e1:at_ S (shP X.length q)=at_ Y q+(nArcs X:Int):=h.ay q hq e
     have e2:cm S (shP X.length q)=cm Y q:=h.cy q hq;have ha:=hY.isArc hq
     unfold Kn.arcN at ha
     have e3:(at_ Y q+(nArcs X:Int)).toNat=(at_ Y q).toNat+nArcs X:=by have:=ha.1;omega
     rw[e1,e2,e3,if_neg (by have:=ha.1;omega),if_neg (fun k=>?_)]
     · rw[show (at_ Y q).toNat+nArcs X-nArcs X=(at_ Y q).toNat by omega]
       congr 1
       exact hY.end_eq hq
     · apply e
       have:=hY.end_eq hq
       unfold Kn.arcN at this
       rw[k.2,show (at_ Y q).toNat=y by have:=k.1;omega]at this
       exact this.symm
theorem SumOf.atEnd(h:SumOf X Y S x y)(hX:Ok X)(hY:Ok Y)(hx:isArc X x)(hy:isArc Y y){a:Nat}(ha:isArc S a)(io:Bool):isPl S (endS X Y x y io a)∧cm S (endS X Y x y io a)=io∧at_ S (endS X Y x y io a)=a:=by
 have hN:=h.arcsEq;have ha1:=ha.1;have ha2:=ha.2
 unfold endS
 by_cases c:a≤nArcs X
 · rw[if_pos c]
   by_cases d:a=x∧io=true
   · rw[if_pos d]
     have q1:=hY.isPl_end (io:=true) hy
     exact⟨h.ply q1,(h.cy _ q1).trans ((hY.cm_end hy).trans d.2.symm),h.aq.trans (by rw[d.1])⟩
   · rw[if_neg d]
     have haX:isArc X a:=⟨ha1,c⟩;have p1:=hX.isPl_end (io:=io) haX
     have hne:endP X io a≠endP X true x:=fun e=>by
      have e1:=hX.cm_end (io:=io) haX;have e2:=hX.arc_end (io:=io) haX;rw[e,hX.cm_end hx]at e1;rw[e,hX.arc_end hx]at e2
      exact d ⟨e2.symm,e1.symm⟩
     exact⟨h.plx p1,(h.cx _ p1).trans (hX.cm_end haX),(h.ax _ p1 hne).trans (hX.at_end haX)⟩
 · rw[if_neg c]
   by_cases d:a=y+nArcs X∧io=true
   · rw[if_pos d]
     have p1:=hX.isPl_end (io:=true) hx
     exact⟨h.plx p1,(h.cx _ p1).trans ((hX.cm_end hx).trans d.2.symm),h.ap.trans (by rw[d.1];omega)⟩
   · rw[if_neg d]
     have haY:isArc Y (a-nArcs X):=⟨by omega,by omega⟩;have q1:=hY.isPl_end (io:=io) haY
     have hne:endP Y io (a-nArcs X)≠endP Y true y:=fun e=>by
      have e1:=hY.cm_end (io:=io) haY;have e2:=hY.arc_end (io:=io) haY;rw[e,hY.cm_end hy]at e1;rw[e,hY.arc_end hy]at e2
      exact d ⟨by omega,e1.symm⟩
     exact⟨h.ply q1,(h.cy _ q1).trans (hY.cm_end haY),(h.ay _ q1 hne).trans (by rw[hY.at_end haY];omega)⟩
theorem SumOf.ok(h:SumOf X Y S x y)(hX:Ok X)(hY:Ok Y)(hx:isArc X x)(hy:isArc Y y):Ok S:=by
 have hN:=h.arcsEq
 refine ok_mk (fun p hp=>?_) (fun io a ha=>⟨_,h.atEnd hX hY hx hy ha io⟩) fun p q hp hq hc ha=>?_
 · rcases h.split hp with hx' | ⟨q,hq,rfl⟩
   · by_cases e:p=endP X true x
     · rw[e,h.ap];have:=hy.1;have:=hy.2;omega
     · rw[h.ax p hx' e];have:=hX.rng p hx';omega
   · by_cases e:q=endP Y true y
     · have e1:at_ S (shP X.length q)=(x:Int):=by rw[e];exact h.aq
       rw[e1];have:=hx.1;have:=hx.2;omega
     · have e1:at_ S (shP X.length q)=at_ Y q+(nArcs X:Int):=h.ay q hq e
       rw[e1];have:=hY.rng q hq;omega
 · rw[←h.isEnd hX hY hx hy hp,←h.isEnd hX hY hx hy hq,hc,ha]
theorem SumOf.endEq(h:SumOf X Y S x y)(hX:Ok X)(hY:Ok Y)(hx:isArc X x)(hy:isArc Y y){a:Nat}(ha:isArc S a)(io:Bool):endP S io a=endS X Y x y io a:=by
 have hS:=h.ok hX hY hx hy;obtain⟨h1,h2,h3⟩:=h.atEnd hX hY hx hy ha io
 exact hS.uniq _ _ (hS.isPl_end ha) h1 (by rw[hS.cm_end ha,h2]) (by rw[hS.at_end ha,h3])
end
end Go.Proofs.YtlicglicfijelaaGreat.Kn

namespace Go.Proofs.YtlicglicfijelaaGreat.Kn

section
variable {X Y S:List Cr} {x y:Nat}
end
end Go.Proofs.YtlicglicfijelaaGreat.Kn

namespace Go.Proofs.YtlicglicfijelaaGreat.Kn

structure CM(W:Type) extends CA W where
 m:W→W→W
 mTl:∀e u v w,m (T e u v) w=T e (m u w) (m v w)
 mTr:∀e u v w,m w (T e u v)=T e (m w u) (m w v)
 mD:∀i j,1≤i→1≤j→m (D i) (D j)=D (i+j-1)
def jn(n:Nat)(S T:St):St:=fun c=>if c<n then S c else T (c-n)
def sh(n:Nat)(l:Nat):Nat:=l+2*n
structure SumA(A B C:Ar)(v v':Nat):Prop where
 n:C.n=A.n+B.n
 L:C.L=A.L+B.L
 vl:v<2*A.n
 vl':v'<2*B.n
 sg1:∀c,c<A.n→C.sg c=A.sg c
 sg2:∀c,c<B.n→C.sg (A.n+c)=B.sg c
 nx1:∀z,z<2*A.n→C.nx z=swp v (sh A.n v') (A.nx z)
 nx2:∀z,z<2*B.n→C.nx (sh A.n z)=swp v (sh A.n v') (sh A.n (B.nx z))
section
variable {A B C:Ar} {v v':Nat} {S T:St}
theorem ch_map{f g:Nat→Nat}{e:Nat→Nat}:∀{x z:Nat} {u:List Nat},Ch f x u z→(∀y∈x :: u,g (e y)=e (f y))→Ch g (e x) (u.map e) (e z)
 |x,z,[],h,k=>by
  have h:f x=z:=h
  show g (e x)=e z
  rw[k x (by simp),h]
 |x,z,y :: u,h,k=>⟨by rw[k x (by simp),h.1],ch_map h.2 fun w hw=>k w (by simp[hw])⟩
theorem cy_map{f g:Nat→Nat}{e:Nat→Nat}{w:List Nat}(h:Cy f w)(k:∀y∈w,g (e y)=e (f y)):Cy g (w.map e):=by
 cases w with
 |nil=>exact h
 |cons a u=>exact ch_map h k
end
section
variable {W:Type} {K:CM W} {A B C:Ar} {v v':Nat}
end
section
variable {W:Type} {K:CM W} {X Y Z:List Cr} {x y:Nat}
theorem SumOf.arc1(h:SumOf X Y Z x y){p:Pl}(hp:isPl X p)(hc:cm X p=false)(hX:Ok X)(hx:isArc X x):arcN Z p=arcN X p:=by
 unfold arcN
 rw[h.ax p hp fun e=>by rw[e,hX.cm_end hx]at hc;cases hc]
theorem SumOf.arc2(h:SumOf X Y Z x y){p:Pl}(hp:isPl Y p)(hc:cm Y p=false)(hY:Ok Y)(hy:isArc Y y):arcN Z (shP X.length p)=arcN Y p+nArcs X:=by
 have e:=h.ay p hp fun e=>by rw[e,hY.cm_end hy]at hc;cases hc
 have:=hY.rng p hp
 unfold arcN
 show (at_ Z (X.length+p.1,p.2)).toNat=_
 rw[e];omega
theorem SumOf.sum(h:SumOf X Y Z x y)(hX:Ok X)(hY:Ok Y)(hx:isArc X x)(hy:isArc Y y)(L L':Nat):
 SumA (hX.ar L) (hY.ar L') ((h.ok hX hY hx hy).ar (L+L')) (Kn.lt (endP X true x)) (Kn.lt (endP Y true y)):=by
 have hZ:=h.ok hX hY hx hy;have px:=hX.isPl_end (io:=true) hx;have py:=hY.isPl_end (io:=true) hy;have cx:=hX.cm_end (io:=true) hx;have cy:=hY.cm_end (io:=true) hy
 have pZ:∀c,c<X.length→(cr Z c).p=(cr X c).p:=fun c hc=>by
  have h1:=h.cx (c,3) ⟨hc,by omega⟩
  unfold cm Cr.comes over at h1
  revert h1
  cases (cr Z c).p<;>cases (cr X c).p<;>simp
 have pZ':∀c,c<Y.length→(cr Z (X.length+c)).p=(cr Y c).p:=fun c hc=>by
  have h1:=h.cy (c,3) ⟨hc,by omega⟩
  unfold cm Cr.comes over at h1
  revert h1
  cases (cr Z (X.length+c)).p<;>cases (cr Y c).p<;>simp
 have ip1:∀l,l<2*X.length→ip Z l=ip X l:=fun l hl=>by
  rw[ip_two (X:=Z) (l:=l) (c:=l / 2) (b:=l%2) (by omega) (by omega),ip_two (X:=X) (l:=l) (c:=l / 2) (b:=l%2) (by omega) (by omega),pZ _ (by omega)]
 have ip2:∀l,l<2*Y.length→ip Z (sh X.length l)=shP X.length (ip Y l):=fun l hl=>by
  rw[ip_two (X:=Z) (l:=sh X.length l) (c:=X.length+l / 2) (b:=l%2) (by unfold sh;omega) (by omega),ip_two (X:=Y) (l:=l) (c:=l / 2) (b:=l%2) (by omega) (by omega),pZ' _ (by omega)]
  rfl
 have lt2:∀p:Pl,Kn.lt (shP X.length p)=sh X.length (Kn.lt p):=fun p=>by unfold Kn.lt shP sh;simp only;omega
 refine⟨h.len,rfl,lt_lt px,lt_lt py,fun c hc=>pZ c hc,fun c hc=>pZ' c hc,fun z hz=>?_,fun z hz=>?_⟩
 · have hz:z<2*X.length:=hz
   have hzZ:z<2*Z.length:=by rw[h.len];omega
   show nxA Z z=swp _ _ (nxA X z)
   have ho:=outA_pl (X:=X) hz;have oc:=outA_cm (X:=X) hz
   have oz:outA Z z=outA X z:=by unfold outA;rw[ip1 z hz]
   have aN:=h.arc1 ho oc hX hx;have hr:=hX.isArc ho
   have e1:other Z (outA X z)=if arcN X (outA X z)=x then shP X.length (endP Y true y)else other X (outA X z):=by
    have oZ:isPl Z (outA X z):=h.plx ho
    have cZ:cm Z (outA X z)=false:=by rw[h.cx _ ho];exact oc
    unfold other
    rw[cZ,oc,aN]
    show endP Z true _=_
    rw[h.endEq hX hY hx hy (by have:=hZ.isArc oZ;rwa [aN]at this) true]
    unfold endS
    rw[if_pos hr.2]
    by_cases c:arcN X (outA X z)=x
    · rw[if_pos ⟨c,rfl⟩,if_pos c]
    · rw[if_neg (fun k=>c k.1),if_neg c];rfl
   have n1:nxA Z z=Kn.lt (other Z (outA X z)):=by unfold nxA;rw[if_pos hzZ,oz]
   have n2:nxA X z=Kn.lt (other X (outA X z)):=by unfold nxA;rw[if_pos hz]
   have e2:other X (outA X z)=endP X true (arcN X (outA X z)):=by unfold other;rw[oc];rfl
   rw[n1,n2,e1]
   by_cases c:arcN X (outA X z)=x
   · rw[if_pos c,e2,c,swp_a]
     exact lt2 _
   · rw[if_neg c,swp_ne]
     · intro k
       have q1:=ip_lt (X:=X) (p:=other X (outA X z)) (by rw[hX.cm_other ho,oc];rfl);have q2:=ip_lt (X:=X) (p:=endP X true x) cx;rw[k,q2]at q1
       refine c ?_
       have:=hX.arc_other ho;rw[←q1,hX.arc_end hx]at this
       exact this.symm
     · have:=lt_lt (hX.isPl_other ho)
       show _≠sh X.length _
       unfold sh;omega
 · have hz:z<2*Y.length:=hz
   have hzZ:sh X.length z<2*Z.length:=by rw[h.len];unfold sh;omega
   show nxA Z (sh X.length z)=swp _ _ (sh X.length (nxA Y z))
   have ho:=outA_pl (X:=Y) hz;have oc:=outA_cm (X:=Y) hz
   have oz:outA Z (sh X.length z)=shP X.length (outA Y z):=by unfold outA;rw[ip2 z hz];rfl
   have aN:=h.arc2 ho oc hY hy;have hr:=hY.isArc ho
   have e1:other Z (shP X.length (outA Y z))=if arcN Y (outA Y z)=y then endP X true x else shP X.length (other Y (outA Y z)):=by
    have oZ:isPl Z (shP X.length (outA Y z)):=h.ply ho
    have cZ:cm Z (shP X.length (outA Y z))=false:=by
     have:=h.cy _ ho
     exact this.trans oc
    unfold other
    rw[cZ,oc,aN]
    show endP Z true _=_
    rw[h.endEq hX hY hx hy (by have:=hZ.isArc oZ;rwa [aN]at this) true]
    unfold endS
    have:=hr.1;rw[if_neg (by omega)]
    by_cases c:arcN Y (outA Y z)=y
    · rw[if_pos ⟨by omega,rfl⟩,if_pos c]
    · rw[if_neg (fun k=>c (by omega)),if_neg c]
      congr 2
      omega
   have n1:nxA Z (sh X.length z)=Kn.lt (other Z (shP X.length (outA Y z))):=by unfold nxA;rw[if_pos hzZ,oz]
   have n2:nxA Y z=Kn.lt (other Y (outA Y z)):=by unfold nxA;rw[if_pos hz]
   have e2:other Y (outA Y z)=endP Y true (arcN Y (outA Y z)):=by unfold other;rw[oc];rfl
   rw[n1,n2,e1]
   by_cases c:arcN Y (outA Y z)=y
   · rw[if_pos c,e2,c]
     exact(swp_b _ _).symm
   · rw[if_neg c,lt2,swp_ne]
     · have:=lt_lt px
       unfold sh;omega
     · intro k
       have k:Kn.lt (other Y (outA Y z))=Kn.lt (endP Y true y):=by
        have k:sh X.length _=sh X.length _:=k
        unfold sh at k;omega
       have q1:=ip_lt (X:=Y) (p:=other Y (outA Y z)) (by rw[hY.cm_other ho,oc];rfl);have q2:=ip_lt (X:=Y) (p:=endP Y true y) cy;rw[k,q2]at q1
       refine c ?_
       have:=hY.arc_other ho;rw[←q1,hY.arc_end hy]at this
       exact this.symm
end
end Go.Proofs.YtlicglicfijelaaGreat.Kn

namespace Go.Proofs.YtlicglicfijelaaGreat.Kn

abbrev E2:=Int×Int
abbrev L2:=List (E2×Int)
instance:Add E2:=⟨fun a b=>(a.1+b.1,a.2+b.2)⟩
instance:Sub E2:=⟨fun a b=>(a.1-b.1,a.2-b.2)⟩
def tt(l:L2)(f:E2→Int):Int:=(l.map fun t=>t.2*f t.1).sum
def dl(a b:E2):Int:=if b=a then 1 else 0
def cf(l:L2)(a:E2):Int:=tt l (dl a)
theorem tt_nil(f:E2→Int):tt [] f=0:=rfl
theorem tt_cons(t:E2×Int)(l:L2)(f:E2→Int):tt (t :: l) f=t.2*f t.1+tt l f:=by unfold tt;simp
theorem tt_app(l m:L2)(f:E2→Int):tt (l++m) f=tt l f+tt m f:=by unfold tt;simp
theorem tt_add(l:L2)(f g:E2→Int):tt l (fun b=>f b+g b)=tt l f+tt l g:=by
 induction l with
 |nil=>rfl
 |cons t l ih=>rw[tt_cons,tt_cons,tt_cons,ih,Int.mul_add];omega
theorem tt_mul(l:L2)(k:Int)(f:E2→Int):tt l (fun b=>k*f b)=k*tt l f:=by
 induction l with
 |nil=>simp[tt_nil]
 |cons t l ih=>rw[tt_cons,tt_cons,ih,Int.mul_add,Int.mul_left_comm]
theorem tt_zero(l:L2):tt l (fun _=>0)=0:=by
 induction l with
 |nil=>rfl
 |cons t l ih=>rw[tt_cons,ih];simp
theorem tt_congr{l:L2}{f g:E2→Int}(h:∀t∈l,f t.1=g t.1):tt l f=tt l g:=by
 induction l with
 |nil=>rfl
 |cons t l ih=>rw[tt_cons,tt_cons,h t (by simp),ih fun s hs=>h s (by simp[hs])]
theorem cf_cons(t:E2×Int)(l:L2)(a:E2):cf (t :: l) a=(if t.1=a then t.2 else 0)+cf l a:=by
 unfold cf
 rw[tt_cons]
 unfold dl
 split<;>simp
theorem cf_app(l m:L2)(a:E2):cf (l++m) a=cf l a+cf m a:=tt_app l m _
theorem tt_part(a:E2)(f:E2→Int):∀l:L2,tt l f=cf l a*f a+tt (l.filter fun t=>!decide (t.1=a)) f
 |[]=>by simp[tt_nil,cf]
 |t :: l=>by
  rw[tt_cons,tt_part a f l,cf_cons]
  by_cases c:t.1=a
  · rw[if_pos c,List.filter_cons_of_neg (by simp[c]),c,Int.add_mul];omega
  · rw[if_neg c,List.filter_cons_of_pos (by simp[c]),tt_cons,Int.zero_add];omega
theorem cf_filter(a b:E2):∀l:L2,cf (l.filter fun t=>!decide (t.1=a)) b=if b=a then 0 else cf l b
 |[]=>by simp[cf,tt_nil]
 |t :: l=>by
  by_cases c:t.1=a
  · rw[List.filter_cons_of_neg (by simp[c]),cf_filter a b l,cf_cons,c]
    by_cases d:b=a
    · rw[if_pos d,if_pos d]
    · rw[if_neg d,if_neg d,if_neg fun e=>d e.symm];omega
  · rw[List.filter_cons_of_pos (by simp[c]),cf_cons,cf_filter a b l,cf_cons]
    by_cases d:b=a
    · rw[if_pos d,if_pos d,if_neg fun e=>c (e.trans d)];rfl
    · rw[if_neg d,if_neg d]
theorem tt_none(f:E2→Int):∀(n:Nat) (l:L2),l.length=n→(∀a,cf l a=0)→tt l f=0:=by
 intro n
 induction n using Nat.strongRecOn with
 |ind n ih=>
  intro l hn h
  cases l with
  |nil=>rfl
  |cons t l=>
   rw[tt_part t.1 f,h,Int.zero_mul,Int.zero_add]
   refine ih _ ?_ _ rfl fun b=>?_
   · rw[List.filter_cons_of_neg (by simp)]
     have:=List.length_filter_le (fun s:E2×Int=>!decide (s.1=t.1)) l;simp only[List.length_cons]at hn
     omega
   · rw[cf_filter,h];simp
def nl(l:L2):L2:=l.map fun t=>(t.1,-t.2)
theorem tt_nl(l:L2)(f:E2→Int):tt (nl l) f = -tt l f:=by
 induction l with
 |nil=>rfl
 |cons t l ih=>
  show tt ((t.1,-t.2) :: nl l) f=_
  rw[tt_cons,tt_cons,ih]
  show -t.2*f t.1+_=_
  rw[Int.neg_mul];omega
theorem tt_same{l m:L2}(h:∀a,cf l a=cf m a)(f:E2→Int):tt l f=tt m f:=by
 have:=tt_none f _ (l++nl m) rfl fun a=>by
  rw[cf_app,h]
  show cf m a+tt (nl m) (dl a)=0
  rw[tt_nl]
  show cf m a + -cf m a=0
  omega
 rw[tt_app,tt_nl]at this
 omega
def sl(d:E2)(k:Int)(l:L2):L2:=l.map fun t=>(t.1+d,k*t.2)
theorem dl_shift(a b d:E2):dl a (b+d)=dl (a-d) b:=by
 unfold dl
 congr 1
 refine propext ⟨fun h=>?_,fun h=>?_⟩
 · rw[←h]
   refine Prod.ext ?_ ?_
   · show b.1=b.1+d.1-d.1;omega
   · show b.2=b.2+d.2-d.2;omega
 · rw[h]
   refine Prod.ext ?_ ?_
   · show a.1-d.1+d.1=a.1;omega
   · show a.2-d.2+d.2=a.2;omega
theorem cf_sl(d:E2)(k:Int)(l:L2)(a:E2):cf (sl d k l) a=k*cf l (a-d):=by
 induction l with
 |nil=>simp[sl,cf,tt_nil]
 |cons t l ih=>
  have e:sl d k (t :: l)=(t.1+d,k*t.2) :: sl d k l:=rfl
  unfold cf at ih ⊢
  rw[e,tt_cons,tt_cons,ih,Int.mul_add,dl_shift,Int.mul_assoc]

def IsP(w:E2→Int):Prop:=∃l:L2,∀a,w a=cf l a
abbrev P2:={ w:E2→Int // IsP w }
theorem P2.ext{u v:P2}(h:∀a,u.1 a=v.1 a):u=v:=Subtype.ext (funext h)
theorem isP_lin{u v:E2→Int}(hu:IsP u)(hv:IsP v)(d e:E2)(k m:Int):IsP fun a=>k*u (a-d)+m*v (a-e):=by
 obtain⟨l,hl⟩:=hu;obtain⟨r,hr⟩:=hv
 exact⟨sl d k l++sl e m r,fun a=>by rw[cf_app,cf_sl,cf_sl,←hl,←hr]⟩
def lin(u v:P2)(d e:E2)(k m:Int):P2:=⟨fun a=>k*u.1 (a-d)+m*v.1 (a-e),isP_lin u.2 v.2 d e k m⟩
def one2:P2:=⟨fun a=>cf [((0,0),1)] a,_,fun _=>rfl⟩
def T2(e:Bool)(u v:P2):P2:=if e then lin u v (-2,0) (-1,1) 1 1 else lin u v (2,0) (1,1) 1 (-1)
def σ2(w:P2):P2:=lin w w (1,-1) (-1,-1) 1 (-1)
def D2:Nat→P2
 |0=>one2
 |1=>one2
 |k+2=>σ2 (D2 (k+1))
theorem T2_t(u v:P2)(p q:Int):(T2 true u v).1 (p,q)=u.1 (p+2,q)+v.1 (p+1,q-1):=by
 show 1*u.1 (p - -2,q-0)+1*v.1 (p - -1,q-1)=_
 rw[Int.one_mul,Int.one_mul,show p - -2=p+2 by omega,show q-0=q by omega,show p - -1=p+1 by omega]
theorem T2_f(u v:P2)(p q:Int):(T2 false u v).1 (p,q)=u.1 (p-2,q)-v.1 (p-1,q-1):=by
 show 1*u.1 (p-2,q-0) + -1*v.1 (p-1,q-1)=_
 rw[Int.one_mul,show q-0=q by omega,Int.neg_mul,Int.one_mul];omega
theorem σ2_is(w:P2)(p q:Int):(σ2 w).1 (p,q)=w.1 (p-1,q+1)-w.1 (p+1,q+1):=by
 show 1*w.1 (p-1,q - -1) + -1*w.1 (p - -1,q - -1)=_
 rw[Int.one_mul,show q - -1=q+1 by omega,show p - -1=p+1 by omega,Int.neg_mul,Int.one_mul];omega
theorem D2_succ{k:Nat}(h:1≤k):D2 (k+1)=σ2 (D2 k):=by
 obtain⟨j,rfl⟩:∃j,k=j+1:=⟨k-1,by omega⟩
 rfl
theorem far_zero(w:P2)(q:Int):∃N:Nat,∀p:Int,(N:Int)<p→w.1 (p,q)=0:=by
 obtain⟨l,hl⟩:=w.2
 have:∀l:L2,∃N:Nat,∀p:Int,(N:Int)<p→cf l (p,q)=0:=by
  intro l
  induction l with
  |nil=>exact⟨0,fun _ _=>rfl⟩
  |cons t l ih=>
   obtain⟨N,hN⟩:=ih
   refine⟨N+t.1.1.natAbs,fun p hp=>?_⟩
   rw[cf_cons,hN p (by omega),if_neg]
   · rfl
   · intro e
     have:t.1.1=p:=by rw[e]
     omega
 obtain⟨N,hN⟩:=this l
 exact⟨N,fun p hp=>by rw[hl,hN p hp]⟩
theorem σ2_inj{u v:P2}(h:σ2 u=σ2 v):u=v:=by
 refine P2.ext fun⟨p,q⟩=>?_
 obtain⟨N,hN⟩:=far_zero u q;obtain⟨M,hM⟩:=far_zero v q
 have step:∀p,u.1 (p,q)-v.1 (p,q)=u.1 (p+2,q)-v.1 (p+2,q):=fun p=>by
  have:=congrArg (fun w:P2=>w.1 (p+1,q-1)) h;simp only[σ2_is]at this;rw[show p+1-1=p by omega,show p+1+1=p+2 by omega,show q-1+1=q by omega]at this
  omega
 have many:∀(n:Nat) (p:Int),u.1 (p,q)-v.1 (p,q)=u.1 (p+2*n,q)-v.1 (p+2*n,q):=by
  intro n
  induction n with
  |zero=>intro p;simp
  |succ n ih=>
   intro p
   rw[step p,ih (p+2)];rw[show p+2+2*(n:Int)=p+2*((n+1:Nat):Int)by omega]
 have:=many (N+M+p.natAbs+1) p
 obtain⟨P,hP⟩:∃P:Int,P=p+2*((N+M+p.natAbs+1:Nat):Int):=⟨_,rfl⟩
 rw[←hP,hN P (by omega),hM P (by omega)]at this
 omega
noncomputable def lp (w:P2):L2:=Classical.choose w.2
theorem lp_is(w:P2)(a:E2):w.1 a=cf (lp w) a:=Classical.choose_spec w.2 a
def mulL(l r:L2):L2:=r.flatMap fun t=>sl t.1 t.2 l
theorem cf_mulL(l r:L2)(a:E2):cf (mulL l r) a=tt r fun b=>cf l (a-b):=by
 induction r with
 |nil=>rfl
 |cons t r ih=>
  show cf (sl t.1 t.2 l++mulL l r) a=_
  rw[cf_app,cf_sl,ih,tt_cons]
noncomputable def m2 (u w:P2):P2:=⟨fun a=>tt (lp w) fun b=>u.1 (a-b),mulL (lp u) (lp w),fun a=>by
 rw[cf_mulL];exact tt_congr fun t _=>lp_is u _⟩
theorem tt_swap(l r:L2)(a:E2):(tt r fun b=>cf l (a-b))=tt l fun b=>cf r (a-b):=by
 induction r with
 |nil=>
  rw[tt_nil]
  have:tt l (fun b=>cf [] (a-b))=tt l fun _=>0:=tt_congr fun _ _=>rfl
  rw[this,tt_zero]
 |cons t r ih=>
  rw[tt_cons,ih]
  have:tt l (fun b=>cf (t :: r) (a-b))=tt l (fun b=>t.2*dl (a-t.1) b+cf r (a-b)):=tt_congr fun s _=>by
   unfold cf
   rw[tt_cons]
   congr 2
   unfold dl
   congr 1
   refine propext ⟨fun h=>?_,fun h=>?_⟩
   · refine Prod.ext ?_ ?_
     · have:=congrArg Prod.fst h
       have:t.1.1=a.1-s.1.1:=this
       show s.1.1=a.1-t.1.1;omega
     · have:=congrArg Prod.snd h
       have:t.1.2=a.2-s.1.2:=this
       show s.1.2=a.2-t.1.2;omega
   · refine Prod.ext ?_ ?_
     · have:=congrArg Prod.fst h
       have:s.1.1=a.1-t.1.1:=this
       show t.1.1=a.1-s.1.1;omega
     · have:=congrArg Prod.snd h
       have:s.1.2=a.2-t.1.2:=this
       show t.1.2=a.2-s.1.2;omega
  rw[this,tt_add,tt_mul]
  rfl
theorem m2_comm(u w:P2):m2 u w=m2 w u:=P2.ext fun a=>by
 show tt (lp w) (fun b=>u.1 (a-b))=tt (lp u) fun b=>w.1 (a-b)
 have h1:tt (lp w) (fun b=>u.1 (a-b))=tt (lp w) fun b=>cf (lp u) (a-b):=tt_congr fun _ _=>lp_is u _
 have h2:tt (lp u) (fun b=>w.1 (a-b))=tt (lp u) fun b=>cf (lp w) (a-b):=tt_congr fun _ _=>lp_is w _
 rw[h1,h2,tt_swap]
theorem m2_of{u w:P2}{l:L2}(h:∀a,w.1 a=cf l a)(a:E2):(m2 u w).1 a=tt l fun b=>u.1 (a-b):=by
 show tt (lp w) (fun b=>u.1 (a-b))=_
 exact tt_same (fun b=>by rw[←lp_is,h]) _
theorem m2_lin(u v w:P2)(d e:E2)(k m:Int):m2 (lin u v d e k m) w=lin (m2 u w) (m2 v w) d e k m:=P2.ext fun a=>by
 show tt (lp w) (fun b=>k*u.1 (a-b-d)+m*v.1 (a-b-e))=k*tt (lp w) (fun b=>u.1 (a-d-b))+m*tt (lp w) fun b=>v.1 (a-e-b)
 rw[←tt_mul,←tt_mul,←tt_add]
 refine tt_congr fun t _=>?_
 have c:∀d:E2,a-t.1-d=a-d-t.1:=fun d=>Prod.ext (by show a.1-t.1.1-d.1=a.1-d.1-t.1.1;omega) (by show a.2-t.1.2-d.2=a.2-d.2-t.1.2;omega)
 rw[c d,c e]
theorem m2_one(u:P2):m2 u one2=u:=P2.ext fun a=>by
 rw[m2_of (l:=[((0,0),1)]) fun _=>rfl,tt_cons,tt_nil];have:a-(0,0)=a:=Prod.ext (by show a.1-0=a.1;omega) (by show a.2-0=a.2;omega)
 rw[this];simp
theorem m2_D:∀(i j:Nat),1≤i→1≤j→m2 (D2 i) (D2 j)=D2 (i+j-1)
 |0,_,h,_=>absurd h (by omega)
 |1,j,_,hj=>by
  show m2 one2 (D2 j)=_
  rw[m2_comm,m2_one,show 1+j-1=j by omega]
 |i+2,j,_,hj=>by
  rw[D2_succ (k:=i+1) (by omega),show i+2+j-1=(i+1+j-1)+1 by omega,D2_succ (k:=i+1+j-1) (by omega),←m2_D (i+1) j (by omega) hj]
  exact m2_lin _ _ _ _ _ _ _
theorem T2_lin(e:Bool)(u v w:P2):m2 (T2 e u v) w=T2 e (m2 u w) (m2 v w):=by
 cases e
 · exact m2_lin _ _ _ _ _ _ _
 · exact m2_lin _ _ _ _ _ _ _
noncomputable def K2:CM P2 where
 T:=T2
 D:=D2
 σ:=σ2
 inv:=fun e u v=>P2.ext fun⟨p,q⟩=>by
  cases e
  · show (T2 true (T2 false u v) v).1 (p,q)=_
    rw[T2_t,T2_f,show p+2-2=p by omega,show p+2-1=p+1 by omega];omega
  · show (T2 false (T2 true u v) v).1 (p,q)=_
    rw[T2_f,T2_t,show p-2+2=p by omega,show p-2+1=p-1 by omega];omega
 mid:=fun e f a b c d=>P2.ext fun⟨p,q⟩=>by
  cases e<;>cases f
  · simp only[T2_f]
    rw[show p-1-2=p-2-1 by omega];omega
  · simp only[T2_t,T2_f]
    rw[show p+2-2=p-2+2 by omega,show p+1-2=p-2+1 by omega,show p+2-1=p-1+2 by omega,show p+1-1=p-1+1 by omega];omega
  · simp only[T2_t,T2_f]
    rw[show p+2-2=p-2+2 by omega,show p+1-2=p-2+1 by omega,show p+2-1=p-1+2 by omega,show p+1-1=p-1+1 by omega];omega
  · simp only[T2_t]
    rw[show p+1+2=p+2+1 by omega];omega
 base:=fun e k hk=>P2.ext fun⟨p,q⟩=>by
  rw[D2_succ hk]
  cases e
  · rw[T2_f,σ2_is,show p-1-1=p-2 by omega,show p-1+1=p by omega,show q-1+1=q by omega];omega
  · rw[T2_t,σ2_is,show p+1-1=p by omega,show p+1+1=p+2 by omega,show q-1+1=q by omega];omega
 σT:=fun e u v=>P2.ext fun⟨p,q⟩=>by
  cases e
  · simp only[T2_f,σ2_is]
    rw[show p-1-2=p-2-1 by omega,show p+1-2=p-2+1 by omega,show p+1-1=p-1+1 by omega,show q+1-1=q-1+1 by omega];omega
  · simp only[T2_t,σ2_is]
    rw[show p-1+2=p+2-1 by omega,show p+1+2=p+2+1 by omega,show p-1+1=p+1-1 by omega,show q+1-1=q-1+1 by omega];omega
 σD:=fun k hk=>(D2_succ hk).symm
 σi:=fun _ _ h=>σ2_inj h
 m:=m2
 mTl:=fun e u v w=>T2_lin e u v w
 mTr:=fun e u v w=>by rw[m2_comm,T2_lin,m2_comm u,m2_comm v]
 mD:=m2_D
end Go.Proofs.YtlicglicfijelaaGreat.Kn

namespace Go.Proofs.YtlicglicfijelaaGreat.Kn

def la(X:List Cr)(a:Nat):Nat:=lt (endP X true a)
def lw(X:List Cr):List Nat:=(strandsL X).flatten.map (la X)
def fv:List Nat→List Nat→List Nat
 |_,[]=>[]
 |seen,l :: F=>if l / 2∈seen then fv seen F else l :: fv (l / 2 :: seen) F
def evB(l:Nat):Bool:=decide (l%2=0)
def lowX(X:List Cr):Option Nat:=((fv [] (lw X)).find? evB).map (· / 2)
def bX(X:List Cr):Nat:=(fv [] (lw X)).countP evB
theorem fv_mem:∀{seen F:List Nat} {l:Nat},l∈fv seen F→l∈F∧l / 2∉seen
 |_,[],_,h=>by cases h
 |seen,a :: F,l,h=>by
  rw[fv]at h
  split at h
  · next c=>
    obtain⟨h1,h2⟩:=fv_mem h
    exact⟨by simp[h1],h2⟩
  · next c=>
    rcases List.mem_cons.1 h with rfl|h
    · exact⟨by simp,c⟩
    · obtain⟨h1,h2⟩:=fv_mem h
      exact⟨by simp[h1],fun k=>h2 (by simp[k])⟩
theorem fv_nodup:∀(seen F:List Nat),((fv seen F).map (· / 2)).Nodup
 |_,[]=>by simp[fv]
 |seen,a :: F=>by
  rw[fv]
  split
  · exact fv_nodup seen F
  · rw[List.map_cons,List.nodup_cons]
    refine⟨fun k=>?_,fv_nodup _ F⟩
    obtain⟨l,hl,e⟩:=List.mem_map.1 k
    exact(fv_mem hl).2 (by rw[e];simp)
theorem fv_first:∀{seen F:List Nat} {l:Nat},l∈F→l / 2∉seen→bef F l (mt l)→l∈fv seen F
 |_,[],_,h,_,_=>by cases h
 |seen,a :: F,l,h,hs,hb=>by
  rw[fv]
  by_cases e:a=l
  · subst e
    rw[if_neg hs];simp
  · have hl:l∈F:=(List.mem_cons.1 h).resolve_left fun k=>e k.symm
    have e':(a==l)=false:=by simpa using e
    have em:a≠mt l:=fun k=>by
     subst k
     unfold bef at hb
     rw[List.idxOf_cons,List.idxOf_cons,e']at hb
     simp at hb
    have em':(a==mt l)=false:=by simpa using em
    have hb':bef F l (mt l):=by
     unfold bef at hb ⊢
     rw[List.idxOf_cons,List.idxOf_cons,e',em']at hb
     simpa using hb
    have hd:l / 2≠a / 2:=fun k=>(of_div k).elim (fun q=>e q.symm) fun q=>em (by rw[q,mt_mt])
    split
    · exact fv_first hl hs hb'
    · exact List.mem_cons_of_mem _ (fv_first hl (by simp[hs,hd]) hb')
theorem fv_map{g:Nat→Nat}(hg:∀l,g l / 2=l / 2):∀(seen F:List Nat),fv seen (F.map g)=(fv seen F).map g
 |_,[]=>rfl
 |seen,a :: F=>by
  rw[List.map_cons,fv,fv,hg,fv_map hg seen F,fv_map hg (a / 2 :: seen) F]
  split<;>rfl
section
variable {X:List Cr}
theorem Ok.la_lt(h:Ok X){a:Nat}(ha:Kn.isArc X a):la X a<2*X.length:=lt_lt (h.isPl_end ha)
theorem Ok.ip_la(h:Ok X){a:Nat}(ha:Kn.isArc X a):ip X (la X a)=endP X true a:=ip_lt (h.cm_end ha)
theorem Ok.la_next(h:Ok X){a:Nat}(ha:Kn.isArc X a):nxA X (la X a)=la X (nextA X a):=by
 refine ip_inj (Y:=X) ?_
 have hl:=h.la_lt ha;rw[h.ip_nx hl,h.ip_la (h.isArc_next ha)]
 have e:outA X (la X a)=((endP X true a).1,((endP X true a).2+2)%4):=by unfold outA;rw[h.ip_la ha]
 have hc:=outA_cm (X:=X) hl
 unfold other nextA
 rw[hc,e];rfl
theorem ch_of_ring{f:Nat→Nat}:∀{w:List Nat} {x z:Nat},(∀i (h:i+1<(x :: w).length),(x :: w)[i+1]=f ((x :: w)[i]'(by omega)))→f ((x :: w)[w.length]'(by simp))=z→Ch f x w z
 |[],x,z,_,h=>h
 |y :: w,x,z,h,k=>by
  refine⟨(h 0 (by simp)).symm,ch_of_ring (fun i hi=>?_) ?_⟩
  · have:=h (i+1) (by simp at hi ⊢;omega)
    simpa using this
  · simpa using k
theorem Ok.strand_words(h:Ok X):Ws (2*X.length) (nxA X) ((strandsL X).map (List.map (la X))):=by
 refine⟨?_,fun w hw=>?_⟩
 · rw[←List.map_flatten]
   have p:=(strands_perm h).map (la X)
   refine p.trans ?_
   have hn:((arcs X).map (la X)).Nodup:=by
    refine map_nodup (arcs_nodup X) fun a ha b hb e=>?_
    have ha:=mem_arcs.1 ha;have hb:=mem_arcs.1 hb;have e1:=h.ip_la ha;rw[e,h.ip_la hb]at e1;rw[←h.arc_end (io:=true) ha,←e1,h.arc_end hb]
   refine perm_of_sub hn List.nodup_range (fun x hx=>?_) ?_
   · obtain⟨a,ha,rfl⟩:=List.mem_map.1 hx
     exact List.mem_range.2 (h.la_lt (mem_arcs.1 ha))
   · rw[List.length_map,arcs_length,List.length_range];unfold nArcs;omega
 · obtain⟨r,hr,rfl⟩:=List.mem_map.1 hw
   have hne:=strands_ne X r hr;have hc:=h.strands_cyc r hr
   cases r with
   |nil=>exact absurd rfl hne
   |cons x u=>
    have hc1:Ch (nextA X) x u x:=by
     refine ch_of_ring (fun i hi=>?_) ?_
     · have:=hc i (by omega)
       have e:(i+1)%(x :: u).length=i+1:=Nat.mod_eq_of_lt hi;simp only[e]at this
       exact this
     · have:=hc u.length (by simp)
       have e:(u.length+1)%(x :: u).length=0:=by simp
       simp only[e]at this
       exact this.symm
    exact ch_map hc1 fun y hy=>h.la_next (strands_arc h hr hy)
theorem Ok.lw_words(h:Ok X):((strandsL X).map (List.map (la X))).flatten=lw X:=by unfold lw;rw[List.map_flatten]
theorem Ok.k_strands(h:Ok X)(L:Nat):(h.ar L).k noS=(strandsL X).length+L:=by
 have e:(h.ar L).nS noS=nxA X:=funext fun x=>nS_no _ x
 have hW:Ws (2*(h.ar L).n) ((h.ar L).nS noS) ((strandsL X).map (List.map (la X))):=by rw[e];exact h.strand_words
 rw[Ws.k_eq _ hW,List.length_map];rfl
theorem Ok.lw_mem(h:Ok X){l:Nat}:l∈lw X↔l<2*X.length:=by
 have:=h.strand_words.mem (x:=l);rw[h.lw_words]at this
 exact this
theorem Ok.bX_le(h:Ok X):bX X≤X.length:=by
 unfold bX
 refine Nat.le_trans (List.countP_le_length) ?_
 have h1:=nodup_le (fv_nodup [] (lw X)) (m:=List.range X.length) fun c hc=>by
  obtain⟨l,hl,rfl⟩:=List.mem_map.1 hc;have:=h.lw_mem.1 (fv_mem hl).1
  exact List.mem_range.2 (by omega)
 simpa using h1
theorem lowX_none(h:lowX X=none):∀l∈fv [] (lw X),l%2=1:=by
 unfold lowX at h
 rw[Option.map_eq_none_iff,List.find?_eq_none]at h
 intro l hl
 have:=h l hl
 unfold evB at this
 simp at this
 omega
theorem lowX_some{k:Nat}(h:lowX X=some k):2*k∈fv [] (lw X):=by
 unfold lowX at h
 rw[Option.map_eq_some_iff]at h;obtain⟨l,h1,h2⟩:=h;have h3:=List.find?_some h1;have h4:=List.mem_of_find?_eq_some h1
 unfold evB at h3
 have h3:l%2=0:=by simpa using h3
 have:l=2*k:=by omega
 rw[←this];exact h4
theorem Ok.low_lt(h:Ok X){k:Nat}(hk:lowX X=some k):k<X.length∧1≤bX X:=by
 have h1:=lowX_some hk;have:=h.lw_mem.1 (fv_mem h1).1
 refine⟨by omega,?_⟩
 unfold bX
 exact List.countP_pos_iff.2 ⟨_,h1,by unfold evB;simp⟩
theorem Ok.hv_low{W:Type}{K:CA W}(h:Ok X)(hp:planarB X=true)(L:Nat)(hl:lowX X=none):hv K h L=K.D ((strandsL X).length+L):=by
 have e:(h.ar L).nS noS=nxA X:=funext fun x=>nS_no _ x
 have hW:Ws (2*(h.ar L).n) ((h.ar L).nS noS) ((strandsL X).map (List.map (la X))):=by rw[e];exact h.strand_words
 rw[←h.k_strands L]
 refine good (K:=K) (h.linked hp L) noS _ hW _ fun y hy _ hb=>?_
 rw[h.lw_words]at hb;have hm:y∈lw X:=h.lw_mem.2 hy;have:=lowX_none hl y (fv_first hm (by simp) hb)
 unfold ov
 rw[if_pos this]
theorem Ok.next_chg(h:Ok X){k:Nat}(hk:k<X.length){a:Nat}(ha:Kn.isArc X a):nextA (chgL X k) a=nextA X a∧la (chgL X k) a=chgE k (la X a):=by
 have hT:=chg_tur (X:=X) hk;have hY:=h.chg_ok hk;have ha':Kn.isArc (chgL X k) a:=hT.isArc.2 ha;have p1:=hY.isPl_end (io:=true) ha';have p1':=hT.isPl.1 p1
 have e1:trn (chgT X k) (endP (chgL X k) true a)=endP X true a:=by
  refine h.uniq _ _ (isPl_trn p1') (h.isPl_end ha) ?_ ?_
  · have:=hT.cm _ p1'
    rw[Bool.xor_false]at this;rw[←this,hY.cm_end ha',h.cm_end ha]
  · rw[←hT.at_ _ p1',hY.at_end ha',h.at_end ha]
 constructor
 · unfold nextA
   have q:=isPl_turn p1' 2;have:arcN (chgL X k) ((endP (chgL X k) true a).1,((endP (chgL X k) true a).2+2)%4)=arcN X (trn (chgT X k) ((endP (chgL X k) true a).1,((endP (chgL X k) true a).2+2)%4)):=hT.arcN q;rw[this]
   congr 1
   rw[←e1]
   unfold trn
   refine Prod.ext rfl ?_
   simp only;omega
 · refine ip_inj (Y:=X) ?_
   have hl:=hY.la_lt ha';have e2:=ip_chg (X:=X) (k:=k) (l:=la (chgL X k) a) hk;rw[hY.ip_la ha',e1]at e2;have e3:chgE k (la (chgL X k) a)=la X a:=ip_inj (Y:=X) (by rw[e2,h.ip_la ha]);rw[←e3,chgE_two]
theorem rings_congr{f g:Nat→Nat}{all:List Nat}(hall:∀x∈all,f x∈all)(hfg:∀x∈all,g x=f x)(N:Nat):∀{ds seen:List Nat},(∀y∈ds,y∈all)→rings g N seen ds=rings f N seen ds:=by
 have hr:∀(k:Nat) (seen:List Nat) (x:Nat),x∈all→ring g k seen x=ring f k seen x:=by
  intro k
  induction k with
  |zero=>intro _ _ _;rfl
  |succ k ih=>
   intro seen x hx
   rw[ring,ring,hfg x hx,ih _ _ (hall x hx)]
 intro ds
 induction ds with
 |nil=>intro seen _;rw[rings_nil,rings_nil]
 |cons d ds ih=>
  intro seen hd
  rw[rings,rings,hr N seen d (hd d (by simp)),ih fun y hy=>hd y (by simp[hy]),ih fun y hy=>hd y (by simp[hy])]
theorem Ok.strands_chg(h:Ok X){k:Nat}(hk:k<X.length):strandsL (chgL X k)=strandsL X:=by
 have hT:=chg_tur (X:=X) hk;have e1:nArcs (chgL X k)=nArcs X:=hT.arcs
 have e2:arcs (chgL X k)=arcs X:=by unfold arcs;rw[e1]
 unfold strandsL
 rw[e1,e2]
 exact rings_congr (all:=arcs X) (fun x hx=>mem_arcs.2 (h.isArc_next (mem_arcs.1 hx))) (fun x hx=>(h.next_chg hk (mem_arcs.1 hx)).1) _ fun y hy=>hy
theorem Ok.lw_chg(h:Ok X){k:Nat}(hk:k<X.length):lw (chgL X k)=(lw X).map (chgE k):=by
 unfold lw
 rw[h.strands_chg hk,List.map_map]
 refine List.map_congr_left fun a ha=>?_
 exact(h.next_chg hk (mem_arcs.1 ((strands_perm h).mem_iff.1 ha))).2
theorem Ok.bX_chg(h:Ok X){k:Nat}(hk:lowX X=some k):bX (chgL X k)+1=bX X:=by
 have hlt:=(h.low_lt hk).1
 unfold bX
 rw[h.lw_chg hlt,fv_map (fun l=>chgE_div k l),List.countP_map]
 have hn:(fv [] (lw X)).Nodup:=by
  have:=fv_nodup [] (lw X);rw[List.Nodup,List.pairwise_map]at this
  exact this.imp fun q e=>q (by rw[e])
 have hd:=fv_nodup [] (lw X)
 refine countP_but hn (x:=2*k) (lowX_some hk) (by unfold evB;simp) fun d hdm=>?_
 show evB (chgE k d)=_
 unfold evB chgE
 by_cases e:d / 2=k
 · have:d=2*k:=by
    have i1:d∈fv [] (lw X):=hdm;have i2:=lowX_some hk
    refine Classical.byContradiction fun c=>?_
    rw[List.Nodup,List.pairwise_map]at hd
    have key:∀{l:List Nat},l.Pairwise (fun a b=>a / 2≠b / 2)→∀{a b},a∈l→b∈l→a≠b→a / 2≠b / 2:=by
     intro l
     induction l with
     |nil=>intro _ a b ha;cases ha
     |cons x l ih=>
      intro hp a b ha hb hne
      rw[List.pairwise_cons]at hp
      rcases List.mem_cons.1 ha with qa|qa
      · rcases List.mem_cons.1 hb with qb|qb
        · exact absurd (qa.trans qb.symm) hne
        · rw[qa];exact hp.1 b qb
      · rcases List.mem_cons.1 hb with qb|qb
        · rw[qb];exact(hp.1 a qa).symm
        · exact ih hp.2 qa qb hne
    exact key hd i1 i2 c (by omega)
   subst this;rw[if_pos e,mt_mod]
   simp
 · rw[if_neg e]
   have:d≠2*k:=fun q=>e (by omega)
   simp[this]
end
def rgL:Nat→Nat→L2
 |n,0=>[((0,1-(n:Int)),1)]
 |n,j+1=>sl (1,0) 1 (rgL n j)++sl (-1,0) (-1) (rgL n j)
def ringsT(n:Nat):L2:=rgL n (n-1)
def cmb(p:Bool)(u v:L2):L2:=if p then sl (-2,0) 1 u++sl (-1,1) 1 v else sl (2,0) 1 u++sl (1,1) (-1) v
def ofL:Nat→List Cr→Nat→L2
 |0,_,_=>[]
 |f+1,X,L=>match lowX X with
  |none=>ringsT ((strandsL X).length+L)
  |some k=>cmb (cr X k).p (ofL f (chgL X k) L) (ofL f (smL X k) (L+smN X k))
theorem rgL_cf(n:Nat):∀(j:Nat) (p q:Int),cf (rgL n j) (p,q)=(D2 (j+1)).1 (p,q+n-1-j)
 |0,p,q=>by
  show cf [((0,1-(n:Int)),1)] (p,q)=cf [((0,0),1)] (p,q+n-1-(0:Nat))
  rw[cf_cons,cf_cons]
  by_cases c:((0,1-(n:Int)):E2)=(p,q)
  · rw[if_pos c,if_pos]
    · rfl
    · injection c with c1 c2
      subst c1
      refine Prod.ext rfl ?_
      show (0:Int)=q+n-1-((0:Nat):Int)
      omega
  · rw[if_neg c,if_neg]
    · rfl
    · intro e
      injection e with e1 e2
      refine c (Prod.ext e1 ?_)
      show 1-(n:Int)=q
      omega
 |j+1,p,q=>by
  rw[rgL,cf_app,cf_sl,cf_sl];have h1:=rgL_cf n j (p-1) q;have h2:=rgL_cf n j (p+1) q
  have e1:((p,q)-(1,0):E2)=(p-1,q):=by
   refine Prod.ext rfl ?_
   show q-0=q;omega
  have e2:((p,q)-(-1,0):E2)=(p+1,q):=by
   refine Prod.ext ?_ ?_
   · show p - -1=p+1;omega
   · show q-0=q;omega
  rw[e1,e2,h1,h2,D2_succ (k:=j+1) (by omega),σ2_is]
  have e3:q+(n:Int)-1-((j+1:Nat):Int)+1=q+n-1-j:=by omega
  rw[e3];omega
theorem ringsT_cf{n:Nat}(hn:1≤n)(a:E2):cf (ringsT n) a=(D2 n).1 a:=by
 obtain⟨p,q⟩:=a
 unfold ringsT
 rw[rgL_cf,show n-1+1=n by omega,show q+(n:Int)-1-((n-1:Nat):Int)=q by omega]
theorem cmb_cf(p:Bool){u v:L2}{U V:P2}(hu:∀a,cf u a=U.1 a)(hv:∀a,cf v a=V.1 a)(a:E2):cf (cmb p u v) a=(T2 p U V).1 a:=by
 unfold cmb T2
 cases p
 · show cf (sl (2,0) 1 u++sl (1,1) (-1) v) a=1*U.1 (a-(2,0)) + -1*V.1 (a-(1,1))
   rw[cf_app,cf_sl,cf_sl,hu,hv]
 · show cf (sl (-2,0) 1 u++sl (-1,1) 1 v) a=1*U.1 (a-(-2,0))+1*V.1 (a-(-1,1))
   rw[cf_app,cf_sl,cf_sl,hu,hv]
theorem smL_len{X:List Cr}{k:Nat}(hk:k<X.length):(smL X k).length+1=X.length:=by
 unfold smL
 rw[withL_len,kept_only hk]
theorem Ok.k_smooth{X:List Cr}(h:Ok X){k:Nat}(hk:k<X.length)(L:Nat):1≤(strandsL (smL X k)).length+(L+smN X k)∧(strandsL (smL X k)).length+(L+smN X k)≤(strandsL X).length+L+1:=by
 have hT:=h.smooth_ties hk;have e1:=hT.rings L;have e2:=(h.smooth_ok hk).k_strands (L+smN X k);have e3:(hT.ok.ar (L+ringN X (smF X k) (only k))).k (fun _=>false)=(strandsL (smL X k)).length+(L+smN X k):=e2;rw[e3]at e1
 have e4:(only k:St)=ad noS k:=funext fun d=>by
  unfold ad
  by_cases c:d=k
  · simp[c]
  · simp[c]
 have hpos:=k_pos (h.ar L) (only k) (show 0<X.length+L by omega);have e5:=h.k_strands L;obtain⟨p1,p2⟩:=(h.ar L).k_ad (S:=noS) (l:=2*k) (by show 2*k<2*X.length;omega) rfl;rw[show 2*k / 2=k by omega,←e4]at p1 p2
 by_cases o:Orb ((h.ar L).nS noS) (2*k) (mt (2*k))
 · have:=p1 o
   omega
 · have:=p2 o
   omega
theorem ofL_hv:∀(f:Nat) {X:List Cr} (h:Ok X) (L:Nat),planarB X=true→1≤(strandsL X).length+L→X.length*X.length+bX X+1≤f→∀a,cf (ofL f X L) a=(hv K2.toCA h L).1 a
 |0,X,h,L,_,_,hf,a=>by omega
 |f+1,X,h,L,hp,hk,hf,a=>by
  unfold ofL
  cases c:lowX X with
  |none=>
   show cf (ringsT ((strandsL X).length+L)) a=_
   rw[ringsT_cf hk,h.hv_low hp L c];rfl
  |some k=>
   obtain⟨k1,k2⟩:=h.low_lt c;have hb:=h.bX_chg c;have hs:=h.strands_chg k1
   have hl:(chgL X k).length=X.length:=by simp[chgL]
   have hs2:=smL_len k1;have hb2:=(h.smooth_ok k1).bX_le;have i1:=ofL_hv f (h.chg_ok k1) L (by rw[h.chg_planar k1];exact hp) (by rw[hs];exact hk) (by rw[hl];omega)
   have i2:=ofL_hv f (h.smooth_ok k1) (L+smN X k) (h.smooth_planar k1 hp) (h.k_smooth k1 L).1 (by
    obtain⟨m,hm⟩:∃m,m=(smL X k).length:=⟨_,rfl⟩
    rw[←hm]at hs2 hb2 ⊢;rw[←hs2]at hf
    have:(m+1)*(m+1)=m*m+2*m+1:=by rw[Nat.add_mul,Nat.mul_add,Nat.mul_one,Nat.one_mul];omega
    omega)
   show cf (cmb _ _ _) a=_
   rw[cmb_cf _ i1 i2,h.hv_skein hp k1 L];rfl
end Go.Proofs.YtlicglicfijelaaGreat.Kn

namespace Go.Proofs.YtlicglicfijelaaGreat.Kn

def lt2(a b:E2):Prop:=a.1<b.1∨(a.1=b.1∧a.2<b.2)
instance (a b:E2):Decidable (lt2 a b):=inferInstanceAs (Decidable (_∨_))
theorem lt2_irr(a:E2):¬lt2 a a:=by unfold lt2;omega
theorem lt2_trans{a b c:E2}(h:lt2 a b)(k:lt2 b c):lt2 a c:=by unfold lt2 at *;omega
theorem lt2_tri(a b:E2):lt2 a b∨a=b∨lt2 b a:=by
 unfold lt2
 by_cases h1:a.1=b.1
 · by_cases h2:a.2=b.2
   · exact .inr (.inl (Prod.ext h1 h2))
   · omega
 · omega
structure F2(l:L2):Prop where
 ord:l.Pairwise fun s t=>lt2 s.1 t.1
 nz:∀t∈l,t.2≠0
theorem F2.nil:F2 []:=⟨.nil,fun _ h=>by cases h⟩
theorem F2.tail{t:E2×Int}{l:L2}(h:F2 (t :: l)):F2 l:=⟨(List.pairwise_cons.1 h.ord).2,fun s hs=>h.nz s (by simp[hs])⟩
theorem cf_out{l:L2}{a:E2}(h:∀t∈l,t.1≠a):cf l a=0:=by
 induction l with
 |nil=>rfl
 |cons t l ih=>rw[cf_cons,if_neg (h t (by simp)),ih fun s hs=>h s (by simp[hs])];rfl
theorem F2.low{t:E2×Int}{l:L2}(h:F2 (t :: l)){a:E2}(ha:lt2 a t.1):cf (t :: l) a=0:=by
 refine cf_out fun s hs e=>?_
 rcases List.mem_cons.1 hs with rfl|hs
 · rw[e]at ha;exact lt2_irr _ ha
 · have:=(List.pairwise_cons.1 h.ord).1 s hs
   rw[e]at this
   exact lt2_irr _ (lt2_trans ha this)
theorem F2.head{t:E2×Int}{l:L2}(h:F2 (t :: l)):cf (t :: l) t.1=t.2:=by
 rw[cf_cons,if_pos rfl,cf_out fun s hs e=>?_]
 · omega
 · have:=(List.pairwise_cons.1 h.ord).1 s hs
   rw[e]at this
   exact lt2_irr _ this
theorem F2.uniq:∀{l m:L2},F2 l→F2 m→(∀a,cf l a=cf m a)→l=m
 |[],[],_,_,_=>rfl
 |[],t :: m,_,hm,e=>by
  have:=e t.1;rw[hm.head]at this
  exact absurd this.symm (hm.nz t (by simp))
 |t :: l,[],hl,_,e=>by
  have:=e t.1;rw[hl.head]at this
  exact absurd this (hl.nz t (by simp))
 |t :: l,s :: m,hl,hm,e=>by
  have e1:t.1=s.1:=by
   rcases lt2_tri t.1 s.1 with c|c|c
   · have:=e t.1
     rw[hl.head,hm.low c]at this
     exact absurd this (hl.nz t (by simp))
   · exact c
   · have:=e s.1
     rw[hm.head,hl.low c]at this
     exact absurd this.symm (hm.nz s (by simp))
  have e2:t.2=s.2:=by
   have:=e t.1;rw[hl.head,e1,hm.head]at this
   exact this
  have e3:t=s:=Prod.ext e1 e2;subst e3
  rw[F2.uniq hl.tail hm.tail fun a=>by
   have:=e a;rw[cf_cons,cf_cons]at this
   omega]
def insT:L2→E2×Int→L2
 |[],t=>if t.2≠0 then [t]else []
 |o :: os,t=>if lt2 o.1 t.1 then o :: insT os t else if o.1=t.1 then(if t.2+o.2≠0 then(t.1,t.2+o.2) :: os else os)else if t.2≠0 then t :: o :: os else o :: os
theorem insT_cf(t:E2×Int)(a:E2):∀l:L2,cf (insT l t) a=cf l a+if t.1=a then t.2 else 0
 |[]=>by
  unfold insT
  by_cases c:t.2≠0
  · rw[if_pos c,cf_cons];omega
  · rw[if_neg c]
    have:t.2=0:=by omega
    rw[this];simp
 |o :: os=>by
  rw[insT]
  by_cases c1:lt2 o.1 t.1
  · rw[if_pos c1,cf_cons,cf_cons,insT_cf t a os];omega
  · rw[if_neg c1]
    by_cases c2:o.1=t.1
    · rw[if_pos c2]
      by_cases c3:t.2+o.2≠0
      · rw[if_pos c3,cf_cons,cf_cons,c2]
        split<;>omega
      · rw[if_neg c3,cf_cons,c2]
        split<;>omega
    · rw[if_neg c2]
      by_cases c3:t.2≠0
      · rw[if_pos c3,cf_cons t];omega
      · rw[if_neg c3]
        have:t.2=0:=by omega
        rw[this];simp
theorem insT_mem{t s:E2×Int}:∀{l:L2},s∈insT l t→s.1=t.1∨s∈l
 |[],h=>by
  unfold insT at h
  split at h
  · rw[List.mem_singleton]at h;exact .inl (by rw[h])
  · cases h
 |o :: os,h=>by
  rw[insT]at h
  split at h
  · rcases List.mem_cons.1 h with rfl|h
    · exact .inr (by simp)
    · exact(insT_mem h).imp id fun k=>by simp[k]
  · split at h
    · split at h
      · rcases List.mem_cons.1 h with rfl|h
        · exact .inl rfl
        · exact .inr (by simp[h])
      · exact .inr (by simp[h])
    · split at h
      · rcases List.mem_cons.1 h with rfl|h
        · exact .inl rfl
        · exact .inr h
      · exact .inr h
theorem insT_F2(t:E2×Int):∀{l:L2},F2 l→F2 (insT l t)
 |[],_=>by
  unfold insT
  split
  · next c=>exact⟨by simp,fun s hs=>by rw[List.mem_singleton]at hs;subst hs;exact c⟩
  · exact F2.nil
 |o :: os,h=>by
  rw[insT];have ho:=List.pairwise_cons.1 h.ord
  by_cases c1:lt2 o.1 t.1
  · rw[if_pos c1]
    have i:=insT_F2 t h.tail
    refine⟨List.pairwise_cons.2 ⟨fun s hs=>?_,i.ord⟩,fun s hs=>?_⟩
    · rcases insT_mem hs with k|k
      · rw[k];exact c1
      · exact ho.1 s k
    · rcases List.mem_cons.1 hs with rfl|hs
      · exact h.nz _ (by simp)
      · exact i.nz s hs
  · rw[if_neg c1]
    by_cases c2:o.1=t.1
    · rw[if_pos c2]
      by_cases c3:t.2+o.2≠0
      · rw[if_pos c3]
        refine⟨List.pairwise_cons.2 ⟨fun s hs=>?_,ho.2⟩,fun s hs=>?_⟩
        · show lt2 t.1 s.1
          rw[←c2];exact ho.1 s hs
        · rcases List.mem_cons.1 hs with rfl|hs
          · exact c3
          · exact h.nz s (by simp[hs])
      · rw[if_neg c3];exact h.tail
    · rw[if_neg c2]
      have c4:lt2 t.1 o.1:=by
       rcases lt2_tri o.1 t.1 with k|k|k
       · exact absurd k c1
       · exact absurd k c2
       · exact k
      by_cases c3:t.2≠0
      · rw[if_pos c3]
        refine⟨List.pairwise_cons.2 ⟨fun s hs=>?_,h.ord⟩,fun s hs=>?_⟩
        · rcases List.mem_cons.1 hs with rfl|hs
          · exact c4
          · exact lt2_trans c4 (ho.1 s hs)
        · rcases List.mem_cons.1 hs with rfl|hs
          · exact c3
          · exact h.nz s hs
      · rw[if_neg c3];exact h
def sumT(l more:L2)(d:E2)(c:Int):L2:=more.foldl (fun l t=>insT l (t.1+d,t.2*c)) l
theorem sumT_cons(l:L2)(t:E2×Int)(more:L2)(d:E2)(c:Int):sumT l (t :: more) d c=sumT (insT l (t.1+d,t.2*c)) more d c:=rfl
theorem sumT_cf(d:E2)(c:Int)(a:E2):∀(more l:L2),cf (sumT l more d c) a=cf l a+c*cf more (a-d)
 |[],l=>by
  show cf l a=cf l a+c*cf [] _
  have:cf [] (a-d)=0:=rfl
  rw[this];simp
 |t :: more,l=>by
  rw[sumT_cons,sumT_cf d c a more,insT_cf,cf_cons,Int.mul_add];have h:=dl_shift a t.1 d
  unfold dl at h
  show cf l a+(if t.1+d=a then t.2*c else 0)+_=_
  by_cases k:t.1+d=a
  · rw[if_pos k]at h ⊢
    by_cases k':t.1=a-d
    · rw[if_pos k',Int.mul_comm];omega
    · rw[if_neg k']at h;omega
  · rw[if_neg k]at h ⊢
    by_cases k':t.1=a-d
    · rw[if_pos k']at h;omega
    · rw[if_neg k'];omega
theorem sumT_F2(d:E2)(c:Int):∀(more:L2) {l:L2},F2 l→F2 (sumT l more d c)
 |[],_,h=>h
 |t :: more,l,h=>by
  rw[sumT_cons]
  exact sumT_F2 d c more (insT_F2 _ h)
def szL(l:L2):Nat:=(l.map fun t=>t.2.natAbs).sum
theorem szL_cons(t:E2×Int)(l:L2):szL (t :: l)=t.2.natAbs+szL l:=by unfold szL;simp
theorem szL_app(l m:L2):szL (l++m)=szL l+szL m:=by unfold szL;simp
theorem szL_sl(d:E2){k:Int}(hk:k.natAbs=1)(l:L2):szL (sl d k l)=szL l:=by
 induction l with
 |nil=>rfl
 |cons t l ih=>
  have e:sl d k (t :: l)=(t.1+d,k*t.2) :: sl d k l:=rfl;rw[e,szL_cons,szL_cons,ih]
  show (k*t.2).natAbs+_=_
  rw[Int.natAbs_mul,hk,Nat.one_mul]
theorem cf_sz(a:E2):∀l:L2,(cf l a).natAbs≤szL l
 |[]=>by simp[cf,tt_nil]
 |t :: l=>by
  rw[cf_cons,szL_cons];have:=cf_sz a l
  split<;>omega
def exB(R:Nat)(l:L2):Prop:=∀t∈l,t.1.1.natAbs≤R∧t.1.2.natAbs≤R
theorem exB.app{R:Nat}{l m:L2}(h:exB R l)(k:exB R m):exB R (l++m):=fun t ht=>(List.mem_append.1 ht).elim (h t) (k t)
theorem exB.mono{R R':Nat}{l:L2}(h:exB R l)(k:R≤R'):exB R' l:=fun t ht=>by have:=h t ht;omega
theorem exB.sl{R m:Nat}{l:L2}(h:exB R l){d:E2}(hd:d.1.natAbs≤m∧d.2.natAbs≤m)(k:Int):exB (R+m) (sl d k l):=fun t ht=>by
 unfold Kn.sl at ht
 obtain⟨s,hs,rfl⟩:=List.mem_map.1 ht;have:=h s hs
 show (s.1.1+d.1).natAbs≤R+m∧(s.1.2+d.2).natAbs≤R+m
 omega
theorem rgL_sz(n:Nat):∀j,szL (rgL n j)=2 ^ j
 |0=>rfl
 |j+1=>by rw[rgL,szL_app,szL_sl _ rfl,szL_sl _ rfl,rgL_sz n j,Nat.pow_succ];omega
theorem rgL_ex(n:Nat):∀j,exB (n+j+1) (rgL n j)
 |0=>fun t ht=>by
  have:t=((0,1-(n:Int)),1):=by simpa[rgL]using ht
  subst this
  refine⟨by simp,?_⟩
  show (1-(n:Int)).natAbs≤n+0+1
  omega
 |j+1=>by
  rw[rgL];have h:=rgL_ex n j
  exact((h.sl (d:=(1,0)) (m:=1) ⟨by decide,by decide⟩ 1).app (h.sl (d:=(-1,0)) (m:=1) ⟨by decide,by decide⟩ (-1))).mono (by omega)
theorem cmb_sz(p:Bool)(u v:L2):szL (cmb p u v)=szL u+szL v:=by
 unfold cmb
 cases p
 · show szL (sl (2,0) 1 u++sl (1,1) (-1) v)=_
   rw[szL_app,szL_sl _ rfl,szL_sl _ rfl]
 · show szL (sl (-2,0) 1 u++sl (-1,1) 1 v)=_
   rw[szL_app,szL_sl _ rfl,szL_sl _ rfl]
theorem cmb_ex{R:Nat}(p:Bool){u v:L2}(hu:exB R u)(hv:exB R v):exB (R+2) (cmb p u v):=by
 unfold cmb
 cases p
 · exact(hu.sl (d:=(2,0)) (m:=2) ⟨by decide,by decide⟩ 1).app (hv.sl (d:=(1,1)) (m:=2) ⟨by decide,by decide⟩ (-1))
 · exact(hu.sl (d:=(-2,0)) (m:=2) ⟨by decide,by decide⟩ 1).app (hv.sl (d:=(-1,1)) (m:=2) ⟨by decide,by decide⟩ 1)
def sN:Nat→Nat
 |0=>1
 |n+1=>1+(n+1)*sN n
def lv(n b:Nat):Nat:=1+b*sN (n-1)
theorem lv_le{n b:Nat}(h:b≤n):lv n b≤sN n:=by
 unfold lv
 cases n with
 |zero=>
  have:b=0:=by omega
  subst this
  simp[sN]
 |succ m=>
  show 1+b*sN m≤1+(m+1)*sN m
  have:=Nat.mul_le_mul_right (sN m) h
  omega
theorem ofL_sz:∀(f:Nat) {X:List Cr} (_:Ok X) (L:Nat),szL (ofL f X L)≤lv X.length (bX X)*2 ^ ((strandsL X).length+L+X.length)∧exB (2*((strandsL X).length+L+X.length)+2*f+2) (ofL f X L)
 |0,_,_,_=>⟨Nat.zero_le _,fun t ht=>by cases ht⟩
 |f+1,X,h,L=>by
  unfold ofL
  cases c:lowX X with
  |none=>
   constructor
   · show szL (rgL _ _)≤_
     rw[rgL_sz];have h1:2 ^ ((strandsL X).length+L-1)≤2 ^ ((strandsL X).length+L+X.length):=Nat.pow_le_pow_right (by omega) (by omega)
     have h2:1≤lv X.length (bX X):=by unfold lv;omega
     have h3:=Nat.mul_le_mul_right (2 ^ ((strandsL X).length+L+X.length)) h2
     omega
   · exact(rgL_ex _ _).mono (by omega)
  |some k=>
   obtain⟨k1,k2⟩:=h.low_lt c;have hb:=h.bX_chg c;have hs:=h.strands_chg k1
   have hl:(chgL X k).length=X.length:=by simp[chgL]
   have hs2:=smL_len k1;have hb2:=(h.smooth_ok k1).bX_le;have hk2:=(h.k_smooth k1 L).2;obtain⟨i1,j1⟩:=ofL_sz f (h.chg_ok k1) L;obtain⟨i2,j2⟩:=ofL_sz f (h.smooth_ok k1) (L+smN X k);rw[hs,hl]at i1 j1
   constructor
   · show szL (cmb _ _ _)≤_
     rw[cmb_sz];have h1:2 ^ ((strandsL (smL X k)).length+(L+smN X k)+(smL X k).length)≤2 ^ ((strandsL X).length+L+X.length):=Nat.pow_le_pow_right (by omega) (by omega);have h2:=lv_le hb2;have h3:=Nat.mul_le_mul h2 h1
     have h4:lv X.length (bX X)=lv X.length (bX (chgL X k))+sN (smL X k).length:=by
      unfold lv
      rw[←hb,Nat.add_mul,Nat.one_mul,show X.length-1=(smL X k).length by omega];omega
     rw[h4,Nat.add_mul]
     omega
   · exact(cmb_ex _ (j1.mono (R':=2*((strandsL X).length+L+X.length)+2*f+2) (by omega)) (j2.mono (by omega))).mono (by omega)
theorem F2.sz{l m:L2}(h:F2 l)(e:∀a,cf l a=cf m a):szL l≤szL m:=by
 have key:∀(n:Nat) (l m:L2),l.length=n→F2 l→(∀a,(∃t∈l,t.1=a)→cf l a=cf m a)→szL l≤szL m:=by
  intro n
  induction n with
  |zero=>
   intro l m hn _ _
   cases l with
   |nil=>exact Nat.zero_le _
   |cons t l=>simp at hn
  |succ n ih=>
   intro l m hn hf he
   cases l with
   |nil=>simp at hn
   |cons t l=>
    have h1:=he t.1 ⟨t,by simp,rfl⟩;rw[hf.head]at h1
    have h2:=ih l (m.filter fun s=>!decide (s.1=t.1)) (by simpa using hn) hf.tail fun a ⟨s,hs,ea⟩=>by
     have hne:t.1≠a:=fun k=>by
      have:=(List.pairwise_cons.1 hf.ord).1 s hs;rw[ea,←k]at this
      exact lt2_irr _ this
     rw[cf_filter,if_neg fun k=>hne k.symm,←he a ⟨s,by simp[hs],ea⟩,cf_cons,if_neg hne];omega
    rw[szL_cons]
    have h3:∀m:L2,(cf m t.1).natAbs+szL (m.filter fun s=>!decide (s.1=t.1))≤szL m:=by
     intro m
     induction m with
     |nil=>simp[cf,tt_nil,szL]
     |cons s m ihm=>
      rw[cf_cons,szL_cons]
      by_cases c:s.1=t.1
      · rw[if_pos c,List.filter_cons_of_neg (by simp[c])];omega
      · rw[if_neg c,List.filter_cons_of_pos (by simp[c]),szL_cons];omega
    have:=h3 m;rw[←h1]at this
    omega
 exact key _ l m rfl h fun a _=>e a
theorem F2.ex{R:Nat}{l m:L2}(h:F2 l)(e:∀a,cf l a=cf m a)(k:exB R m):exB R l:=fun t ht=>by
 have h1:cf l t.1≠0:=by
  have gen:∀l:L2,F2 l→∀t∈l,cf l t.1=t.2:=by
   intro l
   induction l with
   |nil=>intro _ t ht;cases ht
   |cons s l ih=>
    intro hf t ht
    rcases List.mem_cons.1 ht with rfl|ht
    · exact hf.head
    · rw[cf_cons,if_neg fun q=>?_,ih hf.tail t ht]
      · omega
      · have:=(List.pairwise_cons.1 hf.ord).1 t ht
        rw[q]at this
        exact lt2_irr _ this
  rw[gen l h t ht]
  exact h.nz t ht
 rw[e]at h1
 refine Classical.byContradiction fun c=>h1 (cf_out fun s hs q=>c ?_)
 rw[←q];exact k s hs
end Go.Proofs.YtlicglicfijelaaGreat.Kn

namespace Go.Proofs.YtlicglicfijelaaGreat.Kn

theorem labels{N:Nat}{R:Nat→Nat→Prop}(hR:Equivalence R):∃(lab:Nat→Nat) (vs:List Nat),(∀x y,R x y→lab x=lab y)∧(∀x,R (lab x) x)∧(∀x,lab x≤x)∧vs.Nodup∧vs.length=cl N R∧∀v,v∈vs↔v<N∧lab v=v:=by
 obtain⟨lab,hl⟩:=Classical.axiomOfChoice (least_of hR)
 refine⟨lab,(List.range N).filter fun d=>tr (Least R d),fun x y h=>?_,fun x=>(hl x).2.1,fun x=>(hl x).1,?_,?_,fun v=>?_⟩
 · exact least_eq hR (hl x).2.2 (hl y).2.2 (hR.trans (hl x).2.1 (hR.trans h (hR.symm (hl y).2.1)))
 · exact List.nodup_range.sublist List.filter_sublist
 · unfold cl;rw[List.countP_eq_length_filter]
 · rw[List.mem_filter,List.mem_range,tr_iff]
   constructor
   · rintro⟨h1,h2⟩;exact⟨h1,least_eq hR (hl v).2.2 h2 (hl v).2.1⟩
   · rintro⟨h1,h2⟩
     have:=(hl v).2.2;rw[h2]at this
     exact⟨h1,this⟩
theorem cl_ge{N:Nat}{R:Nat→Nat→Prop}(hR:Equivalence R){g:Nat→Nat}(hg:∀x y,x<N→R x y→g x=g y){vs:List Nat}(hn:vs.Nodup)(hv:∀v∈vs,∃x,x<N∧g x=v):vs.length≤cl N R:=by
 obtain⟨lab,us,h1,h2,h3,h4,h5,h6⟩:=labels (N:=N) hR
 have:=nodup_le (m:=us.map g) hn fun v hv'=>by
  obtain⟨x,hx,rfl⟩:=hv v hv'
  have hl:lab x<N:=by have:=h3 x;omega
  exact List.mem_map.2 ⟨lab x,(h6 _).2 ⟨hl,h1 _ _ (h2 x)⟩,hg _ _ hl (h2 x)⟩
 rw[List.length_map,h5]at this
 exact this
theorem cl_le{N M:Nat}{R R':Nat→Nat→Prop}(hR:Equivalence R)(hR':Equivalence R'){f:Nat→Nat}(hf:∀x y,x<N→y<N→R x y→R' (f x) (f y)){es:List Nat}(hc:∀z,z<M→(∃x,x<N∧R' (f x) z)∨∃e∈es,R' e z):cl M R'≤cl N R+es.length:=by
 obtain⟨lab,us,h1,h2,h3,h4,h5,h6⟩:=labels (N:=N) hR;obtain⟨lab',us',k1,k2,k3,k4,k5,k6⟩:=labels (N:=M) hR'
 have:=nodup_le (m:=us.map (fun u=>lab' (f u))++es.map lab') k4 fun v hv=>by
  obtain⟨v1,v2⟩:=(k6 v).1 hv;rw[List.mem_append]
  rcases hc v v1 with⟨x,hx,e⟩|⟨e,he,k⟩
  · have hl:lab x<N:=by have:=h3 x;omega
    refine .inl (List.mem_map.2 ⟨lab x,(h6 _).2 ⟨hl,h1 _ _ (h2 x)⟩,?_⟩)
    rw[←v2]
    exact k1 _ _ (hR'.trans (hf _ _ hl hx (h2 x)) e)
  · refine .inr (List.mem_map.2 ⟨e,he,?_⟩)
    rw[←v2]
    exact k1 _ _ k
 rw[List.length_append,List.length_map,List.length_map,h5,k5]at this
 exact this

def up(p:Pl):Pl:=(p.1,(p.2+1)%4)
section
variable {X Y:List Cr}
theorem isPl_up{p:Pl}(hp:isPl X p):isPl X (up p):=isPl_turn hp 1
theorem Ok.fac_up(h:Ok X){p:Pl}(hp:isPl X p):fac X (pk (up p))=pk (other X p):=by
 rw[h.fac_pk (isPl_up hp)];have:((up p).1,((up p).2+3)%4)=p:=Prod.ext rfl (by have:=hp.2;unfold up;simp only;omega);rw[this]
theorem Ok.fac_all(h:Ok X){x:Nat}(hx:x<4*X.length):∃p,isPl X p∧x=pk (up p):=by
 refine⟨(x / 4,(x%4+3)%4),⟨by show x / 4<_;omega,Nat.mod_lt _ (by omega)⟩,?_⟩
 unfold pk up;simp only;omega
theorem Ok.faces_ge(h:Ok Y){L:Pl→Nat}(hL:∀p,isPl Y p→L (Kn.other Y p)=L (up p)){vs:List Nat}(hn:vs.Nodup)(hv:∀v∈vs,∃p,isPl Y p∧L p=v):vs.length≤(facesL Y).length:=by
 rw[←h.cl_faces]
 refine cl_ge h.fac_pm.equiv (g:=fun k=>L (pl k)) (fun x y hx k=>?_) hn fun v hv'=>?_
 · have:=k.ind (P:=fun y=>y<4*Y.length∧L (pl x)=L (pl y)) (fun z hz=>⟨h.fac_pm.lt z hz.1,?_⟩) ⟨hx,rfl⟩
   · exact this.2
   · obtain⟨p,hp,rfl⟩:=h.fac_all hz.1
     rw[h.fac_up hp,pl_pk (h.isPl_other hp).2,hL p hp,hz.2,pl_pk (isPl_up hp).2]
 · obtain⟨p,hp,e⟩:=hv v hv'
   exact⟨pk p,pk_lt hp,by show L (pl (pk p))=v;rw[pl_pk hp.2];exact e⟩
theorem Ok.face_lab(h:Ok X):∃(L:Pl→Nat) (vs:List Nat),(∀p,isPl X p→L (Kn.other X p)=L (up p))∧vs.Nodup∧vs.length=(facesL X).length∧(∀v∈vs,v<4*X.length∧∃p,isPl X p∧L p=v):=by
 obtain⟨lab,us,h1,h2,h3,h4,h5,h6⟩:=labels (N:=4*X.length) h.fac_pm.equiv
 refine⟨fun p=>lab (pk p),us,fun p hp=>?_,h4,h5.trans h.cl_faces,fun v hv=>?_⟩
 · show lab (pk (Kn.other X p))=lab (pk (up p))
   rw[←h.fac_up hp]
   exact(h1 _ _ (Orb.one _ _)).symm
 · obtain⟨k1,k2⟩:=(h6 v).1 hv
   refine⟨k1,pl v,isPl_pl k1,?_⟩
   show lab (pk (pl v))=v
   have:pk (pl v)=v:=by unfold pk pl;simp only;omega
   rw[this,k2]
theorem Ok.face_part(h:Ok X){P Q:Pl}(hP:isPl X P)(hQ:isPl X Q)(hne:P≠Q)(ho:Orb (fac X) (pk P) (pk Q)):∃(L:Pl→Nat) (vs:List Nat),
 (∀p,isPl X p→L (if Kn.other X p=P then Q else if Kn.other X p=Q then P else Kn.other X p)=L (up p))∧vs.Nodup∧vs.length=(facesL X).length+1∧(∀v∈vs,v<4*X.length∧∃p,isPl X p∧L p=v):=by
 have hpm:=h.fac_pm.swp (pk_lt hP) (pk_lt hQ);obtain⟨lab,us,h1,h2,h3,h4,h5,h6⟩:=labels (N:=4*X.length) hpm.equiv
 have hne':pk P≠pk Q:=fun e=>hne (pk_inj hP.2 hQ.2 e)
 refine⟨fun p=>lab (pk p),us,fun p hp=>?_,h4,?_,fun v hv=>?_⟩
 · show lab (pk _)=lab (pk (up p))
   have:=h1 _ _ (Orb.one (fun x=>swp (pk P) (pk Q) (fac X x)) (pk (up p)));rw[this]
   show lab _=lab (swp (pk P) (pk Q) (fac X (pk (up p))))
   rw[h.fac_up hp];have hop:=h.isPl_other hp
   by_cases c1:Kn.other X p=P
   · rw[if_pos c1,c1,swp_a]
   · rw[if_neg c1]
     by_cases c2:Kn.other X p=Q
     · rw[if_pos c2,c2,swp_b]
     · rw[if_neg c2,swp_ne (fun e=>c1 (pk_inj hop.2 hP.2 e)) (fun e=>c2 (pk_inj hop.2 hQ.2 e))]
 · have:=cl_part h.fac_pm (pk_lt hP) (pk_lt hQ) hne' ho
   rw[h5,←this,h.cl_faces]
 · obtain⟨k1,k2⟩:=(h6 v).1 hv
   refine⟨k1,pl v,isPl_pl k1,?_⟩
   show lab (pk (pl v))=v
   have:pk (pl v)=v:=by unfold pk pl;simp only;omega
   rw[this,k2]

def Ln(X:List Cr)(p q:Pl):Prop:=pie X (pk p) (pk q)
theorem Ln.refl(p:Pl):Ln X p p:=(com_equiv (sig_pm X.length) (ens X)).refl _
theorem Ln.symm{p q:Pl}(h:Ln X p q):Ln X q p:=(com_equiv (sig_pm X.length) (ens X)).symm h
theorem Ln.trans{p q r:Pl}(h:Ln X p q)(k:Ln X q r):Ln X p r:=(com_equiv (sig_pm X.length) (ens X)).trans h k
theorem Ln.round{p q:Pl}(hp:isPl X p)(hq:q.2<4)(e:p.1=q.1):Ln X p q:=
 com_sub ((sig_orb (pk_lt hp)).2 (by rw[pk_div hp.2,pk_div hq,e]))
theorem Ok.ln_other(h:Ok X){p:Pl}(hp:isPl X p):Ln X p (Kn.other X p):=by
 obtain⟨e,he,k⟩:=h.mem_ens hp;have:=com_pair (sig_pm X.length) he
 unfold Ln
 rcases k with⟨k1,k2⟩|⟨k1,k2⟩
 · rw[k1,k2];exact this
 · rw[k1,k2];exact(com_equiv (sig_pm X.length) (ens X)).symm this
theorem Ok.pieces_le(hX:Ok X)(hY:Ok Y)(hl:X.length≤Y.length)(h1:∀p,isPl X p→Ln Y p (Kn.other X p)){es:List Pl}(h2:∀p,isPl Y p→X.length≤p.1→(∃q,isPl X q∧Ln Y q p)∨∃e∈es,Ln Y e p):(piecesL Y).length≤(piecesL X).length+es.length:=by
 rw[←hX.cl_pieces,←hY.cl_pieces];have hE:=com_equiv (sig_pm Y.length) (ens Y)
 have key:∀x y,pie X x y→pie Y x y:=fun x y k=>by
  refine com_least hE (fun x=>?_) (fun e he=>?_) k
  · by_cases c:x<4*X.length
    · have hpl:isPl Y (pl x):=isPl_pl (by omega)
      have:=Ln.round (X:=Y) hpl (q:=((pl x).1,((pl x).2+3)%4)) (Nat.mod_lt _ (by omega)) rfl
      unfold Ln at this
      rw[←sig_pk (n:=X.length) (p:=pl x) (by unfold pl;simp only;omega) (Nat.mod_lt _ (by omega))]at this
      have e:pk (pl x)=x:=by unfold pk pl;simp only;omega
      rwa [e]at this
    · rw[(sig_pm X.length).out x (by omega)]
      exact hE.refl x
  · obtain⟨a,ha,rfl⟩:=List.mem_map.1 he
    have ha:=mem_arcs.1 ha;have:=h1 _ (hX.isPl_end (io:=true) ha)
    unfold Ln other at this
    rw[hX.cm_end ha,hX.arc_end ha]at this
    exact this
 have:=cl_le (N:=4*X.length) (M:=4*Y.length) (com_equiv (sig_pm X.length) (ens X)) hE (f:=fun x=>x) (fun x y _ _ k=>key x y k) (es:=es.map pk) fun z hz=>by
  by_cases c:z<4*X.length
  · exact .inl ⟨z,c,hE.refl z⟩
  · have e:pk (pl z)=z:=by unfold pk pl;simp only;omega
    rcases h2 (pl z) (isPl_pl hz) (by unfold pl;simp only;omega)with⟨q,hq,k⟩|⟨q,hq,k⟩
    · unfold Ln at k;rw[e]at k
      exact .inl ⟨pk q,pk_lt hq,k⟩
    · unfold Ln at k;rw[e]at k
      exact .inr ⟨pk q,List.mem_map.2 ⟨q,hq,rfl⟩,k⟩
 rw[List.length_map]at this
 exact this
theorem Ok.planar_of(hX:Ok X)(hY:Ok Y)(hp:planarB X=true){k f c:Nat}(hl:Y.length=X.length+k)(hf:(facesL X).length+f≤(facesL Y).length)(hc:(piecesL Y).length≤(piecesL X).length+c)(hk:k+2*c≤f):planarB Y=true:=by
 rw[hY.planar_iff];have h1:=hX.planar_iff.1 hp;have h2:=hY.euler.1
 omega

theorem ok_all(h1:∀p,isPl Y p→1≤at_ Y p∧at_ Y p≤(nArcs Y:Int))(h2:∀(io:Bool) (a:Nat),Kn.isArc Y a→∃p,isPl Y p∧cm Y p=io∧at_ Y p=a):Ok Y:=by
 refine ok_mk h1 h2 ?_
 have h3:∀x:Nat,∃q:Nat,x<4*Y.length→∃p,isPl Y p∧cm Y p=decide (x%2=0)∧at_ Y p=((x / 2+1:Nat):Int)∧pk p=q:=fun x=>by
  by_cases c:x<4*Y.length
  · obtain⟨p,hp,e1,e2⟩:=h2 (decide (x%2=0)) (x / 2+1) ⟨by omega,by unfold nArcs;omega⟩
    exact⟨pk p,fun _=>⟨p,hp,e1,e2,rfl⟩⟩
  · exact⟨0,fun k=>absurd k c⟩
 obtain⟨g,hg⟩:=Classical.axiomOfChoice h3
 have hperm:((List.range (4*Y.length)).map g).Perm (List.range (4*Y.length)):=by
  refine perm_of_sub (map_nodup List.nodup_range fun x hx y hy e=>?_) List.nodup_range (fun z hz=>?_) (by simp)
  · obtain⟨p,p1,p2,p3,p4⟩:=hg x (List.mem_range.1 hx)
    obtain⟨q,q1,q2,q3,q4⟩:=hg y (List.mem_range.1 hy);have:p=q:=pk_inj p1.2 q1.2 (by rw[p4,q4,e]);subst this;rw[p2,decide_eq_decide]at q2
    omega
  · obtain⟨x,hx,rfl⟩:=List.mem_map.1 hz
    obtain⟨p,p1,_,_,p4⟩:=hg x (List.mem_range.1 hx);rw[←p4]
    exact List.mem_range.2 (pk_lt p1)
 have key:∀p,isPl Y p→g (2*((at_ Y p).toNat-1)+if cm Y p then 0 else 1)=pk p:=fun p hp=>by
  obtain⟨x,hx,e⟩:=List.mem_map.1 (hperm.mem_iff.2 (List.mem_range.2 (pk_lt hp)));obtain⟨q,q1,q2,q3,q4⟩:=hg x (List.mem_range.1 hx);have:q=p:=pk_inj q1.2 hp.2 (by rw[q4,e]);subst this;rw[q2,q3,←e]
  congr 1
  by_cases c:x%2=0
  · simp[c];omega
  · simp[c];omega
 intro p q hp hq hc ha
 exact pk_inj hp.2 hq.2 (by rw[←key p hp,←key q hq,hc,ha])
theorem Ok.other_of(h:Ok Y){p q:Pl}(hp:isPl Y p)(hq:isPl Y q)(hc:cm Y q=!cm Y p)(ha:at_ Y q=at_ Y p):Kn.other Y p=q:=by
 refine h.uniq _ _ (h.isPl_other hp) hq (by rw[h.cm_other hp,hc]) ?_
 rw[←h.arcN_eq (h.isPl_other hp),h.arc_other hp,h.arcN_eq hp,ha]
end
end Go.Proofs.YtlicglicfijelaaGreat.Kn

namespace Go.Proofs.YtlicglicfijelaaGreat.Kn

structure Back(X S:List Cr)(gone:Nat→Bool)(ρ:Nat→Nat):Prop where
 okX:Ok X
 ok:Ok S
 len:X.length≤S.length
 out:∀c,c<S.length→gone c=decide (X.length≤c)
 pl:∀p,isPl X p→ρ (arcN S p)=arcN X p
 plus:∀c,c<X.length→(cr S c).p=(cr X c).p
 low:∀b,b≤nArcs X→ρ b=b
 le:∀b,ρ b≤b
 tie:∀c s,X.length≤c→c<S.length→s<4→ρ (arcN S (c,s))=ρ (arcN S (c,(s+2)%4))
 same:∀b,isArc S b→com (fun x=>x) (classE S gone S.length) b (ρ b)
theorem cr_ext{x y:Cr}(h:∀s,s<4→x.arc s=y.arc s)(k:x.p=y.p):x=y:=by
 obtain⟨a,b,c,d,p⟩:=x;obtain⟨a',b',c',d',p'⟩:=y;have h0:=h 0 (by omega);have h1:=h 1 (by omega);have h2:=h 2 (by omega);have h3:=h 3 (by omega)
 simp[Cr.arc]at h0 h1 h2 h3 k
 subst h0 h1 h2 h3 k
 rfl
theorem list_cr{X Y:List Cr}(hl:X.length=Y.length)(h:∀i,i<Y.length→cr X i=cr Y i):X=Y:=by
 refine List.ext_getElem hl fun i h1 h2=>?_
 have:=h i h2
 unfold cr at this
 rwa [List.getD_eq_getElem?_getD,List.getD_eq_getElem?_getD,List.getElem?_eq_getElem h1,List.getElem?_eq_getElem h2]at this
section
variable {X S:List Cr} {gone:Nat→Bool} {ρ:Nat→Nat}
theorem Back.arcs(h:Back X S gone ρ):nArcs X≤nArcs S:=by have:=h.len;unfold nArcs;omega
theorem Back.apart(h:Back X S gone ρ){b c:Nat}(k:com (fun x=>x) (classE S gone S.length) b c):ρ b=ρ c:=by
 refine com_least (R:=fun b c=>ρ b=ρ c) ⟨fun _=>rfl,fun h=>h.symm,fun h k=>h.trans k⟩ (fun _=>rfl) (fun e he=>?_) k
 obtain⟨c,hc,hg,k⟩:=mem_classE.1 he
 have hg:=h.out c hc ▸ hg
 have hg:X.length≤c:=by simpa using hg
 rcases k with rfl|rfl
 · exact h.tie c _ hg hc (over_lt _)
 · exact h.tie c 0 hg hc (by omega)
theorem Back.class(h:Back X S gone ρ){b:Nat}(hb:isArc S b):classF S gone S.length b=ρ b:=by
 have hr:=h.ok.class_rep gone S.length (Nat.le_refl _);have e1:=(hr.iff b (ρ b)).2 (h.same b hb);have e2:=h.apart ((hr.iff _ _).1 (hr.idem b));have e3:=h.le (classF S gone S.length b);have e4:=hr.le (ρ b)
 omega
theorem Back.kept(h:Back X S gone ρ):Kn.kept S.length gone=List.range X.length:=by
 have:∀m,X.length+m≤S.length→Kn.kept (X.length+m) gone=List.range X.length:=fun m=>by
  induction m with
  |zero=>
   intro _
   unfold Kn.kept
   refine List.filter_eq_self.2 fun c hc=>?_
   have:=List.mem_range.1 hc;rw[h.out c (by omega)]
   simp;omega
  |succ m ih=>
   intro hm
   unfold Kn.kept at ih ⊢
   rw[←Nat.add_assoc,List.range_succ,List.filter_append,ih (by omega)]
   have:gone (X.length+m)=true:=by rw[h.out _ (by omega)];simp
   simp[this]
 have:=this (S.length-X.length) (by have:=h.len;omega)
 rwa [show X.length+(S.length-X.length)=S.length by have:=h.len;omega]at this
theorem Back.plx(h:Back X S gone ρ){p:Pl}(hp:isPl X p):isPl S p:=⟨by have:=hp.1;have:=h.len;omega,hp.2⟩
theorem Back.left(h:Back X S gone ρ){r:Nat}(hr:isArc S r):leftB S (classF S gone S.length) gone r=decide (r≤nArcs X):=by
 rw[Bool.eq_iff_iff,leftB_iff,decide_eq_true_eq]
 constructor
 · rintro⟨p,hp,hg,e⟩
   rw[h.class (h.ok.isArc hp)]at e;rw[h.out p.1 hp.1]at hg;have hpX:isPl X p:=⟨by simpa using hg,hp.2⟩;rw[h.pl p hpX]at e;rw[←e]
   exact(h.okX.isArc hpX).2
 · intro k
   have hX:isArc X r:=⟨hr.1,k⟩;have hp:=h.okX.isPl_end (io:=true) hX
   refine⟨_,h.plx hp,?_,?_⟩
   · rw[h.out _ (h.plx hp).1]
     have:=hp.1
     simp;omega
   · rw[h.class (h.ok.isArc (h.plx hp)),h.pl _ hp,h.okX.arc_end hX]
theorem Back.num(h:Back X S gone ρ):∀v,v≤nArcs X→numF S (classF S gone S.length) gone v=v
 |0,_=>rfl
 |v+1,hv=>by
  have ha:isArc S (v+1):=⟨by omega,by have:=h.arcs;omega⟩;rw[numF_succ,h.num v (by omega)]
  have:rootB S (classF S gone S.length) gone (v+1)=true:=by
   unfold rootB
   rw[h.left ha,h.class ha,h.low _ hv]
   simp;omega
  rw[if_pos this]
theorem Back.take(h:Back X S gone ρ):takeL S gone=X:=by
 have hk:=h.kept
 have hl:(Kn.kept S.length gone).length=X.length:=by rw[hk,List.length_range]
 refine list_cr (by rw[takeL_len,hl]) fun i hi=>?_
 unfold takeL
 rw[withL_cr (by rw[hl];exact hi)]
 have e:(Kn.kept S.length gone).getD i 0=i:=by rw[hk,List.getD_eq_getElem?_getD,List.getElem?_range hi];rfl
 rw[e]
 refine cr_ext (fun s hs=>?_) (h.plus i hi)
 rw[ren_arc];have hp:isPl X (i,s):=⟨hi,hs⟩
 have e1:classF S gone S.length (arcN S (i,s))=arcN X (i,s):=by rw[h.class (h.ok.isArc (h.plx hp)),h.pl _ hp]
 have e2:=h.num (arcN X (i,s)) (h.okX.isArc hp).2;rw[←e1]at e2;have e3:=h.okX.arcN_eq hp;rw[←e1,←e2]at e3
 exact e3
theorem Back.rings(h:Back X S gone ρ):takeN S gone=(List.range (nArcs S)).countP fun a=>decide (ρ (a+1)=a+1)&&decide (nArcs X<a+1):=by
 unfold takeN ringN
 refine countP_congr' fun a ha=>?_
 have ha:=List.mem_range.1 ha;have hr:isArc S (a+1):=⟨by omega,by omega⟩;rw[h.left hr,h.class hr]
 congr 1
 rw[Bool.eq_iff_iff]
 simp
theorem Back.none(h:Back X S gone ρ)(hn:∀b,isArc S b→ρ b≤nArcs X):takeN S gone=0:=by
 rw[h.rings,List.countP_eq_zero]
 intro a ha
 have ha:=List.mem_range.1 ha;have:=hn (a+1) ⟨by omega,by omega⟩
 simp;omega
end
end Go.Proofs.YtlicglicfijelaaGreat.Kn

namespace Go.Proofs.YtlicglicfijelaaGreat.Kn
structure CurlOf(X S:List Cr)(a ja jn:Nat):Prop where
 len:S.length=X.length+1
 cx:∀p,isPl X p→cm S p=cm X p
 ax:∀p,isPl X p→p≠endP X true a→at_ S p=at_ X p
 ap:at_ S (endP X true a)=(nArcs X:Int)+2
 lj:ja<4
 ln:jn<4
 odd:(ja+jn)%2=1
 c1:cm S (X.length,ja)=true
 c2:cm S (X.length,(ja+2)%4)=false
 c3:cm S (X.length,jn)=true
 c4:cm S (X.length,(jn+2)%4)=false
 a1:at_ S (X.length,ja)=(a:Int)
 a2:at_ S (X.length,(ja+2)%4)=(nArcs X:Int)+1
 a3:at_ S (X.length,jn)=(nArcs X:Int)+1
 a4:at_ S (X.length,(jn+2)%4)=(nArcs X:Int)+2
def endC(X:List Cr)(a ja jn:Nat)(io:Bool)(b:Nat):Pl:=
 if b=nArcs X+1 then(if io then(X.length,jn)else(X.length,(ja+2)%4))
 else if b=nArcs X+2 then(if io then endP X true a else(X.length,(jn+2)%4))
 else if b=a∧io=true then(X.length,ja)else endP X io b
section
variable {X S:List Cr} {a ja jn:Nat}
theorem CurlOf.arcsEq(h:CurlOf X S a ja jn):nArcs S=nArcs X+2:=by unfold nArcs;rw[h.len];omega
theorem CurlOf.plx(h:CurlOf X S a ja jn){p:Pl}(hp:isPl X p):isPl S p:=⟨by have:=hp.1;rw[h.len];omega,hp.2⟩
theorem CurlOf.pln(h:CurlOf X S a ja jn){s:Nat}(hs:s<4):isPl S (X.length,s):=⟨by rw[h.len];simp only;omega,hs⟩
theorem CurlOf.atEnd(h:CurlOf X S a ja jn)(hX:Ok X)(ha:isArc X a){b:Nat}(hb:isArc S b)(io:Bool):isPl S (endC X a ja jn io b)∧cm S (endC X a ja jn io b)=io∧at_ S (endC X a ja jn io b)=b:=by
 have hN:=h.arcsEq;have hb1:=hb.1;have hb2:=hb.2;have m2:(ja+2)%4<4:=Nat.mod_lt _ (by omega);have m3:(jn+2)%4<4:=Nat.mod_lt _ (by omega);have p1:=hX.isPl_end (io:=true) ha
 unfold endC
 by_cases c:b=nArcs X+1
 · rw[if_pos c]
   cases io
   · exact⟨h.pln m2,h.c2,by rw[if_neg (by simp),h.a2];omega⟩
   · exact⟨h.pln h.ln,h.c3,by rw[if_pos rfl,h.a3];omega⟩
 · rw[if_neg c]
   by_cases d:b=nArcs X+2
   · rw[if_pos d]
     cases io
     · exact⟨h.pln m3,h.c4,by rw[if_neg (by simp),h.a4];omega⟩
     · exact⟨h.plx p1,(h.cx _ p1).trans (hX.cm_end ha),by rw[if_pos rfl,h.ap];omega⟩
   · rw[if_neg d]
     have hbX:isArc X b:=⟨hb1,by omega⟩
     by_cases e:b=a∧io=true
     · rw[if_pos e]
       exact⟨h.pln h.lj,h.c1.trans e.2.symm,h.a1.trans (by rw[e.1])⟩
     · rw[if_neg e]
       have q1:=hX.isPl_end (io:=io) hbX
       have hne:endP X io b≠endP X true a:=fun k=>by
        have e1:=hX.cm_end (io:=io) hbX;have e2:=hX.arc_end (io:=io) hbX;rw[k,hX.cm_end ha]at e1;rw[k,hX.arc_end ha]at e2
        exact e ⟨e2.symm,e1.symm⟩
       exact⟨h.plx q1,(h.cx _ q1).trans (hX.cm_end hbX),(h.ax _ q1 hne).trans (hX.at_end hbX)⟩
theorem CurlOf.isEnd(h:CurlOf X S a ja jn)(hX:Ok X)(ha:isArc X a){p:Pl}(hp:isPl S p):(1≤at_ S p∧at_ S p≤(nArcs S:Int))∧endC X a ja jn (cm S p) (at_ S p).toNat=p:=by
 have hN:=h.arcsEq;have h1:=hp.1;rw[h.len]at h1;have ha1:=ha.1;have ha2:=ha.2
 unfold endC
 by_cases c:p.1<X.length
 · have hpX:isPl X p:=⟨c,hp.2⟩
   have hr:=hX.rng p hpX
   by_cases e:p=endP X true a
   · subst e
     rw[h.ap,h.cx _ hpX,hX.cm_end ha]
     refine⟨⟨by omega,by omega⟩,?_⟩
     rw[if_neg (by omega),if_pos (by omega),if_pos rfl]
   · rw[h.ax p hpX e,h.cx p hpX]
     have hb:=hX.isArc hpX
     unfold Kn.arcN at hb
     refine⟨⟨by omega,by omega⟩,?_⟩
     rw[if_neg (by have:=hb.2;omega),if_neg (by have:=hb.2;omega),if_neg (fun k=>?_)]
     · exact hX.end_eq hpX
     · apply e
       have:=hX.end_eq hpX
       unfold Kn.arcN at this
       rw[k.1,k.2]at this
       exact this.symm
 · obtain⟨p1,s⟩:=p
   obtain rfl:p1=X.length:=by simp only at c h1;omega
   have hs:s<4:=hp.2;have lj:=h.lj;have ln:=h.ln;have od:=h.odd
   have four:s=ja∨s=(ja+2)%4∨s=jn∨s=(jn+2)%4:=by omega
   rcases four with rfl|rfl|rfl|rfl
   · rw[h.c1,h.a1]
     refine⟨⟨by omega,by omega⟩,?_⟩
     rw[if_neg (by omega),if_neg (by omega),if_pos ⟨by omega,rfl⟩]
   · rw[h.c2,h.a2]
     refine⟨⟨by omega,by omega⟩,?_⟩
     rw[if_pos (by omega)];rfl
   · rw[h.c3,h.a3]
     refine⟨⟨by omega,by omega⟩,?_⟩
     rw[if_pos (by omega)];rfl
   · rw[h.c4,h.a4]
     refine⟨⟨by omega,by omega⟩,?_⟩
     rw[if_neg (by omega),if_pos (by omega)];rfl
theorem CurlOf.ok(h:CurlOf X S a ja jn)(hX:Ok X)(ha:isArc X a):Ok S:=
 ok_mk (fun p hp=>(h.isEnd hX ha hp).1) (fun io b hb=>⟨_,h.atEnd hX ha hb io⟩) fun p q hp hq hc he=>by
  rw[←(h.isEnd hX ha hp).2,←(h.isEnd hX ha hq).2,hc,he]
end
end Go.Proofs.YtlicglicfijelaaGreat.Kn

namespace Go.Proofs.YtlicglicfijelaaGreat.Kn
theorem app_cr{Z:List Cr}{x:Cr}{i:Nat}(h:i<Z.length):cr (Z++[x]) i=cr Z i:=by
 unfold cr;rw[List.getD_eq_getElem?_getD,List.getD_eq_getElem?_getD,List.getElem?_append_left h]
theorem app_last{Z:List Cr}{x:Cr}:cr (Z++[x]) Z.length=x:=by
 unfold cr;rw[List.getD_eq_getElem?_getD,List.getElem?_append_right (Nat.le_refl _),Nat.sub_self];rfl
theorem cases4{s a:Nat}(h:s<4)(ha:a<4):s=a∨s=(a+1)%4∨s=(a+2)%4∨s=(a+3)%4:=by omega
section
variable {X S:List Cr} {a ja jn:Nat}
theorem CurlOf.others(h:CurlOf X S a ja jn)(hX:Ok X)(ha:isArc X a):
 (∀p,isPl X p→p≠endP X true a→p≠endP X false a→other S p=other X p)∧other S (endP X false a)=(X.length,ja)∧other S (endP X true a)=(X.length,(jn+2)%4) ∧
 other S (X.length,ja)=endP X false a∧other S (X.length,(jn+2)%4)=endP X true a∧other S (X.length,(ja+2)%4)=(X.length,jn)∧other S (X.length,jn)=(X.length,(ja+2)%4):=by
 have hS:=h.ok hX ha;have m2:(ja+2)%4<4:=Nat.mod_lt _ (by omega);have m3:(jn+2)%4<4:=Nat.mod_lt _ (by omega);have pP:=hX.isPl_end (io:=true) ha;have pQ:=hX.isPl_end (io:=false) ha;have cP:=hX.cm_end (io:=true) ha;have cQ:=hX.cm_end (io:=false) ha
 have nPQ:endP X false a≠endP X true a:=fun k=>by rw[k,cP]at cQ;cases cQ
 have aQ:=hX.at_end (io:=false) ha;have e1:other S (endP X false a)=(X.length,ja):=hS.other_of (h.plx pQ) (h.pln h.lj) (by rw[h.c1,h.cx _ pQ,cQ];rfl) (by rw[h.a1,h.ax _ pQ nPQ,aQ]);have e2:other S (endP X true a)=(X.length,(jn+2)%4):=hS.other_of (h.plx pP) (h.pln m3) (by rw[h.c4,h.cx _ pP,cP];rfl) (by rw[h.a4,h.ap]);have e3:other S (X.length,(ja+2)%4)=(X.length,jn):=hS.other_of (h.pln m2) (h.pln h.ln) (by rw[h.c2,h.c3];rfl) (by rw[h.a2,h.a3])
 refine⟨fun p hp n1 n2=>?_,e1,e2,?_,?_,e3,?_⟩
 · have ho:=hX.isPl_other hp
   have n3:other X p≠endP X true a:=fun k=>n2 (by
    rw[←hX.other_other hp,k]
    unfold other;rw[cP,hX.arc_end ha];rfl)
   refine hS.other_of (h.plx hp) (h.plx ho) (by rw[h.cx _ ho,h.cx _ hp,hX.cm_other hp]) ?_
   rw[h.ax _ ho n3,h.ax _ hp n1,←hX.arcN_eq ho,hX.arc_other hp,hX.arcN_eq hp]
 · rw[←e1,hS.other_other (h.plx pQ)]
 · rw[←e2,hS.other_other (h.plx pP)]
 · rw[←e3,hS.other_other (h.pln m2)]
theorem CurlOf.planar(h:CurlOf X S a ja jn)(hX:Ok X)(ha:isArc X a)(hp:planarB X=true):planarB S=true:=by
 have hS:=h.ok hX ha;obtain⟨o1,o2,o3,o4,o5,o6,o7⟩:=h.others hX ha;obtain⟨L,vs,hL,hn,hlen,hv⟩:=hX.face_lab;have pP:=hX.isPl_end (io:=true) ha;have pQ:=hX.isPl_end (io:=false) ha;have lj:=h.lj;have ln:=h.ln;have od:=h.odd
 have oPQ:other X (endP X true a)=endP X false a:=by unfold other;rw[hX.cm_end ha,hX.arc_end ha];rfl
 have oQP:other X (endP X false a)=endP X true a:=by unfold other;rw[hX.cm_end ha,hX.arc_end ha];rfl
 have hLP:=hL _ pP;have hLQ:=hL _ pQ;rw[oPQ]at hLP;rw[oQP]at hLQ
 obtain⟨M,hM⟩:∃M:Pl→Nat,∀p,M p=if p.1<X.length then L p else
  if jn=(ja+1)%4 then(if p.2=(ja+2)%4 then 4*X.length else if p.2=ja then L (endP X true a)else L (endP X false a))
  else(if p.2=(ja+3)%4 then 4*X.length else if p.2=(ja+1)%4 then L (endP X false a)else L (endP X true a)):=⟨_,fun _=>rfl⟩
 have hMX:∀p,isPl X p→M p=L p:=fun p hp=>by rw[hM,if_pos hp.1]
 have hMS:∀s,M (X.length,s)=if jn=(ja+1)%4 then(if s=(ja+2)%4 then 4*X.length else if s=ja then L (endP X true a)else L (endP X false a))
  else(if s=(ja+3)%4 then 4*X.length else if s=(ja+1)%4 then L (endP X false a)else L (endP X true a)):=fun s=>by rw[hM,if_neg (Nat.lt_irrefl _)]
 have hF:=hS.faces_ge (L:=M) (fun p hp=>?_) (vs:=vs++[4*X.length]) (by
  rw[List.nodup_append]
  exact⟨hn,by simp,fun x hx y hy=>by
   rw[List.mem_singleton]at hy;have:=(hv x hx).1
   omega⟩) fun v hv'=>?_
 · refine hX.planar_of hS hp (k:=1) (f:=1) (c:=0) h.len ?_ (hX.pieces_le hS (by rw[h.len];omega) (fun p hp=>?_) (es:=[]) fun p hp hge=>.inl ⟨endP X false a,pQ,?_⟩) (by omega)
   · rw[List.length_append,hlen]at hF
     exact hF
   · by_cases c1:p=endP X true a
     · subst c1
       rw[oPQ];have k1:=hS.ln_other (h.plx pP);have k2:=hS.ln_other (h.plx pQ);rw[o3]at k1;rw[o2]at k2
       exact k1.trans ((Ln.round (p:=(X.length,(jn+2)%4)) (q:=(X.length,ja)) (h.pln (Nat.mod_lt _ (by omega))) lj rfl).trans k2.symm)
     · by_cases c2:p=endP X false a
       · subst c2
         rw[oQP];have k1:=hS.ln_other (h.plx pP);have k2:=hS.ln_other (h.plx pQ);rw[o3]at k1;rw[o2]at k2
         exact k2.trans ((Ln.round (p:=(X.length,ja)) (q:=(X.length,(jn+2)%4)) (h.pln h.lj) (Nat.mod_lt _ (by omega)) rfl).trans k1.symm)
       · have:=hS.ln_other (h.plx hp)
         rwa [o1 p hp c1 c2]at this
   · have k2:=hS.ln_other (h.plx pQ)
     rw[o2]at k2;have h1:=hp.1;rw[h.len]at h1
     exact k2.trans (Ln.round (h.pln h.lj) hp.2 (by show X.length=p.1;omega))
 · by_cases c:p.1<X.length
   · have hpX:isPl X p:=⟨c,hp.2⟩
     rw[hMX _ (isPl_up hpX)]
     by_cases c1:p=endP X true a
     · subst c1
       rw[o3,hMS,←hLP]
       by_cases d:jn=(ja+1)%4
       · rw[if_pos d,if_neg (by omega),if_neg (by omega)]
       · rw[if_neg d,if_neg (by omega),if_pos (by omega)]
     · by_cases c2:p=endP X false a
       · subst c2
         rw[o2,hMS,←hLQ]
         by_cases d:jn=(ja+1)%4
         · rw[if_pos d,if_neg (by omega),if_pos rfl]
         · rw[if_neg d,if_neg (by omega),if_neg (by omega)]
       · rw[o1 p hpX c1 c2,hMX _ (hX.isPl_other hpX),hL p hpX]
   · obtain⟨p1,s⟩:=p
     have h1:=hp.1;rw[h.len]at h1
     obtain rfl:p1=X.length:=by simp only at c h1;omega
     have hs:s<4:=hp.2
     show _=M (X.length,(s+1)%4)
     by_cases d:jn=(ja+1)%4
     · rcases cases4 hs lj with e|e|e|e
       · rw[e,o4,hMX _ pQ,hMS,if_pos d,if_neg (by omega),if_neg (by omega)]
       · rw[e,←d,o7,hMS,hMS,if_pos d,if_pos rfl,if_pos d,if_pos (by omega)]
       · rw[e,o6,hMS,hMS,if_pos d,if_neg (by omega),if_neg (by omega),if_pos d,if_neg (by omega),if_neg (by omega)]
       · rw[e,show (ja+3)%4=(jn+2)%4 by omega,o5,hMX _ pP,hMS,if_pos d,if_neg (by omega),if_pos (by omega)]
     · rcases cases4 hs lj with e|e|e|e
       · rw[e,o4,hMX _ pQ,hMS,if_neg d,if_neg (by omega),if_pos rfl]
       · rw[e,show (ja+1)%4=(jn+2)%4 by omega,o5,hMX _ pP,hMS,if_neg d,if_neg (by omega),if_neg (by omega)]
       · rw[e,o6,hMS,hMS,if_neg d,if_pos (by omega),if_neg d,if_pos (by omega)]
       · rw[e,show (ja+3)%4=jn by omega,o7,hMS,hMS,if_neg d,if_neg (by omega),if_neg (by omega),if_neg d,if_neg (by omega),if_neg (by omega)]
 · rw[List.mem_append,List.mem_singleton]at hv'
   rcases hv' with hv' | rfl
   · obtain⟨_,p,hp,e⟩:=hv v hv'
     exact⟨p,h.plx hp,by rw[hMX p hp,e]⟩
   · by_cases d:jn=(ja+1)%4
     · exact⟨(X.length,(ja+2)%4),h.pln (Nat.mod_lt _ (by omega)),by rw[hMS,if_pos d,if_pos rfl]⟩
     · exact⟨(X.length,(ja+3)%4),h.pln (Nat.mod_lt _ (by omega)),by rw[hMS,if_neg d,if_pos rfl]⟩
def curlR(n a b:Nat):Nat:=if b=n+1∨b=n+2 then a else b
theorem CurlOf.back(h:CurlOf X S a ja jn)(hX:Ok X)(ha:isArc X a):Back X S (only X.length) (curlR (nArcs X) a):=by
 have hS:=h.ok hX ha;have hN:=h.arcsEq;have ha2:=ha.2
 have hgone:only X.length X.length=true:=by simp
 have hlt:X.length<S.length:=by rw[h.len];omega
 have num:∀{p v},at_ S p=((v:Nat):Int)→arcN S p=v:=fun {p v} e=>by unfold arcN;rw[e];rfl
 have n1:=num (v:=a) h.a1;have n2:=num (v:=nArcs X+1) (by rw[h.a2];omega);have n3:=num (v:=nArcs X+1) (by rw[h.a3];omega);have n4:=num (v:=nArcs X+2) (by rw[h.a4];omega)
 have ra:curlR (nArcs X) a a=a:=by unfold curlR;rw[if_neg (by omega)]
 have rm:curlR (nArcs X) a (nArcs X+1)=a:=by unfold curlR;rw[if_pos (.inl rfl)]
 have rl:curlR (nArcs X) a (nArcs X+2)=a:=by unfold curlR;rw[if_pos (.inr rfl)]
 have all:∀s,s<4→curlR (nArcs X) a (arcN S (X.length,s))=a:=fun s hs=>by
  have lj:=h.lj;have ln:=h.ln;have od:=h.odd
  have four:s=ja∨s=(ja+2)%4∨s=jn∨s=(jn+2)%4:=by omega
  rcases four with e|e|e|e
  · rw[e,n1,ra]
  · rw[e,n2,rm]
  · rw[e,n3,rm]
  · rw[e,n4,rl]
 refine⟨hX,hS,by rw[h.len];omega,fun c hc=>?_,fun p hp=>?_,fun c hc=>?_,fun b hb=>?_,fun b=>?_,fun c s h1 h2 h3=>?_,fun b hb=>?_⟩
 · rw[h.len]at hc
   show decide _=decide _
   rw[decide_eq_decide];omega
 · by_cases c:p=endP X true a
   · subst c
     rw[num (v:=nArcs X+2) (by rw[h.ap];omega),rl,hX.arc_end ha]
   · have e:arcN S p=arcN X p:=by unfold arcN;rw[h.ax p hp c]
     have:=(hX.isArc hp).2;rw[e]
     unfold curlR;rw[if_neg (by omega)]
 · have:=h.cx (c,1) ⟨hc,by show 1<4;omega⟩
   unfold cm Cr.comes over at this
   revert this
   cases (cr S c).p<;>cases (cr X c).p<;>simp
 · unfold curlR;rw[if_neg (by omega)]
 · unfold curlR;split<;>omega
 · rw[h.len]at h2
   obtain rfl:c=X.length:=by omega
   rw[all s h3,all _ (Nat.mod_lt _ (by omega))]
 · have hE:=com_id_equiv (classE S (only X.length) S.length)
   have t1:=tied_all (X:=S) hlt hgone h.lj;have t2:=tied_all (X:=S) hlt hgone h.ln;rw[n1,n2]at t1;rw[n3,n4]at t2
   unfold curlR
   split
   · rename_i c
     rcases c with rfl|rfl
     · exact hE.symm t1
     · exact hE.symm (hE.trans t1 t2)
   · exact hE.refl b
theorem CurlOf.take(h:CurlOf X S a ja jn)(hX:Ok X)(ha:isArc X a):takeL S (only X.length)=X∧takeN S (only X.length)=0:=by
 have hb:=h.back hX ha
 refine⟨hb.take,hb.none fun b hb=>?_⟩
 have hN:=h.arcsEq;have:=hb.2;have:=ha.2
 unfold curlR;split<;>omega
theorem CurlOf.kink(h:CurlOf X S a ja jn):∃s,s<4∧at_ S (X.length,s)=at_ S (X.length,(s+1)%4):=by
 have lj:=h.lj;have ln:=h.ln;have od:=h.odd
 by_cases d:jn=(ja+1)%4
 · exact⟨jn,ln,by rw[h.a3,show (jn+1)%4=(ja+2)%4 by omega,h.a2]⟩
 · exact⟨(ja+2)%4,Nat.mod_lt _ (by omega),by rw[h.a2,show ((ja+2)%4+1)%4=jn by omega,h.a3]⟩
end
end Go.Proofs.YtlicglicfijelaaGreat.Kn

namespace Go.Proofs.YtlicglicfijelaaGreat.Kn
structure LoopOf(X S:List Cr)(ja jn:Nat):Prop where
 len:S.length=X.length+1
 cx:∀p,isPl X p→cm S p=cm X p
 ax:∀p,isPl X p→at_ S p=at_ X p
 lj:ja<4
 ln:jn<4
 odd:(ja+jn)%2=1
 c1:cm S (X.length,ja)=true
 c2:cm S (X.length,(ja+2)%4)=false
 c3:cm S (X.length,jn)=true
 c4:cm S (X.length,(jn+2)%4)=false
 a1:at_ S (X.length,ja)=(nArcs X:Int)+1
 a2:at_ S (X.length,(ja+2)%4)=(nArcs X:Int)+2
 a3:at_ S (X.length,jn)=(nArcs X:Int)+2
 a4:at_ S (X.length,(jn+2)%4)=(nArcs X:Int)+1
section
variable {X S:List Cr} {ja jn:Nat}
theorem LoopOf.arcsEq(h:LoopOf X S ja jn):nArcs S=nArcs X+2:=by unfold nArcs;rw[h.len];omega
theorem LoopOf.plx(h:LoopOf X S ja jn){p:Pl}(hp:isPl X p):isPl S p:=⟨by have:=hp.1;rw[h.len];omega,hp.2⟩
theorem LoopOf.pln(h:LoopOf X S ja jn){s:Nat}(hs:s<4):isPl S (X.length,s):=⟨by rw[h.len];simp only;omega,hs⟩
theorem LoopOf.ok(h:LoopOf X S ja jn)(hX:Ok X):Ok S:=by
 have hN:=h.arcsEq;have lj:=h.lj;have ln:=h.ln;have od:=h.odd;have m2:(ja+2)%4<4:=Nat.mod_lt _ (by omega);have m3:(jn+2)%4<4:=Nat.mod_lt _ (by omega)
 refine ok_all (fun p hp=>?_) fun io b hb=>?_
 · by_cases c:p.1<X.length
   · have hpX:isPl X p:=⟨c,hp.2⟩
     have:=hX.rng p hpX
     rw[h.ax p hpX];omega
   · obtain⟨p1,s⟩:=p
     have h1:=hp.1;rw[h.len]at h1
     obtain rfl:p1=X.length:=by simp only at c h1;omega
     have hs:s<4:=hp.2
     have four:s=ja∨s=(ja+2)%4∨s=jn∨s=(jn+2)%4:=by omega
     rcases four with e|e|e|e<;>rw[e]
     · rw[h.a1];omega
     · rw[h.a2];omega
     · rw[h.a3];omega
     · rw[h.a4];omega
 · have hb2:=hb.2
   by_cases c1:b=nArcs X+1
   · cases io
     · exact⟨_,h.pln m3,h.c4,by rw[h.a4];omega⟩
     · exact⟨_,h.pln lj,h.c1,by rw[h.a1];omega⟩
   · by_cases c2:b=nArcs X+2
     · cases io
       · exact⟨_,h.pln m2,h.c2,by rw[h.a2];omega⟩
       · exact⟨_,h.pln ln,h.c3,by rw[h.a3];omega⟩
     · have hbX:isArc X b:=⟨hb.1,by omega⟩
       have q1:=hX.isPl_end (io:=io) hbX
       exact⟨_,h.plx q1,(h.cx _ q1).trans (hX.cm_end hbX),(h.ax _ q1).trans (hX.at_end hbX)⟩
theorem LoopOf.others(h:LoopOf X S ja jn)(hX:Ok X):
 (∀p,isPl X p→other S p=other X p)∧other S (X.length,ja)=(X.length,(jn+2)%4)∧other S (X.length,(jn+2)%4)=(X.length,ja)∧other S (X.length,(ja+2)%4)=(X.length,jn)∧other S (X.length,jn)=(X.length,(ja+2)%4):=by
 have hS:=h.ok hX;have m2:(ja+2)%4<4:=Nat.mod_lt _ (by omega);have m3:(jn+2)%4<4:=Nat.mod_lt _ (by omega)
 refine⟨fun p hp=>?_,?_,?_,?_,?_⟩
 · have ho:=hX.isPl_other hp
   refine hS.other_of (h.plx hp) (h.plx ho) (by rw[h.cx _ ho,h.cx _ hp,hX.cm_other hp]) ?_
   rw[h.ax _ ho,h.ax _ hp,←hX.arcN_eq ho,hX.arc_other hp,hX.arcN_eq hp]
 · exact hS.other_of (h.pln h.lj) (h.pln m3) (by rw[h.c1,h.c4];rfl) (by rw[h.a1,h.a4])
 · exact hS.other_of (h.pln m3) (h.pln h.lj) (by rw[h.c1,h.c4];rfl) (by rw[h.a1,h.a4])
 · exact hS.other_of (h.pln m2) (h.pln h.ln) (by rw[h.c2,h.c3];rfl) (by rw[h.a2,h.a3])
 · exact hS.other_of (h.pln h.ln) (h.pln m2) (by rw[h.c2,h.c3];rfl) (by rw[h.a2,h.a3])
theorem LoopOf.planar(h:LoopOf X S ja jn)(hX:Ok X)(hp:planarB X=true):planarB S=true:=by
 have hS:=h.ok hX;obtain⟨o1,o2,o3,o4,o5⟩:=h.others hX;obtain⟨L,vs,hL,hn,hlen,hv⟩:=hX.face_lab;have lj:=h.lj;have ln:=h.ln;have od:=h.odd
 obtain⟨M,hM⟩:∃M:Pl→Nat,∀p,M p=if p.1<X.length then L p else
  if jn=(ja+1)%4 then(if p.2=ja then 4*X.length else if p.2=(ja+2)%4 then 4*X.length+1 else 4*X.length+2)
  else(if p.2=(ja+1)%4 then 4*X.length else if p.2=(ja+3)%4 then 4*X.length+1 else 4*X.length+2):=⟨_,fun _=>rfl⟩
 have hMX:∀p,isPl X p→M p=L p:=fun p hp=>by rw[hM,if_pos hp.1]
 have hMS:∀s,M (X.length,s)=if jn=(ja+1)%4 then(if s=ja then 4*X.length else if s=(ja+2)%4 then 4*X.length+1 else 4*X.length+2)
  else(if s=(ja+1)%4 then 4*X.length else if s=(ja+3)%4 then 4*X.length+1 else 4*X.length+2):=fun s=>by rw[hM,if_neg (Nat.lt_irrefl _)]
 have hF:=hS.faces_ge (L:=M) (fun p hp=>?_) (vs:=vs++[4*X.length,4*X.length+1,4*X.length+2]) (by
  rw[List.nodup_append]
  exact⟨hn,by simp,fun x hx y hy=>by
   simp only[List.mem_cons,List.not_mem_nil,or_false]at hy;have:=(hv x hx).1
   omega⟩) fun v hv'=>?_
 · refine hX.planar_of hS hp (k:=1) (f:=3) (c:=1) h.len ?_ (hX.pieces_le hS (by rw[h.len];omega) (fun p hp=>?_) (es:=[(X.length,0)]) fun p hp hge=>.inr ⟨(X.length,0),by simp,?_⟩) (by omega)
   · rw[List.length_append,hlen]at hF
     exact hF
   · have:=hS.ln_other (h.plx hp)
     rwa [o1 p hp]at this
   · have h1:=hp.1
     rw[h.len]at h1
     exact Ln.round (p:=(X.length,0)) (h.pln (by omega)) hp.2 (by show X.length=p.1;omega)
 · by_cases c:p.1<X.length
   · have hpX:isPl X p:=⟨c,hp.2⟩
     rw[hMX _ (isPl_up hpX),o1 p hpX,hMX _ (hX.isPl_other hpX),hL p hpX]
   · obtain⟨p1,s⟩:=p
     have h1:=hp.1;rw[h.len]at h1
     obtain rfl:p1=X.length:=by simp only at c h1;omega
     have hs:s<4:=hp.2
     have four:s=ja∨s=(ja+2)%4∨s=jn∨s=(jn+2)%4:=by omega
     show _=M (X.length,(s+1)%4)
     by_cases d:jn=(ja+1)%4
     · rcases four with e|e|e|e
       · rw[e,o2,hMS,hMS,if_pos d,if_pos d,if_neg (by omega),if_neg (by omega),if_neg (by omega),if_neg (by omega)]
       · rw[e,o4,hMS,hMS,if_pos d,if_pos d,if_neg (by omega),if_neg (by omega),if_neg (by omega),if_neg (by omega)]
       · rw[e,o5,hMS,hMS,if_pos d,if_pos d,if_neg (by omega),if_pos (by omega),if_neg (by omega),if_pos (by omega)]
       · rw[e,o3,hMS,hMS,if_pos d,if_pos d,if_pos (by omega),if_pos (by omega)]
     · rcases four with e|e|e|e
       · rw[e,o2,hMS,hMS,if_neg d,if_neg d,if_pos (by omega),if_pos (by omega)]
       · rw[e,o4,hMS,hMS,if_neg d,if_neg d,if_pos (by omega),if_neg d,if_neg (by omega),if_pos (by omega)]
       · rw[e,o5,hMS,hMS,if_neg d,if_neg d,if_neg (by omega),if_neg (by omega),if_neg (by omega),if_neg (by omega)]
       · rw[e,o3,hMS,hMS,if_neg d,if_neg d,if_neg (by omega),if_neg (by omega),if_neg (by omega),if_neg (by omega)]
 · rw[List.mem_append]at hv'
   rcases hv' with hv' | hv'
   · obtain⟨_,p,hp,e⟩:=hv v hv'
     exact⟨p,h.plx hp,by rw[hMX p hp,e]⟩
   · simp only[List.mem_cons,List.not_mem_nil,or_false]at hv'
     by_cases d:jn=(ja+1)%4
     · rcases hv' with rfl|rfl|rfl
       · exact⟨(X.length,ja),h.pln lj,by rw[hMS,if_pos d,if_pos rfl]⟩
       · exact⟨(X.length,(ja+2)%4),h.pln (Nat.mod_lt _ (by omega)),by rw[hMS,if_pos d,if_neg (by omega),if_pos rfl]⟩
       · exact⟨(X.length,(ja+1)%4),h.pln (Nat.mod_lt _ (by omega)),by rw[hMS,if_pos d,if_neg (by omega),if_neg (by omega)]⟩
     · rcases hv' with rfl|rfl|rfl
       · exact⟨(X.length,(ja+1)%4),h.pln (Nat.mod_lt _ (by omega)),by rw[hMS,if_neg d,if_pos rfl]⟩
       · exact⟨(X.length,(ja+3)%4),h.pln (Nat.mod_lt _ (by omega)),by rw[hMS,if_neg d,if_neg (by omega),if_pos rfl]⟩
       · exact⟨(X.length,ja),h.pln lj,by rw[hMS,if_neg d,if_neg (by omega),if_neg (by omega)]⟩
def loopR(n b:Nat):Nat:=if b=n+2 then n+1 else b
theorem LoopOf.back(h:LoopOf X S ja jn)(hX:Ok X):Back X S (only X.length) (loopR (nArcs X)):=by
 have hS:=h.ok hX;have hN:=h.arcsEq
 have hgone:only X.length X.length=true:=by simp
 have hlt:X.length<S.length:=by rw[h.len];omega
 have num:∀{p v},at_ S p=((v:Nat):Int)→arcN S p=v:=fun {p v} e=>by unfold arcN;rw[e];rfl
 have n1:=num (v:=nArcs X+1) (by rw[h.a1];omega);have n2:=num (v:=nArcs X+2) (by rw[h.a2];omega);have n3:=num (v:=nArcs X+2) (by rw[h.a3];omega);have n4:=num (v:=nArcs X+1) (by rw[h.a4];omega)
 have rm:loopR (nArcs X) (nArcs X+1)=nArcs X+1:=by unfold loopR;rw[if_neg (by omega)]
 have rl:loopR (nArcs X) (nArcs X+2)=nArcs X+1:=by unfold loopR;rw[if_pos rfl]
 have all:∀s,s<4→loopR (nArcs X) (arcN S (X.length,s))=nArcs X+1:=fun s hs=>by
  have lj:=h.lj;have ln:=h.ln;have od:=h.odd
  have four:s=ja∨s=(ja+2)%4∨s=jn∨s=(jn+2)%4:=by omega
  rcases four with e|e|e|e
  · rw[e,n1,rm]
  · rw[e,n2,rl]
  · rw[e,n3,rl]
  · rw[e,n4,rm]
 refine⟨hX,hS,by rw[h.len];omega,fun c hc=>?_,fun p hp=>?_,fun c hc=>?_,fun b hb=>?_,fun b=>?_,fun c s h1 h2 h3=>?_,fun b hb=>?_⟩
 · rw[h.len]at hc
   show decide _=decide _
   rw[decide_eq_decide];omega
 · have e:arcN S p=arcN X p:=by unfold arcN;rw[h.ax p hp]
   have:=(hX.isArc hp).2;rw[e]
   unfold loopR;rw[if_neg (by omega)]
 · have:=h.cx (c,1) ⟨hc,by show 1<4;omega⟩
   unfold cm Cr.comes over at this
   revert this
   cases (cr S c).p<;>cases (cr X c).p<;>simp
 · unfold loopR;rw[if_neg (by omega)]
 · unfold loopR;split<;>omega
 · rw[h.len]at h2
   obtain rfl:c=X.length:=by omega
   rw[all s h3,all _ (Nat.mod_lt _ (by omega))]
 · have hE:=com_id_equiv (classE S (only X.length) S.length)
   have t1:=tied_all (X:=S) hlt hgone h.lj;rw[n1,n2]at t1
   unfold loopR
   split
   · rename_i c
     subst c
     exact hE.symm t1
   · exact hE.refl b
theorem LoopOf.take(h:LoopOf X S ja jn)(hX:Ok X):takeL S (only X.length)=X∧takeN S (only X.length)=1:=by
 have hb:=h.back hX
 refine⟨hb.take,?_⟩
 rw[hb.rings,h.arcsEq,List.range_succ,List.range_succ,List.countP_append,List.countP_append]
 have:(List.range (nArcs X)).countP (fun a=>decide (loopR (nArcs X) (a+1)=a+1)&&decide (nArcs X<a+1))=0:=by
  rw[List.countP_eq_zero]
  intro a ha
  have:=List.mem_range.1 ha
  simp;omega
 rw[this]
 unfold loopR
 simp
theorem LoopOf.kink(h:LoopOf X S ja jn):∃s,s<4∧at_ S (X.length,s)=at_ S (X.length,(s+1)%4):=by
 have lj:=h.lj;have ln:=h.ln;have od:=h.odd
 by_cases d:jn=(ja+1)%4
 · exact⟨jn,ln,by rw[h.a3,show (jn+1)%4=(ja+2)%4 by omega,h.a2]⟩
 · exact⟨(ja+2)%4,Nat.mod_lt _ (by omega),by rw[h.a2,show ((ja+2)%4+1)%4=jn by omega,h.a3]⟩
end
end Go.Proofs.YtlicglicfijelaaGreat.Kn

namespace Go.Proofs.YtlicglicfijelaaGreat.Kn
theorem ring_next'{α:Type}[DecidableEq α](nx:α→α):∀(k:Nat) (seen:List α) (x:α) (i:Nat) (h:i+1<(ring nx k seen x).length),(ring nx k seen x)[i+1]=nx ((ring nx k seen x)[i]'(by omega))
 |0,seen,x,i,h=>by simp[ring]at h
 |k+1,seen,x,i,h=>by
  by_cases c:x∈seen
  · simp[ring_seen nx c]at h
  · have e:=ring_new nx (k:=k) c
    simp only[e,List.length_cons]at h
    cases i with
    |zero=>
     simp only[e,List.getElem_cons_succ,List.getElem_cons_zero]
     have h0:0<(ring nx k (seen++[x]) (nx x)).length:=by omega
     by_cases d:nx x∈seen++[x]
     · simp[ring_seen nx d]at h0
     · cases k with
       |zero=>simp[ring]at h0
       |succ k=>simp only[ring_new nx d,List.getElem_cons_zero]
    |succ i=>
     simp only[e,List.getElem_cons_succ]
     exact ring_next' nx k (seen++[x]) (nx x) i (by omega)
theorem rings_next'{α:Type}[DecidableEq α](nx:α→α)(N:Nat):∀(ds seen:List α),∀f∈rings nx N seen ds,∀(i:Nat) (h:i+1<f.length),f[i+1]=nx (f[i]'(by omega))
 |[],seen,f,hf,_,_=>by rw[rings_nil]at hf;cases hf
 |d :: ds,seen,f,hf,i,h=>by
  by_cases c:d∈seen
  · rw[rings_seen nx c]at hf
    exact rings_next' nx N ds seen f hf i h
  · rw[rings_new nx c]at hf
    rcases List.mem_cons.1 hf with rfl|hf
    · exact ring_next' nx N seen d i h
    · exact rings_next' nx N ds _ f hf i h
section
variable {X:List Cr}
theorem face_next{f:List Dt}(hf:f∈facesL X)(i:Nat)(h:i+1<f.length):f[i+1]=left X (f[i]'(by omega)):=rings_next' (left X) _ _ _ f hf i h
theorem Ok.face_arc(h:Ok X){f:List Dt}(hf:f∈facesL X){d:Dt}(hd:d∈f):Kn.isArc X d.1:=
 mem_darts.1 ((faces_perm h).mem_iff.1 (List.mem_flatten.2 ⟨_,hf,hd⟩))
theorem Ok.face_nodup(h:Ok X){f:List Dt}(hf:f∈facesL X):f.Nodup:=
 (List.pairwise_flatten.1 ((faces_perm h).nodup_iff.2 (darts_nodup X))).1 f hf
theorem Ok.dart_inj(h:Ok X){a b:Dt}(ha:Kn.isArc X a.1)(hb:Kn.isArc X b.1)(e:pk (head X a)=pk (head X b)):a=b:=
 h.head_inj ha hb (pk_inj (h.isPl_head ha).2 (h.isPl_head hb).2 e)
theorem Ok.face_is(h:Ok X){f:List Dt}(hf:f∈facesL X){d e:Dt}(hd:d∈f)(he:Kn.isArc X e.1):e∈f↔Orb (fac X) (pk (head X d)) (pk (head X e)):=by
 have hm:f.map (fun d=>pk (head X d))∈(facesL X).map (List.map fun d=>pk (head X d)):=List.mem_map.2 ⟨_,hf,rfl⟩;have key:=h.faces_is _ hm (pk (head X d)) (List.mem_map.2 ⟨d,hd,rfl⟩) (pk (head X e));rw[←key]
 constructor
 · intro k;exact List.mem_map.2 ⟨e,k,rfl⟩
 · intro k
   obtain⟨g,hg,e'⟩:=List.mem_map.1 k;rw[←h.dart_inj (h.face_arc hf hg) he e']
   exact hg
theorem Ok.face_of(h:Ok X){d:Dt}(hd:Kn.isArc X d.1):∃f∈facesL X,d∈f:=by
 obtain⟨f,hf,k⟩:=List.mem_flatten.1 ((faces_perm h).mem_iff.2 (mem_darts.2 hd))
 exact⟨f,hf,k⟩
theorem Ok.left_inj(h:Ok X){a b:Dt}(ha:Kn.isArc X a.1)(hb:Kn.isArc X b.1)(e:left X a=left X b):a=b:=by
 have h1:=h.fac_head ha;have h2:=h.fac_head hb;rw[e]at h1
 exact h.dart_inj ha hb (h.fac_pm.inj _ _ (h1.trans h2.symm))
theorem Ok.left_mem(h:Ok X){f:List Dt}(hf:f∈facesL X){d:Dt}(hd:d∈f):left X d∈f:=by
 have ha:=h.face_arc hf hd;rw[h.face_is hf hd (h.isArc_left ha)]
 exact⟨1,h.fac_head ha⟩
theorem Ok.face_three(h:Ok X){d e g:Dt}(hf:[d,e,g]∈facesL X):Kn.isArc X d.1∧Kn.isArc X e.1∧Kn.isArc X g.1∧left X d=e∧left X e=g∧left X g=d:=by
 have a1:=h.face_arc hf (d:=d) (by simp);have a2:=h.face_arc hf (d:=e) (by simp);have a3:=h.face_arc hf (d:=g) (by simp);have n1:e=left X d:=face_next hf 0 (by simp);have n2:g=left X e:=face_next hf 1 (by simp);have hn:=h.face_nodup hf;have h3:=h.left_mem hf (d:=g) (by simp)
 refine⟨a1,a2,a3,n1.symm,n2.symm,?_⟩
 simp only[List.mem_cons,List.not_mem_nil,or_false]at h3;simp only[List.nodup_cons,List.mem_cons,List.not_mem_nil,or_false,not_or]at hn
 rcases h3 with k|k|k
 · exact k
 · exact absurd (h.left_inj a3 a1 (k.trans n1)).symm hn.1.2
 · exact absurd (h.left_inj a3 a2 (k.trans n2)).symm hn.2.1
theorem Ok.face_ring(h:Ok X){D:Nat→Dt}(ha:∀i,Kn.isArc X (D i).1)(hl:∀i,left X (D i)=D (i+1)):∃f∈facesL X,f.Nodup∧∀e,e∈f↔∃i,e=D i:=by
 obtain⟨f,hf,k⟩:=h.face_of (ha 0)
 have hall:∀i,D i∈f:=fun i=>by
  induction i with
  |zero=>exact k
  |succ i ih=>rw[←hl];exact h.left_mem hf ih
 refine⟨f,hf,h.face_nodup hf,fun e=>⟨fun he=>?_,fun⟨i,hi⟩=>hi ▸ hall i⟩⟩
 have ho:=(h.face_is hf k (h.face_arc hf he)).1 he;have:=ho.ind (P:=fun y=>∃i,y=pk (head X (D i))) (fun x ⟨i,hx⟩=>⟨i+1,by rw[hx,←hl,←h.fac_head (ha i)]⟩) ⟨0,rfl⟩;obtain⟨i,hi⟩:=this
 exact⟨i,h.dart_inj (h.face_arc hf he) (ha i) hi⟩
end
end Go.Proofs.YtlicglicfijelaaGreat.Kn

namespace Go.Proofs.YtlicglicfijelaaGreat.Kn

def rayP(c b j:Nat):Pl:=(c,(j+4-b)%4)
structure PushOf(X S:List Cr)(u v:Dt)(b0 b1:Nat):Prop where
 okX:Ok X
 au:isArc X u.1
 av:isArc X v.1
 ne:u.1≠v.1
 len:S.length=X.length+2
 cx:∀p,isPl X p→cm S p=cm X p
 ax:∀p,isPl X p→p≠endP X true u.1→p≠endP X true v.1→at_ S p=at_ X p
 pu:at_ S (endP X true u.1)=(nArcs X:Int)+2
 pv:at_ S (endP X true v.1)=(nArcs X:Int)+4
 lb0:b0<4
 lb1:b1<4
 a00:at_ S (rayP X.length b0 0)=(nArcs X:Int)+3
 a01:at_ S (rayP X.length b0 1)=(nArcs X:Int)+1
 a02:at_ S (rayP X.length b0 2)=if v.2 then(v.1:Int)else(nArcs X:Int)+4
 a03:at_ S (rayP X.length b0 3)=if u.2 then(nArcs X:Int)+2 else(u.1:Int)
 a10:at_ S (rayP (X.length+1) b1 0)=if v.2 then(nArcs X:Int)+4 else(v.1:Int)
 a11:at_ S (rayP (X.length+1) b1 1)=(nArcs X:Int)+1
 a12:at_ S (rayP (X.length+1) b1 2)=(nArcs X:Int)+3
 a13:at_ S (rayP (X.length+1) b1 3)=if u.2 then(u.1:Int)else(nArcs X:Int)+2
 c00:cm S (rayP X.length b0 0)=!v.2
 c01:cm S (rayP X.length b0 1)=u.2
 c02:cm S (rayP X.length b0 2)=v.2
 c03:cm S (rayP X.length b0 3)=!u.2
 c10:cm S (rayP (X.length+1) b1 0)=!v.2
 c11:cm S (rayP (X.length+1) b1 1)=!u.2
 c12:cm S (rayP (X.length+1) b1 2)=v.2
 c13:cm S (rayP (X.length+1) b1 3)=u.2
theorem ray_any{c b:Nat}{p:Pl}(hb:b<4)(hp:p.2<4)(e:p.1=c):p=rayP c b 0∨p=rayP c b 1∨p=rayP c b 2∨p=rayP c b 3:=by
 obtain⟨x,y⟩:=p;obtain rfl:x=c:=e
 unfold rayP
 simp only[Prod.mk.injEq,true_and]at hp ⊢
 omega
theorem ray_up{c b j:Nat}(hb:b<4):up (rayP c b j)=rayP c b (j+1):=Prod.ext rfl (by unfold up rayP;simp only;omega)
theorem ray_four{c b:Nat}(hb:b<4):rayP c b 4=rayP c b 0:=Prod.ext rfl (by unfold rayP;simp only;omega)
theorem ray_inj{c d b b' j k:Nat}(hb:b<4)(hb':b'<4)(e:rayP c b j=rayP d b' k):c=d∧(b=b'→j%4=k%4):=by
 unfold rayP at e
 injection e with e1 e2
 exact⟨e1,fun q=>by omega⟩
section
variable {X S:List Cr} {u v:Dt} {b0 b1:Nat}
theorem PushOf.arcsEq(h:PushOf X S u v b0 b1):nArcs S=nArcs X+4:=by unfold nArcs;rw[h.len];omega
theorem PushOf.plx(h:PushOf X S u v b0 b1){p:Pl}(hp:isPl X p):isPl S p:=⟨by have:=hp.1;rw[h.len];omega,hp.2⟩
theorem PushOf.pl0(h:PushOf X S u v b0 b1)(j:Nat):isPl S (rayP X.length b0 j):=⟨by rw[h.len];unfold rayP;simp only;omega,Nat.mod_lt _ (by omega)⟩
theorem PushOf.pl1(h:PushOf X S u v b0 b1)(j:Nat):isPl S (rayP (X.length+1) b1 j):=⟨by rw[h.len];unfold rayP;simp only;omega,Nat.mod_lt _ (by omega)⟩
theorem PushOf.where(h:PushOf X S u v b0 b1){p:Pl}(hp:isPl S p):isPl X p∨(∃j,j<4∧p=rayP X.length b0 j)∨∃j,j<4∧p=rayP (X.length+1) b1 j:=by
 have h1:=hp.1;rw[h.len]at h1
 have c:p.1<X.length∨p.1=X.length∨p.1=X.length+1:=by omega
 rcases c with c|c|c
 · exact .inl ⟨c,hp.2⟩
 · right;left
   rcases ray_any h.lb0 hp.2 c with e|e|e|e
   · exact⟨0,by omega,e⟩
   · exact⟨1,by omega,e⟩
   · exact⟨2,by omega,e⟩
   · exact⟨3,by omega,e⟩
 · right;right
   rcases ray_any h.lb1 hp.2 c with e|e|e|e
   · exact⟨0,by omega,e⟩
   · exact⟨1,by omega,e⟩
   · exact⟨2,by omega,e⟩
   · exact⟨3,by omega,e⟩
theorem PushOf.ends(h:PushOf X S u v b0 b1)(io:Bool):(at_ S (endP X io u.1)=if io then(nArcs X:Int)+2 else(u.1:Int))∧(at_ S (endP X io v.1)=if io then(nArcs X:Int)+4 else(v.1:Int)):=by
 have k:∀{a b io jo},Kn.isArc X a→Kn.isArc X b→endP X io a=endP X jo b→a=b∧io=jo:=fun {a b io jo} ha hb e=>by
  have e1:=h.okX.arc_end (io:=io) ha;have e2:=h.okX.cm_end (io:=io) ha;rw[e,h.okX.arc_end hb]at e1;rw[e,h.okX.cm_end hb]at e2
  exact⟨e1.symm,e2.symm⟩
 cases io
 · constructor
   · rw[h.ax _ (h.okX.isPl_end h.au) (fun e=>by have:=(k h.au h.au e).2;cases this) (fun e=>h.ne (k h.au h.av e).1),h.okX.at_end h.au];rfl
   · rw[h.ax _ (h.okX.isPl_end h.av) (fun e=>h.ne (k h.av h.au e).1.symm) (fun e=>by have:=(k h.av h.av e).2;cases this),h.okX.at_end h.av];rfl
 · exact⟨h.pu,h.pv⟩
theorem PushOf.ok(h:PushOf X S u v b0 b1):Ok S:=by
 have hN:=h.arcsEq;have u1:=h.au.1;have u2:=h.au.2;have v1:=h.av.1;have v2:=h.av.2
 refine ok_all (fun p hp=>?_) fun io b hb=>?_
 · rw[hN]
   rcases h.where hp with c|⟨j,hj,rfl⟩|⟨j,hj,rfl⟩
   · have hr:=h.okX.rng p c
     by_cases e:p=endP X true u.1
     · rw[e,h.pu];omega
     · by_cases e':p=endP X true v.1
       · rw[e',h.pv];omega
       · rw[h.ax p c e e'];omega
   · have:j=0∨j=1∨j=2∨j=3:=by omega
     rcases this with rfl|rfl|rfl|rfl
     · rw[h.a00];omega
     · rw[h.a01];omega
     · rw[h.a02];split<;>omega
     · rw[h.a03];split<;>omega
   · have:j=0∨j=1∨j=2∨j=3:=by omega
     rcases this with rfl|rfl|rfl|rfl
     · rw[h.a10];split<;>omega
     · rw[h.a11];omega
     · rw[h.a12];omega
     · rw[h.a13];split<;>omega
 · have hb1:=hb.1
   have hb2:=hb.2
   by_cases e1:b=nArcs X+1
   · by_cases q:io=u.2
     · exact⟨_,h.pl0 1,by rw[h.c01,q],by rw[h.a01];omega⟩
     · exact⟨_,h.pl1 1,by rw[h.c11];revert q;cases io<;>cases u.2<;>simp,by rw[h.a11];omega⟩
   · by_cases e3:b=nArcs X+3
     · by_cases q:io=v.2
       · exact⟨_,h.pl1 2,by rw[h.c12,q],by rw[h.a12];omega⟩
       · exact⟨_,h.pl0 0,by rw[h.c00];revert q;cases io<;>cases v.2<;>simp,by rw[h.a00];omega⟩
     · by_cases e2:b=nArcs X+2
       · cases io
         · cases hu:u.2
           · exact⟨_,h.pl1 3,by rw[h.c13,hu],by rw[h.a13,hu,if_neg (by simp)];omega⟩
           · exact⟨_,h.pl0 3,by rw[h.c03,hu];rfl,by rw[h.a03,hu,if_pos rfl];omega⟩
         · exact⟨_,h.plx (h.okX.isPl_end (io:=true) h.au),(h.cx _ (h.okX.isPl_end h.au)).trans (h.okX.cm_end h.au),by rw[h.pu];omega⟩
       · by_cases e4:b=nArcs X+4
         · cases io
           · cases hv:v.2
             · exact⟨_,h.pl0 2,by rw[h.c02,hv],by rw[h.a02,hv,if_neg (by simp)];omega⟩
             · exact⟨_,h.pl1 0,by rw[h.c10,hv];rfl,by rw[h.a10,hv,if_pos rfl];omega⟩
           · exact⟨_,h.plx (h.okX.isPl_end (io:=true) h.av),(h.cx _ (h.okX.isPl_end h.av)).trans (h.okX.cm_end h.av),by rw[h.pv];omega⟩
         · have hbX:Kn.isArc X b:=⟨hb1,by omega⟩
           by_cases q:b=u.1∧io=true
           · obtain⟨rfl,rfl⟩:=q
             cases hu:u.2
             · exact⟨_,h.pl0 3,by rw[h.c03,hu];rfl,by rw[h.a03,hu,if_neg (by simp)]⟩
             · exact⟨_,h.pl1 3,by rw[h.c13,hu],by rw[h.a13,hu,if_pos rfl]⟩
           · by_cases q':b=v.1∧io=true
             · obtain⟨rfl,rfl⟩:=q'
               cases hv:v.2
               · exact⟨_,h.pl1 0,by rw[h.c10,hv];rfl,by rw[h.a10,hv,if_neg (by simp)]⟩
               · exact⟨_,h.pl0 2,by rw[h.c02,hv],by rw[h.a02,hv,if_pos rfl]⟩
             · have q1:=h.okX.isPl_end (io:=io) hbX
               have k:∀{a},Kn.isArc X a→endP X io b=endP X true a→b=a∧io=true:=fun {a} ha e=>by
                have e1:=h.okX.arc_end (io:=io) hbX;have e2:=h.okX.cm_end (io:=io) hbX;rw[e,h.okX.arc_end ha]at e1;rw[e,h.okX.cm_end ha]at e2
                exact⟨e1.symm,e2.symm⟩
               exact⟨_,h.plx q1,(h.cx _ q1).trans (h.okX.cm_end hbX),(h.ax _ q1 (fun e=>q (k h.au e)) (fun e=>q' (k h.av e))).trans (h.okX.at_end hbX)⟩
theorem PushOf.o01(h:PushOf X S u v b0 b1):other S (rayP X.length b0 1)=rayP (X.length+1) b1 1:=h.ok.other_of (h.pl0 1) (h.pl1 1) (by rw[h.c01,h.c11]) (by rw[h.a01,h.a11])
theorem PushOf.o11(h:PushOf X S u v b0 b1):other S (rayP (X.length+1) b1 1)=rayP X.length b0 1:=by rw[←h.o01,h.ok.other_other (h.pl0 1)]
theorem PushOf.o12(h:PushOf X S u v b0 b1):other S (rayP (X.length+1) b1 2)=rayP X.length b0 0:=h.ok.other_of (h.pl1 2) (h.pl0 0) (by rw[h.c12,h.c00]) (by rw[h.a12,h.a00])
theorem PushOf.o00(h:PushOf X S u v b0 b1):other S (rayP X.length b0 0)=rayP (X.length+1) b1 2:=by rw[←h.o12,h.ok.other_other (h.pl1 2)]
theorem PushOf.cmE(h:PushOf X S u v b0 b1){io:Bool}{a:Nat}(ha:Kn.isArc X a):cm S (endP X io a)=io:=(h.cx _ (h.okX.isPl_end ha)).trans (h.okX.cm_end ha)
theorem PushOf.oTU(h:PushOf X S u v b0 b1):other S (endP X u.2 u.1)=rayP X.length b0 3:=
 h.ok.other_of (h.plx (h.okX.isPl_end h.au)) (h.pl0 3) (by rw[h.c03,h.cmE h.au]) (by rw[h.a03,(h.ends u.2).1])
theorem PushOf.oHU(h:PushOf X S u v b0 b1):other S (endP X (!u.2) u.1)=rayP (X.length+1) b1 3:=
 h.ok.other_of (h.plx (h.okX.isPl_end h.au)) (h.pl1 3) (by rw[h.c13,h.cmE h.au,Bool.not_not]) (by rw[h.a13,(h.ends (!u.2)).1];cases u.2<;>rfl)
theorem PushOf.oTV(h:PushOf X S u v b0 b1):other S (endP X v.2 v.1)=rayP (X.length+1) b1 0:=
 h.ok.other_of (h.plx (h.okX.isPl_end h.av)) (h.pl1 0) (by rw[h.c10,h.cmE h.av]) (by rw[h.a10,(h.ends v.2).2])
theorem PushOf.oHV(h:PushOf X S u v b0 b1):other S (endP X (!v.2) v.1)=rayP X.length b0 2:=
 h.ok.other_of (h.plx (h.okX.isPl_end h.av)) (h.pl0 2) (by rw[h.c02,h.cmE h.av,Bool.not_not]) (by rw[h.a02,(h.ends (!v.2)).2];cases v.2<;>rfl)
theorem PushOf.o03(h:PushOf X S u v b0 b1):other S (rayP X.length b0 3)=endP X u.2 u.1:=by rw[←h.oTU,h.ok.other_other (h.plx (h.okX.isPl_end h.au))]
theorem PushOf.o13(h:PushOf X S u v b0 b1):other S (rayP (X.length+1) b1 3)=endP X (!u.2) u.1:=by rw[←h.oHU,h.ok.other_other (h.plx (h.okX.isPl_end h.au))]
theorem PushOf.o10(h:PushOf X S u v b0 b1):other S (rayP (X.length+1) b1 0)=endP X v.2 v.1:=by rw[←h.oTV,h.ok.other_other (h.plx (h.okX.isPl_end h.av))]
theorem PushOf.o02(h:PushOf X S u v b0 b1):other S (rayP X.length b0 2)=endP X (!v.2) v.1:=by rw[←h.oHV,h.ok.other_other (h.plx (h.okX.isPl_end h.av))]
theorem Ok.other_end(h:Ok X){io:Bool}{a:Nat}(ha:Kn.isArc X a):other X (endP X io a)=endP X (!io) a:=by unfold other;rw[h.cm_end ha,h.arc_end ha]
theorem PushOf.oX(h:PushOf X S u v b0 b1){p:Pl}(hp:isPl X p)(hu:arcN X p≠u.1)(hv:arcN X p≠v.1):other S p=other X p:=by
 have ho:=h.okX.isPl_other hp
 have n:∀{q:Pl} {a:Nat} {io:Bool},Kn.isArc X a→arcN X q≠a→q≠endP X io a:=fun ha k e=>k (by rw[e,h.okX.arc_end ha])
 have e:=h.okX.arc_other hp
 refine h.ok.other_of (h.plx hp) (h.plx ho) (by rw[h.cx _ ho,h.cx _ hp,h.okX.cm_other hp]) ?_
 rw[h.ax _ ho (n h.au (by rw[e];exact hu)) (n h.av (by rw[e];exact hv)),h.ax _ hp (n h.au hu) (n h.av hv),←h.okX.arcN_eq ho,e,h.okX.arcN_eq hp]
theorem PushOf.parts(h:PushOf X S u v b0 b1){p:Pl}(hp:isPl X p):p=endP X u.2 u.1∨p=endP X (!u.2) u.1∨p=endP X v.2 v.1∨p=endP X (!v.2) v.1∨(arcN X p≠u.1∧arcN X p≠v.1):=by
 have e:=h.okX.end_eq hp
 by_cases c:arcN X p=u.1
 · rw[c]at e
   by_cases q:cm X p=u.2
   · rw[q]at e;exact .inl e.symm
   · have:cm X p=!u.2:=by revert q;cases cm X p<;>cases u.2<;>simp
     rw[this]at e;exact .inr (.inl e.symm)
 · by_cases c':arcN X p=v.1
   · rw[c']at e
     by_cases q:cm X p=v.2
     · rw[q]at e;exact .inr (.inr (.inl e.symm))
     · have:cm X p=!v.2:=by revert q;cases cm X p<;>cases v.2<;>simp
       rw[this]at e;exact .inr (.inr (.inr (.inl e.symm)))
   · exact .inr (.inr (.inr (.inr ⟨c,c'⟩)))
theorem PushOf.planar(h:PushOf X S u v b0 b1)(hf:Orb (fac X) (pk (head X u)) (pk (head X v)))(hp:planarB X=true):planarB S=true:=by
 have hS:=h.ok;have pHU:=h.okX.isPl_end (io:=!u.2) h.au;have pHV:=h.okX.isPl_end (io:=!v.2) h.av;have pTU:=h.okX.isPl_end (io:=u.2) h.au;have pTV:=h.okX.isPl_end (io:=v.2) h.av
 have hne:head X u≠head X v:=fun e=>h.ne (by rw[h.okX.head_inj h.au h.av e])
 obtain⟨L,vs,hL,hn,hlen,hv⟩:=h.okX.face_part pHU pHV hne hf
 have far:∀{io jo},endP X io u.1≠endP X jo v.1:=fun {io jo} e=>h.ne (by rw[←h.okX.arc_end (io:=io) h.au,e,h.okX.arc_end h.av])
 have lTU:=hL _ pTU;rw[h.okX.other_end h.au,if_pos rfl]at lTU;have lTV:=hL _ pTV;rw[h.okX.other_end h.av,if_neg (fun e=>far e.symm),if_pos rfl]at lTV
 have nb:∀{b:Bool},b≠!b:=fun {b}=>by cases b<;>simp
 have lHU:=hL _ pHU
 rw[h.okX.other_end h.au,Bool.not_not,if_neg (fun e=>by
  have e2:=h.okX.cm_end (io:=u.2) h.au;rw[e,h.okX.cm_end h.au]at e2
  exact nb e2.symm),if_neg far]at lHU
 have lHV:=hL _ pHV
 rw[h.okX.other_end h.av,Bool.not_not,if_neg (fun e=>far e.symm),if_neg (fun e=>by
  have e2:=h.okX.cm_end (io:=v.2) h.av;rw[e,h.okX.cm_end h.av]at e2
  exact nb e2.symm)]at lHV
 have lX:∀p,isPl X p→arcN X p≠u.1→arcN X p≠v.1→L (other X p)=L (up p):=fun p hp hu hv=>by
  have:=hL p hp
  rwa [if_neg (fun e=>hu (by rw[←h.okX.arc_other hp,e];exact h.okX.arc_end h.au)),if_neg (fun e=>hv (by rw[←h.okX.arc_other hp,e];exact h.okX.arc_end h.av))]at this
 obtain⟨M,hM⟩:∃M:Pl→Nat,∀p,M p=if p.1<X.length then L p else if p.1=X.length then
  (if p=rayP X.length b0 0 then L (endP X u.2 u.1)else if p=rayP X.length b0 1 then 4*X.length else if p=rayP X.length b0 2 then L (endP X v.2 v.1)else L (endP X (!v.2) v.1))
  else(if p=rayP (X.length+1) b1 0 then L (endP X (!u.2) u.1)else if p=rayP (X.length+1) b1 1 then L (endP X v.2 v.1)else if p=rayP (X.length+1) b1 2 then 4*X.length else L (endP X u.2 u.1)):=⟨_,fun _=>rfl⟩
 have hMX:∀p,isPl X p→M p=L p:=fun p hp=>by rw[hM,if_pos hp.1]
 have l0:=h.lb0;have l1:=h.lb1
 have d0:∀{j k},j%4≠k%4→rayP X.length b0 j≠rayP X.length b0 k:=fun q e=>q ((ray_inj l0 l0 e).2 rfl)
 have d1:∀{j k},j%4≠k%4→rayP (X.length+1) b1 j≠rayP (X.length+1) b1 k:=fun q e=>q ((ray_inj l1 l1 e).2 rfl)
 have base0:∀j,M (rayP X.length b0 j)=if rayP X.length b0 j=rayP X.length b0 0 then L (endP X u.2 u.1)else if rayP X.length b0 j=rayP X.length b0 1 then 4*X.length else if rayP X.length b0 j=rayP X.length b0 2 then L (endP X v.2 v.1)else L (endP X (!v.2) v.1):=fun j=>by
  rw[hM,if_neg (show ¬(rayP X.length b0 j).1<X.length from Nat.lt_irrefl _),if_pos (show (rayP X.length b0 j).1=X.length from rfl)]
 have base1:∀j,M (rayP (X.length+1) b1 j)=if rayP (X.length+1) b1 j=rayP (X.length+1) b1 0 then L (endP X (!u.2) u.1)else if rayP (X.length+1) b1 j=rayP (X.length+1) b1 1 then L (endP X v.2 v.1)else if rayP (X.length+1) b1 j=rayP (X.length+1) b1 2 then 4*X.length else L (endP X u.2 u.1):=fun j=>by
  rw[hM,if_neg (show ¬(rayP (X.length+1) b1 j).1<X.length from by unfold rayP;simp only;omega),if_neg (show ¬(rayP (X.length+1) b1 j).1=X.length from by unfold rayP;simp only;omega)]
 have m00:M (rayP X.length b0 0)=L (endP X u.2 u.1):=by rw[base0,if_pos rfl]
 have m01:M (rayP X.length b0 1)=4*X.length:=by rw[base0,if_neg (d0 (by omega)),if_pos rfl]
 have m02:M (rayP X.length b0 2)=L (endP X v.2 v.1):=by rw[base0,if_neg (d0 (by omega)),if_neg (d0 (by omega)),if_pos rfl]
 have m03:M (rayP X.length b0 3)=L (endP X (!v.2) v.1):=by rw[base0,if_neg (d0 (by omega)),if_neg (d0 (by omega)),if_neg (d0 (by omega))]
 have m10:M (rayP (X.length+1) b1 0)=L (endP X (!u.2) u.1):=by rw[base1,if_pos rfl]
 have m11:M (rayP (X.length+1) b1 1)=L (endP X v.2 v.1):=by rw[base1,if_neg (d1 (by omega)),if_pos rfl]
 have m12:M (rayP (X.length+1) b1 2)=4*X.length:=by rw[base1,if_neg (d1 (by omega)),if_neg (d1 (by omega)),if_pos rfl]
 have m13:M (rayP (X.length+1) b1 3)=L (endP X u.2 u.1):=by rw[base1,if_neg (d1 (by omega)),if_neg (d1 (by omega)),if_neg (d1 (by omega))]
 have hF:=hS.faces_ge (L:=M) (fun p hp=>?_) (vs:=vs++[4*X.length]) (by
  rw[List.nodup_append]
  exact⟨hn,by simp,fun x hx y hy=>by
   rw[List.mem_singleton]at hy;have:=(hv x hx).1
   omega⟩) fun w hw=>?_
 · have rnd0:∀j k,Ln S (rayP X.length b0 j) (rayP X.length b0 k):=fun j k=>Ln.round (h.pl0 j) (h.pl0 k).2 rfl
   have rnd1:∀j k,Ln S (rayP (X.length+1) b1 j) (rayP (X.length+1) b1 k):=fun j k=>Ln.round (h.pl1 j) (h.pl1 k).2 rfl
   have n01:Ln S (rayP X.length b0 1) (rayP (X.length+1) b1 1):=by
    have:=hS.ln_other (h.pl0 1);rwa [h.o01]at this
   have kTU:Ln S (endP X u.2 u.1) (rayP X.length b0 1):=by
    have:=hS.ln_other (h.plx pTU);rw[h.oTU]at this;exact this.trans (rnd0 3 1)
   have kHU:Ln S (endP X (!u.2) u.1) (rayP X.length b0 1):=by
    have:=hS.ln_other (h.plx pHU);rw[h.oHU]at this;exact this.trans ((rnd1 3 1).trans n01.symm)
   have kTV:Ln S (endP X v.2 v.1) (rayP X.length b0 1):=by
    have:=hS.ln_other (h.plx pTV);rw[h.oTV]at this;exact this.trans ((rnd1 0 1).trans n01.symm)
   have kHV:Ln S (endP X (!v.2) v.1) (rayP X.length b0 1):=by
    have:=hS.ln_other (h.plx pHV);rw[h.oHV]at this;exact this.trans (rnd0 2 1)
   refine h.okX.planar_of hS hp (k:=2) (f:=2) (c:=0) h.len ?_ (h.okX.pieces_le hS (by rw[h.len];omega) (fun p hp=>?_) (es:=[]) fun p hp hge=>.inl ⟨endP X u.2 u.1,pTU,?_⟩) (by omega)
   · rw[List.length_append,hlen]at hF
     exact hF
   · rcases h.parts hp with rfl|rfl|rfl|rfl|⟨hu,hv⟩
     · rw[h.okX.other_end h.au];exact kTU.trans kHU.symm
     · rw[h.okX.other_end h.au,Bool.not_not];exact kHU.trans kTU.symm
     · rw[h.okX.other_end h.av];exact kTV.trans kHV.symm
     · rw[h.okX.other_end h.av,Bool.not_not];exact kHV.trans kTV.symm
     · have:=hS.ln_other (h.plx hp)
       rwa [h.oX hp hu hv]at this
   · rcases h.where hp with c|⟨j,_,rfl⟩|⟨j,_,rfl⟩
     · exact absurd c.1 (by omega)
     · exact kTU.trans (rnd0 1 j)
     · exact kTU.trans (n01.trans (rnd1 1 j))
 · rcases h.where hp with c|⟨j,hj,rfl⟩|⟨j,hj,rfl⟩
   · rw[hMX _ (isPl_up c)]
     rcases h.parts c with rfl|rfl|rfl|rfl|⟨hu,hv⟩
     · rw[h.oTU,m03,lTU]
     · rw[h.oHU,m13,lHU]
     · rw[h.oTV,m10,lTV]
     · rw[h.oHV,m02,lHV]
     · rw[h.oX c hu hv,hMX _ (h.okX.isPl_other c),lX p c hu hv]
   · rw[ray_up l0]
     have:j=0∨j=1∨j=2∨j=3:=by omega
     rcases this with rfl|rfl|rfl|rfl
     · rw[h.o00,m12,m01]
     · rw[h.o01,m11,m02]
     · rw[h.o02,hMX _ pHV,m03]
     · rw[h.o03,hMX _ pTU,ray_four l0,m00]
   · rw[ray_up l1]
     have:j=0∨j=1∨j=2∨j=3:=by omega
     rcases this with rfl|rfl|rfl|rfl
     · rw[h.o10,hMX _ pTV,m11]
     · rw[h.o11,m01,m12]
     · rw[h.o12,m00,m13]
     · rw[h.o13,hMX _ pHU,ray_four l1,m10]
 · rw[List.mem_append,List.mem_singleton]at hw
   rcases hw with hw|rfl
   · obtain⟨_,p,hp,e⟩:=hv w hw
     exact⟨p,h.plx hp,by rw[hMX p hp,e]⟩
   · exact⟨_,h.pl0 1,m01⟩
end
end Go.Proofs.YtlicglicfijelaaGreat.Kn

namespace Go.Proofs.YtlicglicfijelaaGreat.Kn

def acr(p:Pl):Pl:=(p.1,(p.2+2)%4)
def onE(X:List Cr)(e:Nat)(p:Pl):Prop:=p=inP X e∨p=acr (inP X e)∨p=acr (outP X e)∨p=outP X e
instance (X:List Cr) (e:Nat) (p:Pl):Decidable (onE X e p):=by unfold onE;infer_instance
def tau1(X:List Cr)(e:Nat)(p:Pl):Pl:=
 if p=inP X e then acr (outP X e)else if p=acr (inP X e)then outP X e else if p=acr (outP X e)then inP X e else acr (inP X e)
def tauL(X:List Cr):List Nat→Pl→Pl
 |[],p=>p
 |e :: es,p=>if onE X e p then tau1 X e p else tauL X es p
def slideL(X:List Cr)(es:List Nat):List Cr:=
 (List.range X.length).map fun c=>⟨at_ X (tauL X es (c,0)),at_ X (tauL X es (c,1)),at_ X (tauL X es (c,2)),at_ X (tauL X es (c,3)),(cr X c).p⟩
def overA(X:List Cr)(a:Nat):Bool:=decide ((inP X a).2%2=1)&&decide ((outP X a).2%2=1)
def overB(X:List Cr)(a:Nat):Bool:=(!decide ((inP X a).2%2=1)) && !decide ((outP X a).2%2=1)
def slidesB(X:List Cr)(f:List Dt):Bool:=
 decide (f.length=3)&&decide ((f.map fun d=>(head X (d.1,!d.2)).1).Nodup)&&decide (f.countP (fun d=>overA X d.1)=1)&&decide (f.countP (fun d=>overB X d.1)=1)
theorem acr_acr{p:Pl}(h:p.2<4):acr (acr p)=p:=Prod.ext rfl (by unfold acr;simp only;omega)
section
variable {X:List Cr}
theorem tauL_eq:∀{es:List Nat} {e:Nat} {p:Pl},e∈es→onE X e p→(∀e'∈es,onE X e' p→e'=e)→tauL X es p=tau1 X e p
 |[],_,_,h,_,_=>by cases h
 |a :: es,e,p,h,k,u=>by
  unfold tauL
  by_cases c:onE X a p
  · rw[if_pos c,u a (by simp) c]
  · rw[if_neg c]
    refine tauL_eq ((List.mem_cons.1 h).resolve_left fun q=>c (q ▸ k)) k fun e' he'=>u e' (by simp[he'])
theorem tauL_out:∀{es:List Nat} {p:Pl},(∀e∈es,¬onE X e p)→tauL X es p=p
 |[],_,_=>rfl
 |a :: es,p,u=>by
  unfold tauL
  rw[if_neg (u a (by simp)),tauL_out fun e he=>u e (by simp[he])]
theorem slideL_len(X:List Cr)(es:List Nat):(slideL X es).length=X.length:=by simp[slideL]
theorem slideL_cr{es:List Nat}{c:Nat}(hc:c<X.length):cr (slideL X es) c=⟨at_ X (tauL X es (c,0)),at_ X (tauL X es (c,1)),at_ X (tauL X es (c,2)),at_ X (tauL X es (c,3)),(cr X c).p⟩:=by
 unfold cr slideL
 rw[List.getD_eq_getElem?_getD,List.getElem?_map,List.getElem?_range hc];rfl
theorem slideL_isPl{es:List Nat}{p:Pl}:isPl (slideL X es) p↔isPl X p:=by unfold isPl;rw[slideL_len]
theorem slideL_at{es:List Nat}{p:Pl}(hp:isPl X p):at_ (slideL X es) p=at_ X (tauL X es p):=by
 obtain⟨c,s⟩:=p;have hc:c<X.length:=hp.1;have hs:s<4:=hp.2
 show (cr (slideL X es) c).arc s=_
 rw[slideL_cr hc]
 match s,hs with
 |0,_=>rfl
 |1,_=>rfl
 |2,_=>rfl
 |3,_=>rfl
theorem slideL_cm{es:List Nat}{p:Pl}(hp:isPl X p):cm (slideL X es) p=cm X p:=by
 unfold cm Cr.comes;rw[slideL_cr hp.1]
end

structure Tri(X:List Cr)(D:Nat→Dt):Prop where
 ok:Ok X
 arc:∀i,isArc X (D i).1
 nx:∀i,left X (D i)=D (i+1)
 per:∀i,D (i+3)=D i
 ne:∀i,(head X (D i)).1≠(head X (D (i+1))).1
def triP(X:List Cr)(D:Nat→Dt)(i k:Nat):Pl:=((head X (D i)).1,((head X (D i)).2+k)%4)
section
variable {X:List Cr} {D:Nat→Dt}
theorem Tri.pl(h:Tri X D)(i k:Nat):isPl X (triP X D i k):=isPl_turn (h.ok.isPl_head (h.arc i)) k
theorem Tri.mul(h:Tri X D)(i:Nat):∀m,D (i+3*m)=D i
 |0=>rfl
 |m+1=>by rw[show i+3*(m+1)=i+3*m+3 by omega,h.per,h.mul i m]
theorem Tri.mod(h:Tri X D){i j:Nat}(e:i%3=j%3):D i=D j:=by
 have h1:=h.mul (i%3) (i / 3);have h2:=h.mul (j%3) (j / 3);rw[show i%3+3*(i / 3)=i by omega]at h1;rw[show j%3+3*(j / 3)=j by omega]at h2;rw[h1,h2,e]
theorem Tri.pmod(h:Tri X D){i j k l:Nat}(e:i%3=j%3)(e':k%4=l%4):triP X D i k=triP X D j l:=by
 unfold triP;rw[h.mod e]
 exact Prod.ext rfl (by simp only;omega)
theorem Tri.apart(h:Tri X D){i j:Nat}(e:(head X (D i)).1=(head X (D j)).1):i%3=j%3:=by
 have key:∀i,(head X (D i)).1≠(head X (D (i+2))).1:=fun i e=>by
  have:=h.ne (i+2);rw[show i+2+1=i+3 by omega,h.per]at this
  exact this e.symm
 have c:i%3=j%3∨(i+1)%3=j%3∨(i+2)%3=j%3:=by omega
 rcases c with c|c|c
 · exact c
 · rw[←h.mod c]at e;exact absurd e (h.ne i)
 · rw[←h.mod c]at e;exact absurd e (key i)
theorem Tri.pinj(h:Tri X D){i j k l:Nat}(e:triP X D i k=triP X D j l):i%3=j%3∧k%4=l%4:=by
 unfold triP at e
 injection e with e1 e2
 have:=h.apart e1;rw[h.mod this]at e2
 exact⟨this,by omega⟩
theorem Tri.head0(h:Tri X D)(i:Nat):triP X D i 0=head X (D i):=Prod.ext rfl (Nat.mod_eq_of_lt (h.ok.isPl_head (h.arc i)).2)
theorem Tri.other3(h:Tri X D)(i:Nat):other X (triP X D i 3)=triP X D (i+1) 0:=by
 rw[h.head0,←h.nx]
 rfl
theorem Tri.other0(h:Tri X D)(i:Nat):other X (triP X D i 0)=triP X D (i+2) 3:=by
 have:=h.other3 (i+2);rw[h.pmod (i:=i+2+1) (j:=i) (k:=0) (l:=0) (by omega) rfl]at this;rw[←this,h.ok.other_other (h.pl _ _)]
theorem Tri.up(i k:Nat):Kn.up (triP X D i k)=triP X D i (k+1):=Prod.ext rfl (by unfold Kn.up triP;simp only;omega)
theorem Tri.acr'(i k:Nat):acr (triP X D i k)=triP X D i (k+2):=Prod.ext rfl (by unfold acr triP;simp only;omega)
theorem Tri.place(h:Tri X D){p:Pl}(hp:p.2<4){i:Nat}(e:p.1=(head X (D i)).1):∃k,k<4∧p=triP X D i k:=by
 have:=(h.ok.isPl_head (h.arc i)).2
 exact⟨(p.2+4-(head X (D i)).2)%4,Nat.mod_lt _ (by omega),Prod.ext e (by unfold triP;simp only;omega)⟩
theorem Tri.ends(h:Tri X D)(i:Nat):(inP X (D i).1=triP X D i 0∧outP X (D i).1=triP X D (i+2) 3)∨(inP X (D i).1=triP X D (i+2) 3∧outP X (D i).1=triP X D i 0):=by
 have h0:=h.head0 i;have h1:=h.other0 i
 unfold other at h1
 rw[h0]at h1;have ha:=h.arc i;have e1:head X (D i)=endP X (!(D i).2) (D i).1:=rfl;rw[e1,h.ok.cm_end ha,h.ok.arc_end ha,Bool.not_not]at h1;rw[e1]at h0
 unfold inP outP
 unfold endP at h0 h1
 cases hb:(D i).2 with
 |false=>rw[hb]at h0 h1;exact .inl ⟨h0.symm,h1⟩
 |true=>rw[hb]at h0 h1;exact .inr ⟨h1,h0.symm⟩
theorem Tri.on(h:Tri X D)(i:Nat){p:Pl}:onE X (D i).1 p↔p=triP X D i 0∨p=triP X D i 2∨p=triP X D (i+2) 1∨p=triP X D (i+2) 3:=by
 have e5:triP X D (i+2) (3+2)=triP X D (i+2) 1:=h.pmod rfl (by omega)
 unfold onE
 rcases h.ends i with⟨e1,e2⟩|⟨e1,e2⟩<;>rw[e1,e2,Tri.acr',Tri.acr',e5]
 constructor
 · rintro(a|a|a|a)
   · exact .inr (.inr (.inr a))
   · exact .inr (.inr (.inl a))
   · exact .inr (.inl a)
   · exact .inl a
 · rintro(a|a|a|a)
   · exact .inr (.inr (.inr a))
   · exact .inr (.inr (.inl a))
   · exact .inr (.inl a)
   · exact .inl a
theorem Tri.tau(h:Tri X D)(i:Nat):tau1 X (D i).1 (triP X D i 0)=triP X D (i+2) 1∧tau1 X (D i).1 (triP X D i 2)=triP X D (i+2) 3∧tau1 X (D i).1 (triP X D (i+2) 1)=triP X D i 0∧tau1 X (D i).1 (triP X D (i+2) 3)=triP X D i 2:=by
 have e5:triP X D (i+2) (3+2)=triP X D (i+2) 1:=h.pmod rfl (by omega)
 have n:∀{i j k l},(i%3≠j%3∨k%4≠l%4)→triP X D i k≠triP X D j l:=fun c e=>by
  have:=h.pinj e;omega
 unfold tau1
 rcases h.ends i with⟨e1,e2⟩|⟨e1,e2⟩<;>rw[e1,e2,Tri.acr',Tri.acr',e5]
 · refine⟨if_pos rfl,?_,?_,?_⟩
   · rw[if_neg (n (by omega)),if_pos rfl]
   · rw[if_neg (n (by omega)),if_neg (n (by omega)),if_pos rfl]
   · rw[if_neg (n (by omega)),if_neg (n (by omega)),if_neg (n (by omega))]
 · refine⟨?_,?_,?_,if_pos rfl⟩
   · rw[if_neg (n (by omega)),if_neg (n (by omega)),if_neg (n (by omega))]
   · rw[if_neg (n (by omega)),if_neg (n (by omega)),if_pos rfl]
   · rw[if_neg (n (by omega)),if_pos rfl]
theorem Tri.uniq(h:Tri X D){i j:Nat}{p:Pl}(h1:onE X (D i).1 p)(h2:onE X (D j).1 p):i%3=j%3:=by
 rw[h.on]at h1 h2
 rcases h1 with e|e|e|e<;>rcases h2 with k|k|k|k<;>(have:=h.pinj (e.symm.trans k);omega)
end
def IsEs(D:Nat→Dt)(es:List Nat):Prop:=∀e,e∈es↔∃i,e=(D i).1
section
variable {X:List Cr} {D:Nat→Dt} {es:List Nat}
theorem Tri.tauL1(h:Tri X D)(he:IsEs D es)(i:Nat){p:Pl}(hp:onE X (D i).1 p):tauL X es p=tau1 X (D i).1 p:=
 tauL_eq ((he _).2 ⟨i,rfl⟩) hp fun e' he' k=>by
  obtain⟨j,rfl⟩:=(he e').1 he';rw[h.mod (h.uniq k hp)]
theorem Tri.t0(h:Tri X D)(he:IsEs D es)(i:Nat):tauL X es (triP X D i 0)=triP X D (i+2) 1:=by
 rw[h.tauL1 he i ((h.on i).2 (.inl rfl))];exact(h.tau i).1
theorem Tri.t2(h:Tri X D)(he:IsEs D es)(i:Nat):tauL X es (triP X D i 2)=triP X D (i+2) 3:=by
 rw[h.tauL1 he i ((h.on i).2 (.inr (.inl rfl)))];exact(h.tau i).2.1
theorem Tri.t1(h:Tri X D)(he:IsEs D es)(i:Nat):tauL X es (triP X D i 1)=triP X D (i+1) 0:=by
 have e:triP X D i 1=triP X D (i+1+2) 1:=h.pmod (by omega) rfl
 rw[e,h.tauL1 he (i+1) ((h.on _).2 (.inr (.inr (.inl rfl))))];exact(h.tau (i+1)).2.2.1
theorem Tri.t3(h:Tri X D)(he:IsEs D es)(i:Nat):tauL X es (triP X D i 3)=triP X D (i+1) 2:=by
 have e:triP X D i 3=triP X D (i+1+2) 3:=h.pmod (by omega) rfl
 rw[e,h.tauL1 he (i+1) ((h.on _).2 (.inr (.inr (.inr rfl))))];exact(h.tau (i+1)).2.2.2
theorem Tri.tx(h:Tri X D)(he:IsEs D es){p:Pl}(hp:∀i,p.1≠(head X (D i)).1):tauL X es p=p:=
 tauL_out fun e k o=>by
  obtain⟨i,rfl⟩:=(he e).1 k;rw[h.on]at o
  rcases o with o|o|o|o
  · exact hp i (by rw[o];rfl)
  · exact hp i (by rw[o];rfl)
  · exact hp (i+2) (by rw[o];rfl)
  · exact hp (i+2) (by rw[o];rfl)
theorem Tri.any(h:Tri X D){p:Pl}(hp:p.2<4):(∃i,p=triP X D i 0∨p=triP X D i 1∨p=triP X D i 2∨p=triP X D i 3)∨∀i,p.1≠(head X (D i)).1:=by
 by_cases c:∃i,p.1=(head X (D i)).1
 · obtain⟨i,e⟩:=c
   obtain⟨k,hk,e⟩:=h.place hp e
   left
   refine⟨i,?_⟩
   have:k=0∨k=1∨k=2∨k=3:=by omega
   rcases this with rfl|rfl|rfl|rfl
   · exact .inl e
   · exact .inr (.inl e)
   · exact .inr (.inr (.inl e))
   · exact .inr (.inr (.inr e))
 · exact .inr fun i e=>c ⟨i,e⟩
theorem Tri.tau_pl(h:Tri X D)(he:IsEs D es){p:Pl}(hp:isPl X p):isPl X (tauL X es p):=by
 rcases h.any hp.2 with⟨i,rfl|rfl|rfl|rfl⟩|c
 · rw[h.t0 he];exact h.pl _ _
 · rw[h.t1 he];exact h.pl _ _
 · rw[h.t2 he];exact h.pl _ _
 · rw[h.t3 he];exact h.pl _ _
 · rw[h.tx he c];exact hp
theorem Tri.tau_tau(h:Tri X D)(he:IsEs D es){p:Pl}(hp:isPl X p):tauL X es (tauL X es p)=p:=by
 rcases h.any hp.2 with⟨i,rfl|rfl|rfl|rfl⟩|c
 · rw[h.t0 he,h.t1 he];exact h.pmod (by omega) rfl
 · rw[h.t1 he,h.t0 he];exact h.pmod (by omega) rfl
 · rw[h.t2 he,h.t3 he];exact h.pmod (by omega) rfl
 · rw[h.t3 he,h.t2 he];exact h.pmod (by omega) rfl
 · rw[h.tx he c,h.tx he c]
theorem Tri.cmo(h:Tri X D)(i:Nat):cm X (triP X D (i+2) 3)=!cm X (triP X D i 0):=by
 rw[←h.other0,h.ok.cm_other (h.pl _ _)]
theorem Tri.cmx(h:Tri X D)(i k:Nat):cm X (triP X D i (k+2))=!cm X (triP X D i k):=by
 have:=cm_opp (h.pl i k);rw[←this]
 congr 1
 exact Prod.ext rfl (by unfold triP;simp only;omega)
theorem Tri.tau_cm(h:Tri X D)(he:IsEs D es){p:Pl}(hp:isPl X p):cm X (tauL X es p)=cm X p:=by
 rcases h.any hp.2 with⟨i,rfl|rfl|rfl|rfl⟩|c
 · rw[h.t0 he]
   have h1:=h.cmo i;have h2:=h.cmx (i+2) 1;rw[h1]at h2
   simpa using h2.symm
 · rw[h.t1 he]
   have h1:=h.cmo (i+1);rw[h.pmod (i:=i+1+2) (j:=i) (k:=3) (l:=3) (by omega) rfl]at h1;have h2:=h.cmx i 1;rw[h1]at h2
   simpa using h2
 · rw[h.t2 he]
   have h1:=h.cmo i;have h2:=h.cmx i 0;rw[h1,h2]
 · rw[h.t3 he]
   have h1:=h.cmo (i+1);rw[h.pmod (i:=i+1+2) (j:=i) (k:=3) (l:=3) (by omega) rfl]at h1;have h2:=h.cmx (i+1) 0;rw[h1,h2]
 · rw[h.tx he c]
theorem Tri.okY(h:Tri X D)(he:IsEs D es):Ok (slideL X es):=by
 have hN:nArcs (slideL X es)=nArcs X:=by unfold nArcs;rw[slideL_len]
 refine ok_all (fun p hp=>?_) fun io b hb=>?_
 · have hp:=slideL_isPl.1 hp
   rw[slideL_at hp,hN]
   exact h.ok.rng _ (h.tau_pl he hp)
 · have hb:isArc X b:=⟨hb.1,hN ▸ hb.2⟩
   have hq:=h.ok.isPl_end (io:=io) hb;have ht:=h.tau_pl he hq
   refine⟨tauL X es (endP X io b),slideL_isPl.2 ht,?_,?_⟩
   · rw[slideL_cm ht,h.tau_cm he hq,h.ok.cm_end hb]
   · rw[slideL_at ht,h.tau_tau he hq,h.ok.at_end hb]
theorem Tri.otherY(h:Tri X D)(he:IsEs D es){p:Pl}(hp:isPl X p):other (slideL X es) p=tauL X es (other X (tauL X es p)):=by
 have hY:=h.okY he;have ht:=h.tau_pl he hp;have ho:=h.ok.isPl_other ht;have hq:=h.tau_pl he ho
 refine hY.other_of (slideL_isPl.2 hp) (slideL_isPl.2 hq) ?_ ?_
 · rw[slideL_cm hq,slideL_cm hp,h.tau_cm he ho,h.ok.cm_other ht,h.tau_cm he hp]
 · rw[slideL_at hq,slideL_at hp,h.tau_tau he ho,←h.ok.arcN_eq ho,h.ok.arc_other ht,h.ok.arcN_eq ht]
def turnD(D:Nat→Dt)(i:Nat):Dt:=((D i).1,!(D i).2)
theorem Tri.headY(h:Tri X D)(he:IsEs D es)(i:Nat):head (slideL X es) (turnD D i)=triP X D i 2:=by
 have hY:=h.okY he;have hp:=h.pl i 2
 have e1:cm (slideL X es) (triP X D i 2)=!(turnD D i).2:=by
  rw[slideL_cm hp,h.cmx i 0,h.head0]
  show (!cm X (endP X (!(D i).2) (D i).1))=!!(D i).2
  rw[h.ok.cm_end (h.arc i)]
 have e2:arcN (slideL X es) (triP X D i 2)=(turnD D i).1:=by
  unfold arcN
  rw[slideL_at hp,h.t2 he,←h.other0]
  show arcN X (other X (triP X D i 0))=(D i).1
  rw[h.ok.arc_other (h.pl _ _),h.head0]
  exact h.ok.arc_end (h.arc i)
 have:=hY.end_eq (slideL_isPl.2 hp);rw[e1,e2]at this
 exact this
theorem Tri.leftY(h:Tri X D)(he:IsEs D es)(i:Nat):left (slideL X es) (turnD D i)=turnD D (i+1):=by
 have hY:=h.okY he
 have harc:∀i,Kn.isArc (slideL X es) (turnD D i).1:=fun i=>by
  have:=h.arc i
  unfold Kn.isArc nArcs at this ⊢
  rw[slideL_len];exact this
 refine hY.dart_inj (hY.isArc_left (harc i)) (harc _) ?_
 congr 1
 show other (slideL X es) ((head (slideL X es) (turnD D i)).1,((head (slideL X es) (turnD D i)).2+3)%4)=_
 rw[h.headY he,h.headY he];have e:((triP X D i 2).1,((triP X D i 2).2+3)%4)=triP X D i 1:=Prod.ext rfl (by unfold triP;simp only;omega);rw[e,h.otherY he (h.pl _ _),h.t1 he,h.other0,h.t3 he]
 exact h.pmod (by omega) rfl
theorem Tri.back(h:Tri X D)(he:IsEs D es):Tri (slideL X es) (turnD D):=by
 refine⟨h.okY he,fun i=>?_,h.leftY he,fun i=>?_,fun i=>?_⟩
 · have:=h.arc i
   unfold Kn.isArc nArcs at this ⊢
   rw[slideL_len];exact this
 · unfold turnD;rw[h.per]
 · rw[h.headY he,h.headY he]
   exact h.ne i
theorem Tri.triY(h:Tri X D)(he:IsEs D es)(i k:Nat):triP (slideL X es) (turnD D) i k=triP X D i (k+2):=by
 show ((head (slideL X es) (turnD D i)).1,((head (slideL X es) (turnD D i)).2+k)%4)=_
 rw[h.headY he]
 exact Prod.ext rfl (by unfold triP;simp only;omega)
theorem Tri.again(h:Tri X D)(he:IsEs D es){es':List Nat}(he':IsEs D es'):slideL (slideL X es) es'=X:=by
 have hb:=h.back he;have hE:IsEs (turnD D) es':=he'
 refine list_cr (by rw[slideL_len,slideL_len]) fun c hc=>cr_ext (fun s hs=>?_) ?_
 · have hp:isPl X (c,s):=⟨hc,hs⟩
   show at_ (slideL (slideL X es) es') (c,s)=at_ X (c,s)
   have hq:isPl (slideL X es) (c,s):=slideL_isPl.2 hp;rw[slideL_at hq]
   have key:tauL (slideL X es) es' (c,s)=tauL X es (c,s):=by
    have m4:∀i k,triP X D i (k+4)=triP X D i k:=fun i k=>h.pmod rfl (by omega)
    have y:=fun i k=>h.triY he i k
    generalize (c,s)=p at hp hq
    rcases h.any hp.2 with⟨i,rfl|rfl|rfl|rfl⟩|q
    · have:=hb.t2 hE i
      rw[y,y,m4]at this;rw[this,h.t0 he]
      exact h.pmod rfl rfl
    · have:=hb.t3 hE i
      rw[y,y]at this;rw[h.pmod (i:=i) (j:=i) (k:=1) (l:=3+2) rfl rfl,this,←h.pmod (i:=i) (j:=i) (k:=1) (l:=3+2) rfl rfl,h.t1 he]
      exact h.pmod rfl rfl
    · have:=hb.t0 hE i
      rw[y,y]at this;rw[this,h.t2 he]
    · have:=hb.t1 hE i
      rw[y,y]at this;rw[this,h.t3 he]
    · rw[h.tx he q]
      refine hb.tx hE fun i=>?_
      rw[h.headY he]
      exact q i
   rw[key,slideL_at (h.tau_pl he hp),h.tau_tau he hp]
 · have e1:=slideL_cm (X:=slideL X es) (es:=es') (p:=(c,1)) ⟨by rw[slideL_len];exact hc,by show 1<4;omega⟩
   rw[slideL_cr (by rw[slideL_len];exact hc),slideL_cr hc]
end
end Go.Proofs.YtlicglicfijelaaGreat.Kn

namespace Go.Proofs.YtlicglicfijelaaGreat.Kn
section
variable {X:List Cr} {D:Nat→Dt} {es:List Nat}
theorem Tri.labels(h:Tri X D){L:Pl→Nat}(hL:∀p,isPl X p→L (other X p)=L (Kn.up p)):
 (∀i j,L (triP X D i 0)=L (triP X D j 0))∧∀i,L (triP X D i 3)=L (triP X D (i+1) 1):=by
 have step:∀i,L (triP X D (i+1) 0)=L (triP X D i 0):=fun i=>by
  have:=hL _ (h.pl i 3);rw[h.other3,Tri.up]at this;rw[this,h.pmod (i:=i) (j:=i) (k:=3+1) (l:=0) rfl rfl]
 have zero:∀i,L (triP X D i 0)=L (triP X D 0 0):=fun i=>by
  induction i with
  |zero=>rfl
  |succ i ih=>rw[step,ih]
 refine⟨fun i j=>(zero i).trans (zero j).symm,fun i=>?_⟩
 have:=hL _ (h.pl (i+1) 0);rw[h.other0,Tri.up]at this;rw[←this]
 congr 1
 exact h.pmod (by omega) rfl
def slG(X:List Cr)(D:Nat→Dt)(L:Pl→Nat)(i k:Nat):Nat:=
 if k=0 then L (triP X D (i+2) 1)else if k=1 then L (triP X D (i+2) 2)else if k=2 then L (triP X D i 0)else L (triP X D (i+1) 2)
theorem Tri.relabel(h:Tri X D)(L:Pl→Nat):∃M:Pl→Nat,(∀i k,k<4→M (triP X D i k)=slG X D L i k)∧∀p:Pl,(∀i,p.1≠(head X (D i)).1)→M p=L p:=by
 refine⟨fun p=>@dite _ (∃ik:Nat×Nat,ik.2<4∧p=triP X D ik.1 ik.2) (Classical.propDecidable _) (fun e=>slG X D L e.choose.1 e.choose.2) (fun _=>L p),fun i k hk=>?_,fun p hp=>?_⟩
 · have e:∃ik:Nat×Nat,ik.2<4∧triP X D i k=triP X D ik.1 ik.2:=⟨(i,k),hk,rfl⟩
   show @dite _ _ (Classical.propDecidable _) _ _=_
   rw[dif_pos e];have h1:=e.choose_spec.1;obtain⟨h2,h3⟩:=h.pinj e.choose_spec.2;generalize e.choose=q at h1 h2 h3;obtain⟨j,l⟩:=q
   obtain rfl:l=k:=by simp only at h1 h3;omega
   simp only at h2 ⊢
   have m:∀a b,triP X D (j+a) b=triP X D (i+a) b:=fun a b=>h.pmod (by omega) rfl
   have m0:=m 0
   unfold slG
   rw[m,m,m];simp only[Nat.add_zero]at m0;rw[m0]
 · show @dite _ _ (Classical.propDecidable _) _ _=_
   rw[dif_neg];rintro⟨⟨i,k⟩,_,rfl⟩
   exact hp i rfl
theorem Tri.planar(h:Tri X D)(he:IsEs D es)(hp:planarB X=true):planarB (slideL X es)=true:=by
 have hY:=h.okY he;obtain⟨L,vs,hL,hn,hlen,hv⟩:=h.ok.face_lab;obtain⟨M,hM,hMx⟩:=h.relabel L;obtain⟨hT,hE⟩:=h.labels hL
 have oc:∀{p:Pl},(∀i,p.1≠(head X (D i)).1)→∀i,(Kn.up p).1≠(head X (D i)).1:=fun hp=>hp
 have key:∀w,isPl X w→(∀i,w≠triP X D i 0)→(∀i,w≠triP X D i 3)→M (tauL X es w)=L w∧M (Kn.up (tauL X es w))=L (Kn.up w):=fun w hw n0 n3=>by
  rcases h.any hw.2 with⟨i,e|e|e|e⟩|c
  · exact absurd e (n0 i)
  · subst e
    rw[h.t1 he,Tri.up,Tri.up,hM _ _ (by omega),hM _ _ (by omega)]
    unfold slG
    simp only[if_true,if_neg (show ¬(0+1=0)by omega)]
    refine⟨congrArg L (h.pmod (by omega) rfl),congrArg L (h.pmod (by omega) rfl)⟩
  · subst e
    rw[h.t2 he,Tri.up,Tri.up,hM _ _ (by omega),h.pmod (i:=i+2) (j:=i+2) (k:=3+1) (l:=0) rfl rfl,hM _ _ (by omega)]
    unfold slG
    simp only[if_true,if_neg (show ¬(3=0)by omega),if_neg (show ¬(3=1)by omega),if_neg (show ¬(3=2)by omega)]
    refine⟨congrArg L (h.pmod (by omega) rfl),?_⟩
    rw[hE]
    exact congrArg L (h.pmod (by omega) rfl)
  · exact absurd e (n3 i)
  · rw[h.tx he c]
    exact⟨hMx w c,hMx _ (oc c)⟩
 have hF:=hY.faces_ge (L:=M) (fun p hp=>?_) hn fun v hv'=>?_
 · rw[hlen]at hF
   refine h.ok.planar_of hY hp (k:=0) (f:=0) (c:=0) (slideL_len X es) hF (h.ok.pieces_le hY (by rw[slideL_len];exact Nat.le_refl _) (fun p hp=>?_) (es:=[]) fun p hp hge=>absurd hp.1 (by rw[slideL_len];omega)) (by omega)
   have isY:∀i k,isPl (slideL X es) (triP X D i k):=fun i k=>slideL_isPl.2 (h.pl i k)
   have rnd:∀i k l,Ln (slideL X es) (triP X D i k) (triP X D i l):=fun i k l=>Ln.round (isY i k) (h.pl i l).2 rfl
   have nxt:∀i k l,Ln (slideL X es) (triP X D i k) (triP X D (i+1) l):=fun i k l=>by
    have h1:=hY.ln_other (isY i 1);rw[h.otherY he (h.pl _ _),h.t1 he,h.other0,h.t3 he,h.pmod (i:=i+1+2+1) (j:=i+1) (k:=2) (l:=2) (by omega) rfl]at h1
    exact(rnd i k 1).trans (h1.trans (rnd (i+1) 2 l))
   have tau:∀w,isPl X w→Ln (slideL X es) w (tauL X es w):=fun w hw=>by
    rcases h.any hw.2 with⟨i,rfl|rfl|rfl|rfl⟩|c
    · rw[h.t0 he];exact(nxt i 0 1).trans (nxt (i+1) 1 1)
    · rw[h.t1 he];exact nxt i 1 0
    · rw[h.t2 he];exact(nxt i 2 1).trans (nxt (i+1) 1 3)
    · rw[h.t3 he];exact nxt i 3 2
    · rw[h.tx he c];exact Ln.refl _
   have ht:=h.tau_pl he hp;have ho:=hY.ln_other (slideL_isPl.2 ht);rw[h.otherY he ht,h.tau_tau he hp]at ho
   exact(tau p hp).trans (ho.trans (tau _ (h.ok.isPl_other hp)).symm)
 · have hp:=slideL_isPl.1 hp
   have hw:=h.tau_pl he hp;rw[h.otherY he hp];have e:=h.tau_tau he hp;generalize tauL X es p=w at hw e ⊢;rw[←e]
   by_cases c0:∃i,w=triP X D i 0
   · obtain⟨i,rfl⟩:=c0
     rw[h.other0,h.t3 he,h.t0 he,Tri.up,hM _ _ (by omega),hM _ _ (by omega)]
     unfold slG
     simp only[if_neg (show ¬(2=0)by omega),if_neg (show ¬(2=1)by omega),if_true,if_neg (show ¬(1+1=0)by omega),if_neg (show ¬(1+1=1)by omega)]
     exact hT _ _
   · by_cases c3:∃i,w=triP X D i 3
     · obtain⟨i,rfl⟩:=c3
       rw[h.other3,h.t0 he,h.t3 he,Tri.up,hM _ _ (by omega),hM _ _ (by omega)]
       unfold slG
       simp only[if_neg (show ¬(1=0)by omega),if_true,if_neg (show ¬(2+1=0)by omega),if_neg (show ¬(2+1=1)by omega),if_neg (show ¬(2+1=2)by omega)]
       exact congrArg L (h.pmod (by omega) rfl)
     · have n0:∀i,w≠triP X D i 0:=fun i e=>c0 ⟨i,e⟩
       have n3:∀i,w≠triP X D i 3:=fun i e=>c3 ⟨i,e⟩
       have ho:=h.ok.isPl_other hw
       have o0:∀i,other X w≠triP X D i 0:=fun i e=>n3 (i+2) (by
        rw[←h.ok.other_other hw,e,h.other0])
       have o3:∀i,other X w≠triP X D i 3:=fun i e=>n0 (i+1) (by
        rw[←h.ok.other_other hw,e,h.other3])
       rw[(key _ ho o0 o3).1,(key w hw n0 n3).2,hL w hw]
 · obtain⟨_,q,hq,e⟩:=hv v hv'
   rcases h.any hq.2 with⟨i,rfl|rfl|rfl|rfl⟩|c
   · refine⟨triP X D i 2,slideL_isPl.2 (h.pl _ _),?_⟩
     rw[hM _ _ (by omega),←e];rfl
   · refine⟨triP X D (i+1) 0,slideL_isPl.2 (h.pl _ _),?_⟩
     rw[hM _ _ (by omega),←e]
     exact congrArg L (h.pmod (by omega) rfl)
   · refine⟨triP X D (i+1) 1,slideL_isPl.2 (h.pl _ _),?_⟩
     rw[hM _ _ (by omega),←e]
     exact congrArg L (h.pmod (by omega) rfl)
   · refine⟨triP X D (i+2) 0,slideL_isPl.2 (h.pl _ _),?_⟩
     rw[hM _ _ (by omega),←e,hE]
     exact congrArg L (h.pmod (by omega) rfl)
   · exact⟨q,slideL_isPl.2 hq,(hMx q c).trans e⟩

def cyc(d e g:Dt)(i:Nat):Dt:=if i%3=0 then d else if i%3=1 then e else g
theorem slides_tri(hX:Ok X){f:List Dt}(hf:f∈facesL X)(hs:slidesB X f=true):∃D,Tri X D∧IsEs D (f.map (·.1))∧∀d,d∈f↔∃i,d=D i:=by
 unfold slidesB at hs
 simp only[Bool.and_eq_true,decide_eq_true_eq]at hs;obtain⟨⟨⟨h1,h2⟩,_⟩,_⟩:=hs
 obtain⟨d,e,g,rfl⟩:∃d e g,f=[d,e,g]:=by
  match f,h1 with
  |[d,e,g],_=>exact⟨d,e,g,rfl⟩
 obtain⟨a1,a2,a3,l1,l2,l3⟩:=hX.face_three hf
 have tl:∀{d:Dt},Kn.isArc X d.1→head X ((left X d).1,!(left X d).2)=((head X d).1,((head X d).2+3)%4):=fun {d} hd=>by
  have hq:isPl X ((head X d).1,((head X d).2+3)%4):=isPl_turn (hX.isPl_head hd) 3;have:=hX.end_eq hq
  show endP X (!!(cm X ((head X d).1,((head X d).2+3)%4))) (arcN X ((head X d).1,((head X d).2+3)%4))=_
  rw[Bool.not_not];exact this
 have t1:=tl a1;have t2:=tl a2;have t3:=tl a3;rw[l1]at t1;rw[l2]at t2;rw[l3]at t3;simp only[List.map_cons,List.map_nil,t1,t2,t3,List.nodup_cons,List.mem_cons,List.not_mem_nil,or_false,not_or,List.nodup_nil,and_true,not_false_eq_true]at h2
 have three:∀i:Nat,i%3=0∨i%3=1∨i%3=2:=fun i=>by omega
 have c0:∀{i},i%3=0→cyc d e g i=d:=fun h=>by unfold cyc;rw[if_pos h]
 have c1:∀{i},i%3=1→cyc d e g i=e:=fun h=>by unfold cyc;rw[if_neg (by omega),if_pos h]
 have c2:∀{i},i%3=2→cyc d e g i=g:=fun h=>by unfold cyc;rw[if_neg (by omega),if_neg (by omega)]
 have mem:∀x,x∈[d,e,g]↔∃i,x=cyc d e g i:=fun x=>by
  simp only[List.mem_cons,List.not_mem_nil,or_false]
  constructor
  · rintro(rfl|rfl|rfl)
    · exact⟨0,rfl⟩
    · exact⟨1,rfl⟩
    · exact⟨2,rfl⟩
  · rintro⟨i,rfl⟩
    rcases three i with c|c|c
    · exact .inl (c0 c)
    · exact .inr (.inl (c1 c))
    · exact .inr (.inr (c2 c))
 refine⟨cyc d e g,⟨hX,fun i=>?_,fun i=>?_,fun i=>?_,fun i=>?_⟩,fun x=>?_,mem⟩
 · rcases three i with c|c|c
   · rw[c0 c];exact a1
   · rw[c1 c];exact a2
   · rw[c2 c];exact a3
 · rcases three i with c|c|c
   · rw[c0 c,c1 (by omega),l1]
   · rw[c1 c,c2 (by omega),l2]
   · rw[c2 c,c0 (by omega),l3]
 · unfold cyc;rw[show (i+3)%3=i%3 by omega]
 · rcases three i with c|c|c
   · rw[c0 c,c1 (by omega)];exact fun k=>h2.2 k
   · rw[c1 c,c2 (by omega)];exact fun k=>h2.1.2 k.symm
   · rw[c2 c,c0 (by omega)];exact h2.1.1
 · rw[List.mem_map]
   constructor
   · rintro⟨y,hy,rfl⟩
     obtain⟨i,rfl⟩:=(mem y).1 hy
     exact⟨i,rfl⟩
   · rintro⟨i,rfl⟩
     exact⟨cyc d e g i,(mem _).2 ⟨i,rfl⟩,rfl⟩
end
end Go.Proofs.YtlicglicfijelaaGreat.Kn

namespace Go.Proofs.YtlicglicfijelaaGreat.Kn
section
variable {X:List Cr} {D:Nat→Dt} {es:List Nat}
theorem Tri.dinj(h:Tri X D){i j:Nat}(e:D i=D j):i%3=j%3:=h.apart (by rw[e])
theorem Tri.perm(h:Tri X D){f:List Dt}(hn:f.Nodup)(hm:∀d,d∈f↔∃i,d=D i):f.Perm [D 0,D 1,D 2]:=by
 have n01:D 0≠D 1:=fun e=>by have:=h.dinj e;omega
 have n02:D 0≠D 2:=fun e=>by have:=h.dinj e;omega
 have n12:D 1≠D 2:=fun e=>by have:=h.dinj e;omega
 refine(List.perm_ext_iff_of_nodup hn (by simp[n01,n02,n12])).2 fun d=>?_
 rw[hm];simp only[List.mem_cons,List.not_mem_nil,or_false]
 constructor
 · rintro⟨i,rfl⟩
   have c:i%3=0∨i%3=1∨i%3=2:=by omega
   rcases c with c|c|c
   · exact .inl (h.mod (by omega))
   · exact .inr (.inl (h.mod (by omega)))
   · exact .inr (.inr (h.mod (by omega)))
 · rintro(rfl|rfl|rfl)
   · exact⟨0,rfl⟩
   · exact⟨1,rfl⟩
   · exact⟨2,rfl⟩
theorem Tri.tail(h:Tri X D)(i:Nat):head X ((D i).1,!(D i).2)=triP X D (i+2) 3:=by
 have h0:=h.other0 i;rw[h.head0]at h0;rw[←h0]
 show endP X (!(!(D i).2)) (D i).1=endP X (!cm X (endP X (!(D i).2) (D i).1)) (arcN X (endP X (!(D i).2) (D i).1))
 rw[h.ok.cm_end (h.arc i),h.ok.arc_end (h.arc i)]
theorem Tri.overs(h:Tri X D)(he:IsEs D es)(i:Nat):overA (slideL X es) (D i).1=overA X (D i).1∧overB (slideL X es) (D i).1=overB X (D i).1:=by
 have hb:=h.back he
 have y:=fun i k=>h.triY he i k
 have m:∀i k,(triP X D i (k+2)).2%2=(triP X D i k).2%2:=fun i k=>by unfold triP;simp only;omega
 have e1:=h.ends i;have e2:=hb.ends i;rw[y,y]at e2;have d1:(turnD D i).1=(D i).1:=rfl;rw[d1]at e2;have hin:=h.arc i;have c1:=h.ok.cm_end (io:=true) hin;have c2:=hb.ok.cm_end (io:=true) (hb.arc i);have i1:endP X true (D i).1=inP X (D i).1:=rfl;have i2:endP (slideL X es) true (turnD D i).1=inP (slideL X es) (D i).1:=rfl;rw[i1]at c1;rw[i2]at c2
 unfold overA overB
 rcases e1 with⟨a,b⟩|⟨a,b⟩<;>rcases e2 with⟨a',b'⟩|⟨a',b'⟩
 · rw[a]at c1
   rw[a',slideL_cm (h.pl _ _),h.cmx,c1]at c2
   cases c2
 · rw[a,b,a',b',m i 0,m (i+2) 3]
   exact⟨Bool.and_comm _ _,Bool.and_comm _ _⟩
 · rw[a,b,a',b',m i 0,m (i+2) 3]
   exact⟨Bool.and_comm _ _,Bool.and_comm _ _⟩
 · rw[a]at c1
   rw[a',slideL_cm (h.pl _ _),h.cmx,c1]at c2
   cases c2
theorem slide_back(hX:Ok X){f:List Dt}(hf:f∈facesL X)(hs:slidesB X f=true):
 Ok (slideL X (f.map (·.1)))∧(planarB X=true→planarB (slideL X (f.map (·.1)))=true) ∧
 ∃f'∈facesL (slideL X (f.map (·.1))),slidesB (slideL X (f.map (·.1))) f'=true∧(∀d∈f',∃e∈f,e.1=d.1)∧slideL (slideL X (f.map (·.1))) (f'.map (·.1))=X:=by
 obtain⟨D,h,he,hm⟩:=slides_tri hX hf hs;have hb:=h.back he;obtain⟨f',hf',hn',hm'⟩:=hb.ok.face_ring hb.arc hb.nx;have P:=h.perm (hX.face_nodup hf) hm;have P':=hb.perm hn' hm'
 refine⟨h.okY he,h.planar he,f',hf',?_,fun d hd=>?_,?_⟩
 · unfold slidesB at hs ⊢
   simp only[Bool.and_eq_true,decide_eq_true_eq]at hs ⊢;obtain⟨⟨⟨_,_⟩,h3⟩,h4⟩:=hs
   refine⟨⟨⟨P'.length_eq,?_⟩,?_⟩,?_⟩
   · rw[(P'.map _).nodup_iff]
     have t:=fun i=>hb.tail i
     have c:∀i,(triP (slideL X (f.map (·.1))) (turnD D) i 3).1=(head X (D i)).1:=fun i=>by rw[h.triY he];rfl
     simp only[List.map_cons,List.map_nil,t,c]
     have n:∀i j,i%3≠j%3→(head X (D i)).1≠(head X (D j)).1:=fun i j k e=>k (h.apart e)
     simp only[List.nodup_cons,List.mem_cons,List.not_mem_nil,or_false,not_or,List.nodup_nil,and_true,not_false_eq_true]
     exact⟨⟨n _ _ (by omega),n _ _ (by omega)⟩,n _ _ (by omega)⟩
   · rw[P'.countP_eq]
     rw[P.countP_eq]at h3
     refine Eq.trans ?_ h3
     have:=fun i=>(h.overs he i).1
     simp only[List.countP_cons,List.countP_nil,turnD,this]
   · rw[P'.countP_eq]
     rw[P.countP_eq]at h4
     refine Eq.trans ?_ h4
     have:=fun i=>(h.overs he i).2
     simp only[List.countP_cons,List.countP_nil,turnD,this]
 · obtain⟨i,rfl⟩:=(hm' d).1 hd
   exact⟨D i,(hm _).2 ⟨i,rfl⟩,rfl⟩
 · refine h.again he fun e=>?_
   rw[List.mem_map]
   constructor
   · rintro⟨d,hd,rfl⟩
     obtain⟨i,rfl⟩:=(hm' d).1 hd
     exact⟨i,rfl⟩
   · rintro⟨i,rfl⟩
     exact⟨_,(hm' _).2 ⟨i,rfl⟩,rfl⟩
end
end Go.Proofs.YtlicglicfijelaaGreat.Kn

namespace Go.Proofs.YtlicglicfijelaaGreat.Kn
def pushR(n a b c:Nat):Nat:=if c=n+1∨c=n+2 then a else if c=n+3∨c=n+4 then b else c
section
variable {X S:List Cr} {u v:Dt} {b0 b1:Nat}
theorem arcN_of{S:List Cr}{p:Pl}{v:Nat}(e:at_ S p=((v:Nat):Int)):arcN S p=v:=by unfold arcN;rw[e];rfl
theorem ray_acr{c b j:Nat}(hb:b<4):((rayP c b j).1,((rayP c b j).2+2)%4)=rayP c b (j+2):=Prod.ext rfl (by unfold rayP;simp only;omega)
theorem ray_mod{c b j:Nat}(hb:b<4):rayP c b (j+4)=rayP c b j:=Prod.ext rfl (by unfold rayP;simp only;omega)
theorem PushOf.back(h:PushOf X S u v b0 b1):Back X S (both X.length (X.length+1)) (pushR (nArcs X) u.1 v.1):=by
 have hS:=h.ok;have hN:=h.arcsEq;have hu2:=h.au.2;have hv2:=h.av.2;have l0:=h.lb0;have l1:=h.lb1
 obtain⟨N,hNd⟩:∃N,N=nArcs X:=⟨_,rfl⟩
 have ra:pushR N u.1 v.1 u.1=u.1:=by unfold pushR;rw[if_neg (by omega),if_neg (by omega)]
 have rb:pushR N u.1 v.1 v.1=v.1:=by unfold pushR;rw[if_neg (by omega),if_neg (by omega)]
 have r1:pushR N u.1 v.1 (N+1)=u.1:=by unfold pushR;rw[if_pos (by omega)]
 have r2:pushR N u.1 v.1 (N+2)=u.1:=by unfold pushR;rw[if_pos (by omega)]
 have r3:pushR N u.1 v.1 (N+3)=v.1:=by unfold pushR;rw[if_neg (by omega),if_pos (by omega)]
 have r4:pushR N u.1 v.1 (N+4)=v.1:=by unfold pushR;rw[if_neg (by omega),if_pos (by omega)]
 have n00:arcN S (rayP X.length b0 0)=N+3:=arcN_of (by rw[h.a00];omega);have n01:arcN S (rayP X.length b0 1)=N+1:=arcN_of (by rw[h.a01];omega)
 have n02:arcN S (rayP X.length b0 2)=if v.2 then v.1 else N+4:=arcN_of (by rw[h.a02];split<;>omega)
 have n03:arcN S (rayP X.length b0 3)=if u.2 then N+2 else u.1:=arcN_of (by rw[h.a03];split<;>omega)
 have n10:arcN S (rayP (X.length+1) b1 0)=if v.2 then N+4 else v.1:=arcN_of (by rw[h.a10];split<;>omega)
 have n11:arcN S (rayP (X.length+1) b1 1)=N+1:=arcN_of (by rw[h.a11];omega);have n12:arcN S (rayP (X.length+1) b1 2)=N+3:=arcN_of (by rw[h.a12];omega)
 have n13:arcN S (rayP (X.length+1) b1 3)=if u.2 then u.1 else N+2:=arcN_of (by rw[h.a13];split<;>omega)
 have e02:pushR N u.1 v.1 (if v.2 then v.1 else N+4)=v.1:=by split;exact rb;exact r4
 have e03:pushR N u.1 v.1 (if u.2 then N+2 else u.1)=u.1:=by split;exact r2;exact ra
 have e10:pushR N u.1 v.1 (if v.2 then N+4 else v.1)=v.1:=by split;exact r4;exact rb
 have e13:pushR N u.1 v.1 (if u.2 then u.1 else N+2)=u.1:=by split;exact ra;exact r2
 rw[←hNd]
 have g0:both X.length (X.length+1) X.length=true:=by simp
 have g1:both X.length (X.length+1) (X.length+1)=true:=by simp
 have lt0:X.length<S.length:=by rw[h.len];omega
 have lt1:X.length+1<S.length:=by rw[h.len];omega
 refine⟨h.okX,hS,by rw[h.len];omega,fun c hc=>?_,fun p hp=>?_,fun c hc=>?_,fun b hb=>?_,fun b=>?_,fun c s h1 h2 h3=>?_,fun b hb=>?_⟩
 · rw[h.len]at hc
   rw[Bool.eq_iff_iff]
   simp;omega
 · by_cases c:p=endP X true u.1
   · subst c
     rw[arcN_of (v:=N+2) (by rw[h.pu];omega),r2,h.okX.arc_end h.au]
   · by_cases c':p=endP X true v.1
     · subst c'
       rw[arcN_of (v:=N+4) (by rw[h.pv];omega),r4,h.okX.arc_end h.av]
     · have e:arcN S p=arcN X p:=by unfold arcN;rw[h.ax p hp c c']
       have:=(h.okX.isArc hp).2;rw[e]
       unfold pushR;rw[if_neg (by omega),if_neg (by omega)]
 · have:=h.cx (c,1) ⟨hc,by show 1<4;omega⟩
   unfold cm Cr.comes over at this
   revert this
   cases (cr S c).p<;>cases (cr X c).p<;>simp
 · unfold pushR;rw[if_neg (by omega),if_neg (by omega)]
 · unfold pushR;split
   · omega
   · split<;>omega
 · rw[h.len]at h2
   have c:c=X.length∨c=X.length+1:=by omega
   rcases c with rfl|rfl
   · rcases ray_any (p:=(X.length,s)) l0 h3 rfl with e|e|e|e
     · have e':((X.length,(s+2)%4):Pl)=rayP X.length b0 2:=by rw[←ray_acr l0,←e]
       rw[e,e',n00,n02,e02,r3]
     · have e':((X.length,(s+2)%4):Pl)=rayP X.length b0 3:=by rw[←ray_acr l0,←e]
       rw[e,e',n01,n03,e03,r1]
     · have e':((X.length,(s+2)%4):Pl)=rayP X.length b0 0:=by rw[←ray_mod l0 (j:=0),←ray_acr l0 (j:=2),←e]
       rw[e,e',n00,n02,e02,r3]
     · have e':((X.length,(s+2)%4):Pl)=rayP X.length b0 1:=by rw[←ray_mod l0 (j:=1),←ray_acr l0 (j:=3),←e]
       rw[e,e',n01,n03,e03,r1]
   · rcases ray_any (p:=(X.length+1,s)) l1 h3 rfl with e|e|e|e
     · have e':((X.length+1,(s+2)%4):Pl)=rayP (X.length+1) b1 2:=by rw[←ray_acr l1,←e]
       rw[e,e',n10,n12,e10,r3]
     · have e':((X.length+1,(s+2)%4):Pl)=rayP (X.length+1) b1 3:=by rw[←ray_acr l1,←e]
       rw[e,e',n11,n13,e13,r1]
     · have e':((X.length+1,(s+2)%4):Pl)=rayP (X.length+1) b1 0:=by rw[←ray_mod l1 (j:=0),←ray_acr l1 (j:=2),←e]
       rw[e,e',n10,n12,e10,r3]
     · have e':((X.length+1,(s+2)%4):Pl)=rayP (X.length+1) b1 1:=by rw[←ray_mod l1 (j:=1),←ray_acr l1 (j:=3),←e]
       rw[e,e',n11,n13,e13,r1]
 · have hE:=com_id_equiv (classE S (both X.length (X.length+1)) S.length)
   have t0:=fun j=>by
    have:=tied_all (X:=S) lt0 g0 (s:=(j+4-b0)%4) (Nat.mod_lt _ (by omega));have e:((X.length,((j+4-b0)%4+2)%4):Pl)=rayP X.length b0 (j+2):=ray_acr l0;rw[e]at this
    exact this
   have t1:=fun j=>by
    have:=tied_all (X:=S) lt1 g1 (s:=(j+4-b1)%4) (Nat.mod_lt _ (by omega));have e:((X.length+1,((j+4-b1)%4+2)%4):Pl)=rayP (X.length+1) b1 (j+2):=ray_acr l1;rw[e]at this
    exact this
   have t00:=t0 0;have t01:=t0 1;have t10:=t1 0;have t11:=t1 1;have s00:((X.length,(0+4-b0)%4):Pl)=rayP X.length b0 0:=rfl;have s01:((X.length,(1+4-b0)%4):Pl)=rayP X.length b0 1:=rfl;have s10:((X.length+1,(0+4-b1)%4):Pl)=rayP (X.length+1) b1 0:=rfl;have s11:((X.length+1,(1+4-b1)%4):Pl)=rayP (X.length+1) b1 1:=rfl;rw[s00,n00,show 0+2=2 from rfl,n02]at t00;rw[s01,n01,show 1+2=3 from rfl,n03]at t01;rw[s10,n10,show 0+2=2 from rfl,n12]at t10
   rw[s11,n11,show 1+2=3 from rfl,n13]at t11
   have k:com (fun x=>x) (classE S (both X.length (X.length+1)) S.length) (N+1) u.1∧com (fun x=>x) (classE S (both X.length (X.length+1)) S.length) (N+2) u.1:=by
    cases hu:u.2
    · rw[hu]at t01 t11
      exact⟨t01,hE.trans (hE.symm t11) t01⟩
    · rw[hu]at t01 t11
      exact⟨t11,hE.trans (hE.symm t01) t11⟩
   have k':com (fun x=>x) (classE S (both X.length (X.length+1)) S.length) (N+3) v.1∧com (fun x=>x) (classE S (both X.length (X.length+1)) S.length) (N+4) v.1:=by
    cases hv:v.2
    · rw[hv]at t00 t10
      exact⟨hE.symm t10,hE.trans (hE.symm t00) (hE.symm t10)⟩
    · rw[hv]at t00 t10
      exact⟨t00,hE.trans t10 t00⟩
   unfold pushR
   split
   · rename_i c
     rcases c with rfl|rfl
     · exact k.1
     · exact k.2
   · split
     · rename_i c
       rcases c with rfl|rfl
       · exact k'.1
       · exact k'.2
     · exact hE.refl b
theorem PushOf.take(h:PushOf X S u v b0 b1):takeL S (both X.length (X.length+1))=X∧takeN S (both X.length (X.length+1))=0:=by
 have hb:=h.back
 refine⟨hb.take,hb.none fun b hb=>?_⟩
 have hN:=h.arcsEq;have:=hb.2;have:=h.au.2;have:=h.av.2
 unfold pushR;split
 · omega
 · split<;>omega
theorem PushOf.bigon(h:PushOf X S u v b0 b1)(hb:b0%2=b1%2):∃f∈facesL S,∃d e,f=[d,e] ∧
 (((head S (d.1,!d.2)).1=X.length∧(head S (e.1,!e.2)).1=X.length+1)∨((head S (d.1,!d.2)).1=X.length+1∧(head S (e.1,!e.2)).1=X.length)) ∧
 ((overA S d.1&&overB S e.1)||(overB S d.1&&overA S e.1))=true:=by
 have hS:=h.ok;have l0:=h.lb0;have l1:=h.lb1;have hN:=h.arcsEq
 obtain⟨d,hd⟩:∃d:Dt,d=(nArcs X+1,!u.2):=⟨_,rfl⟩
 obtain⟨e,he⟩:∃e:Dt,e=(nArcs X+3,!v.2):=⟨_,rfl⟩
 have ad:Kn.isArc S d.1:=by rw[hd];exact⟨by simp only;omega,by simp only;omega⟩
 have ae:Kn.isArc S e.1:=by rw[he];exact⟨by simp only;omega,by simp only;omega⟩
 have n01:arcN S (rayP X.length b0 1)=nArcs X+1:=arcN_of (by rw[h.a01];omega);have n12:arcN S (rayP (X.length+1) b1 2)=nArcs X+3:=arcN_of (by rw[h.a12];omega)
 have hd1:head S d=rayP X.length b0 1:=by
  have:=hS.end_eq (h.pl0 1);rw[h.c01,n01]at this;rw[hd]
  show endP S (!!u.2) (nArcs X+1)=_
  rw[Bool.not_not];exact this
 have he1:head S e=rayP (X.length+1) b1 2:=by
  have:=hS.end_eq (h.pl1 2);rw[h.c12,n12]at this;rw[he]
  show endP S (!!v.2) (nArcs X+3)=_
  rw[Bool.not_not];exact this
 have td:head S (d.1,!d.2)=rayP (X.length+1) b1 1:=by
  rw[←h.o01,←hd1]
  show endP S (!!d.2) d.1=endP S (!cm S (endP S (!d.2) d.1)) (arcN S (endP S (!d.2) d.1))
  rw[hS.cm_end ad,hS.arc_end ad]
 have te:head S (e.1,!e.2)=rayP X.length b0 0:=by
  rw[←h.o12,←he1]
  show endP S (!!e.2) e.1=endP S (!cm S (endP S (!e.2) e.1)) (arcN S (endP S (!e.2) e.1))
  rw[hS.cm_end ae,hS.arc_end ae]
 have down:∀{c b j},b<4→((rayP c b (j+1)).1,((rayP c b (j+1)).2+3)%4)=rayP c b j:=fun {c b j} hb=>Prod.ext rfl (by unfold rayP;simp only;omega)
 have ld:left S d=e:=by
  refine hS.dart_inj (hS.isArc_left ad) ae ?_
  rw[←hS.fac_head ad,hd1,hS.fac_pk (h.pl0 1),down l0,h.o00,he1]
 have le:left S e=d:=by
  refine hS.dart_inj (hS.isArc_left ae) ad ?_
  rw[←hS.fac_head ae,he1,hS.fac_pk (h.pl1 2),down l1,h.o11,hd1]
 obtain⟨D,hD⟩:∃D:Nat→Dt,∀i,D i=if i%2=0 then d else e:=⟨_,fun _=>rfl⟩
 have c0:∀{i},i%2=0→D i=d:=fun k=>by rw[hD,if_pos k]
 have c1:∀{i},i%2=1→D i=e:=fun k=>by rw[hD,if_neg (by omega)]
 obtain⟨f,hf,hn,hm⟩:=hS.face_ring (D:=D) (fun i=>by
  rcases Nat.mod_two_eq_zero_or_one i with c|c
  · rw[c0 c];exact ad
  · rw[c1 c];exact ae) (fun i=>by
  rcases Nat.mod_two_eq_zero_or_one i with c|c
  · rw[c0 c,c1 (by omega)];exact ld
  · rw[c1 c,c0 (by omega)];exact le)
 have nde:d≠e:=fun k=>by
  have:d.1=e.1:=by rw[k]
  rw[hd,he]at this
  simp only at this;omega
 have P:f.Perm [d,e]:=(List.perm_ext_iff_of_nodup hn (by simp[nde])).2 fun x=>by
  rw[hm];simp only[List.mem_cons,List.not_mem_nil,or_false]
  constructor
  · rintro⟨i,rfl⟩
    rcases Nat.mod_two_eq_zero_or_one i with c|c
    · exact .inl (c0 c)
    · exact .inr (c1 c)
  · rintro(rfl|rfl)
    · exact⟨0,(c0 rfl).symm⟩
    · exact⟨1,(c1 rfl).symm⟩
 have ends:∀{p q:Pl} {a:Nat},isPl S p→arcN S p=a→other S p=q→(inP S a=p∧outP S a=q)∨(inP S a=q∧outP S a=p):=fun {p q a} hp ha ho=>by
  have e1:=hS.end_eq hp;have e2:=hS.end_eq (hS.isPl_other hp);rw[hS.cm_other hp,hS.arc_other hp,ha,ho]at e2;rw[ha]at e1
  cases hc:cm S p with
  |true=>rw[hc]at e1 e2;exact .inl ⟨e1,e2⟩
  |false=>rw[hc]at e1 e2;exact .inr ⟨e2,e1⟩
 have ed:=ends (h.pl0 1) n01 h.o01;have ee:=ends (h.pl1 2) n12 h.o12
 have pd:(rayP X.length b0 1).2%2=(rayP (X.length+1) b1 1).2%2:=by unfold rayP;simp only;omega
 have pe:(rayP (X.length+1) b1 2).2%2=(rayP X.length b0 0).2%2:=by unfold rayP;simp only;omega
 have px:((rayP X.length b0 1).2%2=1∧(rayP X.length b0 0).2%2=0)∨((rayP X.length b0 1).2%2=0∧(rayP X.length b0 0).2%2=1):=by unfold rayP;simp only;omega
 have hde:d.1=nArcs X+1:=by rw[hd]
 have hee:e.1=nArcs X+3:=by rw[he]
 have ov:((overA S d.1&&overB S e.1)||(overB S d.1&&overA S e.1))=true:=by
  rw[hde,hee]
  unfold overA overB
  rcases ed with⟨a,b⟩|⟨a,b⟩<;>rcases ee with⟨a',b'⟩|⟨a',b'⟩<;>rw[a,b,a',b',←pd,pe]<;>rcases px with⟨x,y⟩|⟨x,y⟩<;>rw[x,y]<;>rfl
 have ov':((overA S e.1&&overB S d.1)||(overB S e.1&&overA S d.1))=true:=by
  rw[←ov,Bool.and_comm (overA S e.1),Bool.and_comm (overB S e.1),Bool.or_comm]
 have c1d:(head S (d.1,!d.2)).1=X.length+1:=by rw[td];rfl
 have c1e:(head S (e.1,!e.2)).1=X.length:=by rw[te];rfl
 have hl:=P.length_eq
 match f,hl,hf,P with
 |[x,y],_,hf,P=>
  have hx:x=d∨x=e:=by simpa using P.mem_iff.1 (show x∈[x,y]by simp)
  have hy:y=d∨y=e:=by simpa using P.mem_iff.1 (show y∈[x,y]by simp)
  have hxy:x≠y:=by
   have:=P.nodup_iff.2 (by simp[nde])
   simpa using this
  rcases hx with rfl|rfl
  · rcases hy with rfl|rfl
    · exact absurd rfl hxy
    · exact⟨_,hf,_,_,rfl,.inr ⟨c1d,c1e⟩,ov⟩
  · rcases hy with rfl|rfl
    · exact⟨_,hf,_,_,rfl,.inl ⟨c1e,c1d⟩,ov'⟩
    · exact absurd rfl hxy
end
end Go.Proofs.YtlicglicfijelaaGreat.Kn

namespace Go.Proofs.YtlicglicfijelaaGreat.Kn

def setA(x:Cr)(s:Nat)(a:Int):Cr:=if s=0 then { x with a:=a }else if s=1 then { x with b:=a }else if s=2 then { x with c:=a }else { x with d:=a }
def putA(Y:List Cr)(p:Pl)(a:Int):List Cr:=Y.set p.1 (setA (cr Y p.1) p.2 a)
theorem setA_p(x:Cr)(s:Nat)(a:Int):(setA x s a).p=x.p:=by unfold setA;(repeat' split)<;>rfl
theorem setA_arc(x:Cr){s t:Nat}(hs:s<4)(ht:t<4)(a:Int):(setA x s a).arc t=if t=s then a else x.arc t:=by
 match s,hs,t,ht with
 |0,_,0,_|0,_,1,_|0,_,2,_|0,_,3,_=>rfl
 |1,_,0,_|1,_,1,_|1,_,2,_|1,_,3,_=>rfl
 |2,_,0,_|2,_,1,_|2,_,2,_|2,_,3,_=>rfl
 |3,_,0,_|3,_,1,_|3,_,2,_|3,_,3,_=>rfl
theorem putA_len(Y:List Cr)(p:Pl)(a:Int):(putA Y p a).length=Y.length:=by unfold putA;rw[List.length_set]
theorem cr_putA{Y:List Cr}{p:Pl}(hp:isPl Y p)(a:Int)(c:Nat):cr (putA Y p a) c=if c=p.1 then setA (cr Y p.1) p.2 a else cr Y c:=by
 have h0:=hp.1
 unfold putA
 unfold cr
 rw[List.getD_eq_getElem?_getD,List.getD_eq_getElem?_getD,List.getElem?_set]
 by_cases e:p.1=c
 · subst e;simp[h0]
 · rw[if_neg e,if_neg (fun h=>e h.symm),List.getD_eq_getElem?_getD]
theorem cm_putA{Y:List Cr}{p:Pl}(hp:isPl Y p)(a:Int)(q:Pl):cm (putA Y p a) q=cm Y q:=by
 unfold cm
 rw[cr_putA hp]
 by_cases e:q.1=p.1
 · rw[if_pos e,e];unfold Cr.comes;rw[setA_p]
 · rw[if_neg e]
theorem at_putA{Y:List Cr}{p q:Pl}(hp:isPl Y p)(hq:q.2<4)(a:Int):at_ (putA Y p a) q=if q=p then a else at_ Y q:=by
 unfold at_
 rw[cr_putA hp]
 by_cases e:q.1=p.1
 · rw[if_pos e,setA_arc _ hp.2 hq]
   by_cases f:q.2=p.2
   · rw[if_pos f,if_pos (Prod.ext e f)]
   · rw[if_neg f,if_neg (fun h=>f (by rw[h])),e]
 · rw[if_neg e,if_neg (fun h=>e (by rw[h]))]
theorem at_app{Z:List Cr}{x:Cr}{p:Pl}(h:p.1<Z.length):at_ (Z++[x]) p=at_ Z p:=by unfold at_;rw[app_cr h]
theorem cm_app{Z:List Cr}{x:Cr}{p:Pl}(h:p.1<Z.length):cm (Z++[x]) p=cm Z p:=by unfold cm;rw[app_cr h]
theorem at_last{Z:List Cr}{x:Cr}{n s:Nat}(h:Z.length=n):at_ (Z++[x]) (n,s)=x.arc s:=by unfold at_;subst h;rw[app_last]
theorem cm_last{Z:List Cr}{x:Cr}{n s:Nat}(h:Z.length=n):cm (Z++[x]) (n,s)=x.comes s:=by unfold cm;subst h;rw[app_last]

def mkC(b0 b1 a0 a1:Int)(p:Bool):Cr:=if p then⟨b0,a1,b1,a0,p⟩else⟨b0,a0,b1,a1,p⟩
def mkX(f0 f1 s0 s1:Int)(sw p:Bool):Cr:=if sw then mkC s0 s1 f0 f1 p else mkC f0 f1 s0 s1 p
def curlA(X:List Cr)(a:Nat)(sw p:Bool):List Cr:=putA X (endP X true a) ((nArcs X:Int)+2)++[mkX (a:Int) ((nArcs X:Int)+1) ((nArcs X:Int)+1) ((nArcs X:Int)+2) sw p]
def curlP(X:List Cr)(sw p:Bool):List Cr:=X++[mkX ((nArcs X:Int)+1) ((nArcs X:Int)+2) ((nArcs X:Int)+2) ((nArcs X:Int)+1) sw p]
def cJa(sw p:Bool):Nat:=if sw then over p else 0
def cJn(sw p:Bool):Nat:=if sw then 0 else over p
theorem mkX_is(f0 f1 s0 s1:Int)(sw p:Bool):cJa sw p<4∧cJn sw p<4∧(cJa sw p+cJn sw p)%2=1 ∧
 (mkX f0 f1 s0 s1 sw p).comes (cJa sw p)=true∧(mkX f0 f1 s0 s1 sw p).comes ((cJa sw p+2)%4)=false∧(mkX f0 f1 s0 s1 sw p).comes (cJn sw p)=true∧(mkX f0 f1 s0 s1 sw p).comes ((cJn sw p+2)%4)=false ∧
 (mkX f0 f1 s0 s1 sw p).arc (cJa sw p)=f0∧(mkX f0 f1 s0 s1 sw p).arc ((cJa sw p+2)%4)=f1∧(mkX f0 f1 s0 s1 sw p).arc (cJn sw p)=s0∧(mkX f0 f1 s0 s1 sw p).arc ((cJn sw p+2)%4)=s1:=by
 cases sw<;>cases p<;>simp[mkX,mkC,cJa,cJn,over,Cr.comes,Cr.arc]
theorem curlA_of{X:List Cr}{a:Nat}(hX:Ok X)(ha:isArc X a)(sw p:Bool):CurlOf X (curlA X a sw p) a (cJa sw p) (cJn sw p):=by
 have pP:=hX.isPl_end (io:=true) ha;have hl:(putA X (endP X true a) ((nArcs X:Int)+2)).length=X.length:=putA_len _ _ _;obtain⟨i1,i2,i3,i4,i5,i6,i7,i8,i9,i10,i11⟩:=mkX_is (a:Int) ((nArcs X:Int)+1) ((nArcs X:Int)+1) ((nArcs X:Int)+2) sw p
 unfold curlA
 refine⟨by rw[List.length_append,hl];rfl,fun q hq=>?_,fun q hq hne=>?_,?_,i1,i2,i3,?_,?_,?_,?_,?_,?_,?_,?_⟩
 · rw[cm_app (by rw[hl];exact hq.1),cm_putA pP]
 · rw[at_app (by rw[hl];exact hq.1),at_putA pP hq.2,if_neg hne]
 · rw[at_app (by rw[hl];exact pP.1),at_putA pP pP.2,if_pos rfl]
 · rw[cm_last hl,i4]
 · rw[cm_last hl,i5]
 · rw[cm_last hl,i6]
 · rw[cm_last hl,i7]
 · rw[at_last hl,i8]
 · rw[at_last hl,i9]
 · rw[at_last hl,i10]
 · rw[at_last hl,i11]
theorem curlP_of{X:List Cr}(sw p:Bool):LoopOf X (curlP X sw p) (cJa sw p) (cJn sw p):=by
 obtain⟨i1,i2,i3,i4,i5,i6,i7,i8,i9,i10,i11⟩:=mkX_is ((nArcs X:Int)+1) ((nArcs X:Int)+2) ((nArcs X:Int)+2) ((nArcs X:Int)+1) sw p
 unfold curlP
 refine⟨by rw[List.length_append];rfl,fun q hq=>cm_app hq.1,fun q hq=>at_app hq.1,i1,i2,i3,?_,?_,?_,?_,?_,?_,?_,?_⟩
 · rw[cm_last rfl,i4]
 · rw[cm_last rfl,i5]
 · rw[cm_last rfl,i6]
 · rw[cm_last rfl,i7]
 · rw[at_last rfl,i8]
 · rw[at_last rfl,i9]
 · rw[at_last rfl,i10]
 · rw[at_last rfl,i11]

def four(e n w s:Int)(j:Nat):Int:=if j=0 then e else if j=1 then n else if j=2 then w else s
def rayC(r:Nat→Int)(b t:Nat):Cr:=⟨r b,r ((b+1)%4),r ((b+2)%4),r ((b+3)%4),decide (t=(b+3)%4)⟩
theorem rayC_arc(r:Nat→Int){b t j:Nat}(hb:b<4)(hj:j<4):(rayC r b t).arc ((j+4-b)%4)=r j:=by
 match b,hb,j,hj with
 |0,_,0,_|0,_,1,_|0,_,2,_|0,_,3,_=>rfl
 |1,_,0,_|1,_,1,_|1,_,2,_|1,_,3,_=>rfl
 |2,_,0,_|2,_,1,_|2,_,2,_|2,_,3,_=>rfl
 |3,_,0,_|3,_,1,_|3,_,2,_|3,_,3,_=>rfl
theorem rayC_comes(r:Nat→Int){b t j:Nat}(hb:b<4)(ht:t<4)(hj:j<4)(hbt:(b+t)%2=1):(rayC r b t).comes ((j+4-b)%4)=(decide (j=b)||decide (j=t)):=by
 unfold Cr.comes
 show (decide _||decide (_=over (decide (t=(b+3)%4))))=_
 have:over (decide (t=(b+3)%4))=if t=(b+3)%4 then 3 else 1:=by
  unfold over
  by_cases c:t=(b+3)%4<;>simp[c]
 rw[this]
 congr 1
 · rw[decide_eq_decide];omega
 · rw[decide_eq_decide];split<;>omega
def pU0(N:Nat)(u:Dt):Int:=if u.2 then(N:Int)+2 else(u.1:Int)
def pU2(N:Nat)(u:Dt):Int:=if u.2 then(u.1:Int)else(N:Int)+2
def pV0(N:Nat)(v:Dt):Int:=if v.2 then(N:Int)+4 else(v.1:Int)
def pV2(N:Nat)(v:Dt):Int:=if v.2 then(v.1:Int)else(N:Int)+4
def pVi(v:Dt):Nat:=if v.2 then 2 else 0
def pUp(u:Dt):Nat:=if u.2 then 1 else 3
def pUq(u:Dt):Nat:=if u.2 then 3 else 1
def pushC(r:Nat→Int)(vi ui:Nat)(ov:Bool):Cr:=if ov then rayC r vi ui else rayC r ui vi
def pushZ(X:List Cr)(u v:Dt):List Cr:=putA (putA X (endP X true u.1) ((nArcs X:Int)+2)) (endP X true v.1) ((nArcs X:Int)+4)
def pushL(X:List Cr)(u v:Dt)(ov:Bool):List Cr:=
 (pushZ X u v++[pushC (four ((nArcs X:Int)+3) ((nArcs X:Int)+1) (pV2 (nArcs X) v) (pU0 (nArcs X) u)) (pVi v) (pUp u) ov]) ++
  [pushC (four (pV0 (nArcs X) v) ((nArcs X:Int)+1) ((nArcs X:Int)+3) (pU2 (nArcs X) u)) (pVi v) (pUq u) ov]
theorem pushC_arc(r:Nat→Int){vi ui j:Nat}(hv:vi<4)(hu:ui<4)(hj:j<4)(ov:Bool):(pushC r vi ui ov).arc ((j+4-if ov then vi else ui)%4)=r j:=by
 cases ov
 · exact rayC_arc r hu hj
 · exact rayC_arc r hv hj
theorem pushC_comes(r:Nat→Int){vi ui j:Nat}(hv:vi<4)(hu:ui<4)(hj:j<4)(hd:(vi+ui)%2=1)(ov:Bool):(pushC r vi ui ov).comes ((j+4-if ov then vi else ui)%4)=(decide (j=vi)||decide (j=ui)):=by
 cases ov
 · have:=rayC_comes r hu hv hj (by omega)
   rw[Bool.or_comm]at this
   exact this
 · exact rayC_comes r hv hu hj hd
theorem pushL_of{X:List Cr}{u v:Dt}(hX:Ok X)(hu:isArc X u.1)(hv:isArc X v.1)(hne:u.1≠v.1)(ov:Bool):PushOf X (pushL X u v ov) u v (if ov then pVi v else pUp u) (if ov then pVi v else pUq u):=by
 have pU:=hX.isPl_end (io:=true) hu;have pV:=hX.isPl_end (io:=true) hv;have pV':isPl (putA X (endP X true u.1) ((nArcs X:Int)+2)) (endP X true v.1):=⟨by rw[putA_len];exact pV.1,pV.2⟩
 have hZ:(pushZ X u v).length=X.length:=by unfold pushZ;rw[putA_len,putA_len]
 have lv:pVi v<4:=by unfold pVi;split<;>omega
 have lp:pUp u<4:=by unfold pUp;split<;>omega
 have lq:pUq u<4:=by unfold pUq;split<;>omega
 have d1:(pVi v+pUp u)%2=1:=by unfold pVi pUp;split<;>split<;>rfl
 have d2:(pVi v+pUq u)%2=1:=by unfold pVi pUq;split<;>split<;>rfl
 have nPQ:endP X true u.1≠endP X true v.1:=fun e=>hne (by rw[←hX.arc_end (io:=true) hu,e,hX.arc_end hv])
 have cZ:∀q,cm (pushZ X u v) q=cm X q:=fun q=>by unfold pushZ;rw[cm_putA pV',cm_putA pU]
 have aZ:∀q:Pl,q.2<4→at_ (pushZ X u v) q=if q=endP X true v.1 then(nArcs X:Int)+4 else if q=endP X true u.1 then(nArcs X:Int)+2 else at_ X q:=fun q hq=>by
  unfold pushZ;rw[at_putA pV' hq,at_putA pU hq]
 have cL:∀q,isPl X q→cm (pushL X u v ov) q=cm X q:=fun q hq=>by
  unfold pushL
  rw[cm_app (by rw[List.length_append,hZ];exact Nat.lt_succ_of_lt hq.1),cm_app (by rw[hZ];exact hq.1),cZ]
 have aL:∀q,isPl X q→at_ (pushL X u v ov) q=at_ (pushZ X u v) q:=fun q hq=>by
  unfold pushL
  rw[at_app (by rw[List.length_append,hZ];exact Nat.lt_succ_of_lt hq.1),at_app (by rw[hZ];exact hq.1)]
 have a0:∀s,at_ (pushL X u v ov) (X.length,s)=(pushC (four ((nArcs X:Int)+3) ((nArcs X:Int)+1) (pV2 (nArcs X) v) (pU0 (nArcs X) u)) (pVi v) (pUp u) ov).arc s:=fun s=>by
  unfold pushL
  rw[at_app (by rw[List.length_append,hZ];exact Nat.lt_succ_self _),at_last hZ]
 have c0:∀s,cm (pushL X u v ov) (X.length,s)=(pushC (four ((nArcs X:Int)+3) ((nArcs X:Int)+1) (pV2 (nArcs X) v) (pU0 (nArcs X) u)) (pVi v) (pUp u) ov).comes s:=fun s=>by
  unfold pushL
  rw[cm_app (by rw[List.length_append,hZ];exact Nat.lt_succ_self _),cm_last hZ]
 have a1:∀s,at_ (pushL X u v ov) (X.length+1,s)=(pushC (four (pV0 (nArcs X) v) ((nArcs X:Int)+1) ((nArcs X:Int)+3) (pU2 (nArcs X) u)) (pVi v) (pUq u) ov).arc s:=fun s=>by
  unfold pushL
  rw[at_last (by rw[List.length_append,hZ];rfl)]
 have c1:∀s,cm (pushL X u v ov) (X.length+1,s)=(pushC (four (pV0 (nArcs X) v) ((nArcs X:Int)+1) ((nArcs X:Int)+3) (pU2 (nArcs X) u)) (pVi v) (pUq u) ov).comes s:=fun s=>by
  unfold pushL
  rw[cm_last (by rw[List.length_append,hZ];rfl)]
 refine⟨hX,hu,hv,hne,by unfold pushL;rw[List.length_append,List.length_append,hZ];rfl,cL,fun q hq n1 n2=>?_,?_,?_,by split<;>assumption,by split<;>assumption,?_,?_,?_,?_,?_,?_,?_,?_,?_,?_,?_,?_,?_,?_,?_,?_⟩
 · rw[aL q hq,aZ q hq.2,if_neg n2,if_neg n1]
 · rw[aL _ pU,aZ _ pU.2,if_neg nPQ,if_pos rfl]
 · rw[aL _ pV,aZ _ pV.2,if_pos rfl]
 · rw[rayP,a0,pushC_arc _ lv lp (by omega)];rfl
 · rw[rayP,a0,pushC_arc _ lv lp (by omega)];rfl
 · rw[rayP,a0,pushC_arc _ lv lp (by omega)];rfl
 · rw[rayP,a0,pushC_arc _ lv lp (by omega)];rfl
 · rw[rayP,a1,pushC_arc _ lv lq (by omega)];rfl
 · rw[rayP,a1,pushC_arc _ lv lq (by omega)];rfl
 · rw[rayP,a1,pushC_arc _ lv lq (by omega)];rfl
 · rw[rayP,a1,pushC_arc _ lv lq (by omega)];rfl
 · rw[rayP,c0,pushC_comes _ lv lp (by omega) d1];unfold pVi pUp;cases u.2<;>cases v.2<;>rfl
 · rw[rayP,c0,pushC_comes _ lv lp (by omega) d1];unfold pVi pUp;cases u.2<;>cases v.2<;>rfl
 · rw[rayP,c0,pushC_comes _ lv lp (by omega) d1];unfold pVi pUp;cases u.2<;>cases v.2<;>rfl
 · rw[rayP,c0,pushC_comes _ lv lp (by omega) d1];unfold pVi pUp;cases u.2<;>cases v.2<;>rfl
 · rw[rayP,c1,pushC_comes _ lv lq (by omega) d2];unfold pVi pUq;cases u.2<;>cases v.2<;>rfl
 · rw[rayP,c1,pushC_comes _ lv lq (by omega) d2];unfold pVi pUq;cases u.2<;>cases v.2<;>rfl
 · rw[rayP,c1,pushC_comes _ lv lq (by omega) d2];unfold pVi pUq;cases u.2<;>cases v.2<;>rfl
 · rw[rayP,c1,pushC_comes _ lv lq (by omega) d2];unfold pVi pUq;cases u.2<;>cases v.2<;>rfl
def arcB(X:List Cr)(a:Int):Bool:=decide (1≤a)&&decide (a≤(nArcs X:Int))
theorem push_par(u v:Dt)(ov:Bool):(if ov then pVi v else pUp u)%2=(if ov then pVi v else pUq u)%2:=by
 unfold pUp pUq
 cases ov<;>cases u.2<;>simp
end Go.Proofs.YtlicglicfijelaaGreat.Kn

namespace Go.Proofs.YtlicglicfijelaaGreat.Kn

section
variable {X:List Cr} {gone:Nat→Bool}
theorem Ok.class_tied(h:Ok X)(gone:Nat→Bool):∀k,k≤X.length→∃o,Tied X (fun p=>isPl X p∧(p.1<k→gone p.1=false)) (com (fun x=>x) (classE X gone k)) o
 |0,_=>⟨other X,h.tied.congr (fun p=>⟨fun k=>k.1,fun k=>⟨k,fun q=>absurd q (by omega)⟩⟩) (fun _ _=>Iff.rfl) fun _ _=>rfl⟩
 |k+1,hk=>by
  obtain⟨o,T⟩:=h.class_tied gone k (by omega);have hE:=com_id_equiv (classE X gone k)
  by_cases g:gone k=true
  · have pl:∀s,s<4→isPl X (k,s)∧((k,s):Pl).1<X.length:=fun s hs=>⟨⟨by show k<_;omega,hs⟩,by show k<_;omega⟩
    have lv:∀s,s<4→(isPl X (k,s)∧(((k,s):Pl).1<k→gone ((k,s):Pl).1=false)):=fun s hs=>⟨(pl s hs).1,fun q=>absurd q (by show ¬k<k;omega)⟩
    have ho:=over_or (cr X k).p;have ho4:over (cr X k).p<4:=over_lt _;have m4:(over (cr X k).p+2)%4<4:=Nat.mod_lt _ (by omega);have s1:=T.step hE (u:=(k,0)) (v:=(k,2)) (lv 0 (by omega)) (lv 2 (by omega)) (cm_opp (pl 0 (by omega)).1)
    have s2:=s1.step (mrg_equiv hE _ _) (u:=(k,over (cr X k).p)) (v:=(k,(over (cr X k).p+2)%4))
     ⟨lv _ ho4,fun e=>by injection e with _ e;omega,fun e=>by injection e with _ e;omega⟩ ⟨lv _ m4,fun e=>by injection e with _ e;omega,fun e=>by injection e with _ e;omega⟩ (cm_opp (pl _ ho4).1)
    refine⟨_,s2.congr (fun p=>?_) (fun x y=>?_) fun _ _=>rfl⟩
    · have key:isPl X p→(p.1=k↔p=(k,0)∨p=(k,2)∨p=(k,over (cr X k).p)∨p=(k,(over (cr X k).p+2)%4)):=fun hp=>by
       obtain⟨a,b⟩:=p;have hb:b<4:=hp.2;simp only[Prod.mk.injEq]
       omega
      constructor
      · rintro⟨h1,h2⟩
        have h3:¬p.1=k:=fun e=>by have:=h2 (by omega);rw[e,g]at this;cases this
        rw[key h1]at h3;simp only[not_or]at h3
        exact⟨⟨⟨h1,fun q=>h2 (by omega)⟩,h3.1,h3.2.1⟩,h3.2.2.1,h3.2.2.2⟩
      · rintro⟨⟨⟨h1,h2⟩,h3,h4⟩,h5,h6⟩
        refine⟨h1,fun q=>h2 ?_⟩
        have:¬p.1=k:=fun e=>by
         rcases (key h1).1 e with e|e|e|e
         · exact h3 e
         · exact h4 e
         · exact h5 e
         · exact h6 e
        omega
    · have e:classE X gone (k+1)=tieE X (classE X gone k) k:=by
       show (if gone k then tieE X (classE X gone k) k else classE X gone k)=_
       rw[if_pos g]
      rw[e];exact Iff.rfl
  · refine⟨o,T.congr (fun p=>?_) (fun x y=>?_) fun _ _=>rfl⟩
    · constructor
      · rintro⟨h1,h2⟩;exact⟨h1,fun q=>h2 (by omega)⟩
      · rintro⟨h1,h2⟩
        refine⟨h1,fun q=>?_⟩
        by_cases e:p.1=k
        · rw[e];simpa using g
        · exact h2 (by omega)
    · have e:classE X gone (k+1)=classE X gone k:=by
       show (if gone k then tieE X (classE X gone k) k else classE X gone k)=_
       rw[if_neg g]
      rw[e]
theorem ain_even{c:Nat}(hc:c<X.length):ain X (2*c)=arcN X (c,0):=by unfold ain;rw[ip_even (by omega),show 2*c / 2=c by omega]
theorem ain_odd{c:Nat}(hc:c<X.length):ain X (2*c+1)=arcN X (c,over (cr X c).p):=by unfold ain;rw[ip_odd (by omega),show (2*c+1) / 2=c by omega]
theorem out_even{c:Nat}(hc:c<X.length):outA X (2*c)=(c,2):=by unfold outA;rw[ip_even (by omega),show 2*c / 2=c by omega];rfl
theorem out_odd{c:Nat}(hc:c<X.length):outA X (2*c+1)=(c,(over (cr X c).p+2)%4):=by unfold outA;rw[ip_odd (by omega),show (2*c+1) / 2=c by omega]
theorem Ok.through_ties(h:Ok X)(gone:Nat→Bool):∃o,Ties X h (classF X gone X.length) gone (classE X gone X.length) o noS:=by
 obtain⟨o,T⟩:=h.class_tied gone X.length (Nat.le_refl _)
 have ns:∀x,(h.ar 0).nS noS x=nxA X x:=fun x=>nS_no _ x
 have e0:∀c,c<X.length→ain X (nxA X (2*c))=arcN X (c,2):=fun c hc=>by rw[h.ain_nx (by omega),out_even hc]
 have e1:∀c,c<X.length→ain X (nxA X (2*c+1))=arcN X (c,(over (cr X c).p+2)%4):=fun c hc=>by rw[h.ain_nx (by omega),out_odd hc]
 refine⟨o,h.class_rep gone _ (Nat.le_refl _),T.congr (fun p=>?_) (fun _ _=>Iff.rfl) fun _ _=>rfl,fun e he=>?_,fun x hx hg=>?_,fun _ _ _=>rfl⟩
 · exact⟨fun k=>⟨k.1,fun _=>k.2⟩,fun k=>⟨k.1,k.2 k.1.1⟩⟩
 · obtain⟨c,hc,hg,k⟩:=mem_classE.1 he
   rcases k with rfl|rfl
   · refine⟨2*c+1,by omega,by rw[show (2*c+1) / 2=c by omega];exact hg,.inl ?_⟩
     rw[ns,e1 c hc,ain_odd hc]
   · refine⟨2*c,by omega,by rw[show 2*c / 2=c by omega];exact hg,.inl ?_⟩
     rw[ns,e0 c hc,ain_even hc]
 · rw[ns]
   have hc:x / 2<X.length:=by omega
   rcases Nat.mod_two_eq_zero_or_one x with m|m
   · obtain⟨c,rfl⟩:∃c,x=2*c:=⟨x / 2,by omega⟩
     rw[show 2*c / 2=c by omega]at hg hc;rw[e0 c hc,ain_even hc]
     exact tied_all (s:=0) hc hg (by omega)
   · obtain⟨c,rfl⟩:∃c,x=2*c+1:=⟨x / 2,by omega⟩
     rw[show (2*c+1) / 2=c by omega]at hg hc;rw[e1 c hc,ain_odd hc]
     exact tied_all hc hg (over_lt _)
theorem Ok.take_ok(h:Ok X)(gone:Nat→Bool):Ok (takeL X gone):=by
 obtain⟨o,hT⟩:=h.through_ties gone
 exact hT.ok
variable {W:Type} {K:CA W}
theorem Ok.hv_take(h:Ok X)(hp:planarB X=true)(gone:Nat→Bool)(hp':planarB (takeL X gone)=true)(L:Nat){t:List Nat}(ht:Tops (h.ar L) (dK gone) noS tru t):hv K h L=hv K (h.take_ok gone) (L+takeN X gone):=by
 obtain⟨o,hT⟩:=h.through_ties gone;have hE:=eK_emb (f:=classF X gone X.length) (gone:=gone) h hT.ok L (L+takeN X gone);have hR:=hT.red L (L+takeN X gone);have:=sim_one (K:=K) (hD:=tru) (h.linked hp L) (hT.ok.linked hp' (L+takeN X gone)) hE hR ht (hT.rings L) tru
 refine Eq.trans ?_ this
 refine V_congr K _ fun d _ _=>?_
 unfold lf
 split
 · rfl
 · unfold ov
   rw[if_pos (by unfold rK;omega)]
theorem tru_odd{l:Nat}(h:l%2=1):ov tru l=true:=by unfold ov;rw[if_pos h]
theorem Ok.hv_one(h:Ok X)(hp:planarB X=true){c:Nat}(hc:c<X.length)(hp':planarB (takeL X (only c))=true)(L:Nat):hv K h L=hv K (h.take_ok (only c)) (L+takeN X (only c)):=by
 refine h.hv_take hp (only c) hp' L (t:=[2*c+1]) ⟨fun y hy=>?_,by simp,fun y u e=>?_,fun y _ hd _=>?_⟩
 · rw[List.mem_singleton]at hy
   subst hy
   have hm:mt (2*c+1)=2*c:=by unfold mt;rw[if_neg (by omega)];omega
   refine⟨?_,?_,rfl,tru_odd (by omega),?_⟩
   · show 2*c+1<2*X.length;omega
   · unfold dK;rw[show (2*c+1) / 2=c by omega];simp
   · rw[hm,List.mem_singleton];omega
 · injection e with _ e
   subst e
   exact trivial
 · unfold dK at hd
   have hd:y / 2=c:=by simpa using hd
   rw[List.mem_singleton,List.mem_singleton]
   unfold mt
   split<;>omega
theorem Ok.hv_two(h:Ok X)(hp:planarB X=true){x y:Nat}(hx:x<X.length)(hy:y<X.length)(hxy:x≠y)(hn:nxA X (2*x+1)=2*y+1)(hp':planarB (takeL X (both x y))=true)(L:Nat):hv K h L=hv K (h.take_ok (both x y)) (L+takeN X (both x y)):=by
 refine h.hv_take hp (both x y) hp' L (t:=[2*x+1,2*y+1]) ⟨fun z hz=>?_,by simp;omega,fun z u e=>?_,fun z _ hd _=>?_⟩
 · have hz:z=2*x+1∨z=2*y+1:=by simpa using hz
   have hm:∀c,mt (2*c+1)=2*c:=fun c=>by unfold mt;rw[if_neg (by omega)];omega
   rcases hz with rfl|rfl
   · refine⟨?_,?_,rfl,tru_odd (by omega),?_⟩
     · show 2*x+1<2*X.length;omega
     · unfold dK;rw[show (2*x+1) / 2=x by omega];simp
     · rw[hm];simp;omega
   · refine⟨?_,?_,rfl,tru_odd (by omega),?_⟩
     · show 2*y+1<2*X.length;omega
     · unfold dK;rw[show (2*y+1) / 2=y by omega];simp
     · rw[hm];simp;omega
 · injection e with e1 e2
   subst e1 e2
   refine⟨?_,trivial⟩
   rw[nS_no];exact hn
 · unfold dK at hd
   have hd:z / 2=x∨z / 2=y:=by simpa using hd
   simp only[List.mem_cons,List.not_mem_nil,or_false]
   unfold mt
   split<;>omega
end
end Go.Proofs.YtlicglicfijelaaGreat.Kn

namespace Go.Proofs.YtlicglicfijelaaGreat.Kn

structure Swap(f f' s:Nat→Nat)(dead:Nat→Bool)(pr:Nat→Nat→Prop):Prop where
 inj:∀x y,f x=f y→x=y
 two:∀x,s (s x)=x
 conj:∀x,f' x=s (f (s x))
 on:∀u v,pr u v→s u=v∧f u=v
 asym:∀u v,pr u v→¬pr v u
 one:∀u v,pr u v→dead u=true∨dead v=true
 cov:∀x,s x≠x→∃y,pr x y∨pr y x
 dd:∀x,dead x=true→s x≠x
section
variable {f f' s:Nat→Nat} {dead:Nat→Bool} {pr:Nat→Nat→Prop}
theorem Swap.fv(h:Swap f f' s dead pr){u v:Nat}(p:pr u v):f' v=u:=by
 have:=(h.on u v p).1;rw[h.conj,←this,h.two,(h.on u v p).2,←this,h.two]
theorem Swap.rev(h:Swap f f' s dead pr):Swap f' f s dead fun a b=>pr b a:=by
 refine⟨fun x y e=>?_,h.two,fun x=>?_,fun u v p=>⟨?_,h.fv p⟩,fun u v p q=>h.asym _ _ p q,fun u v p=>(h.one _ _ p).symm,fun x hx=>?_,h.dd⟩
 · have e1:s (s (f (s x)))=s (s (f (s y))):=by rw[←h.conj,←h.conj,e]
   rw[h.two,h.two]at e1;have:=h.inj _ _ e1;rw[←h.two x,this,h.two]
 · rw[h.conj,h.two,h.two]
 · rw[←(h.on v u p).1,h.two]
 · obtain⟨y,hy⟩:=h.cov x hx
   exact⟨y,hy.symm⟩
def Cor(s:Nat→Nat)(pr:Nat→Nat→Prop)(x x':Nat):Prop:=(s x=x∧x'=x)∨pr x' x
theorem Swap.cor(h:Swap f f' s dead pr){x x':Nat}(c:Cor s pr x x'):f' x'=s (f x):=by
 rcases c with⟨c,rfl⟩|c
 · rw[h.conj,c]
 · rw[h.conj,(h.on _ _ c).1]
theorem Swap.first(h:Swap f f' s dead pr){x x':Nat}(c:Cor s pr x x')(hw:s (f x)≠f x):∃y,pr (f x) y:=by
 obtain⟨y,k|k⟩:=h.cov _ hw
 · exact⟨y,k⟩
 · exfalso
   have e:=h.inj _ _ (h.on _ _ k).2;subst e
   rcases c with⟨c,_⟩|c
   · have:=(h.on _ _ k).1
     rw[c]at this;rw[←this,c]at hw
     exact hw rfl
   · have h1:=(h.on _ _ c).1
     have h2:=(h.on _ _ k).1
     have h3:s y=x':=by rw[←h1,h.two]
     rw[←h2,h3]at k
     exact h.asym _ _ c k
theorem Swap.via(h:Swap f f' s dead pr){x z:Nat}(v:Via dead f x z):(∀x',Cor s pr x x'→Via dead f' x' z)∧∀y,pr x y→(dead y=true→Via dead f' x z)∧(dead y=false→z=y):=by
 induction v with
 |@one x hw=>
  refine⟨fun x' c=>?_,fun y p=>⟨fun hd=>?_,fun _=>(h.on _ _ p).2⟩⟩
  · by_cases e:s (f x)=f x
    · have k:=h.cor c
      rw[e]at k;rw[←k]
      exact .one (by rw[k];exact hw)
    · obtain⟨y,p⟩:=h.first c e
      have hy:dead y=true:=(h.one _ _ p).resolve_left (by simp[hw]);have k:=h.cor c;rw[(h.on _ _ p).1]at k;have k2:=h.fv p
      refine .more (by rw[k];exact hy) ?_
      rw[k,←k2]
      exact .one (by rw[k2];exact hw)
  · rw[(h.on _ _ p).2,hd]at hw;cases hw
 |@more x z hw v ih=>
  refine⟨fun x' c=>?_,fun y p=>⟨fun _=>?_,fun hd=>?_⟩⟩
  · obtain⟨y,p⟩:=h.first c (h.dd _ hw)
    have k:=h.cor c;rw[(h.on _ _ p).1]at k;have k2:=h.fv p
    cases hy:dead y with
    |true=>
     refine .more (by rw[k];exact hy) ?_
     rw[k]
     refine .more (by rw[k2];exact hw) ?_
     rw[k2]
     exact(ih.2 y p).1 hy
    |false=>
     rw[(ih.2 y p).2 hy,←k]
     exact .one (by rw[k];exact hy)
  · refine ih.1 x (.inr ?_)
    rw[(h.on _ _ p).2];exact p
  · rw[(h.on _ _ p).2,hd]at hw;cases hw
theorem Swap.live(h:Swap f f' s dead pr){x z:Nat}(hx:dead x=false)(v:Via dead f x z):Via dead f' x z:=by
 by_cases e:s x=x
 · exact(h.via v).1 x (.inl ⟨e,rfl⟩)
 · obtain⟨y,p|p⟩:=h.cov x e
   · exact((h.via v).2 y p).1 ((h.one _ _ p).resolve_left (by simp[hx]))
   · have hy:dead y=true:=(h.one _ _ p).resolve_right (by simp[hx])
     have k:=h.fv p
     refine .more (by rw[k];exact hy) ?_
     rw[k]
     exact(h.via v).1 y (.inr p)
theorem Swap.top(h:Swap f f' s dead pr){u v z:Nat}(p:pr u v):Via dead f v z↔Via dead f' u z:=
 ⟨fun k=>(h.via k).1 u (.inr p),fun k=>(h.rev.via k).1 v (.inr p)⟩
theorem Swap.words(h:Swap f f' s dead pr){N:Nat}(hs:∀x,x<N→s x<N){ws:List (List Nat)}(hW:Ws N f ws):Ws N f' (ws.map (List.map s)):=by
 refine⟨?_,fun w hw=>?_⟩
 · rw[←List.map_flatten]
   refine(hW.perm.map s).trans ?_
   have sinj:∀x y,s x=s y→x=y:=fun x y e=>by rw[←h.two x,e,h.two]
   refine(List.perm_ext_iff_of_nodup ?_ List.nodup_range).2 fun x=>?_
   · rw[List.nodup_iff_pairwise_ne,List.pairwise_map]
     exact(List.nodup_iff_pairwise_ne.1 List.nodup_range).imp fun hne e=>hne (sinj _ _ e)
   · rw[List.mem_map,List.mem_range]
     constructor
     · rintro⟨y,hy,rfl⟩;exact hs y (List.mem_range.1 hy)
     · intro hx;exact⟨s x,List.mem_range.2 (hs x hx),h.two x⟩
 · obtain⟨w',hw',rfl⟩:=List.mem_map.1 hw
   exact cy_map (hW.cyc w' hw') fun y _=>by rw[h.conj,h.two]
end
section
variable {X Y:List Cr} {W:Type} {K:CA W}
theorem Ok.hv_swap(hX:Ok X)(hY:Ok Y)(pX:planarB X=true)(pY:planarB Y=true)(len:Y.length=X.length)(hp:∀c,c<X.length→(cr Y c).p=(cr X c).p){x y:Nat}{s:Nat→Nat}{pr:Nat→Nat→Prop}
 (h:Swap (nxA X) (nxA Y) s (dK (both x y)) pr) (hs:∀z,z<2*X.length→s z<2*X.length) (hx:x<X.length) (hy:y<X.length) (hxy:x≠y) (p:pr (2*x+1) (2*y+1)) (L:Nat):hv K hX L=hv K hY L:=by
 obtain⟨o,hT⟩:=hX.through_ties (both x y);have EA:=eK_emb (f:=classF X (both x y) X.length) (gone:=both x y) hX hT.ok L 0;have RA:=hT.red L 0
 have EB:Emb (hY.ar L) (hT.ok.ar 0) (eK X.length (both x y)) (rK X.length (both x y)) (dK (both x y)):=by
  refine⟨fun l hl=>?_,EA.mt,EA.re,EA.live,fun z hz=>EA.back z ?_,fun l hl=>?_⟩
  · have:=EA.lt l hl
    show _<2*Y.length
    rw[len];exact this
  · have hz:z<2*Y.length:=hz
    show z<2*X.length
    omega
  · rw[←EA.sg l hl]
    have h1:eK X.length (both x y) l<2*X.length:=EA.lt l hl
    show (if _ then(cr Y _).p else !(cr Y _).p)=if _ then(cr X _).p else !(cr X _).p
    rw[hp _ (by omega)]
 have nA:∀z,(hX.ar L).nS noS z=nxA X z:=fun z=>nS_no _ z
 have nB:∀z,(hY.ar L).nS noS z=nxA Y z:=fun z=>nS_no _ z
 have cA:∀{a b:Nat},Via (dK (both x y)) ((hX.ar L).nS noS) a b↔Via (dK (both x y)) (nxA X) a b:=fun {a b}=>⟨fun k=>k.congr (fun z _=>(nA z).symm) (nA a).symm,fun k=>k.congr (fun z _=>nA z) (nA a)⟩
 have cB:∀{a b:Nat},Via (dK (both x y)) ((hY.ar L).nS noS) a b↔Via (dK (both x y)) (nxA Y) a b:=fun {a b}=>⟨fun k=>k.congr (fun z _=>(nB z).symm) (nB a).symm,fun k=>k.congr (fun z _=>nB z) (nB a)⟩
 have RB:Red (hY.ar L) (hT.ok.ar 0) (eK X.length (both x y)) (dK (both x y)) noS (fun _=>false):=by
  refine⟨fun l _=>rfl,fun l hl=>cB.2 (h.live (EA.live l hl) (cA.1 (RA.via l hl)))⟩
 have hm:∀c,mt (2*c+1)=2*c:=fun c=>by unfold mt;rw[if_neg (by omega)];omega
 have cov:∀z,dK (both x y) z=true→z∈[2*x+1,2*y+1]∨mt z∈[2*x+1,2*y+1]:=fun z hd=>by
  unfold dK at hd
  have hd:z / 2=x∨z / 2=y:=by simpa using hd
  simp only[List.mem_cons,List.not_mem_nil,or_false]
  unfold mt
  split<;>omega
 have mem:∀z∈[2*x+1,2*y+1],z<2*X.length∧dK (both x y) z=true∧noS (z / 2)=false∧ov tru z=true∧mt z∉[2*x+1,2*y+1]:=fun z hz=>by
  have hz:z=2*x+1∨z=2*y+1:=by simpa using hz
  rcases hz with rfl|rfl
  · refine⟨by omega,?_,rfl,tru_odd (by omega),?_⟩
    · unfold dK;rw[show (2*x+1) / 2=x by omega];simp
    · rw[hm];simp;omega
  · refine⟨by omega,?_,rfl,tru_odd (by omega),?_⟩
    · unfold dK;rw[show (2*y+1) / 2=y by omega];simp
    · rw[hm];simp;omega
 have TA:Tops (hX.ar L) (dK (both x y)) noS tru [2*x+1,2*y+1]:=⟨mem,by simp;omega,fun z u e=>by
  injection e with e1 e2
  subst e1 e2
  exact⟨by rw[nA];exact(h.on _ _ p).2,trivial⟩,fun z _ hd _=>cov z hd⟩
 have sw:∀z,z∈[2*y+1,2*x+1]↔z∈[2*x+1,2*y+1]:=fun z=>by simp only[List.mem_cons,List.not_mem_nil,or_false];exact or_comm
 have TB:Tops (hY.ar L) (dK (both x y)) noS tru [2*y+1,2*x+1]:=⟨fun z hz=>by
  obtain⟨a,b,c,d,e⟩:=mem z ((sw z).1 hz)
  refine⟨?_,b,c,d,fun k=>e ((sw _).1 k)⟩
  show z<2*Y.length
  omega,by simp;omega,fun z u e=>by
  injection e with e1 e2
  subst e1 e2
  exact⟨by rw[nB];exact h.fv p,trivial⟩,fun z _ hd _=>by rw[sw,sw];exact cov z hd⟩
 have hk:(hX.ar L).k noS=(hY.ar L).k noS:=by
  obtain⟨ws,hW⟩:=(hX.ar L).ws_ex noS;have e1:(hX.ar L).nS noS=nxA X:=funext nA;have e2:(hY.ar L).nS noS=nxA Y:=funext nB
  have hW':Ws (2*X.length) (nxA X) ws:=by rw[←e1];exact hW
  have hV:=h.words (N:=2*X.length) hs hW'
  have hV':Ws (2*(hY.ar L).n) ((hY.ar L).nS noS) (ws.map (List.map s)):=by
   rw[e2]
   show Ws (2*Y.length) _ _
   rw[len];exact hV
  rw[Ws.k_eq _ hW,Ws.k_eq _ hV',List.length_map];rfl
 have key:=sim (K:=K) (hX.linked pX L) (hY.linked pY L) EA EB _ (fun _=>false) rfl noS noS RA RB TA TB (fun a u e a' u' e' m _=>by
  injection e with e1 e2
  injection e' with e3 e4
  subst e1 e2 e3 e4;rw[cA,cB]
  exact h.top p) hk tru
 have e:∀d,lf (dK (both x y)) (rK X.length (both x y)) tru tru d=tru d:=fun d=>by
  unfold lf
  split
  · rfl
  · unfold ov
    rw[if_pos (by unfold rK;omega)]
 unfold hv
 rw[V_congr K (hX.ar L) (h':=lf (dK (both x y)) (rK X.length (both x y)) tru tru) fun d _ _=>(e d).symm,key]
 exact V_congr K _ fun d _ _=>e d
end
end Go.Proofs.YtlicglicfijelaaGreat.Kn

namespace Go.Proofs.YtlicglicfijelaaGreat.Kn

def le(p:Pl):Nat:=2*p.1+p.2%2
section
variable {X:List Cr}
theorem cm_in'{p:Pl}(hc:cm X p=true):p.2=0∨p.2=over (cr X p.1).p:=by
 unfold cm Cr.comes at hc
 simpa using hc
theorem le_in{p:Pl}(hc:cm X p=true):lt p=le p:=by
 unfold lt le
 rcases cm_in' hc with h|h
 · rw[h];rfl
 · have:=over_or (cr X p.1).p
   rw[if_neg (by omega)];omega
theorem ip_le{p:Pl}(hc:cm X p=true):ip X (le p)=p:=by rw[←le_in hc,ip_lt hc]
theorem le_acr{p:Pl}(hp:isPl X p):le (acr p)=le p:=by
 unfold le acr
 have:=hp.2
 simp only;omega
theorem cm_acr{p:Pl}(hp:isPl X p):cm X (acr p)=!cm X p:=cm_opp hp
theorem le_ip{l:Nat}(h:l<2*X.length):le (ip X l)=l:=by rw[←le_in (ip_cm X l),lt_ip]
theorem le_lt{p:Pl}(hp:isPl X p):le p<2*X.length:=by
 unfold le
 have:=hp.1
 omega
theorem le_div(p:Pl):le p / 2=p.1:=by unfold le;omega
theorem Ok.other_oP(h:Ok X){a:Nat}(ha:Kn.isArc X a):other X (outP X a)=inP X a:=by
 have h1:outP X a=endP X false a:=rfl;have h2:inP X a=endP X true a:=rfl;rw[h1]
 unfold other
 rw[h.cm_end ha,h.arc_end ha];rfl
theorem Ok.nx_arc(h:Ok X){a:Nat}(ha:Kn.isArc X a):nxA X (le (outP X a))=le (inP X a):=by
 have ho:isPl X (outP X a):=h.isPl_end (io:=false) ha;have hc:cm X (outP X a)=false:=h.cm_end (io:=false) ha
 have e1:ip X (le (outP X a))=acr (outP X a):=by
  rw[←le_acr ho]
  refine ip_le ?_
  rw[cm_acr ho,hc];rfl
 have e2:outA X (le (outP X a))=outP X a:=by
  show acr (ip X (le (outP X a)))=_
  rw[e1,acr_acr ho.2]
 unfold nxA
 rw[if_pos (le_lt ho),e2,h.other_oP ha,le_in (X:=X)]
 exact h.cm_end (io:=true) ha
theorem le_odd{p:Pl}(h:p.2%2=1):le p=2*p.1+1:=by unfold le;rw[h]
variable {W:Type} {K:CA W}
theorem Ok.hv_over(h:Ok X)(hp:planarB X=true){a x y:Nat}(ha:Kn.isArc X a)(ho:overA X a=true)(hne:(outP X a).1≠(inP X a).1)(hxy:both x y=both (outP X a).1 (inP X a).1)(hp':planarB (takeL X (both x y))=true)(L:Nat):hv K h L=hv K (h.take_ok (both x y)) (L+takeN X (both x y)):=by
 unfold overA at ho
 simp only[Bool.and_eq_true,decide_eq_true_eq]at ho;have h1:=h.nx_arc ha;rw[le_odd ho.1,le_odd ho.2]at h1;have q1:=(h.isPl_end (io:=false) ha).1;have q2:=(h.isPl_end (io:=true) ha).1
 have gen:∀g:Nat→Bool,g=both (outP X a).1 (inP X a).1→planarB (takeL X g)=true→hv K h L=hv K (h.take_ok g) (L+takeN X g):=by
  rintro g rfl hp'
  exact h.hv_two hp q1 q2 hne h1 hp' L
 exact gen _ hxy hp'
end
section
variable {X:List Cr} {D:Nat→Dt} {es:List Nat}
theorem Tri.tau_acr(h:Tri X D)(he:IsEs D es){p:Pl}(hp:isPl X p):tauL X es (acr p)=acr (tauL X es p):=by
 have e2:∀i,triP X D i (2+2)=triP X D i 0:=fun i=>h.pmod rfl (by omega)
 have e3:∀i,triP X D i (3+2)=triP X D i 1:=fun i=>h.pmod rfl (by omega)
 rcases h.any hp.2 with⟨i,rfl|rfl|rfl|rfl⟩|c
 · rw[Tri.acr',h.t2 he,h.t0 he,Tri.acr']
 · rw[Tri.acr',h.t3 he,h.t1 he,Tri.acr']
 · rw[Tri.acr',e2,h.t0 he,h.t2 he,Tri.acr',e3]
 · rw[Tri.acr',e3,h.t1 he,h.t3 he,Tri.acr',e2]
 · rw[h.tx he c,h.tx he (p:=acr p) c]
def sdL(X:List Cr)(es:List Nat)(l:Nat):Nat:=if l<2*X.length then le (tauL X es (ip X l))else l
theorem slide_ip{l:Nat}(hl:l<2*X.length):ip (slideL X es) l=ip X l:=by
 unfold ip
 rw[slideL_cr (by omega:l / 2<X.length)]
theorem Tri.ip_sd(h:Tri X D)(he:IsEs D es){l:Nat}(hl:l<2*X.length):ip X (sdL X es l)=tauL X es (ip X l):=by
 unfold sdL
 rw[if_pos hl,ip_le];rw[h.tau_cm he (ip_isPl hl),ip_cm]
theorem Tri.sd_lt(h:Tri X D)(he:IsEs D es){l:Nat}(hl:l<2*X.length):sdL X es l<2*X.length:=by
 unfold sdL
 rw[if_pos hl]
 exact le_lt (h.tau_pl he (ip_isPl hl))
theorem Tri.sd_sd(h:Tri X D)(he:IsEs D es)(l:Nat):sdL X es (sdL X es l)=l:=by
 by_cases hl:l<2*X.length
 · have h1:=h.sd_lt he hl
   have h2:=h.ip_sd he hl;rw[show sdL X es (sdL X es l)=le (tauL X es (ip X (sdL X es l)))from if_pos h1,h2,h.tau_tau he (ip_isPl hl),le_ip hl]
 · have e:sdL X es l=l:=if_neg hl
   rw[e,e]
theorem Tri.sd_nx(h:Tri X D)(he:IsEs D es)(l:Nat):nxA (slideL X es) l=sdL X es (nxA X (sdL X es l)):=by
 have hY:=h.okY he;have len:=slideL_len X es
 by_cases hl:l<2*X.length
 · have hl':l<2*(slideL X es).length:=by omega
   have hs:=h.sd_lt he hl;have hn:=h.ok.nx_pm.lt _ hs
   refine ip_inj (Y:=X) ?_
   rw[h.ip_sd he hn,h.ok.ip_nx hs];have hn':=hY.nx_pm.lt _ hl';rw[←slide_ip (es:=es) (by omega),hY.ip_nx hl']
   have o1:outA (slideL X es) l=outA X l:=by unfold outA;rw[slide_ip hl]
   rw[o1,h.otherY he (outA_pl hl)]
   have o2:tauL X es (outA X l)=outA X (sdL X es l):=by
    show tauL X es (acr (ip X l))=acr (ip X (sdL X es l))
    rw[h.tau_acr he (ip_isPl hl),h.ip_sd he hl]
   rw[o2]
 · have e:sdL X es l=l:=if_neg hl
   have e1:nxA X l=l:=if_neg hl;have e2:nxA (slideL X es) l=l:=if_neg (by omega);rw[e,e1,e,e2]
def prD(X:List Cr)(D:Nat→Dt)(a b:Nat):Prop:=∃i,a=le (outP X (D i).1)∧b=le (inP X (D i).1)
theorem Tri.ends1(h:Tri X D)(i:Nat):((inP X (D i).1).1=(head X (D i)).1∧(outP X (D i).1).1=(head X (D (i+2))).1)∨((inP X (D i).1).1=(head X (D (i+2))).1∧(outP X (D i).1).1=(head X (D i)).1):=by
 rcases h.ends i with⟨e1,e2⟩|⟨e1,e2⟩
 · exact .inl ⟨by rw[e1];rfl,by rw[e2];rfl⟩
 · exact .inr ⟨by rw[e1];rfl,by rw[e2];rfl⟩
theorem Tri.ne2(h:Tri X D){i j:Nat}(e:i%3≠j%3):(head X (D i)).1≠(head X (D j)).1:=fun k=>e (h.apart k)
theorem Tri.sd_pair(h:Tri X D)(he:IsEs D es)(i:Nat){p:Pl}(hp:p=triP X D i 0∨p=triP X D i 2):sdL X es (le p)=le (triP X D (i+2) 3):=by
 have hpl:isPl X p:=by rcases hp with rfl|rfl<;>exact h.pl _ _
 have e13:le (triP X D (i+2) 1)=le (triP X D (i+2) 3):=by rw[←le_acr (h.pl (i+2) 1),Tri.acr']
 have e24:triP X D i (2+2)=triP X D i 0:=h.pmod rfl (by omega)
 have key:∀q,(q=triP X D i 0∨q=triP X D i 2)→le (tauL X es q)=le (triP X D (i+2) 3):=fun q hq=>by
  rcases hq with rfl|rfl
  · rw[h.t0 he,e13]
  · rw[h.t2 he]
 unfold sdL
 rw[if_pos (le_lt hpl)]
 refine key _ ?_
 cases hc:cm X p with
 |true=>rw[ip_le hc];exact hp
 |false=>
  have:ip X (le p)=acr p:=by rw[←le_acr hpl];exact ip_le (by rw[cm_acr hpl,hc];rfl)
  rw[this]
  rcases hp with rfl|rfl
  · right;rw[Tri.acr']
  · left;rw[Tri.acr',e24]
theorem Tri.on_pair(h:Tri X D)(he:IsEs D es){a b:Nat}(p:prD X D a b):sdL X es a=b∧nxA X a=b:=by
 obtain⟨i,rfl,rfl⟩:=p
 refine⟨?_,h.ok.nx_arc (h.arc i)⟩
 have k:=h.sd_pair he i (.inl rfl)
 rcases h.ends i with⟨e1,e2⟩|⟨e1,e2⟩
 · rw[e1,e2,←k,h.sd_sd he]
 · rw[e1,e2,k]
theorem Tri.swap(h:Tri X D)(he:IsEs D es)(t:Nat){x y:Nat}(hxy:(x=(head X (D t)).1∧y=(head X (D (t+2))).1)∨(x=(head X (D (t+2))).1∧y=(head X (D t)).1)):Swap (nxA X) (nxA (slideL X es)) (sdL X es) (dK (both x y)) (prD X D):=by
 have hd:∀z,dK (both x y) z=true↔z / 2=(head X (D t)).1∨z / 2=(head X (D (t+2))).1:=fun z=>by
  have e:dK (both x y) z=(decide (z / 2=x)||decide (z / 2=y)):=rfl;rw[e];simp only[Bool.or_eq_true,decide_eq_true_eq]
  rcases hxy with⟨rfl,rfl⟩|⟨rfl,rfl⟩
  · exact Iff.rfl
  · exact or_comm
 have off:∀z,(∀i,z / 2≠(head X (D i)).1)→sdL X es z=z:=fun z hz=>by
  unfold sdL
  split
  · rename_i hl
    rw[h.tx he hz,le_ip hl]
  · rfl
 have onp:∀z,z<2*X.length→∀i,z / 2=(head X (D i)).1→∃j,(ip X z=triP X D j 0∨ip X z=triP X D j 2∨ip X z=triP X D (j+2) 1∨ip X z=triP X D (j+2) 3)∧(j%3=i%3∨(j+2)%3=i%3):=fun z hz i hi=>by
  obtain⟨k,hk,e⟩:=h.place (ip_isPl hz).2 (p:=ip X z) (i:=i) hi
  have c4:k=0∨k=1∨k=2∨k=3:=by omega
  rcases c4 with rfl|rfl|rfl|rfl
  · exact⟨i,.inl e,.inl rfl⟩
  · exact⟨i+1,.inr (.inr (.inl (by rw[e];exact h.pmod (by omega) rfl))),.inr (by omega)⟩
  · exact⟨i,.inr (.inl e),.inl rfl⟩
  · exact⟨i+1,.inr (.inr (.inr (by rw[e];exact h.pmod (by omega) rfl))),.inr (by omega)⟩
 have pair:∀z,z<2*X.length→∀j,(ip X z=triP X D j 0∨ip X z=triP X D j 2∨ip X z=triP X D (j+2) 1∨ip X z=triP X D (j+2) 3)→z=le (triP X D j 0)∨z=le (triP X D (j+2) 3):=fun z hz j hj=>by
  have e1:le (triP X D j 2)=le (triP X D j 0):=by rw[←le_acr (h.pl j 0),Tri.acr']
  have e2:le (triP X D (j+2) 1)=le (triP X D (j+2) 3):=by rw[←le_acr (h.pl (j+2) 1),Tri.acr']
  have e3:=le_ip hz
  rcases hj with e|e|e|e<;>rw[e]at e3
  · exact .inl e3.symm
  · exact .inl (by rw[←e3,e1])
  · exact .inr (by rw[←e3,e2])
  · exact .inr e3.symm
 have two:∀j z,(z=le (triP X D j 0)∨z=le (triP X D (j+2) 3))→∃y,prD X D z y∨prD X D y z:=fun j z hz=>by
  rcases h.ends j with⟨e1,e2⟩|⟨e1,e2⟩
  · rcases hz with rfl|rfl
    · exact⟨_,.inr ⟨j,rfl,by rw[e1]⟩⟩
    · exact⟨_,.inl ⟨j,by rw[e2],rfl⟩⟩
  · rcases hz with rfl|rfl
    · exact⟨_,.inl ⟨j,by rw[e2],rfl⟩⟩
    · exact⟨_,.inr ⟨j,rfl,by rw[e1]⟩⟩
 refine⟨h.ok.nx_pm.inj,h.sd_sd he,h.sd_nx he,fun u v p=>h.on_pair he p,fun u v p q=>?_,fun u v p=>?_,fun z hz=>?_,fun z hz=>?_⟩
 · obtain⟨i,rfl,rfl⟩:=p
   obtain⟨j,e1,e2⟩:=q;have d1:=congrArg (· / 2) e1;have d2:=congrArg (· / 2) e2;simp only[le_div]at d1 d2
   have hij:i%3=j%3:=by
    rcases h.ends1 i with⟨a1,a2⟩|⟨a1,a2⟩<;>rcases h.ends1 j with⟨b1,b2⟩|⟨b1,b2⟩
    all_goals
     have c1:=h.apart (a1.symm.trans (d1.trans b2));have c2:=h.apart (a2.symm.trans (d2.trans b1))
     omega
   rw[←h.mod hij]at d1
   rcases h.ends1 i with⟨a1,a2⟩|⟨a1,a2⟩
   · exact h.ne2 (i:=i) (j:=i+2) (by omega) (a1.symm.trans (d1.trans a2))
   · exact h.ne2 (i:=i+2) (j:=i) (by omega) (a1.symm.trans (d1.trans a2))
 · obtain⟨i,rfl,rfl⟩:=p
   rw[hd,hd,le_div,le_div]
   have m3:i%3=t%3∨i%3=(t+1)%3∨i%3=(t+2)%3:=by omega
   rcases h.ends1 i with⟨a1,a2⟩|⟨a1,a2⟩<;>rw[a1,a2]
   · rcases m3 with m|m|m
     · exact .inr (.inl (by rw[h.mod m]))
     · exact .inl (.inl (by rw[h.mod (i:=i+2) (j:=t) (by omega)]))
     · exact .inr (.inr (by rw[h.mod m]))
   · rcases m3 with m|m|m
     · exact .inl (.inl (by rw[h.mod m]))
     · exact .inr (.inl (by rw[h.mod (i:=i+2) (j:=t) (by omega)]))
     · exact .inl (.inr (by rw[h.mod m]))
 · have hl:z<2*X.length:=Classical.byContradiction fun c=>hz (if_neg c)
   have:∃i,z / 2=(head X (D i)).1:=Classical.byContradiction fun c=>hz (off z fun i e=>c ⟨i,e⟩)
   obtain⟨i,hi⟩:=this;obtain⟨j,hj,_⟩:=onp z hl i hi
   exact two j z (pair z hl j hj)
 · have hi:∃i,z / 2=(head X (D i)).1:=by
    rcases (hd z).1 hz with e|e
    · exact⟨_,e⟩
    · exact⟨_,e⟩
   obtain⟨i,hi⟩:=hi
   have hl:z<2*X.length:=by have:=(h.ok.isPl_head (h.arc i)).1;omega
   obtain⟨j,hj,hm⟩:=onp z hl i hi;obtain⟨y,p⟩:=two j z (pair z hl j hj)
   have fin:∀u v,prD X D u v→u≠v:=fun u v p e=>by
    obtain⟨k,rfl,rfl⟩:=p;have d:=congrArg (· / 2) e;simp only[le_div]at d
    rcases h.ends1 k with⟨a1,a2⟩|⟨a1,a2⟩
    · exact h.ne2 (i:=k) (j:=k+2) (by omega) (a1.symm.trans (d.symm.trans a2))
    · exact h.ne2 (i:=k) (j:=k+2) (by omega) (a2.symm.trans (d.trans a1))
   intro e
   rcases p with p|p
   · exact fin _ _ p (by rw[←(h.on_pair he p).1,e])
   · have:=(h.on_pair he p).1
     exact fin _ _ p (by rw[←h.sd_sd he y,this,e])
variable {W:Type} {K:CA W}
theorem Ok.hv_slide(hX:Ok X)(hp:planarB X=true){f:List Dt}(hf:f∈facesL X)(hs:slidesB X f=true)(hY:Ok (slideL X (f.map (·.1))))(hpY:planarB (slideL X (f.map (·.1)))=true)(L:Nat):hv K hX L=hv K hY L:=by
 obtain⟨D,h,he,hm⟩:=slides_tri hX hf hs
 obtain⟨d,hd,ho⟩:∃d∈f,overA X d.1=true:=by
  unfold slidesB at hs
  simp only[Bool.and_eq_true,decide_eq_true_eq]at hs;have:=hs.1.2
  have h1:0<f.countP (fun d=>overA X d.1):=by omega
  exact List.countP_pos_iff.1 h1
 obtain⟨t,rfl⟩:=(hm d).1 hd
 unfold overA at ho
 simp only[Bool.and_eq_true,decide_eq_true_eq]at ho;have ha:=h.arc t;have q1:=(hX.isPl_end (io:=false) ha).1;have q2:=(hX.isPl_end (io:=true) ha).1
 have hne:(outP X (D t).1).1≠(inP X (D t).1).1:=by
  rcases h.ends1 t with⟨a1,a2⟩|⟨a1,a2⟩<;>rw[a1,a2]
  · exact h.ne2 (by omega)
  · exact h.ne2 (by omega)
 have S:=h.swap he t (x:=(outP X (D t).1).1) (y:=(inP X (D t).1).1) (by
  rcases h.ends1 t with⟨a1,a2⟩|⟨a1,a2⟩
  · exact .inr ⟨a2,a1⟩
  · exact .inl ⟨a2,a1⟩)
 exact hX.hv_swap hY hp hpY (slideL_len X _) (fun c hc=>by rw[slideL_cr hc]) S (fun z hz=>h.sd_lt he hz) q1 q2 hne ⟨t,(le_odd ho.2).symm,(le_odd ho.1).symm⟩ L
end
end Go.Proofs.YtlicglicfijelaaGreat.Kn
