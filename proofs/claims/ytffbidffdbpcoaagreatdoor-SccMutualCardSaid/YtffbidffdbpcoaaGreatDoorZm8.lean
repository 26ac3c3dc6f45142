/- Merged by program. -/
import Derived.Test.YtffbidffdbpcoaaGreatDoorZm7
set_option linter.all false
set_option maxRecDepth 1000000
set_option maxHeartbeats 16000000
namespace Go.Proofs.YtffbidffdbpcoaaGreatDoor
open Go Go.RowKit Go.Proofs.Tryz
def GrR (w:World)(gb go:Nat)(g:List (List Nat)):Prop:=∀(v:Nat) (l:List Nat),g[v]? =some l->∃(a:Option Addr) (c:Nat),w.cell? ⟨gb,go+v*1,none⟩=some (.slice a l.length c)/\∀(i x:Nat),l[i]? =some x->∃lb lo,a=some ⟨lb,lo,none⟩/\w.cell? ⟨lb,lo+i*1,none⟩=some (Px x)
def Qu {w w':World}{a:Addr}{u:Value}(hx:Ext w w')(h:w.cell? a=some u):w'.cell? a=some u:=by
 unfold World.cell? at h⊢
 cases hh:w.heap[a.block]? with
 |none=>rw[hh] at h;simp at h
 |some o=>rw[hx.heap hh id];rw[hh] at h;exact h
def GrR.ext {w w':World}{gb go:Nat}{g:List (List Nat)}(h:GrR w gb go g)(hx:Ext w w'):GrR w' gb go g:=λv l hl=>by
 obtain⟨a,c,h1,h2⟩:=h v l hl
 refine⟨a,c,Qu hx h1,λi x hi=>?_⟩
 obtain⟨lb,lo,e,h3⟩:=h2 i x hi
 exact⟨lb,lo,e,Qu hx h3⟩
theorem GrM.r {w:World}{v:Value}{g:List (List Nat)}(h:GrM w v g)(h1:1<=g.length):∃gb go gc,v= .slice (some ⟨gb,go,none⟩) g.length gc/\GrR w gb go g:=by
 obtain⟨vs,hr,hv⟩:=h.ex
 rcases hr.2 with⟨c,-,h0⟩|⟨gb,go,gc,e,hc⟩
 ·omega
 ·refine⟨gb,go,gc,e,λv l hl=>?_⟩;obtain⟨a,c,g1,g2,g3⟩:=hv v l hl;refine⟨a,c,by rw[Nat.mul_one];exact hc v _ g1,λi x hi=>?_⟩;rcases g3.2 with⟨c',-,h0⟩|⟨lb,lo,lc,e2,ft⟩
  ·have:l=[]:=List.eq_nil_of_length_eq_zero h0;rw[this] at hi;cases hi
  ·cases e2;exact⟨lb,lo,rfl,by rw[Nat.mul_one];exact ft i _ (by rw[List.getElem?_map,hi];rfl)⟩
/-! ### Distances -/
def dI:Option Nat->Int
 |none=>-1
 |some k=>(k:Int)
def UN (g:List (List Nat))(r t:Nat):Ds:=(List.range t).foldl (λd t=>lvl t g d) ((List.replicate g.length none).set r (some 0))
theorem Ze (g:List (List Nat))(r t:Nat):UN g r (t+1)=lvl t g (UN g r t):=by
 unfold UN
 rw[List.range_succ,List.foldl_append];rfl
theorem Vb (g:List (List Nat))(r:Nat):∀t,(UN g r t).length=g.length
 |0=>by simp[UN]
 |t+1=>by rw[Ze,z6G,Vb g r t]
def z5g {g:List (List Nat)}(h:Rh g){r:Nat}(hr:r<g.length):∀t,Lev (z0g h) r t (dF (UN g r t))
 |0=>(BfI.new h hr).lev
 |t+1=>by rw[Ze];exact zcZ h (Vb g r t) (z5g h hr t)
def z7e {t:Nat}{d:Ds}{u v k:Nat}(hu:u<d.length)(h:dF d v=some k):dF (TU t d u) v=some k:=by
 rw[z55 hu,if_neg]
 ·exact h
 ·rintro⟨rfl,e⟩;rw[h] at e;cases e
def ZM {t:Nat}{v k:Nat}:∀(l:List Nat) {d:Ds},(∀u∈l,u<d.length)->dF d v=some k->dF (l.foldl (TU t) d) v=some k
 |[],d,_,h=>h
 | u :: l, d, hl, h => by
   rw[List.foldl_cons];exact ZM l (λx hx=>by rw[VN];exact hl x (List.mem_cons_of_mem _ hx)) (z7e (hl u List.mem_cons_self) h)
def zcp {d:Ds}{u:Nat}(hu:u<d.length):(d.map λo=>I (dI o))[u]? =some (I (dI (dF d u))):=by
 rw[List.getElem?_map]
 unfold dF
 rw[List.getElem?_eq_getElem hu];rfl
theorem zg4 (d:Ds)(u k:Nat):(d.map λo=>I (dI o)).set u (I (k:Int))=(d.set u (some k)).map λo=>I (dI o):=by
 rw[List.map_set];rfl
def ze0 (o:Option Nat)(t:Nat):dI o=(t:Int)↔o=some t:=by
 cases o with
 |none=>exact⟨λe=>by have e:(-1:Int)=(t:Int):=e;omega,λe=>by cases e⟩
 |some k=>exact⟨λe=>by have e:(k:Int)=(t:Int):=e;rw[show k=t by omega],λe=>by cases e;rfl⟩
def TV (n k:Nat)(a b:Value):List Value:=(List.range n).map λi=>if i<k then a else b
theorem z4S (n:Nat)(a b:Value):TV n 0 a b=List.replicate n b:=by
 apply List.ext_getElem<;>simp[TV]
theorem z7l (n:Nat)(a b:Value):TV n n a b=List.replicate n a:=by
 apply List.ext_getElem
 ·simp[TV]
 ·intro i h1 h2;have:i<n:=by simpa[TV] using h1
  simp[TV,this]
theorem z5N (n k:Nat)(a b:Value):(TV n k a b).set (0+k*1) a=TV n (k+1) a b:=by
 apply List.ext_getElem
 ·simp[TV]
 ·intro j h1 h2;simp only[TV,List.getElem_set,List.getElem_map,List.getElem_range];by_cases yJ:j=k
  ·subst yJ;simp
  ·rw[if_neg (by omega)];by_cases aS:j<k
   ·rw[if_pos aS,if_pos (by omega)]
   ·rw[if_neg aS,if_neg (by omega)]
def z29 {g:List (List Nat)}(ax:Rh g){r:Nat}(hr:r<g.length){w:World}{gb go gc:Nat}(hg:GrR w gb go g):Pm prog 29 [.slice (some ⟨gb,go,none⟩) g.length gc,I (r:Int)] w λv w'=>∃bd,v= .slice (some ⟨bd,0,none⟩) g.length g.length/\OP w' bd ((UN g r g.length).map λo=>I (dI o)) 3/\w.heap.size<=bd/\Ext w w':=by
 have fh:maxLen=9223372036854775807:=rfl
 have hn:=ax.n
 refine py (e:=[(0,_),(1,_)]) func29 O ntmps29 O O$ qN O$ QW O$ Rs WQ O$ OJ O O (pmk (c:=g.length) (n:=g.length) R0 PV O O O (by omega) (by omega) (by omega)) ?_
 rintro _ w1 ⟨bd,rfl,⟨sA,ad,ai⟩,-⟩
 refine OV O$ An$ Qx O$ OE$ Sf (λe' w'=>e'=[(0,.slice (some ⟨gb,go,none⟩) g.length gc),(1,I (r:Int)),(5,.slice (some ⟨bd,0,none⟩) g.length g.length)]/\OP w' bd (List.replicate g.length (I (-1))) 3/\Ext w w') ?bE$ λbE=>?cM
 case bE =>
  rintro e' w2 ⟨rfl,ak,ae⟩;refine Qt O$ qV (PR R0 PV O O (by omega))$ OT O (QG PV O O O ak (by simp;omega)) ?_;rintro w3 ⟨ar,av⟩;have ah:Ext w w3:=ae.It av (λj e=>by omega)
  replace ar:OP w3 bd ((UN g r 0).map λo=>I (dI o)) 3:=by
   have e:(UN g r 0).map (λo=>I (dI o))=(List.replicate g.length (I (-1))).set (0+r*1) (I 0):=by
    unfold UN;rw[Nat.zero_add,Nat.mul_one];show((List.replicate g.length none).set r (some 0)).map _=_;rw[List.map_set,List.map_replicate];rfl
   rw[e];exact ar
  refine OC$ An$ Qx O$ OE$ Rr (α:=Nat) (0) (λt=>[(0,.slice (some ⟨gb,go,none⟩) g.length gc),(5,.slice (some ⟨bd,0,none⟩) g.length g.length),(7,I (t:Int))]) (λt w'=>t<=g.length/\OP w' bd ((UN g r t).map λo=>I (dI o)) 3/\Ext w w') (λt=>g.length-t) ?hI ?hround
  case hI=>exact⟨Nat.zero_le _,ar,ah⟩
  case hround =>
   rintro t w4 ⟨ht,aK,aA⟩ ih
   try dsimp only
   refine An$ Qt O$ Rs WQ O$ Qw O$ OC$ OQ O (λhq=>?_)$ λhq=>?_
   ·have ry : t < g.length := by omega
    refine OD$ QA$ Qx O$ OE$ Rr (α:=Nat) (0) (λv=>[(0,.slice (some ⟨gb,go,none⟩) g.length gc),(5,.slice (some ⟨bd,0,none⟩) g.length g.length),(7,I (t:Int)),(8,I (v:Int))]) (λv w'=>v<=g.length/\OP w' bd (((List.range v).foldl (Zt t g) (UN g r t)).map λo=>I (dI o)) 3/\Ext w w') (λv=>g.length-v) ?hI ?hround
    case hI=>exact⟨Nat.zero_le _,aK,aA⟩
    case hround =>
     rintro v w5 ⟨hv,aH,aU⟩ ih2
     try dsimp only
     refine An$ Qt O$ Rs WQ O$ Qw O$ OC$ OQ O (λgz=>?_)$ λgz=>?_
     ·have fg : v < g.length := by omega
      have fE:g[v]? =some (OU g v):=by unfold OU;rw[List.getElem?_eq_getElem fg];rfl
      obtain⟨D,hD⟩:∃D,(List.range v).foldl (Zt t g) (UN g r t)=D:=⟨_,rfl⟩;have IW:D.length=g.length:=by rw[<-hD,US,Vb]
      have lI:(List.range (v+1)).foldl (Zt t g) (UN g r t)=Zt t g D v:=by rw[List.range_succ,List.foldl_append,hD];rfl
      rw[hD] at aH;have nq:∀u∈OU g v,u<D.length:=λu hu=>by rw[IW];exact Tq ax v u hu
      have aI:(OU g v).length<=g.length:=ax.len (List.mem_of_getElem? fE);refine OD$ QA$ Qx O$ OE$ Rr (α:=Nat) (0) (λi=>[(0,.slice (some ⟨gb,go,none⟩) g.length gc),(5,.slice (some ⟨bd,0,none⟩) g.length g.length),(7,I (t:Int)),(8,I (v:Int)),(9,I (i:Int))]) (λi w'=>i<=(OU g v).length/\(0<i->dF D v=some t)/\OP w' bd ((((OU g v).take i).foldl (TU t) D).map λo=>I (dI o)) 3/\Ext w w') (λi=>(OU g v).length-i) ?hI ?hround
      case hI=>exact⟨Nat.zero_le _,λe=>absurd e (by decide),aH,aU⟩
      case hround =>
       rintro i w6 ⟨hi,hit,aT,aR⟩ ih3;obtain⟨E,hE⟩:∃E,((OU g v).take i).foldl (TU t) D=E:=⟨_,rfl⟩;have qY:E.length=g.length:=by rw[<-hE,UF,IW]
       rw[hE] at aT;obtain⟨a,c,fx,ft⟩:=hg.ext aR v _ fE;have My:dF D v=some t->dF E v=some t:=λe=>by rw[<-hE];exact ZM _ (λu hu=>nq u (List.mem_of_mem_take hu)) e
       have ns:=zcp (d:=E) (u:=v) (by omega)
       have vY:w6.cell? ⟨bd,0+v*1,none⟩=some (I (dI (dF E v))):=by
        rw[aT.cell,Nat.zero_add,Nat.mul_one];exact ns
       try dsimp only
       refine An$ Qt O$ ON O$ qV (PR WQ Tz O O (by omega))$ qV (Ps Pu O O fx)$ Rs Pu O ?_;by_cases dl:i<(OU g v).length
       ·by_cases qa:dF E v=some t
        ·have Mz:dI (dF E v)=(t:Int):=(ze0 _ _).2 qa;obtain⟨u,hu⟩:∃u,(OU g v)[i]? =some u:=⟨_,List.getElem?_eq_getElem dl⟩;obtain⟨lb,lo,rfl,Ao⟩:=ft i u hu;have rE:u<g.length:=Tq ax v u (List.mem_of_getElem? hu)
         have G7:w6.cell? ⟨bd,0+u*1,none⟩=some (I (dI (dF E u))):=by
          rw[aT.cell,Nat.zero_add,Nat.mul_one];exact zcp (by omega)
         have IX:dF D v=some t:=by
          by_cases h0:0<i
          ·exact hit h0
          ·have:i=0:=by omega
           subst this;rw[<-hE] at qa;exact qa
         have dB:((OU g v).take (i+1)).foldl (TU t) D=TU t E u:=by
          rw[PC hu,List.foldl_append,hE];rfl
         refine Qw O$ Rz$ Pa O$ ON O$ qV (PR R0 PV O O (by omega))$ qV (Ps U3 O O vY)$ ON O$ Rg O$ Rz$ QX O$ OC$ OS O$ OD$ QA ?_;refine Qt O$ ON O$ qV (PR WQ Tz O O (by omega))$ qV (Ps Pu O O fx)$ ON O$ qV (PR Pu P6 O O (by omega))$ qV (Ps QR O O Ao)$ qV (PR R0 PV O O (by omega))$ qV (Ps U3 O O G7) ?_
         cases sP:dF E u with
         | none =>
           have MA:E[u]? =some none:=by
            have h1:=List.getElem?_eq_getElem (l:=E) (i:=u) (by omega);unfold dF at sP;rw[h1] at sP⊢;exact congrArg some sP
           have vh:TU t E u=E.set u (some (t+1)):=by
            unfold TU;rw[if_pos MA]
           rw[show dI none=-1 from rfl];refine Qw O$ Rz$ OC$ OS O$ OK O$ Pa O$ ON O$ qV (PR WQ Tz O O (by omega))$ qV (Ps Pu O O fx)$ ON O$ qV (PR Pu P6 O O (by omega))$ qV (Ps QR O O Ao)$ ON O$ PS O ?_;refine qV (PR R0 PV O O (by omega)) ?_;rw[show(t:Int)+1=((t+1:Nat):Int) by omega];refine OT O (QG PV O O O aT (by simp;omega)) ?_;rintro w7 ⟨bO,aB⟩;rw[Nat.zero_add,Nat.mul_one,zg4,<-vh,<-dB] at bO;refine OC$ Oz$ R6 O$ PS O$ OV O ?_
           exact(ih3 (i+1) _ ⟨by omega,λ_=>IX,bO,aR.It aB (λj e=>by omega)⟩ (by omega)).qb
         | some k =>
           have vh:TU t E u=E:=by
            unfold TU;rw[if_neg];intro e;unfold dF at sP;rw[e] at sP;cases sP
           rw[show dI (some k)=(k:Int) from rfl];refine Qw O$ PH$ Qg O$ Oz$ R6 O$ PS O$ OV O ((ih3 (i+1) _ ⟨by omega,λ_=>IX,?_,aR⟩ (by omega)).qb);rw[dB,vh];exact aT
        ·have Mz:¬dI (dF E v)=(t:Int):=λe=>qa ((ze0 _ _).1 e)
         have g7:i=0:=by
          by_cases h0:0<i
          ·exact absurd (My (hit h0)) qa
          ·omega
         subst g7;have IY:E=D:=hE.symm;refine Qw O$ Rz$ Pa O$ ON O$ qV (PR R0 PV O O (by omega))$ qV (Ps U3 O O vY)$ ON O$ Rg O$ PH$ QX O$ OC$ OL O$ OO O$ Oz ?_;refine R6 O$ PS O$ OV O ((ih2 (v+1) _ ⟨by omega,?_,aR⟩ (by omega)).qb);rw[lI];unfold Zt;rw[if_neg (by rw[<-IY];exact qa),<-IY];exact aT
       ·have xo:i=(OU g v).length:=by omega
        subst xo;refine Qw O$ PH$ ON O$ QL$ QL$ QL$ PM O$ OC$ OL O$ OO O$ Oz$ R6 O$ PS O$ OV O ?_;refine(ih2 (v+1) _ ⟨by omega,?_,aR⟩ (by omega)).qb;rw[lI];unfold Zt;rw[List.take_length] at hE;by_cases qa:dF D v=some t
        ·rw[if_pos qa,hE];exact aT
        ·rw[if_neg qa]
         have h0:(OU g v).length=0:=by
          rcases Nat.eq_zero_or_pos (OU g v).length with h| h
          ·exact h
          ·exact absurd (hit h) qa
         rw[List.eq_nil_of_length_eq_zero h0] at hE;rw[show D=E from hE];exact aT
     ·have fg:v=g.length:=by omega
      subst fg;refine OO O$ Oz$ R6 O$ PS O$ OV O ?_;exact(ih (t+1) _ ⟨by omega,by rw[Ze];exact aH,aU⟩ (by omega)).qb
   ·have ry:t=g.length:=by omega
    subst ry;refine OO O$ Pn O$ OV O$ OB func29 O ?_;exact⟨_,rfl,bd,rfl,aK,by omega,aA⟩
 case cM=>
  rw[<-z4S g.length (I (-1))] at ai;refine Rr (α:=Nat) (0) (λi=>[(0,.slice (some ⟨gb,go,none⟩) g.length gc),(1,I (r:Int)),(5,.slice (some ⟨bd,0,none⟩) g.length g.length),(6,I (i:Int))]) (λi w'=>i<=g.length/\OP w' bd (TV g.length i (I (-1)) (I 0)) 3/\Ext w w') (λi=>g.length-i) ?hI ?hround
  case hI=>exact⟨Nat.zero_le _,ai,ad⟩
  case hround=>
   rintro i w2 ⟨hi,ak,ae⟩ ih
   try dsimp only
   refine An$ Qt O$ Rs WQ O$ Qw O$ OC$ OQ O (λhq=>?_)$ λhq=>?_
   ·refine OD$ QA$ OK O$ Pa O$ qV (PR R0 PV O O (by omega))$ OT O (QG PV O O O ak (by simp[TV];omega)) ?_;rintro w3 ⟨ar,av⟩;rw[z5N] at ar;refine OC$ Oz$ R6 O$ PS O$ OV O ?_;exact(ih (i+1) _ ⟨by omega,ar,ae.It av (λj e=>by omega)⟩ (by omega)).qb
   ·have ao:i=g.length:=by omega
    subst ao;rw[z7l] at ak;refine OO O ?_;exact(bE _ _ ⟨rfl,ak,ae⟩).qb
structure RwM (w:World)(bg B:Nat)(L:List (List Nat)):Prop where
 ex:∃vs:List Value,OP w bg vs 62/\vs.length=L.length/\∀(i:Nat) (l:List Nat),L[i]? =some l->∃(a:Option Addr) (c:Nat),vs[i]? =some (.slice a l.length c)/\l.length<=c/\Rd w (.slice a l.length c) 1 l.length (l.map Px)/\∀b,(Value.slice a l.length c).ownBlock=some b->B<=b/\b≠bg
section
variable {w w':World}{bg B:Nat}{L:List (List Nat)}
def RwM.ext (h:RwM w bg B L)(hx:Ext w w'):RwM w' bg B L:=by
 obtain⟨vs,h1,h2,h3⟩:=h.ex
 refine⟨vs,hx.OA h1,h2,λi l hl=>?_⟩
 obtain⟨a,c,g1,g2,g3,g4⟩:=h3 i l hl
 exact⟨a,c,g1,g2,g3.ext hx,g4⟩
theorem RwM.new {n:Nat}(h:OP w bg (List.replicate n (.slice none 0 0)) 62):RwM w bg B (List.replicate n []):=
 ⟨_,h,by simp,λi l hl=>by
  rw[List.getElem?_replicate] at hl;split at hl
  ·rename_i hi
   cases hl;exact⟨none,0,by rw[List.getElem?_replicate,if_pos hi];rfl,Nat.le_refl _,⟨rfl,.inl ⟨(none,0),rfl,rfl⟩⟩,λb hb=>by cases hb⟩
  ·cases hl⟩
theorem RwM.set (h:RwM w bg B L){f:Nat}{l:List Nat}{a:Option Addr}{c:Nat}(hk:Kp (λb=>b=bg) w w')(hB:∀vs,OP w bg vs 62->OP w' bg (vs.set (0+f*1) (.slice a l.length c)) 62)(hf:f<L.length)(pM:l.length<=c)(hr:Rd w (.slice a l.length c) 1 l.length (l.map Px))(ho:∀b,(Value.slice a l.length c).ownBlock=some b->B<=b/\b≠bg):RwM w' bg B (L.set f l):=by
 obtain⟨vs,h1,h2,h3⟩:=h.ex
 refine⟨_,hB vs h1,by simp[h2],λi l' hl=>?_⟩
 rw[Nat.zero_add,Nat.mul_one]
 by_cases e:f=i
 ·subst e;rw[List.getElem?_set_self hf] at hl;cases hl;exact⟨a,c,List.getElem?_set_self (by rw[h2];exact hf),pM,hr.kp hk (λb hb e=>(ho b hb).2 e),ho⟩
 ·rw[List.getElem?_set_ne e] at hl;obtain⟨a',c',g1,g2,g3,g4⟩:=h3 i l' hl;exact⟨a',c',by rw[List.getElem?_set_ne e];exact g1,g2,g3.kp hk (λb hb e=>(g4 b hb).2 e),g4⟩
def RwM.gr (h:RwM w bg B L):GrM w (.slice (some ⟨bg,0,none⟩) L.length L.length) L:=by
 obtain⟨vs,h1,h2,h3⟩:=h.ex
 refine⟨vs,⟨by rw[h2,Nat.mul_one],.inr ⟨bg,0,L.length,rfl,λj u hj=>by rw[h1.cell,Nat.zero_add];exact hj⟩⟩,λi l hl=>?_⟩
 obtain⟨a,c,g1,g2,g3,g4⟩:=h3 i l hl
 exact⟨a,c,g1,g2,g3⟩
def RwM.lt (h:RwM w bg B L):bg<w.heap.size:=by obtain⟨vs,h1,-⟩:=h.ex;exact h1.lt
theorem RwM.cell (h:RwM w bg B L){f:Nat}{l:List Nat}(hf:L[f]? =some l):∃(a:Option Addr) (c:Nat),w.cell? ⟨bg,0+f*1,none⟩=some (.slice a l.length c)/\l.length<=c/\Rd w (.slice a l.length c) 1 l.length (l.map Px)/\∀b,(Value.slice a l.length c).ownBlock=some b->B<=b/\b≠bg:=by
 obtain⟨vs,h1,h2,h3⟩:=h.ex
 obtain⟨a,c,g1,g2,g3,g4⟩:=h3 f l hf
 exact⟨a,c,by rw[h1.cell,Nat.zero_add,Nat.mul_one];exact g1,g2,g3,g4⟩
def EdR (w:World)(ea:Option Addr)(es:List (Nat×Nat)):Prop:=∀(i:Nat) (e:Nat×Nat),es[i]? =some e->e.1<4294967296/\e.2<4294967296/\∃eb eo,ea=some ⟨eb,eo,none⟩/\w.cell? ⟨eb,eo+i*2+0,none⟩=some (Px e.1)/\w.cell? ⟨eb,eo+i*2+1,none⟩=some (Px e.2)
def EdR.ext {ea:Option Addr}{es:List (Nat×Nat)}(h:EdR w ea es)(hx:Ext w w'):EdR w' ea es:=λi e he=>by
 obtain⟨h1,h2,eb,eo,h3,h4,h5⟩:=h i e he
 exact⟨h1,h2,eb,eo,h3,Qu hx h4,Qu hx h5⟩
end
def Rh.insert {g:List (List Nat)}(h:Rh g){f x k:Nat}{s:List Nat}(hs:g[f]? =some s)(hx:x<g.length)(hk:k<=s.length)(h1:∀y∈s.take k,y<x)(h2:∀y∈s.drop k,x<y):Rh (g.set f (s.take k++[x]++s.drop k)):=by
 have hm:=List.mem_of_getElem? hs
 have vp:=h.ok s hm
 have aS:=h.lt s hm
 have hn:=h.n
 refine⟨λl hl=>?_,λl hl y hy=>?_,by rw[List.length_set];exact h.n⟩
 ·rcases List.mem_or_eq_of_mem_set hl with e| e
  ·exact h.ok l e
  ·subst e;refine⟨?_,λy hy=>?_⟩
   ·have hr:List.Pairwise (·<·) s:=vp.ris;show List.Pairwise (·<·) _;rw[List.append_assoc,List.pairwise_append];refine⟨hr.sublist (List.take_sublist _ _),?_,λa ha b hb=>?_⟩
    ·rw[List.singleton_append,List.pairwise_cons];exact⟨h2,hr.sublist (List.drop_sublist _ _)⟩
    ·rw[List.singleton_append] at hb;rcases List.mem_cons.1 hb with e| e
     ·rw[e];exact h1 a ha
     ·exact Nat.lt_trans (h1 a ha) (h2 b e)
   ·rcases List.mem_append.1 hy with e| e
    ·rcases List.mem_append.1 e with e| e
     ·exact vp.lt y (List.mem_of_mem_take e)
     ·rw[List.mem_singleton.1 e];omega
    ·exact vp.lt y (List.mem_of_mem_drop e)
 ·rw[List.length_set];rcases List.mem_or_eq_of_mem_set hl with e| e
  ·exact h.lt l e y hy
  ·subst e;rcases List.mem_append.1 hy with e| e
   ·rcases List.mem_append.1 e with e| e
    ·exact aS y (List.mem_of_mem_take e)
    ·rw[List.mem_singleton.1 e];exact hx
   ·exact aS y (List.mem_of_mem_drop e)
def Rh.empty {n:Nat}(hn:n<=60):Rh (List.replicate n []):=
 ⟨λl hl=>by rw[List.eq_of_mem_replicate hl];exact⟨List.Pairwise.nil,λy h=>(by cases h)⟩,λl hl y hy=>(by rw[List.eq_of_mem_replicate hl] at hy;cases hy),by simpa using hn⟩
theorem OP.uniq {w:World}{b:Nat}{cs cs':List Value}{T T':TypeId}(h:OP w b cs T)(h':OP w b cs' T'):cs=cs':=by
 obtain⟨fz,h1,-⟩:=h
 obtain⟨fz',h2,-⟩:=h'
 rw[h1] at h2
 have:=Rx h2
 injection this with e1 e2 e3
 have:=congrArg Array.toList e1
 simpa using this
def zam {n:Nat}(dh:1<=n)(hn:n<=40){w:World}{ea:Option Addr}{ec:Nat}{es:List (Nat×Nat)}(uy:es.length<=9000000000000000000)(hE:EdR w ea es):Pm prog 6 [I (n:Int),.slice ea es.length ec] w λv w'=>∃g bg,v= .slice (some ⟨bg,0,none⟩) g.length g.length/\g.length=n/\Rh g/\RwM w' bg w.heap.size g/\Ext w w':=by
 have fh:maxLen=9223372036854775807:=rfl
 refine py (e:=[(0,_),(1,_)]) func6 O ntmps6 O O$ qN O$ QW O$ OJ O O (pmk (c:=n) (n:=n) WQ Tz O O O (by omega) (by omega) (by omega)) ?_
 rintro _ w1 ⟨bg,rfl,⟨IP,ad,ai⟩,-⟩
 have iA:RwM w1 bg w.heap.size (List.replicate n []):=RwM.new ai
 refine OV O$ An$ Qx O$ OE$ Rr (α:=Nat×List (List Nat)) ((0,List.replicate n [])) (λy=>[(0,I (n:Int)),(1,.slice ea es.length ec),(5,.slice (some ⟨bg,0,none⟩) n n),(6,I (y.1:Int))]) (λy w'=>y.1<=es.length/\y.2.length=n/\Rh y.2/\RwM w' bg w.heap.size y.2/\Ext w w') (λy=>es.length-y.1) ?hI ?hround
 case hI=>exact⟨Nat.zero_le _,by simp,Rh.empty (by omega),iA,ad⟩
 case hround =>
  rintro⟨i,g⟩ w2 ⟨hi,fE,ax,di,ae⟩ ih;dsimp only at hi fE ax di ae ih⊢
  try dsimp only
  refine An$ Qt O$ Rs U22 O$ Qw O$ OC$ OQ O (λhq=>?_)$ λhq=>?_
  ·have dl : i < es.length := by omega
   obtain⟨e,he⟩:∃e,es[i]? =some e:=⟨_,List.getElem?_eq_getElem dl⟩;obtain⟨e1,e2,eb,eo,rfl,fx,ft⟩:=(hE.ext ae) i e he;refine OD$ QA$ An$ Qt O$ qV (PR U22 z4b O O (by omega))$ OW z5L O$ qV (Ps QR O O fx)$ qV (PJ O QR U3 (by omega))$ ON O ?_;by_cases hf:e.1<n
   ·by_cases ht:e.2<n
    ·refine U8 O$ PH$ Pa O$ ON O$ qV (PR U22 z4b O O (by omega))$ OW z0Z O$ qV (Ps QR O O ft)$ qV (PJ O QR U3 (by omega))$ ON O$ U8 O$ PH ?_;obtain⟨s,hs⟩:∃s,g[e.1]? =some s:=⟨_,List.getElem?_eq_getElem (by omega)⟩;obtain⟨a,c,ge,pM,eF,Oc⟩:=di.cell hs;have fU:s.length<=n:=by rw[<-fE];exact ax.len (List.mem_of_getElem? hs)
     refine PM O$ Qg O$ Qt O$ ON O$ qV (PR U22 z4b O O (by omega))$ OW z5L O$ qV (Ps QR O O fx)$ qV (PR WQ Tz O O (by omega))$ qV (Ps Pu O O ge)$ QS O$ OV O$ QA ?_;have uU:List.Pairwise (·<·) s:=(ax.ok s (List.mem_of_getElem? hs)).ris
     have MB:∀(k y:Nat),s[k]? =some y->∀z∈s.drop k,y<=z:=λk y hy z hz=>by
      have ny:k<s.length:=by
       rcases Nat.lt_or_ge k s.length with h| h
       ·exact h
       ·rw[List.getElem?_eq_none h] at hy;cases hy
      have h1:List.Pairwise (·<·) (s.drop k):=uU.sublist (List.drop_sublist _ _);rw[List.drop_eq_getElem_cons ny] at h1 hz;rw[List.getElem?_eq_getElem ny] at hy;cases hy;rcases List.mem_cons.1 hz with e| e
      ·omega
      ·exact Nat.le_of_lt ((List.pairwise_cons.1 h1).1 z e)
     refine Sf (λe' w'=>∃k:Nat,e'=[(0,I (n:Int)),(1,.slice (some ⟨eb,eo,none⟩) es.length ec),(5,.slice (some ⟨bg,0,none⟩) n n),(6,I (i:Int)),(7,.slice a s.length c),(8,I (k:Int))]/\k<=s.length/\(∀y∈s.take k,y<e.2)/\(∀y,s[k]? =some y->e.2<=y)/\Ext w2 w') ?nu$ λnu=>?Gc
     case nu =>
      rintro e' w3 ⟨k,rfl,hk,iw,de,ah⟩;have ag:=Ext.P4 w3;have vw:=eF.ext ah;have vx:=Qu ah ft;refine An$ PD (λe' w'=>∃q,e'=[(0,I (n:Int)),(1,.slice (some ⟨eb,eo,none⟩) es.length ec),(5,.slice (some ⟨bg,0,none⟩) n n),(6,I (i:Int)),(7,.slice a s.length c),(8,I (k:Int)),(76,.bool q)]/\(q=true->∀y∈s.drop k,e.2<y)/\Ext w2 w') ?cZ$ λcZ=>?iW
      case cZ =>
       rintro e' w4 ⟨q,rfl,uW,aA⟩;have fi:=di.ext aA;have mU:=eF.ext aA;have G8:=Qu aA fx;have G9:=Qu aA ft;have cF:=ae.trans aA;refine Qf O (λBT=>?_)$ λBT=>?_
       ·have ay:=Ext.P4 w4;have bX:=ay.size;have Ix:w.heap.size<=w4.heap.size:=cF.size;have MC:=fi.lt
        have oV:((s.take k++[e.2])++s.drop k).length=s.length+1:=by
         rw[List.length_append,List.length_append,List.length_take,List.length_drop,List.length_singleton];omega
        have iY:∀(l:List Nat),∀c∈l.map Px,c.oneCell'=true:=λl c hc=>by obtain⟨z,-,rfl⟩:=List.mem_map.1 hc;rfl
        have nK:(s.take k).length=k:=by rw[List.length_take];omega
        have pD:(s.drop k).length=s.length-k:=List.length_drop ..;obtain⟨vs,rF,sF,-⟩:=id fi.ex;refine P9 [23] (λw'=>Ext w4 w') (by kernel_rfl) O$ PQ 0 O O (ay)$ PQ 1 O O (ay)$ PQ 2 O O (ay)$ Pl 3 O (PR U22 z4b O O (by omega)) ay$ Pl 4 O (Pr z5L O) ay$ PQ 7 O O (ay)$ PQ 8 O O (ay)$ PQ 11 O O (ay)$ PQ 12 O O (ay)$ Pl 13 O (PR U22 z4b O O (by omega)) ay$ Pl 14 O (Pr z0Z O) ay$ PQ 18 O O (ay)$ PQ 19 O O (ay) ?_;refine qL 5 O (λ_ h=>Ps QR O O (Qu h G8)) ay$ Pl 9 O (zcX Pu P6 O O (by omega)) ay$ qL 15 O (λ_ h=>Ps QR O O (Qu h G9)) ay$ Pl 20 O (YI Pu P6 O O hk pM) ay$ XL (i:=6) (j:=16) (by kernel_rfl) ?_ ?_
        ·refine Qo (i:=6) O O O (XZ (cs:=[]) (zs:=[]) Pu P6 O (by kernel_rfl) O O O (by decide)) ?_;rintro v6 w6 ⟨b6,rfl,⟨nN,aR,aT⟩,g8⟩;refine⟨ay.trans aR,?_⟩;have Ga:w4.heap.size<=b6:=by omega
         have lb6:=aT.lt;have ay:=ay.trans aR
         try have cu:=cu.ext aR
         have bX:=Nat.le_trans bX aR.size;refine XL (i:=10) (j:=16) (by kernel_rfl) ?_ ?_
         ·refine Qo (i:=10) O O O (pap Pu P6 O (by decide) O O g8 ((UY (i:=k) mU hk).ext ay) (λc hc=>iY s c (List.mem_of_mem_take hc)) (by omega) (by omega)) ?_;rintro v10 w10 ⟨bZ,aC,cq,-⟩;refine⟨ay.It aC (λj e=>by have e:b6=j:=Rx e;omega),?_⟩;have ay:=ay.It aC (λj e=>by have e:b6=j:=Rx e;omega)
          try have cu:=cu.kp aC (λj hj e=>by have e:b6=j:=Rx e;have hj:b16=j:=Rx hj;omega)
          have cq:∀j,v10.ownBlock=some j->w4.heap.size<=j:=λj hj=>by rcases cq j hj with e|e;(have e:b6=j:=Rx e;omega);omega
          have bX:=Nat.le_trans bX aC.size;have Ap:=λ(j:Nat) (hj:v10.ownBlock=some j)=>bZ.lt hj;refine R9 (i:=16) (by kernel_rfl)$ Qo (i:=16) O O O (XZ (cs:=[_]) (zs:=[Value.int .u32 0]) Pu P6 O (by kernel_rfl) O O O (by decide)) ?_;rintro v16 w16 ⟨b16,rfl,⟨Aq,bB,lu⟩,cu⟩;refine⟨ay.trans bB,?_⟩;have Ar:w4.heap.size<=b16:=by omega
          have ay:=ay.trans bB
          try have g8:=g8.ext bB
          try have bZ:=bZ.ext bB
          have lb16:=lu.lt;have bX:=Nat.le_trans bX bB.size;refine R9 (i:=17) (by kernel_rfl)$ Qo (i:=17) O O O (pap Pu P6 O (by decide) O O bZ cu.rd (λc hc=>iY [e.2] c hc) (by omega) (by omega)) ?_;rintro v17 w17 ⟨iJ,cP,dY,-⟩;refine⟨ay.It cP (λj e=>cq j e),?_⟩;have ay:=ay.It cP (λj e=>cq j e);have dY:∀j,v17.ownBlock=some j->w4.heap.size<=j:=λj hj=>by rcases dY j hj with e|e;exact cq j e;omega
          have bX:=Nat.le_trans bX cP.size;refine R9 (i:=21) (by kernel_rfl)$ Qo (i:=21) O O O (pap Pu P6 O (by decide) O O iJ ((TM (i:=k) mU hk pM).ext ay) (λc hc=>iY s c (List.mem_of_mem_drop hc)) (by omega) (by omega)) ?_;rintro v21 w21 ⟨dZ,jJ,gO,-⟩;refine⟨ay.It jJ (λj e=>dY j e),?_⟩;have ay:=ay.It jJ (λj e=>dY j e);have gO:∀j,v21.ownBlock=some j->w4.heap.size<=j:=λj hj=>by rcases gO j hj with e|e;exact dY j e;omega
          refine Pl 22 O (PR WQ Tz O O (by omega)) ay ?_;have jK:=ay.OA rF;refine Tt [23]$ qO 23$ PE (i:=23) O O (QG Tz O O (WS dZ) jK (by rw[sF];omega)) ?_;rintro w23 ⟨bF,cJ⟩;refine⟨trivial,?_⟩;refine qE$ Oz$ R6 O$ PS O$ OV O ?_;rw[show 0+k+1+(s.length-k)=(s.take k++[e.2]++s.drop k).length by rw[oV];omega,show([]++List.take k (s.map Px)++[Px e.2]++List.drop k (s.map Px))=(s.take k++[e.2]++s.drop k).map Px by simp[List.map_take,List.map_drop]] at dZ;obtain⟨ra,rc,rfl,-⟩:=dZ.rd.shape
          have As:(s.take k++[e.2]++s.drop k).length<=rc:=by
           rcases dZ.shape with⟨e1,e2⟩|⟨gg,cc,e1,e2⟩
           ·omega
           ·cases e1;exact e2
          have oW:=(fi.ext ay).set cJ (f:=e.1) (l:=s.take k++[e.2]++s.drop k) (a:=ra) (c:=rc) (λvs' h'=>by rw[OP.uniq h' jK];exact bF) (by omega) As dZ.rd (λj hj=>by have:=gO j hj;omega);have oX:=ax.insert hs (x:=e.2) (k:=k) (by omega) hk iw (uW BT);exact(ih (i+1,g.set e.1 (s.take k++[e.2]++s.drop k)) _ ⟨by omega,by rw[List.length_set];exact fE,oX,oW,(cF.trans ay).It cJ (λj e=>by omega)⟩ (by omega)).qb
         ·refine Qo (i:=16) O O O (XZ (cs:=[_]) (zs:=[Value.int .u32 0]) Pu P6 O (by kernel_rfl) O O O (by decide)) ?_;rintro v16 w16 ⟨b16,rfl,⟨Aq,bB,lu⟩,cu⟩;refine⟨ay.trans bB,?_⟩;have Ar:w4.heap.size<=b16:=by omega
          have ay:=ay.trans bB
          try have g8:=g8.ext bB
          try have bZ:=bZ.ext bB
          have lb16:=lu.lt;have bX:=Nat.le_trans bX bB.size;refine R9 (i:=10) (by kernel_rfl)$ Qo (i:=10) O O O (pap Pu P6 O (by decide) O O g8 ((UY (i:=k) mU hk).ext ay) (λc hc=>iY s c (List.mem_of_mem_take hc)) (by omega) (by omega)) ?_;rintro v10 w10 ⟨bZ,aC,cq,-⟩;refine⟨ay.It aC (λj e=>by have e:b6=j:=Rx e;omega),?_⟩;have ay:=ay.It aC (λj e=>by have e:b6=j:=Rx e;omega)
          try have cu:=cu.kp aC (λj hj e=>by have e:b6=j:=Rx e;have hj:b16=j:=Rx hj;omega)
          have cq:∀j,v10.ownBlock=some j->w4.heap.size<=j:=λj hj=>by rcases cq j hj with e|e;(have e:b6=j:=Rx e;omega);omega
          have bX:=Nat.le_trans bX aC.size;have Ap:=λ(j:Nat) (hj:v10.ownBlock=some j)=>bZ.lt hj;refine R9 (i:=17) (by kernel_rfl)$ Qo (i:=17) O O O (pap Pu P6 O (by decide) O O bZ cu.rd (λc hc=>iY [e.2] c hc) (by omega) (by omega)) ?_;rintro v17 w17 ⟨iJ,cP,dY,-⟩;refine⟨ay.It cP (λj e=>cq j e),?_⟩;have ay:=ay.It cP (λj e=>cq j e);have dY:∀j,v17.ownBlock=some j->w4.heap.size<=j:=λj hj=>by rcases dY j hj with e|e;exact cq j e;omega
          have bX:=Nat.le_trans bX cP.size;refine R9 (i:=21) (by kernel_rfl)$ Qo (i:=21) O O O (pap Pu P6 O (by decide) O O iJ ((TM (i:=k) mU hk pM).ext ay) (λc hc=>iY s c (List.mem_of_mem_drop hc)) (by omega) (by omega)) ?_;rintro v21 w21 ⟨dZ,jJ,gO,-⟩;refine⟨ay.It jJ (λj e=>dY j e),?_⟩;have ay:=ay.It jJ (λj e=>dY j e);have gO:∀j,v21.ownBlock=some j->w4.heap.size<=j:=λj hj=>by rcases gO j hj with e|e;exact dY j e;omega
          refine Pl 22 O (PR WQ Tz O O (by omega)) ay ?_;have jK:=ay.OA rF;refine Tt [23]$ qO 23$ PE (i:=23) O O (QG Tz O O (WS dZ) jK (by rw[sF];omega)) ?_;rintro w23 ⟨bF,cJ⟩;refine⟨trivial,?_⟩;refine qE$ Oz$ R6 O$ PS O$ OV O ?_;rw[show 0+k+1+(s.length-k)=(s.take k++[e.2]++s.drop k).length by rw[oV];omega,show([]++List.take k (s.map Px)++[Px e.2]++List.drop k (s.map Px))=(s.take k++[e.2]++s.drop k).map Px by simp[List.map_take,List.map_drop]] at dZ;obtain⟨ra,rc,rfl,-⟩:=dZ.rd.shape
          have As:(s.take k++[e.2]++s.drop k).length<=rc:=by
           rcases dZ.shape with⟨e1,e2⟩|⟨gg,cc,e1,e2⟩
           ·omega
           ·cases e1;exact e2
          have oW:=(fi.ext ay).set cJ (f:=e.1) (l:=s.take k++[e.2]++s.drop k) (a:=ra) (c:=rc) (λvs' h'=>by rw[OP.uniq h' jK];exact bF) (by omega) As dZ.rd (λj hj=>by have:=gO j hj;omega);have oX:=ax.insert hs (x:=e.2) (k:=k) (by omega) hk iw (uW BT);exact(ih (i+1,g.set e.1 (s.take k++[e.2]++s.drop k)) _ ⟨by omega,by rw[List.length_set];exact fE,oX,oW,(cF.trans ay).It cJ (λj e=>by omega)⟩ (by omega)).qb
        ·refine Qo (i:=16) O O O (XZ (cs:=[_]) (zs:=[Value.int .u32 0]) Pu P6 O (by kernel_rfl) O O O (by decide)) ?_;rintro v16 w16 ⟨b16,rfl,⟨Aq,bB,lu⟩,cu⟩;refine⟨ay.trans bB,?_⟩;have Ar:w4.heap.size<=b16:=by omega
         have ay:=ay.trans bB
         try have g8:=g8.ext bB
         try have bZ:=bZ.ext bB
         have lb16:=lu.lt;have bX:=Nat.le_trans bX bB.size;refine R9 (i:=6) (by kernel_rfl)$ Qo (i:=6) O O O (XZ (cs:=[]) (zs:=[]) Pu P6 O (by kernel_rfl) O O O (by decide)) ?_;rintro v6 w6 ⟨b6,rfl,⟨nN,aR,aT⟩,g8⟩;refine⟨ay.trans aR,?_⟩;have Ga:w4.heap.size<=b6:=by omega
         have lb6:=aT.lt;have ay:=ay.trans aR
         try have cu:=cu.ext aR
         have bX:=Nat.le_trans bX aR.size;refine R9 (i:=10) (by kernel_rfl)$ Qo (i:=10) O O O (pap Pu P6 O (by decide) O O g8 ((UY (i:=k) mU hk).ext ay) (λc hc=>iY s c (List.mem_of_mem_take hc)) (by omega) (by omega)) ?_;rintro v10 w10 ⟨bZ,aC,cq,-⟩;refine⟨ay.It aC (λj e=>by have e:b6=j:=Rx e;omega),?_⟩;have ay:=ay.It aC (λj e=>by have e:b6=j:=Rx e;omega)
         try have cu:=cu.kp aC (λj hj e=>by have e:b6=j:=Rx e;have hj:b16=j:=Rx hj;omega)
         have cq:∀j,v10.ownBlock=some j->w4.heap.size<=j:=λj hj=>by rcases cq j hj with e|e;(have e:b6=j:=Rx e;omega);omega
         have bX:=Nat.le_trans bX aC.size;have Ap:=λ(j:Nat) (hj:v10.ownBlock=some j)=>bZ.lt hj;refine R9 (i:=17) (by kernel_rfl)$ Qo (i:=17) O O O (pap Pu P6 O (by decide) O O bZ cu.rd (λc hc=>iY [e.2] c hc) (by omega) (by omega)) ?_;rintro v17 w17 ⟨iJ,cP,dY,-⟩;refine⟨ay.It cP (λj e=>cq j e),?_⟩;have ay:=ay.It cP (λj e=>cq j e);have dY:∀j,v17.ownBlock=some j->w4.heap.size<=j:=λj hj=>by rcases dY j hj with e|e;exact cq j e;omega
         have bX:=Nat.le_trans bX cP.size;refine R9 (i:=21) (by kernel_rfl)$ Qo (i:=21) O O O (pap Pu P6 O (by decide) O O iJ ((TM (i:=k) mU hk pM).ext ay) (λc hc=>iY s c (List.mem_of_mem_drop hc)) (by omega) (by omega)) ?_;rintro v21 w21 ⟨dZ,jJ,gO,-⟩;refine⟨ay.It jJ (λj e=>dY j e),?_⟩;have ay:=ay.It jJ (λj e=>dY j e);have gO:∀j,v21.ownBlock=some j->w4.heap.size<=j:=λj hj=>by rcases gO j hj with e|e;exact dY j e;omega
         refine Pl 22 O (PR WQ Tz O O (by omega)) ay ?_;have jK:=ay.OA rF;refine Tt [23]$ qO 23$ PE (i:=23) O O (QG Tz O O (WS dZ) jK (by rw[sF];omega)) ?_;rintro w23 ⟨bF,cJ⟩;refine⟨trivial,?_⟩;refine qE$ Oz$ R6 O$ PS O$ OV O ?_;rw[show 0+k+1+(s.length-k)=(s.take k++[e.2]++s.drop k).length by rw[oV];omega,show([]++List.take k (s.map Px)++[Px e.2]++List.drop k (s.map Px))=(s.take k++[e.2]++s.drop k).map Px by simp[List.map_take,List.map_drop]] at dZ;obtain⟨ra,rc,rfl,-⟩:=dZ.rd.shape
         have As:(s.take k++[e.2]++s.drop k).length<=rc:=by
          rcases dZ.shape with⟨e1,e2⟩|⟨gg,cc,e1,e2⟩
          ·omega
          ·cases e1;exact e2
         have oW:=(fi.ext ay).set cJ (f:=e.1) (l:=s.take k++[e.2]++s.drop k) (a:=ra) (c:=rc) (λvs' h'=>by rw[OP.uniq h' jK];exact bF) (by omega) As dZ.rd (λj hj=>by have:=gO j hj;omega);have oX:=ax.insert hs (x:=e.2) (k:=k) (by omega) hk iw (uW BT);exact(ih (i+1,g.set e.1 (s.take k++[e.2]++s.drop k)) _ ⟨by omega,by rw[List.length_set];exact fE,oX,oW,(cF.trans ay).It cJ (λj e=>by omega)⟩ (by omega)).qb
       ·refine OD$ Oz$ R6 O$ PS O$ OV O ?_;exact(ih (i+1,g) _ ⟨by omega,fE,ax,fi,cF⟩ (by omega)).qb
      case iW=>
       refine QV (λw'=>Ext w3 w') O$ OZ 0 O O (ag)$ OZ 1 O O (ag)$ OG 2 O (SE Pu O) ag ?_;by_cases qs:k=s.length
       ·refine OG 3 O (yeq O O) ag$ TL$ OZ 4 O O (ag)$ qJ 5 O (ag)$ qJ 6 O (ag)$ qJ 7 O (ag)$ qJ 8 O (ag)$ qJ 9 O (ag)$ qJ 10 O (ag)$ qJ 11 O (ag)$ qJ 12 O (ag)$ qJ 13 O (ag)$ qJ 14 O (ag)$ OG 15 O (Uu O O) ag ?_;refine qE ?_;exact(cZ _ _ ⟨true,rfl,λ_ y hy=>(by rw[qs,List.drop_length] at hy;cases hy),ah.trans ag⟩).qb
       ·obtain⟨y,hy⟩:∃y,s[k]? =some y:=⟨_,List.getElem?_eq_getElem (by omega)⟩;rcases vw.2 with⟨⟨ca,cc⟩,jm,wP⟩|⟨lb,lo,cap,jm,fL⟩
        ·omega
        cases jm;have Gb:w3.cell? ⟨lb,lo+k*1,none⟩=some (Px y):=fL (k*1) _ (by rw[Nat.mul_one,List.getElem?_map,hy];rfl);refine OG 3 O (yeq O O) ag$ TD$ OZ 4 O O (ag)$ OZ 5 O O (ag)$ OZ 6 O O (ag)$ OG 7 O (PR Pu P6 O O (by omega)) ag$ OZ 9 O O (ag)$ OZ 10 O O (ag)$ OG 11 O (PR U22 z4b O O (by omega)) ag$ OG 12 O (Pr z0Z O) ag$ qT 8 O (λ_ h=>Ps QR O O (Qu h Gb)) ag$ qT 13 O (λ_ h=>Ps QR O O (Qu h vx)) ag ?_;have BU:=de y hy;by_cases HI:y=e.2
        ·refine OG 14 O (yne O O) ag$ TD$ OG 15 O (U0 O O) ag$ qE ?_;exact(cZ _ _ ⟨false,rfl,λe=>(by cases e),ah.trans ag⟩).qb
        ·refine OG 14 O (yne O O) ag$ TL$ OG 15 O (U0 O O) ag$ qE ?_;exact(cZ _ _ ⟨true,rfl,λ_ z hz=>(by have:=MB k y hy z hz;omega),ah.trans ag⟩).qb
     case Gc=>
      refine Rr (α:=Nat) (0) (λk=>[(0,I (n:Int)),(1,.slice (some ⟨eb,eo,none⟩) es.length ec),(5,.slice (some ⟨bg,0,none⟩) n n),(6,I (i:Int)),(7,.slice a s.length c),(8,I (k:Int))]) (λk w'=>k<=s.length/\(∀y∈s.take k,y<e.2)/\Ext w2 w') (λk=>s.length-k) ?hI ?hround
      case hI=>exact⟨Nat.zero_le _,λy hy=>(by simp at hy),Ext.refl _⟩
      case hround=>
       rintro k w3 ⟨hk,iw,ah⟩ ih2;have ag:=Ext.P4 w3;have vw:=eF.ext ah;have vx:=Qu ah ft
       try dsimp only
       refine An$ An$ QV (λw'=>Ext w3 w') O$ OZ 0 O O (ag)$ OZ 1 O O (ag)$ OG 2 O (SE Pu O) ag ?_;by_cases ny:k<s.length
       ·obtain⟨y,hy⟩:∃y,s[k]? =some y:=⟨_,List.getElem?_eq_getElem ny⟩;rcases vw.2 with⟨⟨ca,cc⟩,jm,wP⟩|⟨lb,lo,cap,jm,fL⟩
        ·omega
        cases jm;have Gb:w3.cell? ⟨lb,lo+k*1,none⟩=some (Px y):=fL (k*1) _ (by rw[Nat.mul_one,List.getElem?_map,hy];rfl);refine OG 3 O (ylt O O) ag$ TL$ OZ 4 O O (ag)$ OZ 5 O O (ag)$ OZ 6 O O (ag)$ OG 7 O (PR Pu P6 O O (by omega)) ag$ OZ 9 O O (ag)$ OZ 10 O O (ag)$ OG 11 O (PR U22 z4b O O (by omega)) ag$ OG 12 O (Pr z0Z O) ag$ qT 8 O (λ_ h=>Ps QR O O (Qu h Gb)) ag$ qT 13 O (λ_ h=>Ps QR O O (Qu h vx)) ag ?_;by_cases BU:y<e.2
        ·refine OG 14 O (ylt O O) ag$ TL$ OG 15 O (Uu O O) ag$ qE$ OS O$ OD$ OE$ R6 O$ PS O$ OV O$ Oz ((ih2 (k+1) _ ⟨by omega,λz hz=>?_,ah.trans ag⟩ (by omega)).qb);rw[PC hy] at hz;rcases List.mem_append.1 hz with e'|e'
         ·exact iw z e'
         ·rw[List.mem_singleton.1 e'];exact BU
        ·refine OG 14 O (ylt O O) ag$ TD$ OG 15 O (Uu O O) ag$ qE$ OL O$ OO O ?_;exact(nu _ _ ⟨k,rfl,hk,iw,λz hz=>(by rw[hy] at hz;cases hz;omega),ah.trans ag⟩).qb
       ·refine OG 3 O (ylt O O) ag$ TD$ OZ 4 O O (ag)$ qJ 5 O (ag)$ qJ 6 O (ag)$ qJ 7 O (ag)$ qJ 8 O (ag)$ qJ 9 O (ag)$ qJ 10 O (ag)$ qJ 11 O (ag)$ qJ 12 O (ag)$ qJ 13 O (ag)$ qJ 14 O (ag)$ OG 15 O (U0 O O) ag ?_;refine qE$ OL O$ OO O ?_;exact(nu _ _ ⟨k,rfl,hk,iw,λz hz=>(by rw[List.getElem?_eq_none (by omega)] at hz;cases hz),ah.trans ag⟩).qb
    ·refine U8 O$ PH$ Pa O$ ON O$ qV (PR U22 z4b O O (by omega))$ OW z0Z O$ qV (Ps QR O O ft)$ qV (PJ O QR U3 (by omega))$ ON O$ U8 O$ Rz$ PM O$ OC$ OS O ?_;refine OO O$ R6 O$ PS O$ OV O ?_;exact(ih (i+1,g) _ ⟨by omega,fE,ax,di,ae⟩ (by omega)).qb
   ·refine U8 O$ Rz$ ON O$ QL$ QL$ QL$ QL$ QX O$ OC$ OS O$ OO O$ R6 O$ PS O$ OV O ?_;exact(ih (i+1,g) _ ⟨by omega,fE,ax,di,ae⟩ (by omega)).qb
  ·refine OO O$ Pn O$ OV O$ OB func6 O ?_;exact⟨_,rfl,g,bg,by rw[fE];rfl,fE,ax,di,ae⟩
def Vq (g:List (List Nat))(v i u:Nat):List Nat:=(List.range v).filter (λx=>decide (u∈OU g x))++(if u∈(OU g v).take i then [v] else [])
def Uq (g:List (List Nat))(v i:Nat):List (List Nat):=(List.range g.length).map (Vq g v i)
def Qr (g:List (List Nat)):List (List Nat):=Uq g g.length 0
def z6a (g:List (List Nat))(v u:Nat):Vq g v (OU g v).length u=Vq g (v+1) 0 u:=by
 unfold Vq
 rw[List.take_length,List.range_succ,List.filter_append]
 by_cases h:u∈OU g v<;>simp[h]
theorem Tg (g:List (List Nat))(v i:Nat):(Uq g v i).length=g.length:=by simp[Uq]
theorem Vt (g:List (List Nat))(v i:Nat){u:Nat}(hu:u<g.length):(Uq g v i)[u]? =some (Vq g v i u):=by
 unfold Uq
 rw[List.getElem?_map,List.getElem?_range hu];rfl
def z9T (g:List (List Nat))(v i u:Nat):(Vq g v i u).length<=v+1:=by
 unfold Vq
 have h1:=List.length_filter_le (λx=>decide (u∈OU g x)) (List.range v)
 rw[List.length_range] at h1
 rw[List.length_append]
 split<;>simp<;>omega
theorem z8V {g:List (List Nat)}(ax:Rh g){v i u:Nat}(hu:(OU g v)[i]? =some u):(Uq g v i).set u (Vq g v i u++[v])=Uq g v (i+1):=by
 have rE:=Tq ax v u (List.mem_of_getElem? hu)
 have eW:u∉(OU g v).take i:=λh=>by
  have fg:v<g.length:=by
   rcases Nat.lt_or_ge v g.length with h| h
   ·exact h
   ·unfold OU at hu;rw[List.getElem?_eq_none h] at hu;cases hu
  have hr:List.Pairwise (·<·) (OU g v):=by
   unfold OU;rw[List.getElem?_eq_getElem fg];exact(ax.ok _ (List.getElem_mem fg)).ris
  have h2:=PC hu;have h3:List.Pairwise (·<·) ((OU g v).take (i+1)):=hr.sublist (List.take_sublist _ _);rw[h2,List.pairwise_append] at h3;have:=h3.2.2 u h u List.mem_cons_self;omega
 apply List.ext_getElem?
 intro x
 by_cases hx:u=x
 ·subst hx;rw[List.getElem?_set_self (by rw[Tg];exact rE),Vt _ _ _ rE]
  congr 1
  unfold Vq;rw[if_neg eW,List.append_nil,PC hu,if_pos (by simp)]
 ·rw[List.getElem?_set_ne hx];by_cases oS:x<g.length
  ·rw[Vt _ _ _ oS,Vt _ _ _ oS]
   congr 1
   unfold Vq
   congr 1
   rw[PC hu]
   have:x∈(OU g v).take i++[u]↔x∈(OU g v).take i:=by
    rw[List.mem_append,List.mem_singleton];exact⟨λe=>e.resolve_right λe=>hx e.symm,.inl⟩
   simp only[this]
  ·rw[List.getElem?_eq_none (by rw[Tg];omega),List.getElem?_eq_none (by rw[Tg];omega)]
theorem Zx (g:List (List Nat)){u:Nat}(hu:u<g.length):(Qr g)[u]? =some ((List.range g.length).filter λx=>decide (u∈OU g x)):=by
 unfold Qr
 rw[Vt _ _ _ hu]
 unfold Vq
 rw[List.take_zero,if_neg (by simp),List.append_nil]
theorem So (g:List (List Nat)):(Qr g).length=g.length:=Tg _ _ _
def zbi {g:List (List Nat)}(h:Rh g):Rh (Qr g):=by
 have hl:=So g
 have gL:∀l∈Qr g,∃u,l=(List.range g.length).filter λx=>decide (u∈OU g x):=λl hm=>by
  obtain⟨u,hu⟩:=List.getElem?_of_mem hm
  have rE:u<g.length:=by
   rcases Nat.lt_or_ge u g.length with h| h
   ·exact h
   ·rw[List.getElem?_eq_none (by omega)] at hu;cases hu
  rw[Zx g rE] at hu;exact⟨u,(Rx hu).symm⟩
 have hn:=h.n
 refine⟨λl hm=>?_,λl hm y hy=>?_,by omega⟩
 ·obtain⟨u,rfl⟩:=gL l hm;exact⟨(List.pairwise_lt_range).sublist List.filter_sublist,λy hy=>by have:=List.mem_range.1 (List.mem_filter.1 hy).1;omega⟩
 ·obtain⟨u,rfl⟩:=gL l hm;have:=List.mem_range.1 (List.mem_filter.1 hy).1;omega
structure RwA (w:World)(bg B:Nat)(L:List (List Nat)):Prop where
 ex:∃vs:List Value,OP w bg vs 62/\vs.length=L.length/\(∀(i:Nat) (l:List Nat),L[i]? =some l->∃v:Value,vs[i]? =some v/\Sl w v 59 1 l.length (l.map Px)/\∀b,v.ownBlock=some b->B<=b/\b≠bg)/\∀(i j:Nat) (vi vj:Value) (b:Nat),i≠j->vs[i]? =some vi->vs[j]? =some vj->vi.ownBlock=some b->vj.ownBlock≠some b
section
variable {w w':World}{bg B:Nat}{L:List (List Nat)}
theorem RwA.new {n:Nat}(h:OP w bg (List.replicate n (.slice none 0 0)) 62):RwA w bg B (List.replicate n []):=by
 refine⟨_,h,by simp,λi l hl=>?_,λi j vi vj b _ hi _ hb=>?_⟩
 ·rw[List.getElem?_replicate] at hl;split at hl
  ·rename_i hi
   cases hl;exact⟨.slice none 0 0,by rw[List.getElem?_replicate,if_pos hi],Sl.nil w _ 1,λb hb=>by cases hb⟩
  ·cases hl
 ·have:=List.mem_of_getElem? hi;rw[List.eq_of_mem_replicate this] at hb;cases hb
theorem RwA.rw (h:RwA w bg B L):RwM w bg B L:=by
 obtain⟨vs,h1,h2,h3,h4⟩:=h.ex
 refine⟨vs,h1,h2,λi l hl=>?_⟩
 obtain⟨v,g1,g2,g3⟩:=h3 i l hl
 obtain⟨a,c,rfl,-⟩:=g2.rd.shape
 refine⟨a,c,g1,?_,g2.rd,g3⟩
 rcases g2.shape with⟨e1,e2⟩|⟨gg,cc,e1,e2⟩
 ·omega
 ·cases e1;exact e2
theorem RwA.put {w2:World}(h:RwA w bg B L){u:Nat}{l l':List Nat}{v v':Value}{vs:List Value}(rF:OP w bg vs 62)(hu:L[u]? =some l)(hv:vs[u]? =some v)(hk:Kp (λb=>v.ownBlock=some b) w w')(hS:Sl w' v' 59 1 l'.length (l'.map Px))(ho:∀b,v'.ownBlock=some b->v.ownBlock=some b\/w.heap.size<=b)(am:Kp (λb=>b=bg) w' w2)(hB:OP w2 bg (vs.set (0+u*1) v') 62)(wj:B<=w.heap.size):RwA w2 bg B (L.set u l'):=by
 obtain⟨vs0,h1,h2,h3,h4⟩:=h.ex
 have e0:=h1.uniq rF
 subst e0
 rw[Nat.zero_add,Nat.mul_one] at hB
 obtain⟨v0,g1,g2,g3⟩:=h3 u l hu
 rw[hv] at g1
 cases g1
 have eL:=h1.lt
 have nq:u<L.length:=by
  rcases Nat.lt_or_ge u L.length with h| h
  ·exact h
  ·rw[List.getElem?_eq_none h] at hu;cases hu
 have Bb:∀b,v'.ownBlock=some b->B<=b/\b≠bg:=λb hb=>by
  rcases ho b hb with e| e
  ·exact g3 b e
  ·omega
 have aS:∀(j:Nat) (vj:Value) (b:Nat),vs0[j]? =some vj->vj.ownBlock=some b->b<w.heap.size:=λj vj b hj hb=>by
  obtain⟨lj,MD⟩:∃lj,L[j]? =some lj:=⟨_,List.getElem?_eq_getElem (by
   rw[<-h2];rcases Nat.lt_or_ge j vs0.length with h| h
   ·exact h
   ·rw[List.getElem?_eq_none h] at hj;cases hj)⟩
  obtain⟨vj',k1,k2,-⟩:=h3 j lj MD;rw[hj] at k1;cases k1;exact k2.lt hb
 refine⟨_,hB,by simp[h2],λi li hl=>?_,λi j vi vj b gW hi hj hb=>?_⟩
 ·by_cases e:u=i
  ·subst e;rw[List.getElem?_set_self nq] at hl;cases hl;exact⟨v',List.getElem?_set_self (by rw[h2];exact nq),hS.kp am (λb hb e=>(Bb b hb).2 e),Bb⟩
  ·rw[List.getElem?_set_ne e] at hl;obtain⟨vi,k1,k2,k3⟩:=h3 i li hl;exact⟨vi,by rw[List.getElem?_set_ne e];exact k1,(k2.kp hk (λb hb e2=>h4 u i v vi b e hv k1 e2 hb)).kp am (λb hb e=>(k3 b hb).2 e),k3⟩
 ·by_cases ei:u=i
  ·subst ei;rw[List.getElem?_set_self (by rw[h2];exact nq)] at hi;cases hi;rw[List.getElem?_set_ne gW] at hj;intro bN;rcases ho b hb with e| e
   ·exact h4 u j v vj b gW hv hj e bN
   ·have:=aS j vj b hj bN;omega
  ·rw[List.getElem?_set_ne ei] at hi;by_cases ej:u=j
   ·subst ej;rw[List.getElem?_set_self (by rw[h2];exact nq)] at hj;cases hj;intro bN;rcases ho b bN with e| e
    ·exact h4 i u vi v b gW hi hv hb e
    ·have:=aS i vi b hi hb;omega
   ·rw[List.getElem?_set_ne ej] at hj;exact h4 i j vi vj b gW hi hj hb
end
def z5P {g:List (List Nat)}(ax:Rh g){w:World}{gb go gc:Nat}(hg:GrR w gb go g):Pm prog 12 [.slice (some ⟨gb,go,none⟩) g.length gc] w λv w'=>∃bt,v= .slice (some ⟨bt,0,none⟩) g.length g.length/\RwM w' bt w.heap.size (Qr g)/\Ext w w':=by
 have fh:maxLen=9223372036854775807:=rfl
 have hn:=ax.n
 refine py (e:=[(0,_)]) func12 O ntmps12 O O$ qN O$ QW O$ Rs WQ O$ OJ O O (pmk (c:=g.length) (n:=g.length) WQ Tz O O O (by omega) (by omega) (by omega)) ?_
 rintro _ w1 ⟨bt,rfl,⟨ri,ad,ai⟩,-⟩
 have iA:RwA w1 bt w.heap.size (Uq g 0 0):=by
  have e:Uq g 0 0=List.replicate g.length []:=by
   apply List.ext_getElem<;>simp[Uq,Vq]
  rw[e];exact RwA.new ai
 refine OV O$ An$ Qx O$ OE$ Rr (α:=Nat) (0) (λv=>[(0,.slice (some ⟨gb,go,none⟩) g.length gc),(3,.slice (some ⟨bt,0,none⟩) g.length g.length),(4,I (v:Int))]) (λv w'=>v<=g.length/\RwA w' bt w.heap.size (Uq g v 0)/\Ext w w') (λv=>g.length-v) ?hI ?hround
 case hI=>exact⟨Nat.zero_le _,iA,ad⟩
 case hround =>
  rintro v w2 ⟨hv,di,ae⟩ ih
  try dsimp only
  refine An$ Qt O$ Rs WQ O$ Qw O$ OC$ OQ O (λhq=>?_)$ λhq=>?_
  ·have fg:v<g.length:=by omega
   have fE:g[v]? =some (OU g v):=by unfold OU;rw[List.getElem?_eq_getElem fg];rfl
   have fU:(OU g v).length<=g.length:=ax.len (List.mem_of_getElem? fE);refine OD$ QA$ Qx O$ OE$ Rr (α:=Nat) (0) (λi=>[(0,.slice (some ⟨gb,go,none⟩) g.length gc),(3,.slice (some ⟨bt,0,none⟩) g.length g.length),(4,I (v:Int)),(5,I (i:Int))]) (λi w'=>i<=(OU g v).length/\RwA w' bt w.heap.size (Uq g v i)/\Ext w w') (λi=>(OU g v).length-i) ?hI ?hround
   case hI=>exact⟨Nat.zero_le _,di,ae⟩
   case hround=>
    rintro i w3 ⟨hi,lV,ah⟩ ih2;obtain⟨a,c,fx,ft⟩:=hg v _ fE;have ag:=Ext.P4 w3
    try dsimp only
    refine An$ Qt O$ ON O$ qV (PR WQ Tz O O (by omega))$ qV (Ps Pu O O (Qu ah fx))$ Rs Pu O$ Qw O$ OC$ OQ O (λgz=>?_)$ λgz=>?_
    ·obtain⟨u,hu⟩:∃u,(OU g v)[i]? =some u:=⟨_,List.getElem?_eq_getElem (by omega)⟩;obtain⟨lb,lo,rfl,Ao⟩:=ft i u hu;have rE:u<g.length:=Tq ax v u (List.mem_of_getElem? hu);have IZ:=Vt g v i rE;have kw:=z9T g v i u;obtain⟨vs,rF,sF,gU,Gd⟩:=id lV.ex;obtain⟨vu,J0,ME,BV⟩:=gU u _ IZ
     have G7:∀{w':World},Kp (λb=>vu.ownBlock=some b) w3 w'->w'.cell? ⟨bt,0+u*1,none⟩=some vu:=λhk=>by
      rw[(hk.OA rF (λe=>(BV _ e).2 O)).cell,Nat.zero_add,Nat.mul_one];exact J0
     have z3:=ah.size;refine OD$ QA ?_;have BW:∀{w':World},Kp (λb=>vu.ownBlock=some b) w3 w'->Ext w w':=λhk=>ah.It hk (λb e=>(BV b e).1);refine P9 [23] (λw'=>Kp (λb=>vu.ownBlock=some b) w3 w') (by kernel_rfl) O$ PQ 0 O O (ag.kp)$ PQ 1 O O (ag.kp)$ PQ 2 O O (ag.kp)$ Pl 3 O (PR WQ Tz O O (by omega)) (ag.kp)$ PQ 5 O O (ag.kp)$ PQ 8 O O (ag.kp)$ PQ 9 O O (ag.kp)$ PQ 10 O O (ag.kp)$ Pl 11 O (PR WQ Tz O O (by omega)) (ag.kp)$ PQ 13 O O (ag.kp)$ PQ 18 O O (ag.kp)$ Pl 19 O (z4q O U3 QR) (ag.kp)$ qL 4 O (λ_ h=>Ps Pu O O (Qu (BW h) fx)) (ag.kp) ?_;refine qL 12 O (λ_ h=>Ps Pu O O (Qu (BW h) fx)) (ag.kp)$ Pl 6 O (PR Pu P6 O O (by omega)) (ag.kp)$ Pl 14 O (PR Pu P6 O O (by omega)) (ag.kp)$ qL 7 O (λ_ h=>Ps QR O O (Qu (BW h) Ao)) (ag.kp)$ qL 15 O (λ_ h=>Ps QR O O (Qu (BW h) Ao)) (ag.kp)$ Pl 16 O (PR WQ Tz O O (by omega)) (ag.kp)$ qL 17 O (λ_ h=>Ps Pu O O (G7 h)) (ag.kp) ?_;rw[Nat.mod_eq_of_lt (show v<4294967296 by omega)];refine R9 (i:=20) (by kernel_rfl)$ Qo (i:=20) O O O (XZ (cs:=[_]) (zs:=[Value.int .u32 0]) Pu P6 O (by kernel_rfl) O O O (by decide)) ?_;rintro v4 w4 ⟨b4,rfl,⟨fZ,aA,aK⟩,eg⟩;refine⟨ag.kp.trans aA.kp,?_⟩;have dA:=ag.trans aA;refine R9 (i:=21) (by kernel_rfl)$ Qo (i:=21) O O O (pap Pu P6 O (by decide) O O (ME.ext dA) eg.rd (λc hc=>by obtain⟨z,-,rfl⟩:=List.mem_map.1 (show c∈[v].map Px from hc);rfl) (by omega) (by omega)) ?_;rintro v5 w5 ⟨gh,aj,qz,-⟩;refine⟨dA.kp.trans aj,?_⟩;have fG:Kp (λb=>vu.ownBlock=some b) w3 w5:=dA.kp.trans aj;have z34:=dA.size;have Ge:=fG.OA rF (λe=>(BV _ e).2 O);refine Pl 22 O (PR WQ Tz O O (by omega)) (dA.kp.trans aj)$ Tt [23]$ qO 23$ PE (i:=23) O O (QG Tz O O (WS gh) Ge (by rw[sF,Tg];omega)) ?_;rintro w6 ⟨aT,aM⟩;refine⟨trivial,?_⟩;have ir:=lV.put (l':=Vq g v i u++[v]) rF IZ J0 fG (by rw[List.length_append,List.map_append];exact gh) (λb hb=>(qz b hb).imp id λe=>by omega) aM aT z3;rw[z8V ax hu] at ir;refine qE$ Oz$ R6 O$ PS O$ OV O ?_;exact(ih2 (i+1) _ ⟨by omega,ir,(ah.It fG (λb e=>(BV b e).1)).It aM (λb e=>by omega)⟩ (by omega)).qb
    ·have dl:i=(OU g v).length:=by omega
     subst dl;refine OO O$ Oz$ R6 O$ PS O$ OV O ?_
     have e:Uq g v (OU g v).length=Uq g (v+1) 0:=by
      unfold Uq;exact List.map_congr_left λu _=>z6a g v u
     exact(ih (v+1) _ ⟨by omega,by rw[<-e];exact lV,ah⟩ (by omega)).qb
  ·have fg:v=g.length:=by omega
   subst fg;refine OO O$ Pn O$ OV O$ OB func12 O ?_;exact⟨_,rfl,bt,rfl,di.rw,ae⟩
def z3v (z:Int)(hz:JIq z)(w:World):Pm prog 7 [I z] w λv w'=>∃n:Nat,v=I (n:Int)/\1<=n/\n<=40/\w'=w:=by
 have r1:=VV z 40 (by decide)
 have r2:=ZC z 40 (by decide)
 refine py (e:=[(0,_)]) func7 O ntmps7 O O$ qN O$ QW O$ qV (yrt O O (by decide))$ PS O$ qV (yrt O O (by decide)) ?_
 rw[show(z.tmod 40+40).tmod 40=nrm z 40 from rfl]
 refine PS O$ OV O$ OB func7 O ?_
 exact⟨_,rfl,(1+nrm z 40).toNat,by rw[Int.toNat_of_nonneg (by omega)];rfl,by omega,by omega,rfl⟩
def z7I:Qk:=⟨7,3,3,3,64⟩
def z8E:Qk:=⟨0,0,2,1,64⟩
def z8l:Qk:=⟨2,1,4,2,3⟩
def z42 (z:Int)(hz:JIq z)(w:World):Pm prog 24 [I z] w λv w'=>∃p:Qk,v=bpV p/\p.Qq/\p.zeta<=3/\Ext w w':=by
 have r1:=VV z 3 (by decide)
 have r2:=ZC z 3 (by decide)
 refine py (e:=[(0,_)]) func24 O ntmps24 O O$ qN O$ OJ O O (Ry (cs:=[_,_,_,_,_]) RD O) ?_
 rintro _ w1 ⟨b2,rfl,bN,ad,ai⟩
 refine qM O$ qV (Sa (cs:=[_,_,_,_,_]) RD O zcY O O)$ qV (Sa (cs:=[_,_,_,_,_]) RD O zcY O O)$ qV (Sa (cs:=[_,_,_,_,_]) RD O zcY O O)$ OJ O O (XZ (cs:=[_,_,_,_,_,_,_,_,_,_,_,_,_,_,_]) (zs:=[Value.int .i64 0,Value.int .i64 0,Value.int .i64 0,Value.int .i64 0,Value.int .i64 0,Value.int .i64 0,Value.int .i64 0,Value.int .i64 0,Value.int .i64 0,Value.int .i64 0,Value.int .i64 0,Value.int .i64 0,Value.int .i64 0,Value.int .i64 0,Value.int .i64 0]) zcW RD O (by kernel_rfl) O O O (by decide)) ?_
 rintro _ w2 ⟨b3,rfl,⟨dG,ae,ak⟩,-⟩
 refine ON O$ qV (yrt O O (by decide))$ PS O$ qV (yrt O O (by decide)) ?_
 rw[show(z.tmod 3+3).tmod 3=nrm z 3 from rfl]
 have iD:=ae.OA ai
 have Gf:nrm z 3=((0:Nat):Int)\/nrm z 3=((1:Nat):Int)\/nrm z 3=((2:Nat):Int):=by omega
 have lb:=ai.lt
 rcases Gf with e|e| e
 ·rw[e];refine qV (PR zcW RD O O (by omega))$ qV (Pp (news:=Vl z7I) U75 O RD O (OP.cells (i:=0+0*5) (n:=5) ak O) O)$ OT O (PG (news:=Vl z7I) RD O O O O iD (by simp)) ?_;rintro w3 ⟨ar,av⟩;refine OC$ Pf func24 (.cell U75 O RD O (OP.cells (n:=5) ar (news:=[_,_,_,_,_]) O) O .nil) ?_;exact⟨_,rfl,z7I,rfl,by unfold Qk.Qq S1.Qq z7I Qk.list;decide,by decide,(ad.trans ae).It av (λj e=>by omega)⟩
 ·rw[e];refine qV (PR zcW RD O O (by omega))$ qV (Pp (news:=Vl z8E) U75 O RD O (OP.cells (i:=0+1*5) (n:=5) ak O) O)$ OT O (PG (news:=Vl z8E) RD O O O O iD (by simp)) ?_;rintro w3 ⟨ar,av⟩;refine OC$ Pf func24 (.cell U75 O RD O (OP.cells (n:=5) ar (news:=[_,_,_,_,_]) O) O .nil) ?_;exact⟨_,rfl,z8E,rfl,by unfold Qk.Qq S1.Qq z8E Qk.list;decide,by decide,(ad.trans ae).It av (λj e=>by omega)⟩
 ·rw[e];refine qV (PR zcW RD O O (by omega))$ qV (Pp (news:=Vl z8l) U75 O RD O (OP.cells (i:=0+2*5) (n:=5) ak O) O)$ OT O (PG (news:=Vl z8l) RD O O O O iD (by simp)) ?_;rintro w3 ⟨ar,av⟩;refine OC$ Pf func24 (.cell U75 O RD O (OP.cells (n:=5) ar (news:=[_,_,_,_,_]) O) O .nil) ?_;exact⟨_,rfl,z8l,rfl,by unfold Qk.Qq S1.Qq z8l Qk.list;decide,by decide,(ad.trans ae).It av (λj e=>by omega)⟩
def z3U {Q:Ra}{txt:Int->OI}{K:Nat}{X:Nat->Prop}{w:World}(h:Sp Q txt K X w):Pm prog 28 [ptr Q.s 0] w λv w'=>∃a b c d e:Value,v= .agg #[a,b,c,d,e,I 0,I 0]/\Ext w w':=by
 obtain⟨P,hm,hI,hs,hf⟩:=h
 rw[<-hs.s]
 have hB:=hm.cells
 refine py (e:=[(0,_)]) func28 O ntmps28 O O$ qN O$ OJ O O (Ry (cs:=[_,_,_,_,_,_,_]) z2a O) ?_
 rintro _ w1 ⟨b2,rfl,bN,ad,ai⟩
 have x7:=ad.OA hB
 refine OC$ PK O$ qV (PY XH O O)$ Qg O$ Pn O$ Pq O$ OW VP O$ qV (Pp (news:=[I (P.fr:Int),I P.h,I P.mi,I P.wr,I 0,I 0,I 0]) U79 O z2a O (OP.cells (i:=4) (n:=7) x7 O) O)$ OJ O O (Ry (cs:=[_,_,_,_,_,_,_]) z2a O) ?_
 rintro _ w2 ⟨b3,rfl,dG,ae,ak⟩
 refine OT O (PG (news:=[I (P.fr:Int),I P.h,I P.mi,I P.wr,I 0,I 0,I 0]) z2a O O O O ak (by simp)) ?_
 rintro w3 ⟨ar,av⟩
 replace ar:OP w3 b3 [I (P.fr:Int),I P.h,I P.mi,I P.wr,I 0,I 0,I 0] 79:=ar
 have aZ:Ext w1 w3:=ae.It av (λj e=>by omega)
 have ck:=ad.trans aZ
 have kU:=ck.OA hB
 have wT:=hm.mp.ext ck
 have bV:=aZ.OA ai
 have z1:=ad.size
 have z2:=ae.size
 have l1:=ai.lt
 refine qM O$ ON O$ Pq O$ OW UR O$ qV (OM Xq O O kU O)$ qV (zjf Xq O wT.l)$ OW zfw O$ OT O (QG PV O O O ar (by simp)) ?_
 rintro w4 ⟨aK,au⟩
 have cX:=au.OA bV (by omega)
 replace aK:OP w4 b3 [I (P.fr:Int),I P.h,I P.mi,I P.wr,I ((TX P.l).length:Int),I 0,I 0] 79:=aK
 refine qM O$ qV (Pp (news:=[I (P.fr:Int),I P.h,I P.mi,I P.wr,I ((TX P.l).length:Int),I 0,I 0]) U79 O z2a O (OP.cells (i:=0) (n:=7) aK O) O)$ OT O (PG (news:=[I (P.fr:Int),I P.h,I P.mi,I P.wr,I ((TX P.l).length:Int),I 0,I 0]) z2a O O O O cX (by simp)) ?_
 rintro w5 ⟨aH,aj⟩
 refine OC$ Pf func28 (.cell U79 O z2a O (OP.cells (n:=7) aH (news:=[_,_,_,_,_,_,_]) O) O .nil) ?_
 exact⟨_,rfl,_,_,_,_,_,rfl,(ck.It au (λj e=>by omega)).It aj (λj e=>by omega)⟩
theorem RE {L:List Bool}{s n:Nat}{b:Bool}(h:s+n<=L.length)(i:Nat):(Qd L s n b)[i]? =if s<=i/\i<s+n then some b else L[i]? :=by
 unfold Qd
 have hl:(L.take s).length=s:=by rw[List.length_take];omega
 by_cases h1:i<s
 ·rw[if_neg (by omega),List.getElem?_append_left (by omega),List.getElem?_take_of_lt h1]
 ·rw[List.getElem?_append_right (by omega),hl];by_cases h2:i<s+n
  ·rw[if_pos (by omega),List.getElem?_append_left (by rw[List.length_replicate];omega),List.getElem?_replicate,if_pos (by omega)]
  ·rw[if_neg (by omega),List.getElem?_append_right (by rw[List.length_replicate];omega),List.length_replicate,List.getElem?_drop]
   congr 1
   omega
def Yw {L:List Bool}{a n:Nat}(h:Pre L a)(hn:a+n<=L.length):Pre (Qd L a n true) (a+n):=by
 have h2:=h.a2
 refine⟨by omega,by rw[PZ hn];exact hn,λi h1 h3=>?_,λi h1 h3=>?_⟩
 ·rw[RE hn];split
  ·rfl
  ·exact h.tk i h1 (by omega)
 ·rw[PZ hn] at h3;rw[RE hn,if_neg (by omega)];exact h.fr i (by omega) h3
theorem za6 {L:List Bool}{a n:Nat}(h:Pre L a)(hn:a+n<=L.length):Qd (Qd L a n true) a n false=L:=by
 have h1:=PZ (b:=true) hn
 have h4:=PZ (b:=false) (L:=Qd L a n true) (s:=a) (n:=n) (by omega)
 apply List.ext_getElem?
 intro i
 rw[RE (by omega),RE hn]
 by_cases hi:a<=i/\i<a+n
 ·rw[if_pos hi];exact(h.fr i hi.1 (by omega)).symm
 ·rw[if_neg hi,if_neg hi]
def z4U {Q:Ra}{txt:Int->OI}{K:Nat}{X:Nat->Prop}{w:World}(hP:Sp Q txt K X w)(hX:∀b,X b->b<w.heap.size)(hK:K<=90000000000)(x1:X 1)(x2:X 2)(hG:OP w 1 (Sg .gamma) 294)(hU:OP w 2 (Sg .unary) 294){g:List (List Nat)}(ax:Rh g)(bh:1<=g.length)(ij:g.length<=40){ga:Option Addr}{gc:Nat}(jX:GrM w (.slice ga g.length gc) g){p:Qk}(hp:p.Qq)(hz:p.zeta<=3){a:Nat}(ha:Pre Q.L a)(f9:a+72<=Q.L.length):
  Pm prog 23 [ptr Q.s 0,.slice ga g.length gc,bpV p] w λv w'=>∃(G:ZI) (txt':Int->OI),v= .tuple #[ptr G.k 0,.bool true]/\G.g=g/\G.st=a/\G.len<=72/\1<=G.len/\(w.heap.size<=G.k/\w.heap.size<=G.x/\w.heap.size<=G.rb)/\SI G (Q.Qi (Qd Q.L a G.len true)) txt' (K+200) (λj=>X j\/j=G.x\/j=G.k) w'/\(∀y:Int,y<(a:Int)\/(a:Int)+(G.len:Int)<=y->txt' y=txt y)/\Kp (λb=>¬X b) w w':=by
 have ek:=hP.n
 refine py (e:=[(0,_),(1,_),(2,_)]) func23 O ntmps23 O O$ qN O$ OJ O O (R4 O (cs:=Vl p) O) ?_
 rintro _ w1 ⟨bp,rfl,Od,ad,sk⟩
 refine SA O$ QW O$ qV (Pp (news:=Vl p) U75 O RD O (OP.cells (i:=0) (n:=5) sk O) O)$ P5 zjN O (z6Z hp ax bh (jX.ext ad) (ad.OA hG) (ad.OA hU)) ?_
 rintro _ w2 ⟨E,MF,rfl,ae⟩
 have Bw:SV p g E:=⟨hp,ax,bh,MF⟩
 have Gg:=zba Bw ij hz
 obtain⟨T,hT⟩:∃T,Xt p g E=T:=⟨_,rfl⟩
 rw[hT] at Gg⊢
 have aG:=ad.trans ae
 have fd:=hP.ext' aG
 refine ON O$ SU O$ Qm O$ PK O$ QE O$ Qg O$ Pn O$ P5 z5b O (fd.size) ?_
 rintro _ w2 ⟨rfl,rfl⟩
 refine ON O$ qV (Wg U9 O)$ P5 zkD O (z39 T.length (by omega) _) ?_
 rintro _ w2 ⟨rfl,rfl⟩
 obtain⟨N,hN⟩:∃N,(T.length+523) / 512=N:=⟨_,rfl⟩
 rw[hN]
 have kW:1<=N/\N<=72/\T.length<=N*512-12:=by omega
 refine ON O$ SU O$ Qm O$ Po.qb (e:=[(0,_),(6,_),(7,_),(8,_),(9,_),(10,_)]) ?_
 refine PK O$ QE O ?_
 have fT:∀b,X b->b<w2.heap.size:=λb hb=>by have:=hX b hb;have:=aG.size;omega
 refine Qg O$ Qt O$ P5 ziN O (fd.take fT ha kW.1 (by omega)) ?_
 rintro _ w3 ⟨rfl,gd,av⟩
 have eP:(Qd Q.L a N true).length=Q.L.length:=PZ (by omega)
 obtain⟨Q3,rG⟩:∃Q3,Q.Qi (Qd Q.L a N true)=Q3:=⟨_,rfl⟩
 rw[rG] at gd
 have D7:Q3.s=Q.s:=by rw[<-rG];rfl
 have Oe:Q3.L.length=Q.L.length:=by rw[<-rG];exact eP
 rw[<-D7]
 have z3:=av.size
 have pN:∀b,X b->b<w3.heap.size:=λb hb=>by have:=fT b hb;omega
 refine ON O$ SU O$ OJ O O (Ry (cs:=[_,_]) QY O) ?_
 rintro _ w4 ⟨be,rfl,EI,aA,eD⟩
 refine OT O (PG (news:=[I (a:Int),I (N:Int)]) QY O O O O eD (by simp)) ?_
 rintro w5 ⟨lw,aj⟩
 replace lw:OP w5 be [I (a:Int),I (N:Int)] 118:=lw
 have cw:Ext w3 w5:=aA.It aj (λj e=>by omega)
 refine OV O$ PK O$ QE O ?_
 have i5:Sp Q3 txt K (λb=>X b\/b=be) w5:=gd.ext cw (λb e=>e.imp id λe=>by omega)
 refine Qg O$ Pn O$ qV (Pp (news:=[I (a:Int),I (N:Int)]) Xm O QY O (OP.cells (i:=0) (n:=2) lw O) O)$ P5 zl3 O (z3l i5 kW.1 (by omega)) ?_
 rintro _ w6 ⟨wb,bs,bx,bw,sum,rfl,i3,At,⟨z1',z2',z3',z4'⟩,aR⟩
 have z5:=cw.size
 have z6:=aR.size
 have lbe:=lw.lt
 obtain⟨X6,mR⟩:∃X6:Nat->Prop,(λb=>X b\/b=be\/b=wb\/b=bs\/b=bx\/b=bw)=X6:=⟨_,rfl⟩
 have eH:∀b,X b->X6 b:=λb hb=>by rw[<-mR];exact .inl hb
 have ao:X6 wb/\X6 bs/\X6 bx/\X6 bw:=by rw[<-mR];exact⟨.inr (.inr (.inl O)),.inr (.inr (.inr (.inl O))),.inr (.inr (.inr (.inr (.inl O)))),.inr (.inr (.inr (.inr (.inr O))))⟩
 have Gh:X6 be:=by rw[<-mR];exact .inr (.inl O)
 have nD:Sp Q3 txt K X6 w6:=i5.ext aR (λb e=>by
  rw[<-mR] at e;rcases e with e|e| e
  ·exact .inl (.inl e)
  ·exact .inl (.inr e)
  ·exact .inr (by omega))
 have l1:=At.wr.lt
 have l2:=At.sb.lt
 have l3:=At.xb.lt
 have l4:=At.pb.lt
 have rH:∀b,X6 b->b<w6.heap.size:=λb e=>by
  rw[<-mR] at e;rcases e with e| e
  ·have:=pN b e;omega
  ·omega
 have Gi:be≠wb:=by omega
 refine ON O$ SU O$ Qm O$ PK O$ QE O$ Pa O$ ON O$ P5 zku O (z5w nD rH (by omega) At i3 ao (by omega) kW.1 kW.2.2) ?_
 rintro _ w7 ⟨rfl,sum7,sW,txt7,rest,sT,iE,hH,Gj,Gk,aB,tK⟩
 have z7:=aB.size
 refine QE O$ PM O$ Pa O$ P5 zkq O (z5o sT (λb e=>by have:=rH b e;omega) (by omega) iE sW ao (by omega) hN.symm (by rw[show T.length%512=T.length-512*(T.length / 512) by omega];exact hH) (λb hb e=>by have:=rH b e;have:=tK b hb;omega) Gj) ?_
 rintro _ w8 ⟨rfl,txt8,pP,Gl,Gm,MG,aL⟩
 have z8:=aL.size
 have qk:Kp (λb=>¬X6 b\/b=wb) w6 w8:=aB.trans aL
 have Gn:=qk.OA (aR.OA lw) (λe=>e.elim (λe=>e Gh) Gi)
 refine QE O$ PM O$ OC$ Po.qb (e:=[(0,_),(6,_),(7,_),(9,_),(11,_),(59,_)]) ?_
 refine SH O$ Pn O$ qV (Pp (news:=[I (a:Int),I (N:Int)]) Xm O QY O (OP.cells (i:=0) (n:=2) Gn O) O)$ P5 zkH O (z6p pP (λb e=>by have:=rH b e;omega) (by omega) kW.1 (by omega) kW.2.2 sW Gm) ?_
 rintro _ w9 ⟨rb,rfl,Au,I3,q9,aw⟩
 have z9:=aw.size
 have lrb:=Au.lt
 have hL:Laid txt8 a T:=Laid.of λk hk=>⟨q9.z1n (by omega) (by omega),Gl k hk⟩
 subst hT
 have hO:StO Q3 txt8 (K+(Xt p g E).length / 512+2) a N (Xt p g E):=⟨by omega,by omega,hL,by omega⟩
 have tP:Kp (λb=>¬X b) w w6:=(aG.kp.trans av).trans (cw.trans aR).kp
 have mj:Kp (λb=>¬X b) w w8:=tP.It qk λb e=>by
  rcases e with e| e
  ·exact .inr λe2=>e (eH b e2)
  ·exact .inl (by have:=aG.size;omega)
 have oY:Kp (λb=>¬X b) w w9:=mj.trans (aw.OH λb e e2=>e (eH b e2))
 have z2:=aG.size
 have vg:¬X rb:=λe=>by have:=hX rb e;omega
 have hI:(z63 hO rb sum7).inv X w9:=⟨q9.less (λb e=>e.imp (eH b) id),Au,vg⟩
 refine ON O$ SU O$ Qm O$ PK O$ QE O$ Qg O$ Pn O$ P5 zkg O (z60 Bw hO hI (λb e=>by have:=hX b e;omega) x1 x2 (oY.OA hG (λe=>e x1)) (oY.OA hU (λe=>e x2))) ?_
 rintro _ w10 ⟨k,x,rfl,kh,oS,MH,aC⟩
 refine ON O$ SU O$ SA O$ QS O$ Pa O$ Rg O$ Rz$ Pa O$ qV (z4I ZH O O)$ QX O$ Qm O$ Po.qb (e:=[(6,_),(7,_)]) ?_
 refine OB func23 O (⟨_,rfl,⟨p,g,E,a,N,rb,sum7,k,x⟩,txt8,rfl,rfl,rfl,kW.2.1,kW.1,⟨by show w.heap.size<=k;omega,by show w.heap.size<=x;omega,by show w.heap.size<=rb;omega⟩,?_,λy hy=>?_,oY.trans aC⟩)
 ·rw[rG];exact SI.more (G:=⟨p,g,E,a,N,rb,sum7,k,x⟩) ⟨hO,MH⟩ (by omega) (by omega)
 ·show txt8 y=txt y;have hy:y<(a:Int)\/(a:Int)+(N:Int)<=y:=hy;rw[MG y hy,Gk y (by omega)]
structure Wd where
 d:Nat
 Q:Ra
 txt:Int->OI
 K:Nat
 G:ZI
 T:ZI
 a:Nat
def Wd.v (W:Wd):List Value:=[ptr W.d 0,ptr W.Q.s 0,ptr W.G.k 0,ptr W.T.k 0,I ((200-W.a:Nat):Int)]
structure WdM (W:Wd)(g:List (List Nat))(XX:Nat->Prop)(w:World):Prop where
 hg:SI W.G W.Q W.txt W.K (λb=>XX b/\b≠W.G.rb) w
 ht:SI W.T W.Q W.txt W.K (λb=>XX b/\b≠W.T.rb) w
 gg:W.G.g=g
 tg:W.T.g=Qr g
 pre:Pre W.Q.L W.a
 a:W.a<=146
 L:W.Q.L.length=200
 K:W.K<=400
 gs:W.G.st+W.G.len<=W.T.st
 ts:W.T.st+W.T.len<=W.a
 rb:XX W.G.rb/\XX W.T.rb/\W.G.rb≠W.T.rb/\W.T.rb≠W.G.k/\W.T.rb≠W.G.x/\W.G.rb≠W.T.k/\W.G.rb≠W.T.x
def zbl {w:World}{g:List (List Nat)}(ax:Rh g)(bh:1<=g.length)(ij:g.length<=40){ga:Option Addr}{gc:Nat}(jX:GrM w (.slice ga g.length gc) g)(hG:OP w 1 (Sg .gamma) 294)(hU:OP w 2 (Sg .unary) 294)(fr fo:Int)(jU:JIq fr)(vy:JIq fo):
  Pm prog 8 [.slice ga g.length gc,I fr,I fo] w λv w'=>∃(W:Wd) (XX:Nat->Prop),v= .tuple #[.agg W.v.toArray,.bool true]/\WdM W g XX w'/\Ext w w'/\(∀b,b<w.heap.size->XX b/\b≠W.G.rb/\b≠W.T.rb)/\w.heap.size<=W.G.k/\w.heap.size<=W.G.x/\w.heap.size<=W.T.k/\w.heap.size<=W.T.x:=by
 have r1:=VV fr 12 (by decide)
 have r2:=ZC fr 12 (by decide)
 have l1:=hG.lt
 have l2:=hU.lt
 refine py (e:=[(0,_),(1,_),(2,_)]) func8 O ntmps8 O O$ qN O$ OJ O O (Ry (cs:=[_,_,_,_,_]) z2d O) ?_
 rintro _ w1 ⟨bW,rfl,Of,ad,J1⟩
 have z1:=ad.size
 have lW:=J1.lt
 refine QS O$ qV (Sa (cs:=[_,_]) zaU O zjT O O)$ P5 zjI O (zdf 200 1 _ (by unfold z07;decide)) ?_
 rintro _ w2 ⟨d,Fd,rfl,hD,ae,MI⟩
 refine ON O$ SU O$ SA O$ QS O$ P5 zkA O (z9D 200 (by decide) _) ?_
 rintro _ w3 ⟨m,gi,rfl,hE,hm,uz,ah⟩
 have z2:=ae.size
 have z3:=ah.size
 have MJ:=hD.ext ah
 refine ON O$ SU O$ SA O$ QS O$ Pa O$ qV (yrt O O (by decide))$ PS O$ qV (yrt O O (by decide)) ?_
 rw[show(fr.tmod 12+12).tmod 12=nrm fr 12 from rfl]
 obtain⟨nf,MK,Gp,ML⟩:∃nf:Nat,1+nrm fr 12=(nf:Int)/\1<=nf/\nf<=12:=⟨(1+nrm fr 12).toNat,by omega,by omega,by omega⟩
 refine PS O ?_
 rw[MK]
 have im:(List.replicate 200 false).length=200:=List.length_replicate
 have MM:¬Fd m/\¬Fd gi:=⟨λe=>by have:=hD.lt _ e;omega,λe=>by have:=hD.lt _ e;omega⟩
 refine ON O$ P5 zk4 O (z9H (L:=List.replicate 200 false) (by rw[im];exact MJ) hE MM nf Gp (by omega)) ?_
 rintro _ w4 ⟨P,rfl,hM,hI,MN,MO,J2,MP,aA⟩
 have z4:=aA.size
 have cF:Ext w w4:=((ad.trans ae).trans ah).trans aA
 have Gq:=((ae.trans ah).trans aA).OA J1
 obtain⟨X,hX⟩:∃X:Nat->Prop,(λb=>b<w.heap.size\/b=bW)=X:=⟨_,rfl⟩
 have Gs:∀b,X b->b<w1.heap.size:=λb e=>by rw[<-hX] at e;omega
 have oZ:∀b,b<w.heap.size->X b:=λb e=>by rw[<-hX];exact .inl e
 have BX:X bW:=by rw[<-hX];exact .inr O
 have jW:Sp P (λ_=>zeros 512) 0 X w4:=⟨P,hM,hI,⟨rfl,rfl,rfl,rfl,rfl,rfl,rfl,rfl,rfl⟩,λb hb e=>by
  have:=Gs b e;rcases MP b hb with e|e|e| e
  ·have:=MI b e;omega
  ·omega
  ·omega
  ·omega⟩
 have dH:Pre P.L 2:=by
  rw[J2];exact⟨Nat.le_refl _,by rw[im];omega,λi h1 h2=>by omega,λi h1 h2=>by rw[im] at h2;rw[List.getElem?_replicate,if_pos h2]⟩
 have Og:P.L.length=200:=by rw[J2,im]
 refine ON O$ SU O$ Qm O$ Po.qb (e:=[(0,_),(2,_),(6,_),(7,_),(8,_),(9,_),(10,_),(11,_),(12,_),(13,_)]) ?_
 refine PK O$ QE O$ PH$ Pa O$ QE O$ PH$ PM O$ Pa O$ QE O$ PH$ PM O$ Pa O$ qV (PY XH O O)$ PM O ?_
 refine Qg O$ Qt O$ ON O$ P5 zgK O (z42 fo vy _) ?_
 rintro _ w5 ⟨p1,rfl,CT,nJ,aU⟩
 have z5:=aU.size
 have bS:=cF.trans aU
 have Av:∀b,X b->b<w5.heap.size:=λb e=>by have:=Gs b e;omega
 refine P5 ziw O (z4U (jW.ext' aU) Av (by omega) (oZ 1 l1) (oZ 2 l2) (bS.OA hG) (bS.OA hU) ax bh ij (jX.ext bS) CT nJ dH (by omega)) ?_
 rintro _ w6 ⟨G,txt6,rfl,MQ,Oh,Oi,MR,⟨n1,n2,n3⟩,dQ,J3,aM⟩
 have iO:Ext w w6:=bS.It aM (λb e=>by
  rcases Nat.lt_or_ge b w.heap.size with h| h
  ·exact absurd (oZ b h) e
  ·exact h)
 have z6:=aM.size
 have Gt:=aM.OA (aU.OA Gq) (λe=>e BX)
 have Ga:(Qd P.L 2 G.len true).length=P.L.length:=PZ (by omega)
 have p8:Pre (Qd P.L 2 G.len true) (2+G.len):=Yw dH (by omega)
 obtain⟨Q6,Gu⟩:∃Q6,P.Qi (Qd P.L 2 G.len true)=Q6:=⟨_,rfl⟩
 have Gv:Q6.L=Qd P.L 2 G.len true:=by rw[<-Gu];rfl
 have vz:Q6.s=P.s/\Q6.d=P.d/\Q6.m=P.m:=by rw[<-Gu];exact⟨rfl,rfl,rfl⟩
 rw[Gu] at dQ
 rw[<-Gv] at Ga p8
 obtain⟨gb,go,gc',km,Gw⟩:=jX.r bh
 cases km
 refine ON O$ SU O$ Qm O$ Po.qb (e:=[(0,_),(2,_),(6,_),(7,_),(8,_),(10,_),(12,_),(14,_),(15,_)]) ?_
 refine Qt O$ P5 zjR O (z5P ax (Gw.ext iO)) ?_
 rintro _ w7 ⟨bt,rfl,MS,co⟩
 have kr:=iO.trans co
 have z7:=co.size
 have Gx:=dQ.ext co
 have kw:=So g
 refine ON O$ qV (zb7 O O) ?_
 obtain⟨fo2,Aw⟩:∃z,IntKind.i64.wrap (fo+1)=z:=⟨_,rfl⟩
 have Ax:JIq fo2:=by
  rw[<-Aw,IntKind.wrap_i64];omega
 rw[Aw]
 refine P5 zgK O (z42 fo2 Ax _) ?_
 rintro _ w8 ⟨p2,rfl,tV,nn,cT⟩
 have z8:=cT.size
 have aP:=Gx.ext cT
 have vA:=kr.trans cT
 obtain⟨X2,fT⟩:∃X2:Nat->Prop,(λb=>(X b\/b=G.x\/b=G.k)\/b=G.rb)=X2:=⟨_,rfl⟩
 have iK:∀b,X b->X2 b:=λb e=>by rw[<-fT];exact .inl (.inl e)
 have pP:Sp Q6 txt6 (0+200) X2 w8:=by rw[<-fT];exact aP.sp
 have Gy:∀b,X2 b->b<w8.heap.size:=λb e=>aP.lt1 b (by rw[<-fT] at e;exact e)
 have Gz:GrM w8 (.slice (some ⟨bt,0,none⟩) (Qr g).length (Qr g).length) (Qr g):=(MS.ext cT).gr
 have pG:=z4U pP Gy (by omega) (iK _ (oZ 1 l1)) (iK _ (oZ 2 l2)) (vA.OA hG) (vA.OA hU) (zbi ax) (by omega) (by omega) Gz tV nn p8 (by omega)
 rw[vz.1,kw] at pG
 refine P5 ziw O (pG) ?_
 rintro _ w9 ⟨T,txt9,rfl,MT,Oj,Ol,MU,⟨t1,t2,t3⟩,iT,BY,aw⟩
 have z9:=aw.size
 have gG:Ext w w9:=vA.It aw (λb e=>by
  rcases Nat.lt_or_ge b w.heap.size with h| h
  ·exact absurd (iK b (oZ b h)) e
  ·exact h)
 have GA:=aw.OA ((co.trans cT).OA Gt) (λe=>e (iK _ BX))
 have J4:(Qd Q6.L (2+G.len) T.len true).length=Q6.L.length:=PZ (by omega)
 have p9:Pre (Qd Q6.L (2+G.len) T.len true) (2+G.len+T.len):=Yw p8 (by omega)
 obtain⟨Q9,GB⟩:∃Q9,Q6.Qi (Qd Q6.L (2+G.len) T.len true)=Q9:=⟨_,rfl⟩
 have GC:Q9.L=Qd Q6.L (2+G.len) T.len true:=by rw[<-GB];rfl
 have vB:Q9.s=Q6.s/\Q9.d=Q6.d/\Q9.m=Q6.m:=by rw[<-GB];exact⟨rfl,rfl,rfl⟩
 rw[GB] at iT
 rw[<-GC] at J4 p9
 have Ay:=iT.sp
 have vC:=iT.lt1
 have MV:SI G Q9 txt9 (0+200+200) (λb=>(X b\/b=G.x\/b=G.k)\/b=T.x\/b=T.k\/b=T.rb) w9:=aP.zkP aw (λb e=>by rw[<-fT] at e;exact e) (λj e=> .inl e) (λj e=>e.imp id λe=>by
   have h1:=vC T.x (.inl (.inr (.inl O)));have h2:=vC T.k (.inl (.inr (.inr O)));have h3:=vC T.rb (.inr O)
   omega) (Ay.less λb e=>by
   rw[<-fT];rcases e with(e|e|e|e)| e
   ·exact .inl (.inl (.inl e))
   ·exact .inl (.inr (.inl e))
   ·exact .inl (.inr (.inr e))
   ·exact .inr e
   ·exact .inl (.inl (.inr e))) vB.1 J4 (by omega) (λy h1 h2=>BY y (.inl (by omega)))
 have f9:=Ay.room p9 (by omega)
 rw[vB.2.2,vz.2.2,MN] at f9
 refine ON O$ SU O$ SA O$ QS O$ Pa O$ Pa O$ ON O$ P5 ziv O (f9) ?_
 rintro _ w10 ⟨rfl,bJ⟩
 have Az:=bJ.OA GA
 rw[show Q9.L.length-(2+G.len+T.len)=200-(2+G.len+T.len) by omega]
 refine qV (Sa (cs:=[_,_,_,_,_]) z2d O zkh O O)$ Pa O$ ON O$ QX O$ OT O (PG (news:=[_,_,_,_,_]) z2d O O O O Az (by simp)) ?_
 rintro w11 ⟨AA,bz⟩
 refine OV O$ Po.qb (e:=[(6,_),(7,_)]) ?_
 refine Pf func8 (.cell U30 O z2d O (OP.cells (n:=5) AA (news:=[_,_,_,_,_]) O) O (.tmp O .nil)) ?_
 obtain⟨XX,eH⟩:∃XX:Nat->Prop,(λb=>X b\/b=G.x\/b=G.k\/b=G.rb\/b=T.x\/b=T.k\/b=T.rb)=XX:=⟨_,rfl⟩
 have BZ:=aP.rbX
 have qc:=iT.rbX
 have C1:=aP.xk
 have J5:=iT.xk
 have zG:=aP.lt1 _ (.inr O)
 have zGk:=aP.lt1 _ (.inl C1.1)
 have zGx:=aP.lt1 _ (.inl C1.2.1)
 have cR:∀b,X b->b<w1.heap.size:=Gs
 have GD:SI G Q9 txt9 400 (λb=>XX b/\b≠G.rb) w11:=by
  refine SI.less (Y:=λb=>(X b\/b=G.x\/b=G.k)\/b=T.x\/b=T.k\/b=T.rb) ((MV.ext bJ).own bz λj e=>?_) (λb e=>?_) ?_
  ·subst e;exact⟨.inl (.inl BX),by omega,by omega,by omega,by omega⟩
  ·rw[<-eH] at e;rcases e with⟨e|e|e|e|e,h⟩
   ·exact .inl (.inl e)
   ·exact .inl (.inr (.inl e))
   ·exact .inl (.inr (.inr e))
   ·exact absurd e h
   ·exact .inr e
  ·rw[<-eH];exact⟨⟨.inr (.inr (.inl O)),λe=>BZ (e▸C1.1)⟩,⟨.inr (.inl O),λe=>BZ (e▸C1.2.1)⟩,⟨.inl (oZ 1 l1),by omega⟩,⟨.inl (oZ 2 l2),by omega⟩⟩
 have GE:SI T Q9 txt9 400 (λb=>XX b/\b≠T.rb) w11:=by
  refine SI.less (Y:=λj=>X2 j\/j=T.x\/j=T.k) ((iT.ext bJ).own bz λj e=>?_) (λb e=>?_) ?_
  ·subst e;exact⟨.inl (iK _ BX),by omega,by omega,by omega,by omega⟩
  ·rw[<-eH] at e;rw[<-fT];rcases e with⟨e|e|e|e|e|e|e,h⟩
   ·exact .inl (.inl (.inl e))
   ·exact .inl (.inl (.inr (.inl e)))
   ·exact .inl (.inl (.inr (.inr e)))
   ·exact .inl (.inr e)
   ·exact .inr (.inl e)
   ·exact .inr (.inr e)
   ·exact absurd e h
  ·rw[<-eH];exact⟨⟨.inr (.inr (.inr (.inr (.inr (.inl O))))),λe=>qc (e▸J5.1)⟩,⟨.inr (.inr (.inr (.inr (.inl O)))),λe=>qc (e▸J5.2.1)⟩,⟨.inl (oZ 1 l1),by omega⟩,⟨.inl (oZ 2 l2),by omega⟩⟩
 refine⟨_,rfl,⟨d,Q9,txt9,400,G,T,2+G.len+T.len⟩,XX,?_,⟨GD,GE,MQ,MT,p9,?_,?_,?_,?_,?_,by rw[<-eH];exact⟨.inr (.inr (.inr (.inl O))),.inr (.inr (.inr (.inr (.inr (.inr O))))),λe=>qc (.inl (by rw[<-fT];exact .inr e.symm)),λe=>qc (.inl (by rw[<-fT];exact .inl (.inr (.inr e)))),λe=>qc (.inl (by rw[<-fT];exact .inl (.inr (.inl e)))),(by show G.rb≠T.k;omega),(by show G.rb≠T.x;omega)⟩⟩,?_,λb hb=>⟨by rw[<-eH];exact .inl (oZ b hb),λe=>?_,λe=>?_⟩,?_,?_,?_,?_⟩
 ·unfold Wd.v;rw[vB.1,vz.1]
  rfl
 ·show 2+G.len+T.len<=146;omega
 ·show Q9.L.length=200;omega
 ·exact Nat.le_refl _
 ·show G.st+G.len<=T.st;omega
 ·show T.st+T.len<=2+G.len+T.len;omega
 ·exact(gG.trans bJ).It bz λb e=>by omega
 ·have e:b=G.rb:=e;omega
 ·have e:b=T.rb:=e;omega
 ·show w.heap.size<=G.k;omega
 ·show w.heap.size<=G.x;omega
 ·show w.heap.size<=T.k;omega
 ·show w.heap.size<=T.x;omega
def zc8 {w:World}{g:List (List Nat)}(ax:Rh g)(bh:1<=g.length)(ij:g.length<=40){ga:Option Addr}{gc:Nat}(jX:GrM w (.slice ga g.length gc) g)(hG:OP w 1 (Sg .gamma) 294)(hU:OP w 2 (Sg .unary) 294)(fr fo:Int)(jU:JIq fr)(vy:JIq fo):
  Pm prog 8 [.slice ga g.length gc,I fr,I fo] w λv w'=>∃(W:Wd) (XX:Nat->Prop),v= .tuple #[.agg W.v.toArray,.bool true]/\WdM W g XX w'/\Ext w w'/\(∀b,b<w.heap.size->XX b/\b≠W.G.rb/\b≠W.T.rb)/\w.heap.size<=W.G.k/\w.heap.size<=W.G.x:=by
 refine(zbl ax bh ij jX hG hU fr fo jU vy).mono ?_
 rintro v w' ⟨W,XX,h1,h2,h3,h4,h5,h6,-⟩
 exact⟨W,XX,h1,h2,h3,h4,h5,h6⟩
def z7y {w:World}{g:List (List Nat)}(ax:Rh g)(bh:1<=g.length)(ij:g.length<=40){ga:Option Addr}{gc:Nat}(jX:GrM w (.slice ga g.length gc) g)(hG:OP w 1 (Sg .gamma) 294)(hU:OP w 2 (Sg .unary) 294)(fr fo:Int)(jU:JIq fr)(vy:JIq fo):
  Pm prog 8 [.slice ga g.length gc,I fr,I fo] w λv w'=>∃(W:Wd) (XX:Nat->Prop),v= .tuple #[.agg W.v.toArray,.bool true]/\WdM W g XX w'/\Ext w w'/\∀b,b<w.heap.size->XX b/\b≠W.G.rb/\b≠W.T.rb:=by
 refine(zc8 ax bh ij jX hG hU fr fo jU vy).mono ?_
 rintro v w' ⟨W,XX,h1,h2,h3,h4,-⟩
 exact⟨W,XX,h1,h2,h3,h4⟩
structure RuK (σ:Type) where
 M:Ra->(Int->OI)->Nat->Nat->(Nat->Prop)->Nat->Nat->σ->World->Prop
 tm:σ->Nat
 c0:Nat
 c1:Nat
 kp:∀{Q:Ra} {txt:Int->OI} {k rr:Nat} {O_:Nat->Prop} {a L:Nat} {s:σ} {w w':World} {S:Nat->Prop},M Q txt k rr O_ a L s w->Kp S w w'->(∀b,O_ b->¬S b)->M Q txt k rr O_ a L s w'
 SK:∀{Q:Ra} {txt txt':Int->OI} {k rr:Nat} {O_:Nat->Prop} {a L:Nat} {s:σ} {w:World},M Q txt k rr O_ a L s w->(∀y:Int,(a:Int)<=y->y<(a:Int)+(L:Int)->txt' y=txt y)->M Q txt' k rr O_ a L s w
 q:∀{Q Q':Ra} {txt:Int->OI} {k rr:Nat} {O_:Nat->Prop} {a L:Nat} {s:σ} {w:World},M Q txt k rr O_ a L s w->Q'.s=Q.s->Q'.L.length=Q.L.length->M Q' txt k rr O_ a L s w
structure RuM {σ:Type}(R:RuK σ)(G:ZI)(Q:Ra)(txt:Int->OI)(K:Nat)(X:Nat->Prop)(rr:Nat)(O_:Nat->Prop)(a L:Nat)(s:σ)(w:World):Prop where
 g:SI G Q txt K X w
 m:R.M Q txt G.k rr O_ a L s w
 xr:∀b,O_ b->X b
 ro:O_ rr
 ne:∀b,O_ b->b≠G.k/\b≠G.x/\b≠1/\b≠2
 Vm:G.st+G.len<=a
 n:G.g.length<=40
section
variable {σ:Type}{R:RuK σ}{w w':World}{g:List (List Nat)}{G:ZI}{Q:Ra}{txt txt':Int->OI}{K K':Nat}{X Y S' O_:Nat->Prop}{rr a L:Nat}{s s':σ}
theorem RuM.step (h:RuM R G Q txt K X rr O_ a L s w)(hk:Kp S' w w')(hS:∀j,S' j->X j/\j≠G.k/\j≠G.x/\j≠1/\j≠2/\¬O_ j)(hXY:∀j,X j->Y j)(hY:∀j,Y j->X j\/(w.heap.size<=j/\j<w'.heap.size)):RuM R G Q txt K Y rr O_ a L s w':=
 ⟨h.g.step hk (λj e=>⟨(hS j e).1,(hS j e).2.1,(hS j e).2.2.1,(hS j e).2.2.2.1,(hS j e).2.2.2.2.1⟩) hY hXY,R.kp h.m hk (λb hb e=>(hS b e).2.2.2.2.2 hb),λb hb=>hXY b (h.xr b hb),h.ro,h.ne,h.Vm,h.n⟩
theorem RuM.less (h:RuM R G Q txt K Y rr O_ a L s w)(hXY:∀j,X j->Y j)(hx:X G.k/\X G.x/\X 1/\X 2)(hr:∀b,O_ b->X b):RuM R G Q txt K X rr O_ a L s w:=⟨h.g.less hXY hx,h.m,hr,h.ro,h.ne,h.Vm,h.n⟩
theorem RuM.read (h:RuM R G Q txt K X rr O_ a L s w)(hk:Kp (λb=>¬(X b\/b=G.rb)) w w')(hP:Sp Q txt K (λb=>X b\/b=G.rb) w'):RuM R G Q txt K X rr O_ a L s w':=
 ⟨h.g.Z5 hk (λb e=> .inl e) hP O O h.g.Vu (λ_ _ _=>rfl),R.kp h.m hk (λb hb e=>e (.inl (h.xr b hb))),h.xr,h.ro,h.ne,h.Vm,h.n⟩
theorem RuM.Z5 (h:RuM R G Q txt K X rr O_ a L s w)(hK:K'<1000000000000)(hk:Kp S' w w')(hS:∀b,S' b->¬(X b\/b=G.rb)\/O_ b)(hP:Sp Q txt' K' (λb=>X b\/b=G.rb) w')(hy:∀y:Int,y<(a:Int)\/(a:Int)+(L:Int)<=y->txt' y=txt y)(hm:R.M Q txt' G.k rr O_ a L s' w'):RuM R G Q txt' K' X rr O_ a L s' w':=by
 have hd:=h.Vm
 exact⟨h.g.Z5 hk (λb e=>(hS b e).imp id λhb=>⟨h.xr b hb,h.ne b hb⟩) hP O O hK (λy h1 h2=>hy y (.inl (by omega))),hm,h.xr,h.ro,h.ne,h.Vm,h.n⟩
theorem RuM.set (h:RuM R G Q txt K X rr O_ a L s w)(hk:Kp S' w w')(hS:∀b,S' b->O_ b)(hm:R.M Q txt G.k rr O_ a L s' w'):RuM R G Q txt K X rr O_ a L s' w':=
 ⟨h.g.own hk (λj e=>⟨h.xr j (hS j e),h.ne j (hS j e)⟩),hm,h.xr,h.ro,h.ne,h.Vm,h.n⟩
theorem RuM.list (h:RuM R G Q txt K X rr O_ a L s w)(hg:SI G Q txt K Y w')(hk:Kp (λj=>¬X j) w w')(hXY:∀j,X j->Y j):RuM R G Q txt K Y rr O_ a L s w':=
 ⟨hg,R.kp h.m hk (λb hb e=>e (h.xr b hb)),λb hb=>hXY b (h.xr b hb),h.ro,h.ne,h.Vm,h.n⟩
end
def Sp.iff {Q:Ra}{txt:Int->OI}{K:Nat}{X Y:Nat->Prop}{w:World}(h:Sp Q txt K X w)(e:∀b,X b↔Y b):Sp Q txt K Y w:=by
 have e2:X=Y:=funext λb=>propext (e b)
 exact e2▸h
section
variable {G:ZI}{w w':World}{Q Q':Ra}{txt txt':Int->OI}{K K':Nat}{X Y S':Nat->Prop}
def SI.at_ (h:SI G Q txt K X w)(hk:Kp S' w w')(hS:¬S' G.k/\¬S' G.x/\¬S' 1/\¬S' 2/\¬S' G.rb)(hY:Y G.k/\Y G.x/\Y 1/\Y 2)(hlt:∀j,Y j->j<w'.heap.size)(hr:¬Y G.rb)(hP:Sp Q' txt' K' (λb=>Y b\/b=G.rb) w')(hs:Q'.s=Q.s)(hl:Q'.L.length=Q.L.length)(hK:K'<1000000000000)(ht:∀y:Int,(G.st:Int)<=y->y<(G.st:Int)+(G.len:Int)->txt' y=txt y):SI G Q' txt' K' Y w':=by
 have hrB:=h.rbB
 obtain⟨o,h⟩:=h
 have hlen:=o.len
 have hI:(z63 (⟨hK,by rw[hl];exact o.fit,o.laid.SK λk hk=>ht _ (by omega) (by omega),o.len⟩:StO Q' txt' K' G.st G.len (Xt G.p G.g G.E)) G.rb G.sum).inv Y w':=⟨hP,by rw[hs];exact hk.OA hrB hS.2.2.2.2,hr⟩
 exact⟨_,⟨h.ok,hk.OA h.OA hS.1,hk.OA h.ix hS.2.1,hY.1,hY.2.1,hI,hlt,hY.2.2.1,hY.2.2.2,hk.OA h.gam hS.2.2.1,hk.OA h.una hS.2.2.2.1⟩⟩
end
structure Qn {σ:Type}(R:RuK σ)(G T:ZI)(Q:Ra)(txt:Int->OI)(K:Nat)(X:Nat->Prop)(rr:Nat)(O_:Nat->Prop)(a L:Nat)(s:σ)(w:World):Prop where
 m:RuM R G Q txt K (λb=>X b\/b=T.rb) rr O_ a L s w
 t:SI T Q txt K (λb=>X b\/b=G.rb) w
 xr:∀b,O_ b->X b
 xk:X G.k/\X G.x/\X T.k/\X T.x/\X 1/\X 2
 nk:∀b,O_ b->b≠T.k/\b≠T.x
 Vm:T.st+T.len<=a
section
variable {σ:Type}{R:RuK σ}{G T:ZI}{w w':World}{Q:Ra}{txt txt':Int->OI}{K K':Nat}{X Y S' O_:Nat->Prop}{rr a L:Nat}{s s':σ}
def Qn.ng (h:Qn R G T Q txt K X rr O_ a L s w):¬X G.rb/\G.rb≠T.rb/\¬X T.rb:=by
 have h1:=h.m.g.rbX
 have h2:=h.t.rbX
 exact⟨λe=>h1 (.inl e),λe=>h1 (.inr e),λe=>h2 (.inl e)⟩
def Qn.sp (h:Qn R G T Q txt K X rr O_ a L s w):Sp Q txt K (λb=>(X b\/b=T.rb)\/b=G.rb) w:=h.m.g.sp
def Qn.lt (h:Qn R G T Q txt K X rr O_ a L s w):∀b,((X b\/b=T.rb)\/b=G.rb)->b<w.heap.size:=h.m.g.lt1
def Qn.byG (h:Qn R G T Q txt K X rr O_ a L s w)(hm:RuM R G Q txt' K' (λb=>Y b\/b=T.rb) rr O_ a L s' w')(hk:Kp S' w w')(hS:∀b,S' b->(¬X b/\b≠T.rb)\/O_ b)(hXY:∀j,X j->Y j)(hY:∀j,Y j->X j\/w.heap.size<=j)(hy:∀y:Int,y<(a:Int)\/(a:Int)+(L:Int)<=y->txt' y=txt y):Qn R G T Q txt' K' Y rr O_ a L s' w':=by
 obtain⟨n1,n2,n3⟩:=h.ng
 have hd:=h.Vm
 have hlt:=h.lt
 have hml:=hm.g.lt1
 have hx:=h.xk
 have hne:=h.m.ne
 have hrt:=hlt T.rb (.inl (.inr O))
 have hrg:=hlt G.rb (.inr O)
 have hnS:∀b,X b->¬O_ b->¬S' b:=λb hb ho e=>(hS b e).elim (λe=>e.1 hb) ho
 refine⟨hm,h.t.at_ hk ⟨hnS _ hx.2.2.1 λe=>(h.nk _ e).1 O,hnS _ hx.2.2.2.1 λe=>(h.nk _ e).2 O,hnS _ hx.2.2.2.2.1 λe=>(hne _ e).2.2.1 O,hnS _ hx.2.2.2.2.2 λe=>(hne _ e).2.2.2 O,λe=>(hS _ e).elim (λe=>e.2 O) (λe=>n3 (h.xr _ e))⟩ ⟨.inl (hXY _ hx.2.2.1),.inl (hXY _ hx.2.2.2.1),.inl (hXY _ hx.2.2.2.2.1),.inl (hXY _ hx.2.2.2.2.2)⟩ (λj e=>hml j (e.imp .inl id)) ?_ (hm.g.sp.iff λb=>?_) O O hm.g.Vu (λy e1 e2=>hy y (.inl (by omega))),λb hb=>hXY b (h.xr b hb),⟨hXY _ hx.1,hXY _ hx.2.1,hXY _ hx.2.2.1,hXY _ hx.2.2.2.1,hXY _ hx.2.2.2.2.1,hXY _ hx.2.2.2.2.2⟩,h.nk,hd⟩
 ·rintro(e|e)
  ·rcases hY _ e with e| e
   ·exact n3 e
   ·omega
  ·exact n2 e.symm
 ·constructor
  ·rintro((e|e)|e)
   ·exact .inl (.inl e)
   ·exact .inr e
   ·exact .inl (.inr e)
  ·rintro((e|e)|e)
   ·exact .inl (.inl e)
   ·exact .inr e
   ·exact .inl (.inr e)
theorem Qn.step (h:Qn R G T Q txt K X rr O_ a L s w)(hk:Kp S' w w')(hS:∀j,S' j->X j/\j≠G.k/\j≠G.x/\j≠T.k/\j≠T.x/\j≠1/\j≠2/\¬O_ j)(hXY:∀j,X j->Y j)(hY:∀j,Y j->X j\/(w.heap.size<=j/\j<w'.heap.size)):Qn R G T Q txt K Y rr O_ a L s w':=by
 have hx:=h.xk
 exact⟨h.m.step hk (λj e=>by obtain⟨e1,e2,e3,e4,e5,e6,e7,e8⟩:=hS j e;exact⟨.inl e1,e2,e3,e6,e7,e8⟩) (λj e=>e.imp (hXY j) id) (λj e=>e.elim (λe=>(hY j e).imp .inl id) (λe=> .inl (.inr e))),
  h.t.step hk (λj e=>by obtain⟨e1,e2,e3,e4,e5,e6,e7,e8⟩:=hS j e;exact⟨.inl e1,e4,e5,e6,e7⟩) (λj e=>e.elim (λe=>(hY j e).imp .inl id) (λe=> .inl (.inr e))) (λj e=>e.imp (hXY j) id),
  λb hb=>hXY b (h.xr b hb),⟨hXY _ hx.1,hXY _ hx.2.1,hXY _ hx.2.2.1,hXY _ hx.2.2.2.1,hXY _ hx.2.2.2.2.1,hXY _ hx.2.2.2.2.2⟩,h.nk,h.Vm⟩
def Qn.ext (h:Qn R G T Q txt K X rr O_ a L s w)(hx:Ext w w'):Qn R G T Q txt K X rr O_ a L s w':=
 h.step hx (λ_ e=>e.elim) (λ_ e=>e) (λ_ e=> .inl e)
def Qn.grow (h:Qn R G T Q txt K X rr O_ a L s w)(hx:Ext w w')(hY:∀j,Y j->X j\/(w.heap.size<=j/\j<w'.heap.size))(hXY:∀j,X j->Y j):Qn R G T Q txt K Y rr O_ a L s w':=
 h.step hx (λ_ e=>e.elim) hXY hY
def Qn.own (h:Qn R G T Q txt K X rr O_ a L s w)(hk:Kp S' w w')(hS:∀j,S' j->X j/\j≠G.k/\j≠G.x/\j≠T.k/\j≠T.x/\j≠1/\j≠2/\¬O_ j):Qn R G T Q txt K X rr O_ a L s w':=
 h.step hk hS (λ_ e=>e) (λ_ e=> .inl e)
theorem Qn.read (h:Qn R G T Q txt K X rr O_ a L s w)(hk:Kp (λb=>¬((X b\/b=T.rb)\/b=G.rb)) w w')(hP:Sp Q txt K (λb=>(X b\/b=T.rb)\/b=G.rb) w'):Qn R G T Q txt K X rr O_ a L s w':=
 h.byG (h.m.read hk hP) hk (λb e=> .inl ⟨λe2=>e (.inl (.inl e2)),λe2=>e (.inl (.inr e2))⟩) (λ_ e=>e) (λ_ e=> .inl e) (λ_ _=>rfl)
theorem Qn.Z5 (h:Qn R G T Q txt K X rr O_ a L s w)(hK:K'<1000000000000)(hk:Kp S' w w')(hS:∀b,S' b->¬((X b\/b=T.rb)\/b=G.rb)\/O_ b)(hP:Sp Q txt' K' (λb=>(X b\/b=T.rb)\/b=G.rb) w')(hy:∀y:Int,y<(a:Int)\/(a:Int)+(L:Int)<=y->txt' y=txt y)(hm:R.M Q txt' G.k rr O_ a L s' w'):Qn R G T Q txt' K' X rr O_ a L s' w':=
 h.byG (h.m.Z5 hK hk hS hP hy hm) hk (λb e=>(hS b e).imp (λe=>⟨λe2=>e (.inl (.inl e2)),λe2=>e (.inl (.inr e2))⟩) id) (λ_ e=>e) (λ_ e=> .inl e) hy
theorem Qn.set (h:Qn R G T Q txt K X rr O_ a L s w)(hk:Kp S' w w')(hS:∀b,S' b->O_ b)(hm:R.M Q txt G.k rr O_ a L s' w'):Qn R G T Q txt K X rr O_ a L s' w':=
 h.byG (h.m.set hk hS hm) hk (λb e=> .inr (hS b e)) (λ_ e=>e) (λ_ e=> .inl e) (λ_ _=>rfl)
def Qn.less (h:Qn R G T Q txt K Y rr O_ a L s w)(hXY:∀j,X j->Y j)(hx:X G.k/\X G.x/\X T.k/\X T.x/\X 1/\X 2)(hr:∀b,O_ b->X b):Qn R G T Q txt K X rr O_ a L s w:=
 ⟨h.m.less (λj e=>e.imp (hXY j) id) ⟨.inl hx.1,.inl hx.2.1,.inl hx.2.2.2.2.1,.inl hx.2.2.2.2.2⟩ (λb hb=> .inl (hr b hb)),h.t.less (λj e=>e.imp (hXY j) id) ⟨.inl hx.2.2.1,.inl hx.2.2.2.1,.inl hx.2.2.2.2.1,.inl hx.2.2.2.2.2⟩,hr,hx,h.nk,h.Vm⟩
end
inductive Wt (g:List (List Nat)) (a:Nat):Nat->Prop
 |refl:Wt g a a
 |step {x b:Nat}:Wt g a x->b∈OU g x->Wt g a b
section
variable {g:List (List Nat)}{a b c v w:Nat}
theorem Wt.trans (h1:Wt g a b)(h2:Wt g b c):Wt g a c:=by
 induction h2 with
 |refl=>exact h1
 |step _ hx ih=>exact .step ih hx
def Wt.one (h:b∈OU g a):Wt g a b:= .step .refl h
def Wt.head (h:Wt g a b)(hab:b≠a):∃u,u∈OU g a/\u≠a/\Wt g u b:=by
 induction h with
 |refl=>exact absurd O hab
 | step hx hb ih =>
   rename_i x y
   by_cases e:x=a
   ·subst e;exact⟨y,hb,hab,.refl⟩
   ·obtain⟨u,h1,h2,h3⟩:=ih e;exact⟨u,h1,h2,.step h3 hb⟩
theorem Wt.last (h:Wt g a b)(hab:b≠a):∃u,b∈OU g u/\u≠b/\Wt g a u:=by
 induction h with
 |refl=>exact absurd O hab
 | step hx hb ih =>
   rename_i x y
   by_cases e:x=y
   ·subst e;exact ih hab
   ·exact⟨x,hb,e,hx⟩
def Mut (g:List (List Nat))(a b:Nat):Prop:=Wt g a b/\Wt g b a
def Mut.refl:Mut g a a:=⟨.refl,.refl⟩
theorem Mut.symm (h:Mut g a b):Mut g b a:=⟨h.2,h.1⟩
def Cl (g:List (List Nat))(U:Nat->Prop):Prop:=∀u v,U u->Mut g u v->U v
def Wx (g:List (List Nat))(v l:Nat):Prop:=Mut g v l/\∀w,Mut g v w->l<=w
def zaQ {U:Nat->Prop}(hU:Cl g U)(hv:U v)(h:∀u,u∈OU g v->U u->u=v)(hm:Mut g v w):w=v:=by
 by_cases e:w=v
 ·exact e
 ·obtain⟨u,h1,h2,h3⟩:=hm.1.head e;exact absurd (h u h1 (hU v u hv ⟨.one h1,h3.trans hm.2⟩)) h2
def zcT {U:Nat->Prop}(hU:Cl g U)(hv:U v)(h:∀u,v∈OU g u->U u->u=v)(hm:Mut g v w):w=v:=by
 by_cases e:w=v
 ·exact e
 ·obtain⟨u,h1,h2,h3⟩:=hm.2.last (λe2=>e e2.symm);exact absurd (h u h1 (hU v u hv ⟨hm.1.trans h3,.one h1⟩)) h2
def Wx.alone (h:∀w,Mut g v w->w=v):Wx g v v:=⟨.refl,λw hw=>by rw[h w hw];exact Nat.le_refl _⟩
theorem Cl.drop {U:Nat->Prop}(hU:Cl g U){M:Nat->Prop}(hM:∀u v,M u->Mut g u v->M v):Cl g λu=>U u/\¬M u:=
 λu v hu hm=>⟨hU u v hu.1 hm,λe=>hu.2 (hM v u e hm.symm)⟩
/-! ### Colours -/
structure z0h (g:List (List Nat))(U:Nat->Prop)(c:Nat->Nat):Prop where
 from_:∀u,U u->Wt g (c u) u
 le:∀u,U u->c u<=u
 rest:∀v u,U v->U u->u∈OU g v->c u<=c v
def z0h.mono {U:Nat->Prop}{c:Nat->Nat}(h:z0h g U c)(hU:Cl g U)(ha:U a)(hm:Mut g a b):c b<=c a:=by
 obtain⟨h1,h2⟩:=hm
 have key:∀{x},Wt g a x->Wt g x a->c x<=c a:=fun {x} hx=>by
  induction hx with
  |refl=>exact λ_=>Nat.le_refl _
  | step hy hz ih =>
    rename_i y z
    intro hza;have hya:Wt g y a:=(Wt.one hz).trans hza;have:=ih hya;have:=h.rest y z (hU a y ha ⟨hy,hya⟩) (hU a z ha ⟨.step hy hz,hza⟩) hz;omega
 exact key h1 h2
theorem z0h.same {U:Nat->Prop}{c:Nat->Nat}(h:z0h g U c)(hU:Cl g U)(ha:U a)(hm:Mut g a b):c b=c a:=
 Nat.le_antisymm (h.mono hU ha hm) (h.mono hU (hU a b ha hm) hm.symm)
theorem z0h.least {U:Nat->Prop}{c:Nat->Nat}(h:z0h g U c)(hU:Cl g U)(hv:U v)(hr:Wt g v (c v)):Wx g v (c v):=by
 refine⟨⟨hr,h.from_ v hv⟩,λw hw=>?_⟩
 rw[<-h.same hU hv hw]
 exact h.le w (hU v w hv hw)
structure zcP (g:List (List Nat))(U:Nat->Prop)(c:Nat->Nat)(M:Nat->Prop):Prop where
 to_:∀v,U v->M v->Wt g v (c v)
 rest:∀v u,U v->U u->u∈OU g v->M u->c u=c v->M v
theorem zcP.whole {U M:Nat->Prop}{c:Nat->Nat}(h:zcP g U c M)(hc:z0h g U c)(hU:Cl g U)(hv:U v)(hM:M v)(hm:Mut g v w):M w:=by
 have key:∀{x},Wt g w x->Wt g x w->M x->M w:=fun {x} hx=>by
  induction hx with
  |refl=>exact λ_ h=>h
  | step hy hz ih =>
    rename_i y z
    intro hzw hMz;have hyw:Wt g y w:=(Wt.one hz).trans hzw;have hUw:=hU v w hv hm;have hUy:=hU w y hUw ⟨hy,hyw⟩;have hUz:=hU w z hUw ⟨.step hy hz,hzw⟩;have e1:=hc.same hU hUw (b:=y) ⟨hy,hyw⟩;have e2:=hc.same hU hUw (b:=z) ⟨.step hy hz,hzw⟩;exact ih hyw (h.rest y z hUy hUz hz hMz (by omega))
 exact key hm.2 hm.1 hM
theorem zcL (h:Rh g):Wt g a b↔∃k,U1 (z0g h) a k b:=by
 constructor
 ·intro hr
  have:∃k,Way (z0g h) a k b:=by
   induction hr with
   |refl=>exact⟨0,.root⟩
   | step _ hx ih =>
     obtain⟨k,hk⟩:=ih;exact⟨k+1,.step hk hx⟩
  obtain⟨k,hk⟩:=this;obtain⟨j,-,hj⟩:=hk.zhP;exact⟨j,hj⟩
 ·rintro⟨k,hk,-⟩
  induction hk with
  |root=>exact .refl
  |step _ hu ih=>exact .step ih hu
def Wt.lt (h:Rh g)(hr:Wt g a b)(ha:a<g.length):b<g.length:=by
 cases hr with
 |refl=>exact ha
 |step _ hx=>exact Tq h _ _ hx
end
abbrev R5 (l:List Nat)(v:Nat):Prop:=l[v]? =some 4294967295
def Wi (g:List (List Nat))(l:List Nat)(v:Nat):Bool:=(OU g v).all λu=>decide (u=v) ||!decide (R5 l u)
def trV (g t:List (List Nat))(a:List Nat×Bool)(v:Nat):List Nat×Bool:=if R5 a.1 v/\(Wi g a.1 v=true\/Wi t a.1 v=true) then(a.1.set v v,true) else a
def trS (g t:List (List Nat))(l:List Nat)(k:Nat):List Nat×Bool:=(List.range k).foldl (trV g t) (l,false)
def XE (l:List Nat)(v:Nat)(a:List Nat×Bool)(u:Nat):List Nat×Bool:=if R5 l u/\a.1.getD v 0<a.1.getD u 0 then(a.1.set u (a.1.getD v 0),true) else a
def coV (g:List (List Nat))(l:List Nat)(a:List Nat×Bool)(v:Nat):List Nat×Bool:=if R5 l v then(OU g v).foldl (XE l v) a else a
def XN (g:List (List Nat))(l c:List Nat)(k:Nat):List Nat×Bool:=(List.range k).foldl (coV g l) (c,false)
def bkC (l c m:List Nat)(v u:Nat):Prop:=R5 l u/\m.getD u 0=1/\c.getD u 0=c.getD v 0
instance (l c m:List Nat) (v u:Nat):Decidable (bkC l c m v u):=by unfold bkC;infer_instance
def bkV (g:List (List Nat))(l c:List Nat)(a:List Nat×Bool)(v:Nat):List Nat×Bool:=if R5 l v/\a.1.getD v 0=0/\(OU g v).any (λu=>decide (bkC l c a.1 v u))=true then(a.1.set v 1,true) else a
def bkS (g:List (List Nat))(l c m:List Nat)(k:Nat):List Nat×Bool:=(List.range k).foldl (bkV g l c) (m,false)
def rsC (l c:List Nat)(k:Nat):List Nat:=(List.range k).foldl (λc v=>if R5 l v then c.set v v else c) c
def rsM (l c m:List Nat)(k:Nat):List Nat:=(List.range k).foldl (λm v=>if R5 l v/\c.getD v 0=v then m.set v 1 else m) m
def rsL (l c m:List Nat)(k:Nat):List Nat:=(List.range k).foldl (λl v=>if R5 l v/\m.getD v 0=1 then l.set v (c.getD v 0) else l) l
structure Sc where
 steps:Nat
 phase:Nat
 done:Bool
 label:List Nat
 OR:List Nat
 mark:List Nat
def Sc.new (n:Nat):Sc:=⟨0,0,false,List.replicate n 4294967295,List.replicate n 0,List.replicate n 0⟩
def Sc.go (g t:List (List Nat))(s:Sc):Sc:=
 let n:=g.length
 if s.phase=0 then
  if(trS g t s.label n).2 then {s with label:=(trS g t s.label n).1} else {s with phase:=1,OR:=rsC s.label s.OR n}
 else if s.phase=1 then
  if(XN g s.label s.OR n).2 then {s with OR:=(XN g s.label s.OR n).1} else {s with phase:=2,mark:=rsM s.label s.OR (List.replicate n 0) n}
 else
  if(bkS g s.label s.OR s.mark n).2 then {s with mark:=(bkS g s.label s.OR s.mark n).1} else {s with phase:=0,label:=rsL s.label s.OR s.mark n}
def z1t (l:List Nat)(n:Nat):Bool:=(List.range n).all λv=>!decide (R5 l v)
def Sc.step (g t:List (List Nat))(s:Sc):Sc:={s.go g t with steps:=s.steps+1,done:=z1t (s.go g t).label g.length}
/-! ### Counting -/
def VS {p q:Nat->Bool}:∀{l:List Nat},(∀x∈l,p x=true->q x=true)->l.countP p<=l.countP q
 |[],_=>Nat.le_refl _
 | x :: l, h => by
   have ih:=VS (p:=p) (q:=q) (l:=l) λy hy=>h y (List.mem_cons_of_mem _ hy);have h1:=h x List.mem_cons_self;rw[List.countP_cons,List.countP_cons]
   cases hp:p x with
   |false=>simp;omega
   |true=>rw[h1 hp];simp;omega
def Z0 {p q:Nat->Bool}:∀{l:List Nat},(∀x∈l,p x=true->q x=true)->∀{y:Nat},y∈l->p y=false->q y=true->l.countP p<l.countP q
 | x :: l, h, y, hy, h1, h2 => by
   have h3:=h x List.mem_cons_self;rw[List.countP_cons,List.countP_cons];rcases List.mem_cons.1 hy with e| e
   ·subst e;have ih:=VS (p:=p) (q:=q) (l:=l) λz hz=>h z (List.mem_cons_of_mem _ hz);rw[h1,h2];simp;omega
   ·have ih:=Z0 (p:=p) (q:=q) (l:=l) (λz hz=>h z (List.mem_cons_of_mem _ hz)) e h1 h2
    cases hp:p x with
    |false=>simp;omega
    |true=>rw[h3 hp];simp;omega
open Classical in
noncomputable def z1R (n:Nat)(P:Nat->Prop):Nat:=(List.range n).countP λv=>decide (P v)
open Classical in
def z7B {n:Nat}{P Q:Nat->Prop}(h:∀v,v<n->P v->Q v):z1R n P<=z1R n Q:=
 VS λx hx hp=>decide_eq_true (h x (List.mem_range.1 hx) (of_decide_eq_true hp))
open Classical in
def YR {n:Nat}{P Q:Nat->Prop}(h:∀v,v<n->P v->Q v){v:Nat}(hv:v<n)(h1:¬P v)(h2:Q v):z1R n P<z1R n Q:=
 Z0 (λx hx hp=>decide_eq_true (h x (List.mem_range.1 hx) (of_decide_eq_true hp))) (List.mem_range.2 hv) (decide_eq_false h1) (decide_eq_true h2)
def zf7 {n:Nat}{P:Nat->Prop}:z1R n P<=n:=by
 have:=List.countP_le_length (p:=λv=>@decide (P v) (Classical.propDecidable _)) (l:=List.range n)
 rw[List.length_range] at this
 exact this
def z1I {n:Nat}{P:Nat->Prop}{v:Nat}(hv:v<n)(h:P v):0<z1R n P:=by
 have:=YR (n:=n) (P:=λ_=>False) (Q:=P) (λ_ _ e=>e.elim) hv (λe=>e) h
 omega
theorem RF {l:List Nat}{v:Nat}(h:R5 l v):v<l.length:=by
 obtain⟨h1,-⟩:=List.getElem?_eq_some_iff.1 h
 exact h1
theorem Tk {l:List Nat}{v x:Nat}(h:l[v]? =some x):l.getD v 0=x:=by rw[List.getD_eq_getElem?_getD,h];rfl
def z97 {l:List Nat}{v:Nat}(h:v<l.length):l[v]? =some (l.getD v 0):=by rw[List.getD_eq_getElem?_getD,List.getElem?_eq_getElem h];rfl
theorem SM {l:List Nat}{v u x:Nat}(h:v<l.length):(l.set v x).getD u 0=if u=v then x else l.getD u 0:=by
 rw[List.getD_eq_getElem?_getD,List.getD_eq_getElem?_getD]
 split
 ·rename_i e
  subst e;rw[List.getElem?_set_self h];rfl
 ·rename_i e
  rw[List.getElem?_set_ne (Ne.symm e)]
/-! ### Trim -/
structure z1P (g:List (List Nat))(l:List Nat):Prop where
 n:l.length=g.length
 Zc:∀(v x:Nat),l[v]? =some x->x≠4294967295->Wx g v x
 cl:Cl g (R5 l)
def z0D {l:List Nat}{v x u:Nat}(hx:x≠4294967295)(hv:v<l.length):R5 (l.set v x) u↔R5 l u/\u≠v:=by
 show(l.set v x)[u]? =some 4294967295↔l[u]? =some 4294967295/\u≠v
 by_cases e:v=u
 ·subst e;rw[List.getElem?_set_self hv];exact⟨λh=>absurd (Option.some.inj h) hx,λh=>absurd O h.2⟩
 ·rw[List.getElem?_set_ne e];exact⟨λh=>⟨h,Ne.symm e⟩,λh=>h.1⟩
def YC {g:List (List Nat)}{l:List Nat}{v:Nat}:Wi g l v=true↔∀u,u∈OU g v->R5 l u->u=v:=by
 unfold Wi
 rw[List.all_eq_true]
 constructor
 ·intro h u hu hl;have:=h u hu;rw[Bool.or_eq_true] at this;rcases this with e| e
  ·exact of_decide_eq_true e
  ·rw[decide_eq_true hl] at e;cases e
 ·intro h u hu;by_cases hl:R5 l u
  ·rw[decide_eq_true (h u hu hl)];rfl
  ·rw[decide_eq_false hl];simp
section
variable {g t:List (List Nat)}{l l0 c c0 m m0:List Nat}{a:List Nat×Bool}{v k:Nat}
structure TrI (g:List (List Nat))(l0:List Nat)(a:List Nat×Bool):Prop where
 i:z1P g a.1
 sub:∀u,R5 a.1 u->R5 l0 u
 eq:a.2=false->a.1=l0
 lt:a.2=true->∃u,R5 l0 u/\¬R5 a.1 u
def TrI.zfM (h:TrI g l0 a)(ht:∀u v,u∈OU t v↔v∈OU g u)(hn:g.length<4294967295):TrI g l0 (trV g t a v):=by
 unfold trV
 split
 ·rename_i hc
  obtain⟨hl,ha⟩:=hc;have hv:=RF hl;have hvn:v≠4294967295:=by have:=h.i.n;omega
  have hal:∀w,Mut g v w->w=v:=λw hw=>by
   rcases ha with ha|ha
   ·exact zaQ h.i.cl hl (λu hu hu2=>YC.1 ha u hu hu2) hw
   ·exact zcT h.i.cl hl (λu hu hu2=>YC.1 ha u ((ht u v).2 hu) hu2) hw
  refine⟨⟨by rw[List.length_set];exact h.i.n,λu x hx hne=>?_,?_⟩,λu hu=>h.sub u ((z0D hvn hv).1 hu).1,λe=>(by cases e),λ_=>⟨v,h.sub v hl,λe=>((z0D hvn hv).1 e).2 rfl⟩⟩
  ·by_cases e:v=u
   ·subst e;have hx:(a.1.set v v)[v]? =some x:=hx;rw[List.getElem?_set_self hv] at hx;obtain rfl:=Option.some.inj hx;exact .alone hal
   ·have hx:(a.1.set v v)[u]? =some x:=hx;rw[List.getElem?_set_ne e] at hx;exact h.i.Zc u x hx hne
  ·have:=Cl.drop h.i.cl (M:=λu=>u=v) (λu w e hm=>by subst e;exact hal w hm);intro u w hu hm;exact(z0D hvn hv).2 (this u w ((z0D hvn hv).1 hu) hm)
 ·exact h
theorem TrI.all (h:z1P g l)(ht:∀u v,u∈OU t v↔v∈OU g u)(hn:g.length<4294967295):∀k,TrI g l (trS g t l k)
 |0=>⟨h,λ_ e=>e,λ_=>rfl,λe=>(by cases e)⟩
 | k + 1 => by
   have:=(TrI.all h ht hn k).zfM (v:=k) ht hn;unfold trS at this⊢;rw[List.range_succ,List.foldl_append];exact this
/-! ### Colours -/
inductive RU (g:List (List Nat)) (l:List Nat) (a:Nat):Nat->Prop
 |refl:R5 l a->RU g l a a
 |step {x b:Nat}:RU g l a x->b∈OU g x->R5 l b->RU g l a b
def RU.rch {a b:Nat}(h:RU g l a b):Wt g a b:=by
 induction h with
 |refl=>exact .refl
 |step _ hx _ ih=>exact .step ih hx
def RU.left {a b:Nat}(h:RU g l a b):R5 l a:=by
 induction h with
 |refl h=>exact h
 |step _ _ _ ih=>exact ih
theorem RU.trans {a b x:Nat}(h1:RU g l a b)(h2:RU g l b x):RU g l a x:=by
 induction h2 with
 |refl _=>exact h1
 |step _ hx hl ih=>exact .step ih hx hl
structure XQ (g:List (List Nat))(l c:List Nat):Prop where
 n:c.length=g.length
 from_:∀u,R5 l u->RU g l (c.getD u 0) u
 le:∀u,R5 l u->c.getD u 0<=u
structure CoI (g:List (List Nat))(l c0:List Nat)(D:Nat->Nat->Prop)(a:List Nat×Bool):Prop where
 i:XQ g l a.1
 mono:∀u,a.1.getD u 0<=c0.getD u 0
 eq:a.2=false->a.1=c0
 lt:a.2=true->∃u,R5 l u/\a.1.getD u 0<c0.getD u 0
 did:∀v u,D v u->a.1.getD u 0<=c0.getD v 0
def CoI.zfU {D:Nat->Nat->Prop}(h:CoI g l c0 D a)(hl:l.length=g.length){u:Nat}(hv:R5 l v)(hu:u∈OU g v):CoI g l c0 (λv' u'=>D v' u'\/(v'=v/\u'=u/\R5 l u)) (XE l v a u):=by
 unfold XE
 split
 ·rename_i hc
  obtain⟨hul,hlt⟩:=hc;have hun:u<a.1.length:=by have:=RF hul;have:=h.i.n;omega
  have hm:=h.mono u;have hmv:=h.mono v;refine⟨⟨by rw[List.length_set];exact h.i.n,λx hx=>?_,λx hx=>?_⟩,λx=>?_,λe=>(by cases e),λ_=>⟨u,hul,?_⟩,λv' u' hD=>?_⟩
  ·show RU g l ((a.1.set u (a.1.getD v 0)).getD x 0) x;rw[SM hun];split
   ·rename_i e
    subst e;exact .step (h.i.from_ v hv) hu hul
   ·exact h.i.from_ x hx
  ·show(a.1.set u (a.1.getD v 0)).getD x 0<=x;rw[SM hun];split
   ·rename_i e
    subst e;have:=h.i.le x hul;omega
   ·exact h.i.le x hx
  ·show(a.1.set u (a.1.getD v 0)).getD x 0<=_;rw[SM hun];split
   ·rename_i e
    subst e;omega
   ·exact h.mono x
  ·show(a.1.set u (a.1.getD v 0)).getD u 0<_;rw[SM hun,if_pos O];omega
  ·show(a.1.set u (a.1.getD v 0)).getD u' 0<=_;rw[SM hun];split
   ·rename_i e
    rcases hD with hD|⟨rfl,-⟩
    ·have:=h.did v' u' hD;subst e;omega
    ·exact hmv
   ·rename_i e
    rcases hD with hD|⟨-,e2,-⟩
    ·exact h.did v' u' hD
    ·exact absurd e2 e
 ·rename_i hc
  refine⟨h.i,h.mono,h.eq,h.lt,λv' u' hD=>?_⟩;rcases hD with hD|⟨rfl,rfl,hul⟩
  ·exact h.did v' u' hD
  ·have h1:¬a.1.getD v' 0<a.1.getD u' 0:=λe=>hc ⟨hul,e⟩;have h2:=h.mono v';omega
def CoI.zeb {D:Nat->Nat->Prop}(hl:l.length=g.length)(hv:R5 l v):∀{us:List Nat} {a:List Nat×Bool},CoI g l c0 D a->(∀u∈us,u∈OU g v)->CoI g l c0 (λv' u'=>D v' u'\/(v'=v/\u'∈us/\R5 l u')) (us.foldl (XE l v) a)
 |[],a,h,_=>⟨h.i,h.mono,h.eq,h.lt,λv' u' hD=>hD.elim (h.did v' u') λe=>(by cases e.2.1)⟩
 | u :: us, a, h, hu => by
   have h1:=h.zfU hl hv (hu u List.mem_cons_self);have h2:=CoI.zeb hl hv h1 λx hx=>hu x (List.mem_cons_of_mem _ hx);refine⟨h2.i,h2.mono,h2.eq,h2.lt,λv' u' hD=>h2.did v' u' ?_⟩;rcases hD with hD|⟨e1,e2,e3⟩
   ·exact .inl (.inl hD)
   ·rcases List.mem_cons.1 e2 with e| e
    ·subst e;exact .inl (.inr ⟨e1,rfl,e3⟩)
    ·exact .inr ⟨e1,e,e3⟩
theorem CoI.all (h:XQ g l c)(hl:l.length=g.length):∀k,CoI g l c (λv u=>v<k/\R5 l v/\u∈OU g v/\R5 l u) (XN g l c k)
 |0=>⟨h,λ_=>Nat.le_refl _,λ_=>rfl,λe=>(by cases e),λv u hD=>absurd hD.1 (Nat.not_lt_zero _)⟩
 | k + 1 => by
   have h1:=CoI.all h hl k;have e:XN g l c (k+1)=coV g l (XN g l c k) k:=by unfold XN;rw[List.range_succ,List.foldl_append];rfl
   rw[e];unfold coV;split
   ·rename_i hv
    have h2:=h1.zeb hl hv (us:=OU g k) λu hu=>hu;refine⟨h2.i,h2.mono,h2.eq,h2.lt,λv u ⟨d1,d2,d3,d4⟩=>h2.did v u ?_⟩;by_cases e:v=k
    ·subst e;exact .inr ⟨rfl,d3,d4⟩
    ·exact .inl ⟨by omega,d2,d3,d4⟩
   ·rename_i hv
    refine⟨h1.i,h1.mono,h1.eq,h1.lt,λv u ⟨d1,d2,d3,d4⟩=>h1.did v u ⟨?_,d2,d3,d4⟩⟩;by_cases e:v=k
    ·subst e;exact absurd d2 hv
    ·omega
def z66 (g:List (List Nat))(l c:List Nat)(u:Nat):Prop:=R5 l u/\∀x,RU g l x u->c.getD u 0<=x
def RU.zit {P:Nat->Prop}{a b:Nat}(h:RU g l a b)(ha:P a)(hb:¬P b):∃y z,RU g l a y/\P y/\z∈OU g y/\R5 l z/\¬P z/\RU g l z b:=by
 induction h with
 |refl _=>exact absurd ha hb
 | step hx hz hl ih =>
   rename_i x z
   by_cases e:P x
   ·exact⟨x,z,hx,e,hz,hl,hb,.refl hl⟩
   ·obtain⟨y,z',h1,h2,h3,h4,h5,h6⟩:=ih e;exact⟨y,z',h1,h2,h3,h4,h5,.step h6 hz hl⟩
def z4X {b:Nat}:∀(x:Nat),RU g l x b->∃y,y<=x/\RU g l y b/\∀z,RU g l z b->y<=z:=by
 intro x
 induction x using Nat.strongRecOn with
 | ind x ih =>
   intro h;by_cases e:∃z,RU g l z b/\z<x
   ·obtain⟨z,hz,hlt⟩:=e;obtain⟨y,h1,h2,h3⟩:=ih z hlt hz;exact⟨y,by omega,h2,h3⟩
   ·exact⟨x,Nat.le_refl _,h,λz hz=>by
     rcases Nat.lt_or_ge z x with h1|h1
     ·exact absurd ⟨z,hz,h1⟩ e
     ·exact h1⟩
def z3C (hc:XQ g l c)(hl:l.length=g.length){b:List Nat×Bool}(h:CoI g l c (λv u=>v<g.length/\R5 l v/\u∈OU g v/\R5 l u) b)(hb:b.2=true):z1R g.length (z66 g l c)<z1R g.length (z66 g l b.1):=by
 obtain⟨u,hu,hlt⟩:=h.lt hb
 obtain⟨x,h1,h2,h3⟩:=z4X _ (h.i.from_ u hu)
 have hxl:=h2.left
 have hxF:z66 g l c x:=⟨hxl,λz hz=>Nat.le_trans (hc.le x hxl) (h3 z (hz.trans h2))⟩
 have huF:¬z66 g l c u:=λe=>by
  have:=e.2 x h2;omega
 obtain⟨y,z,p1,p2,p3,p4,p5,p6⟩:=h2.zit (P:=z66 g l c) hxF huF
 have hyl:=p2.1
 have hyn:y<g.length:=by have:=RF hyl;omega
 have hzn:z<g.length:=by have:=RF p4;omega
 refine YR (λw _ hw=>⟨hw.1,λq hq=>Nat.le_trans (h.mono w) (hw.2 q hq)⟩) hzn p5 ⟨p4,λq hq=>?_⟩
 have d1:=h.did y z ⟨hyn,hyl,p3,p4⟩
 have d2:=p2.2 x p1
 have d3:=h3 q (hq.trans p6)
 omega
theorem XQ.rest (hc:XQ g l c)(h:CoI g l c (λv u=>v<g.length/\R5 l v/\u∈OU g v/\R5 l u) (c,false))(hl:l.length=g.length):z0h g (R5 l) (λu=>c.getD u 0):=
 ⟨λu hu=>(hc.from_ u hu).rch,hc.le,λv u hv hu hs=>h.did v u ⟨by have:=RF hv;omega,hv,hs,hu⟩⟩
def Xb {P:List Nat->Nat->Prop}[∀l v,Decidable (P l v)]{f:Nat->Nat}{l0:List Nat}(hP:∀l v,l.length=l0.length->l[v]? =l0[v]?->(P l v↔P l0 v)):∀k,k<=l0.length->∀u,((List.range k).foldl (λl v=>if P l v then l.set v (f v) else l) l0).length=l0.length/\((List.range k).foldl (λl v=>if P l v then l.set v (f v) else l) l0)[u]? =if u<k/\P l0 u then some (f u) else l0[u]?
 |0,_,u=>⟨rfl,by rw[if_neg (λe=>absurd e.1 (Nat.not_lt_zero _))];rfl⟩
 | k + 1, hk, u => by
   have ih:=Xb (f:=f) hP k (by omega);rw[List.range_succ,List.foldl_append]
   generalize (List.range k).foldl (λl v=>if P l v then l.set v (f v) else l) l0=q at ih
   have hq:=(ih u).1;have hqk:=(ih k).2;rw[if_neg (λe=>absurd e.1 (Nat.lt_irrefl _))] at hqk;have hPk:=hP q k hq hqk;show(if P q k then q.set k (f k) else q).length=_/\(if P q k then q.set k (f k) else q)[u]? =_;by_cases e:P l0 k
   ·rw[if_pos (hPk.2 e)];refine⟨by rw[List.length_set];exact hq,?_⟩;by_cases e2:k=u
    ·subst e2;rw[List.getElem?_set_self (by omega),if_pos ⟨Nat.lt_succ_self _,e⟩]
    ·rw[List.getElem?_set_ne e2,(ih u).2];by_cases e3:u<k/\P l0 u
     ·rw[if_pos e3,if_pos ⟨by omega,e3.2⟩]
     ·rw[if_neg e3,if_neg (λe4=>e3 ⟨by omega,e4.2⟩)]
   ·rw[if_neg (λe2=>e (hPk.1 e2))];refine⟨hq,?_⟩;rw[(ih u).2];by_cases e3:u<k/\P l0 u
    ·rw[if_pos e3,if_pos ⟨by omega,e3.2⟩]
    ·rw[if_neg e3,if_neg (λe4=>?_)];by_cases e5:u=k
     ·subst e5;exact e e4.2
     ·exact e3 ⟨by omega,e4.2⟩
theorem z8n (hl:l.length=g.length)(hc:c.length=g.length)(u:Nat):(rsC l c g.length).length=g.length/\(rsC l c g.length)[u]? =if R5 l u then some u else c[u]? :=by
 have h:=Xb (P:=λ_ v=>R5 l v) (f:=λv=>v) (l0:=c) (λ_ _ _ _=>Iff.rfl) g.length (by omega) u
 refine⟨by unfold rsC;rw[h.1];exact hc,?_⟩
 unfold rsC
 rw[h.2]
 by_cases e:R5 l u
 ·rw[if_pos ⟨by have:=RF e;omega,e⟩,if_pos e]
 ·rw[if_neg (λe2=>e e2.2),if_neg e]
def zdp (hl:l.length=g.length)(hc:c.length=g.length):XQ g l (rsC l c g.length):=by
 have hg:∀u,R5 l u->(rsC l c g.length).getD u 0=u:=λu hu=>Tk (by rw[(z8n hl hc u).2,if_pos hu])
 exact⟨(z8n hl hc 0).1,λu hu=>by rw[hg u hu];exact .refl hu,λu hu=>by rw[hg u hu];exact Nat.le_refl _⟩
/-! ### Marks -/
structure z7h (g:List (List Nat))(l c m:List Nat):Prop where
 n:m.length=g.length
 bit:∀(v x:Nat),m[v]? =some x->x=0\/x=1
 to_:∀v,R5 l v->m.getD v 0=1->Wt g v (c.getD v 0)
 some_:∃v,R5 l v/\m.getD v 0=1
abbrev mrk (l m:List Nat)(v:Nat):Prop:=R5 l v/\m.getD v 0=1
structure BkI (g:List (List Nat))(l c m0:List Nat)(k:Nat)(a:List Nat×Bool):Prop where
 i:z7h g l c a.1
 mono:∀v,m0.getD v 0=1->a.1.getD v 0=1
 eq:a.2=false->a.1=m0
 lt:a.2=true->∃v,R5 l v/\a.1.getD v 0=1/\m0.getD v 0≠1
 did:a.2=false->∀v,v<k->R5 l v->m0.getD v 0=0->∀u,u∈OU g v->¬bkC l c m0 v u
theorem BkI.zfM (h:BkI g l c m0 k a)(hl:l.length=g.length):BkI g l c m0 (k+1) (bkV g l c a k):=by
 unfold bkV
 split
 ·rename_i hc
  obtain⟨hkl,hk0,hany⟩:=hc;obtain⟨u,hu,hb⟩:=List.any_eq_true.1 hany;obtain⟨b1,b2,b3⟩:=of_decide_eq_true hb;have hkn:k<a.1.length:=by have:=RF hkl;have:=h.i.n;omega
  refine⟨⟨by rw[List.length_set];exact h.i.n,λv x hx=>?_,λv hv hm=>?_,?_⟩,λv hv=>?_,λe=>(by cases e),λ_=>⟨k,hkl,?_,λe=>?_⟩,λe=>(by cases e)⟩
  ·rcases List.mem_or_eq_of_mem_set (List.mem_of_getElem? hx) with e| e
   ·obtain⟨j,hj⟩:=List.getElem?_of_mem e;exact h.i.bit j x hj
   ·exact .inr e
  ·have hm:(a.1.set k 1).getD v 0=1:=hm;rw[SM hkn] at hm;split at hm
   ·rename_i e
    subst e;have:=h.i.to_ u b1 b2;rw[b3] at this;exact(Wt.one hu).trans this
   ·exact h.i.to_ v hv hm
  ·exact⟨k,hkl,by show(a.1.set k 1).getD k 0=1;rw[SM hkn,if_pos O]⟩
  ·show(a.1.set k 1).getD v 0=1;rw[SM hkn];split
   ·rfl
   ·exact h.mono v hv
  ·show(a.1.set k 1).getD k 0=1;rw[SM hkn,if_pos O]
  ·have:=h.mono k e;omega
 ·rename_i hc
  refine⟨h.i,h.mono,h.eq,h.lt,λe v hv hvl hv0 u hu hb=>?_⟩;by_cases e2:v=k
  ·subst e2;rw[h.eq e] at hc;exact hc ⟨hvl,hv0,List.any_eq_true.2 ⟨u,hu,decide_eq_true hb⟩⟩
  ·exact h.did e v (by omega) hvl hv0 u hu hb
theorem BkI.all (h:z7h g l c m)(hl:l.length=g.length):∀k,BkI g l c m k (bkS g l c m k)
 |0=>⟨h,λ_ e=>e,λ_=>rfl,λe=>(by cases e),λ_ v hv=>absurd hv (Nat.not_lt_zero _)⟩
 | k + 1 => by
   have h1:=(BkI.all h hl k).zfM hl;unfold bkS at h1⊢;rw[List.range_succ,List.foldl_append];exact h1
theorem z8o (hl:l.length=g.length)(u:Nat):(rsM l c (List.replicate g.length 0) g.length).length=g.length/\(rsM l c (List.replicate g.length 0) g.length)[u]? =if R5 l u/\c.getD u 0=u then some 1 else(List.replicate g.length 0)[u]? :=by
 have h:=Xb (P:=λ_ v=>R5 l v/\c.getD v 0=v) (f:=λ_=>1) (l0:=List.replicate g.length 0) (λ_ _ _ _=>Iff.rfl) g.length (by rw[List.length_replicate];exact Nat.le_refl _) u
 refine⟨by unfold rsM;rw[h.1];exact List.length_replicate,?_⟩
 unfold rsM
 rw[h.2]
 by_cases e:R5 l u/\c.getD u 0=u
 ·rw[if_pos ⟨by have:=RF e.1;omega,e⟩,if_pos e]
 ·rw[if_neg (λe2=>e e2.2),if_neg e]
def zcC (hl:l.length=g.length)(hc:XQ g l c)(hu:∃v,R5 l v):z7h g l c (rsM l c (List.replicate g.length 0) g.length):=by
 have hg:=λu=>(z8o (g:=g) (c:=c) hl u).2
 refine⟨(z8o hl 0).1,λv x hx=>?_,λv hv hm=>?_,?_⟩
 ·rw[hg] at hx;split at hx
  ·exact .inr (Option.some.inj hx).symm
  ·exact .inl (List.mem_replicate.1 (List.mem_of_getElem? hx)).2
 ·by_cases e:c.getD v 0=v
  ·rw[e];exact .refl
  ·rw[List.getD_eq_getElem?_getD,hg,if_neg (λe2=>e e2.2),List.getElem?_replicate] at hm;split at hm<;>cases hm
 ·obtain⟨v,hv⟩:=hu
  -- the OR of v's last OR
  have key:∀x,R5 l x->∃y,R5 l y/\c.getD y 0=y:=by
   intro x
   induction x using Nat.strongRecOn with
   | ind x ih =>
     intro hx;by_cases e:c.getD x 0=x
     ·exact⟨x,hx,e⟩
     ·have h1:=hc.le x hx;exact ih (c.getD x 0) (by omega) (hc.from_ x hx).left
  obtain⟨y,h1,h2⟩:=key v hv;exact⟨y,h1,Tk (by rw[hg,if_pos ⟨h1,h2⟩])⟩
theorem z8z (hl:l.length=g.length)(u:Nat):(rsL l c m g.length).length=g.length/\(rsL l c m g.length)[u]? =if R5 l u/\m.getD u 0=1 then some (c.getD u 0) else l[u]? :=by
 have h:=Xb (P:=λl v=>R5 l v/\m.getD v 0=1) (f:=λv=>c.getD v 0) (l0:=l) (λl' v _ e=>by unfold R5;rw[e]) g.length (by omega) u
 refine⟨by unfold rsL;rw[h.1];exact hl,?_⟩
 unfold rsL
 rw[h.2]
 by_cases e:R5 l u/\m.getD u 0=1
 ·rw[if_pos ⟨by have:=RF e.1;omega,e⟩,if_pos e]
 ·rw[if_neg (λe2=>e e2.2),if_neg e]
theorem zdb (h:z1P g l)(hc:XQ g l c)(hr:z0h g (R5 l) (λu=>c.getD u 0))(hM:z7h g l c m)(hm:zcP g (R5 l) (λu=>c.getD u 0) (λu=>m.getD u 0=1))(hn:g.length<4294967295):z1P g (rsL l c m g.length)/\(∀u,R5 (rsL l c m g.length) u↔R5 l u/\¬m.getD u 0=1):=by
 have hg:=λu=>(z8z (g:=g) (c:=c) (m:=m) h.n u).2
 have hlf:∀u,R5 (rsL l c m g.length) u↔R5 l u/\¬m.getD u 0=1:=λu=>by
  show(rsL l c m g.length)[u]? =_↔_;rw[hg];by_cases e:R5 l u/\m.getD u 0=1
  ·rw[if_pos e];have h1:=hc.le u e.1;have h2:=RF e.1;have h3:=h.n;exact⟨λe2=>by have:=Option.some.inj e2;omega,λe2=>absurd e.2 e2.2⟩
  ·rw[if_neg e];exact⟨λe2=>⟨e2,λe3=>e ⟨e2,e3⟩⟩,λe2=>e2.1⟩
 refine⟨⟨(z8z h.n 0).1,λv x hx hne=>?_,λu w hu hmu=>?_⟩,hlf⟩
 ·rw[hg] at hx;split at hx
  ·rename_i e
   obtain rfl:=Option.some.inj hx;exact hr.least h.cl e.1 (hM.to_ v e.1 e.2)
  ·exact h.Zc v x hx hne
 ·rw[hlf] at hu⊢;refine⟨h.cl u w hu.1 hmu,λe=>hu.2 ?_⟩;exact hm.whole hr h.cl (h.cl u w hu.1 hmu) e hmu.symm
end
structure UK (g:List (List Nat))(s:Sc):Prop where
 ph:s.phase<=2
 ln:s.label.length=g.length
 cn:s.OR.length=g.length
 mn:s.mark.length=g.length
 lb:∀x∈s.label,x<4294967296
 cb:∀x∈s.OR,x<4294967296
 mb:∀x∈s.mark,x<256
section
variable {g t:List (List Nat)}{s:Sc}{l c m:List Nat}{b k:Nat}
def Tn {P:Nat->Prop}{l:List Nat}{v y:Nat}(h:∀x∈l,P x)(hy:P y):∀x∈l.set v y,P x:=λx hx=>by
 rcases List.mem_or_eq_of_mem_set hx with e| e
 ·exact h x e
 ·rw[e];exact hy
def z15 {P:Nat->Prop}{l:List Nat}{v:Nat}(h:∀x∈l,P x)(h0:P 0):P (l.getD v 0):=by
 rw[List.getD_eq_getElem?_getD]
 cases e:l[v]? with
 |none=>exact h0
 |some y=>exact h y (List.mem_of_getElem? e)
def z8x (hl:∀x∈l,x<4294967296):∀k,k<=100000->(∀x∈(trS g t l k).1,x<4294967296)/\(trS g t l k).1.length=l.length
 |0,_=>⟨hl,rfl⟩
 | k + 1, hk => by
   have ih:=z8x hl k (by omega);unfold trS at ih⊢;rw[List.range_succ,List.foldl_append];show(∀x∈(trV g t _ k).1,_)/\(trV g t _ k).1.length=_;unfold trV;split
   ·exact⟨Tn ih.1 (by omega),by rw[List.length_set];exact ih.2⟩
   ·exact ih
def z0k {v:Nat}:∀{us:List Nat} {a:List Nat×Bool},(∀x∈a.1,x<4294967296)->(∀x∈(us.foldl (XE l v) a).1,x<4294967296)/\(us.foldl (XE l v) a).1.length=a.1.length
 |[],a,h=>⟨h,rfl⟩
 | u :: us, a, h => by
   have h1:(∀x∈(XE l v a u).1,x<4294967296)/\(XE l v a u).1.length=a.1.length:=by
    unfold XE;split
    ·exact⟨Tn h (z15 (P:=λx=>x<4294967296) h (by decide)),List.length_set⟩
    ·exact⟨h,rfl⟩
   have h2:=z0k (v:=v) (us:=us) h1.1;exact⟨h2.1,h2.2.trans h1.2⟩
def z7Q (hc:∀x∈c,x<4294967296):∀k,(∀x∈(XN g l c k).1,x<4294967296)/\(XN g l c k).1.length=c.length
 |0=>⟨hc,rfl⟩
 | k + 1 => by
   have ih:=z7Q hc k;unfold XN at ih⊢;rw[List.range_succ,List.foldl_append];show(∀x∈(coV g l _ k).1,_)/\(coV g l _ k).1.length=_;unfold coV;split
   ·have h2:=z0k (l:=l) (v:=k) (us:=OU g k) ih.1;exact⟨h2.1,h2.2.trans ih.2⟩
   ·exact ih
def z7u (hm:∀x∈m,x<256):∀k,(∀x∈(bkS g l c m k).1,x<256)/\(bkS g l c m k).1.length=m.length
 |0=>⟨hm,rfl⟩
 | k + 1 => by
   have ih:=z7u hm k;unfold bkS at ih⊢;rw[List.range_succ,List.foldl_append];show(∀x∈(bkV g l c _ k).1,_)/\(bkV g l c _ k).1.length=_;unfold bkV;split
   ·exact⟨Tn ih.1 (by decide),by rw[List.length_set];exact ih.2⟩
   ·exact ih
def z8m (hc:∀x∈c,x<4294967296):∀k,k<=100000->(∀x∈rsC l c k,x<4294967296)/\(rsC l c k).length=c.length
 |0,_=>⟨hc,rfl⟩
 | k + 1, hk => by
   have ih:=z8m hc k (by omega);unfold rsC at ih⊢;rw[List.range_succ,List.foldl_append];show(∀x∈(if R5 l k then _ else _),_)/\(if R5 l k then _ else _:List Nat).length=_;split
   ·exact⟨Tn ih.1 (by omega),by rw[List.length_set];exact ih.2⟩
   ·exact ih
def z8w (hm:∀x∈m,x<256):∀k,(∀x∈rsM l c m k,x<256)/\(rsM l c m k).length=m.length
 |0=>⟨hm,rfl⟩
 | k + 1 => by
   have ih:=z8w hm k;unfold rsM at ih⊢;rw[List.range_succ,List.foldl_append];show(∀x∈(if R5 l k/\c.getD k 0=k then _ else _),_)/\(if R5 l k/\c.getD k 0=k then _ else _:List Nat).length=_;split
   ·exact⟨Tn ih.1 (by decide),by rw[List.length_set];exact ih.2⟩
   ·exact ih
def z7z (hl:∀x∈l,x<4294967296)(hc:∀x∈c,x<4294967296):∀k,(∀x∈rsL l c m k,x<4294967296)/\(rsL l c m k).length=l.length
 |0=>⟨hl,rfl⟩
 | k + 1 => by
   have ih:=z7z hl hc k;unfold rsL at ih⊢;rw[List.range_succ,List.foldl_append];show(∀x∈(if _/\_ then _ else _),_)/\(if _/\_ then _ else _:List Nat).length=_;split
   ·exact⟨Tn ih.1 (z15 (P:=λx=>x<4294967296) hc (by decide)),by rw[List.length_set];exact ih.2⟩
   ·exact ih
theorem UK.new (hn:g.length<=60):UK g (Sc.new g.length):=
 ⟨Nat.zero_le _,List.length_replicate,List.length_replicate,List.length_replicate,λx hx=>by rw[(List.mem_replicate.1 hx).2];decide,λx hx=>by rw[(List.mem_replicate.1 hx).2];decide,λx hx=>by rw[(List.mem_replicate.1 hx).2];decide⟩
theorem UK.go (h:UK g s)(hn:g.length<=60):UK g (s.go g t):=by
 have h1:=z8x (g:=g) (t:=t) h.lb g.length (by omega)
 have h2:=z7Q (g:=g) (l:=s.label) h.cb g.length
 have h3:=z7u (g:=g) (l:=s.label) (c:=s.OR) h.mb g.length
 have h4:=z8m (l:=s.label) h.cb g.length (by omega)
 have h5:=z8w (l:=s.label) (c:=s.OR) (m:=List.replicate g.length 0) (λx hx=>by rw[(List.mem_replicate.1 hx).2];decide) g.length
 have h6:=z7z (m:=s.mark) h.lb h.cb g.length
 have l5:(List.replicate g.length 0).length=g.length:=List.length_replicate
 unfold Sc.go
 dsimp only
 split
 ·split
  ·exact⟨h.ph,h1.2.trans h.ln,h.cn,h.mn,h1.1,h.cb,h.mb⟩
  ·exact⟨by show 1<=2;decide,h.ln,h4.2.trans h.cn,h.mn,h.lb,h4.1,h.mb⟩
 ·split
  ·split
   ·exact⟨h.ph,h.ln,h2.2.trans h.cn,h.mn,h.lb,h2.1,h.mb⟩
   ·exact⟨by show 2<=2;decide,h.ln,h.cn,h5.2.trans l5,h.lb,h.cb,h5.1⟩
  ·split
   ·exact⟨h.ph,h.ln,h.cn,h3.2.trans h.mn,h.lb,h.cb,h3.1⟩
   ·exact⟨by show 0<=2;decide,h6.2.trans h.ln,h.cn,h.mn,h6.1,h.cb,h.mb⟩
theorem UK.step (h:UK g s)(hn:g.length<=60):UK g (s.step g t):=
 let h':=UK.go (t:=t) h hn
 ⟨h'.ph,h'.ln,h'.cn,h'.mn,h'.lb,h'.cb,h'.mb⟩
/-! ### The bound -/
noncomputable def kS (g:List (List Nat))(l:List Nat):Nat:=z1R g.length (R5 l)
noncomputable def fS (g:List (List Nat))(l c:List Nat):Nat:=z1R g.length (z66 g l c)
noncomputable def mS (g:List (List Nat))(l m:List Nat):Nat:=z1R g.length (mrk l m)
def rS (k:Nat):Nat:=k*k+3*k
def z3q {a b:Nat}(h:a<=b):rS a<=rS b:=by
 have:=Nat.mul_le_mul h h
 unfold rS;omega
def zcI (k:Nat):rS (k+1)=rS k+2*k+4:=by
 unfold rS
 rw[Nat.mul_add,Nat.add_mul];omega
structure ScJ (g:List (List Nat))(s:Sc)(b:Nat):Prop where
 i:UK g s
 Zc:z1P g s.label
 dn:s.done=false↔∃v,R5 s.label v
 p0:s.phase=0->rS (kS g s.label)<=b
 p1:s.phase=1->XQ g s.label s.OR/\kS g s.label-fS g s.label s.OR+1+kS g s.label+rS (kS g s.label-1)<=b
 p2:s.phase=2->XQ g s.label s.OR/\z0h g (R5 s.label) (λu=>s.OR.getD u 0)/\z7h g s.label s.OR s.mark/\kS g s.label-mS g s.label s.mark+1+rS (kS g s.label-1)<=b
theorem z1o (hl:l.length=g.length):z1t l g.length=false↔∃v,R5 l v:=by
 constructor
 ·intro h;unfold z1t at h;rw[List.all_eq_false] at h;obtain⟨v,-,hv⟩:=h;refine⟨v,?_⟩;by_cases e:R5 l v
  ·exact e
  ·rw[decide_eq_false e] at hv;exact absurd O hv
 ·rintro⟨v,hv⟩;unfold z1t;rw[List.all_eq_false];exact⟨v,List.mem_range.2 (by have:=RF hv;omega),by rw[decide_eq_true hv];decide⟩
theorem ScJ.new (hg:Rh g)(h1:1<=g.length):ScJ g (Sc.new g.length) (g.length*g.length+3*g.length):=by
 have hl:∀v,R5 (Sc.new g.length).label v↔v<g.length:=λv=>by
  show(List.replicate g.length 4294967295)[v]? =some 4294967295↔_;rw[List.getElem?_replicate];split
  ·rename_i e;exact⟨λ_=>e,λ_=>rfl⟩
  ·rename_i e;exact⟨λh=>(by cases h),λh=>absurd h e⟩
 refine⟨UK.new hg.n,⟨List.length_replicate,λv x hx hne=>?_,λu v hu hm=>?_⟩,⟨λ_=>⟨0,(hl 0).2 h1⟩,λ_=>rfl⟩,λ_=>?_,λe=>(by cases e),λe=>(by cases e)⟩
 ·exact absurd (List.mem_replicate.1 (List.mem_of_getElem? hx)).2 hne
 ·exact(hl v).2 (hm.1.lt hg ((hl u).1 hu))
 ·exact z3q (b:=g.length) zf7
def ScJ.end_ (h:ScJ g s b)(hd:s.done=true){v:Nat}(hv:v<g.length):∃x,s.label[v]? =some x/\Wx g v x:=by
 have hv':v<s.label.length:=by rw[h.Zc.n];exact hv
 refine⟨_,List.getElem?_eq_getElem hv',h.Zc.Zc v _ (List.getElem?_eq_getElem hv') λe=>?_⟩
 have:=h.dn.2 ⟨v,by show s.label[v]? =_;rw[List.getElem?_eq_getElem hv',e]⟩
 rw[hd] at this;cases this
def zdg (hl:l.length=g.length)(hc:XQ g l c)(hu:∃v,R5 l v):0<fS g l c:=by
 obtain⟨u,hu⟩:=hu
 obtain⟨x,h1,h2,h3⟩:=z4X (g:=g) (l:=l) u (.refl hu)
 have hxl:=h2.left
 exact z1I (by have:=RF hxl;omega) (⟨hxl,λz hz=>Nat.le_trans (hc.le x hxl) (h3 z (hz.trans h2))⟩:z66 g l c x)
theorem ScJ.step (h:ScJ g s b)(hg:Rh g)(ht:∀u v,u∈OU t v↔v∈OU g u)(hd:s.done=false):∃b',b'+1<=b/\ScJ g (s.step g t) b':=by
 have hn:=hg.n
 have hI:=h.i.step (t:=t) hn
 have hex:=h.dn.1 hd
 have hln:=h.Zc.n
 have hk1:1<=kS g s.label:=by
  obtain⟨v,hv⟩:=hex;exact z1I (by have:=RF hv;omega) hv
 have hdn:∀s':Sc,s.go g t=s'->s'.label.length=g.length->((s.step g t).done=false↔∃v,R5 (s.step g t).label v):=λs' e hl=>by
  show z1t (s.go g t).label g.length=false↔∃v,R5 (s.go g t).label v;rw[e];exact z1o hl
 have hph:=h.i.ph
 obtain⟨k,hk⟩:∃k,kS g s.label=k+1:=⟨kS g s.label-1,by omega⟩
 have hrk:=zcI k
 rcases (by omega:s.phase=0\/s.phase=1\/s.phase=2) with hp|hp|hp
 ·have hb:=h.p0 hp;rw[hk] at hb;have hT:=TrI.all h.Zc ht (by omega) g.length
  cases e:(trS g t s.label g.length).2 with
  | true =>
    have ego:s.go g t={s with label:=(trS g t s.label g.length).1}:=by unfold Sc.go;simp only[hp,e,if_true]
    obtain⟨v,v1,v2⟩:=hT.lt e;have hlt:kS g (trS g t s.label g.length).1<kS g s.label:=YR (λu _=>hT.sub u) (by have:=RF v1;omega) v2 v1;refine⟨b-1,by omega,hI,?_,hdn _ ego hT.i.n,?_,?_,?_⟩
    ·show z1P g (s.go g t).label;rw[ego];exact hT.i
    ·intro _;show rS (kS g (s.go g t).label)<=b-1;rw[ego];have:=z3q (a:=kS g (trS g t s.label g.length).1) (b:=k) (by omega);show rS (kS g (trS g t s.label g.length).1)<=b-1;omega
    ·intro e2;have e2:(s.go g t).phase=1:=e2;rw[ego] at e2;exact absurd (hp.symm.trans e2) (by decide)
    ·intro e2;have e2:(s.go g t).phase=2:=e2;rw[ego] at e2
     exact absurd (hp.symm.trans e2) (by decide)
  | false =>
    have ego:s.go g t={s with phase:=1,OR:=rsC s.label s.OR g.length}:=by unfold Sc.go;simp[hp,e]
    have hC:=zdp (g:=g) hln h.i.cn;have hF:=zdg hln hC hex;refine⟨b-1,by omega,hI,?_,hdn _ ego hln,?_,?_,?_⟩
    ·show z1P g (s.go g t).label;rw[ego];exact h.Zc
    ·intro e2;have e2:(s.go g t).phase=0:=e2;rw[ego] at e2;cases e2
    ·intro _;show XQ g (s.go g t).label (s.go g t).OR/\kS g (s.go g t).label-fS g (s.go g t).label (s.go g t).OR+1+kS g (s.go g t).label+rS (kS g (s.go g t).label-1)<=b-1;rw[ego];refine⟨hC,?_⟩;show kS g s.label-fS g s.label (rsC s.label s.OR g.length)+1+kS g s.label+rS (kS g s.label-1)<=b-1;rw[hk,Nat.add_sub_cancel];omega
    ·intro e2;have e2:(s.go g t).phase=2:=e2;rw[ego] at e2;cases e2
 ·obtain⟨hC,hb⟩:=h.p1 hp;rw[hk,Nat.add_sub_cancel] at hb;have hA:=CoI.all hC hln g.length;have hfk:∀c',fS g s.label c'<=kS g s.label:=λc'=>z7B λv _ e=>e.1
  cases e:(XN g s.label s.OR g.length).2 with
  | true =>
    have ego:s.go g t={s with OR:=(XN g s.label s.OR g.length).1}:=by unfold Sc.go;simp[hp,e]
    have hlt:fS g s.label s.OR<fS g s.label (XN g s.label s.OR g.length).1:=z3C hC hln hA e;have hle:=hfk (XN g s.label s.OR g.length).1;refine⟨b-1,by omega,hI,?_,hdn _ ego hln,?_,?_,?_⟩
    ·show z1P g (s.go g t).label;rw[ego];exact h.Zc
    ·intro e2;have e2:(s.go g t).phase=0:=e2;rw[ego] at e2;exact absurd (hp.symm.trans e2) (by decide)
    ·intro _;show XQ g (s.go g t).label (s.go g t).OR/\kS g (s.go g t).label-fS g (s.go g t).label (s.go g t).OR+1+kS g (s.go g t).label+rS (kS g (s.go g t).label-1)<=b-1;rw[ego];refine⟨hA.i,?_⟩;show kS g s.label-fS g s.label (XN g s.label s.OR g.length).1+1+kS g s.label+rS (kS g s.label-1)<=b-1;rw[hk] at hle⊢;rw[Nat.add_sub_cancel];omega
    ·intro e2;have e2:(s.go g t).phase=2:=e2;rw[ego] at e2
     exact absurd (hp.symm.trans e2) (by decide)
  | false =>
    have ego:s.go g t={s with phase:=2,mark:=rsM s.label s.OR (List.replicate g.length 0) g.length}:=by unfold Sc.go;simp[hp,e]
    have hM:=zcC (g:=g) hln hC hex
    have hA':CoI g s.label s.OR (λv u=>v<g.length/\R5 s.label v/\u∈OU g v/\R5 s.label u) (s.OR,false):=by
     have h1:=hA.eq e;have h2:XN g s.label s.OR g.length=(s.OR,false):=Prod.ext h1 e;rw[h2] at hA;exact hA
    have hR:=hC.rest hA' hln
    have hmp:0<mS g s.label (rsM s.label s.OR (List.replicate g.length 0) g.length):=by
     obtain⟨v,v1,v2⟩:=hM.some_;exact z1I (by have:=RF v1;omega) (⟨v1,v2⟩:mrk s.label _ v)
    refine⟨b-1,by omega,hI,?_,hdn _ ego hln,?_,?_,?_⟩
    ·show z1P g (s.go g t).label;rw[ego];exact h.Zc
    ·intro e2;have e2:(s.go g t).phase=0:=e2;rw[ego] at e2;cases e2
    ·intro e2;have e2:(s.go g t).phase=1:=e2;rw[ego] at e2;cases e2
    ·intro _;show XQ g (s.go g t).label (s.go g t).OR/\z0h g (R5 (s.go g t).label) (λu=>(s.go g t).OR.getD u 0)/\z7h g (s.go g t).label (s.go g t).OR (s.go g t).mark/\kS g (s.go g t).label-mS g (s.go g t).label (s.go g t).mark+1+rS (kS g (s.go g t).label-1)<=b-1;rw[ego];refine⟨hC,hR,hM,?_⟩;show kS g s.label-mS g s.label (rsM s.label s.OR (List.replicate g.length 0) g.length)+1+rS (kS g s.label-1)<=b-1;rw[hk,Nat.add_sub_cancel];omega
 ·obtain⟨hC,hR,hM,hb⟩:=h.p2 hp;rw[hk,Nat.add_sub_cancel] at hb;have hA:=BkI.all hM hln g.length;have hmk:∀m',mS g s.label m'<=kS g s.label:=λm'=>z7B λv _ e=>e.1
  cases e:(bkS g s.label s.OR s.mark g.length).2 with
  | true =>
    have ego:s.go g t={s with mark:=(bkS g s.label s.OR s.mark g.length).1}:=by unfold Sc.go;simp[hp,e]
    obtain⟨v,v1,v2,v3⟩:=hA.lt e;have hlt:mS g s.label s.mark<mS g s.label (bkS g s.label s.OR s.mark g.length).1:=YR (λu _ hu=>⟨hu.1,hA.mono u hu.2⟩) (by have:=RF v1;omega) (λe=>v3 e.2) (⟨v1,v2⟩:mrk s.label _ v);have hle:=hmk (bkS g s.label s.OR s.mark g.length).1;refine⟨b-1,by omega,hI,?_,hdn _ ego hln,?_,?_,?_⟩
    ·show z1P g (s.go g t).label;rw[ego];exact h.Zc
    ·intro e2;have e2:(s.go g t).phase=0:=e2;rw[ego] at e2;exact absurd (hp.symm.trans e2) (by decide)
    ·intro e2;have e2:(s.go g t).phase=1:=e2;rw[ego] at e2;exact absurd (hp.symm.trans e2) (by decide)
    ·intro _;show XQ g (s.go g t).label (s.go g t).OR/\z0h g (R5 (s.go g t).label) (λu=>(s.go g t).OR.getD u 0)/\z7h g (s.go g t).label (s.go g t).OR (s.go g t).mark/\kS g (s.go g t).label-mS g (s.go g t).label (s.go g t).mark+1+rS (kS g (s.go g t).label-1)<=b-1;rw[ego];refine⟨hC,hR,hA.i,?_⟩;show kS g s.label-mS g s.label (bkS g s.label s.OR s.mark g.length).1+1+rS (kS g s.label-1)<=b-1;rw[hk] at hle⊢;rw[Nat.add_sub_cancel]
     omega
  | false =>
    have ego:s.go g t={s with phase:=0,label:=rsL s.label s.OR s.mark g.length}:=by unfold Sc.go;simp[hp,e]
    have hMR:zcP g (R5 s.label) (λu=>s.OR.getD u 0) (λu=>s.mark.getD u 0=1):=⟨λv hv hm=>hM.to_ v hv hm,λv u hv hu hs hmu hcc=>by
     have hvn:v<s.mark.length:=by rw[h.i.mn,<-hln];exact RF hv
     rcases hM.bit v _ (z97 hvn) with e0|e1
     ·exact absurd ⟨hu,hmu,hcc⟩ (hA.did e v (by have:=h.i.mn;omega) hv e0 u hs)
     ·exact e1⟩
    obtain⟨hL,hlf⟩:=zdb h.Zc hC hR hM hMR (by omega);obtain⟨v,v1,v2⟩:=hM.some_;have hlt:kS g (rsL s.label s.OR s.mark g.length)<kS g s.label:=YR (λu _ hu=>((hlf u).1 hu).1) (by have:=RF v1;omega) (λe=>((hlf v).1 e).2 v2) v1;refine⟨b-1,by omega,hI,?_,hdn _ ego hL.n,?_,?_,?_⟩
    ·show z1P g (s.go g t).label;rw[ego];exact hL
    ·intro _;show rS (kS g (s.go g t).label)<=b-1;rw[ego];have:=z3q (a:=kS g (rsL s.label s.OR s.mark g.length)) (b:=k) (by omega);show rS (kS g (rsL s.label s.OR s.mark g.length))<=b-1;omega
    ·intro e2;have e2:(s.go g t).phase=1:=e2;rw[ego] at e2;cases e2
    ·intro e2;have e2:(s.go g t).phase=2:=e2;rw[ego] at e2;cases e2
end
def scC (s:Sc)(g t vl vc vm:Nat):List Value:=[ptr g 0,ptr t 0,ptr vl 0,ptr vc 0,ptr vm 0,I (s.steps:Int),I (s.phase:Int),.bool s.done,.bool false]
structure VC (sw:Bool)(Q:Ra)(txt:Int->OI)(k ok rr:Nat)(O_:Nat->Prop)(a L:Nat)(s:Sc)(vl vc vm:Nat)(w:World):Prop where
 o:O_ rr/\O_ vl/\O_ vc/\O_ vm
 ne:rr≠vl/\rr≠vc/\rr≠vm/\vl≠vc/\vl≠vm/\vc≠vm
 run:OP w rr (scC s (if sw then ok else k) (if sw then k else ok) vl vc vm) 86
 Zc:Uk Q txt vl 4 a s.label w
 col:Uk Q txt vc 4 (a+1) s.OR w
 mar:Uk Q txt vm 1 (a+2) s.mark w
 n:s.label.length<=100/\s.OR.length<=100/\s.mark.length<=100
 L:L=3
theorem RK {n:Nat}(h:n<=100):VE n (512 / 4)=1:=by
 unfold VE
 omega
theorem WV {n:Nat}(h:n<=100):VE n (512 / 1)=1:=by
 unfold VE
 omega
section
variable {w w':World}{sw:Bool}{Q Q':Ra}{txt txt':Int->OI}{k ok rr a L vl vc vm:Nat}{s:Sc}{O_ S:Nat->Prop}
def VC.kp (h:VC sw Q txt k ok rr O_ a L s vl vc vm w)(hk:Kp S w w')(hS:∀b,O_ b->¬S b):VC sw Q txt k ok rr O_ a L s vl vc vm w':=
 ⟨h.o,h.ne,hk.OA h.run (hS _ h.o.1),h.Zc.kp hk (hS _ h.o.2.1),h.col.kp hk (hS _ h.o.2.2.1),h.mar.kp hk (hS _ h.o.2.2.2),h.n,h.L⟩
def VC.SK (h:VC sw Q txt k ok rr O_ a L s vl vc vm w)(e:∀y:Int,(a:Int)<=y->y<(a:Int)+(L:Int)->txt' y=txt y):VC sw Q txt' k ok rr O_ a L s vl vc vm w:=by
 have h1:=h.L
 obtain⟨n1,n2,n3⟩:=h.n
 refine⟨h.o,h.ne,h.run,h.Zc.SK λy e1 e2=>?_,h.col.SK λy e1 e2=>?_,h.mar.SK λy e1 e2=>?_,h.n,h.L⟩
 ·rw[RK n1] at e2;exact e y (by omega) (by omega)
 ·rw[RK n2] at e2;exact e y (by omega) (by omega)
 ·rw[WV n3] at e2;exact e y (by omega) (by omega)
theorem VC.q (h:VC sw Q txt k ok rr O_ a L s vl vc vm w)(hs:Q'.s=Q.s)(hl:Q'.L.length=Q.L.length):VC sw Q' txt k ok rr O_ a L s vl vc vm w:=
 ⟨h.o,h.ne,h.run,h.Zc.q hs hl,h.col.q hs hl,h.mar.q hs hl,h.n,h.L⟩
def VC.zk2 {ys:List Nat}(h:VC sw Q txt k ok rr O_ a L s vl vc vm w)(hk:Kp S w w')(hS:∀b,O_ b->¬S b)(hv:Uk Q txt' vl 4 a ys w')(hl:ys.length=s.label.length)(ht:∀y:Int,y<(a:Int)\/(a:Int)+(VE ys.length (512 / 4):Int)<=y->txt' y=txt y):VC sw Q txt' k ok rr O_ a L {s with label:=ys} vl vc vm w':=by
 obtain⟨n1,n2,n3⟩:=h.n
 have h5:=h.kp hk hS
 rw[hl,RK n1] at ht
 refine⟨h.o,h.ne,h5.run,hv,h5.col.SK λy e1 e2=>ht y (.inr (by omega)),h5.mar.SK λy e1 e2=>ht y (.inr (by omega)),⟨by show ys.length<=100;omega,n2,n3⟩,h.L⟩
def VC.zkS {ys:List Nat}(h:VC sw Q txt k ok rr O_ a L s vl vc vm w)(hk:Kp S w w')(hS:∀b,O_ b->¬S b)(hv:Uk Q txt' vc 4 (a+1) ys w')(hl:ys.length=s.OR.length)(ht:∀y:Int,y<((a+1:Nat):Int)\/((a+1:Nat):Int)+(VE ys.length (512 / 4):Int)<=y->txt' y=txt y):VC sw Q txt' k ok rr O_ a L {s with OR:=ys} vl vc vm w':=by
 obtain⟨n1,n2,n3⟩:=h.n
 have h5:=h.kp hk hS
 rw[hl,RK n2] at ht
 refine⟨h.o,h.ne,h5.run,h5.Zc.SK λy e1 e2=>?_,hv,h5.mar.SK λy e1 e2=>ht y (.inr (by omega)),⟨n1,by show ys.length<=100;omega,n3⟩,h.L⟩
 rw[RK n1] at e2
 exact ht y (.inl (by omega))
def VC.zl9 {ys:List Nat}(h:VC sw Q txt k ok rr O_ a L s vl vc vm w)(hk:Kp S w w')(hS:∀b,O_ b->¬S b)(hv:Uk Q txt' vm 1 (a+2) ys w')(hl:ys.length=s.mark.length)(ht:∀y:Int,y<((a+2:Nat):Int)\/((a+2:Nat):Int)+(VE ys.length (512 / 1):Int)<=y->txt' y=txt y):VC sw Q txt' k ok rr O_ a L {s with mark:=ys} vl vc vm w':=by
 obtain⟨n1,n2,n3⟩:=h.n
 have h5:=h.kp hk hS
 rw[hl,WV n3] at ht
 refine⟨h.o,h.ne,h5.run,h5.Zc.SK λy e1 e2=>?_,h5.col.SK λy e1 e2=>?_,hv,⟨n1,n2,by show ys.length<=100;omega⟩,h.L⟩
 ·rw[RK n1] at e2;exact ht y (.inl (by omega))
 ·rw[RK n2] at e2;exact ht y (.inl (by omega))
end
def Sn (sw:Bool)(ok:Nat):RuK Sc where
 M Q txt k rr O_ a L s w:=∃vl vc vm,VC sw Q txt k ok rr O_ a L s vl vc vm w
 tm s:=s.steps
 c0:=0
 c1:=0
 kp:=λ⟨vl,vc,vm,h⟩ hk hS=>⟨vl,vc,vm,h.kp hk hS⟩
 SK:=λ⟨vl,vc,vm,h⟩ e=>⟨vl,vc,vm,h.SK e⟩
 q:=λ⟨vl,vc,vm,h⟩ hs hl=>⟨vl,vc,vm,h.q hs hl⟩
section
variable {G T:ZI}{w w':World}{sw:Bool}{Q:Ra}{txt:Int->OI}{K ok:Nat}{X O_:Nat->Prop}{rr a L vl vc vm:Nat}{s:Sc}
def Qn.sc (h:Qn (Sn sw ok) G T Q txt K X rr O_ a L s w):∃vl vc vm,VC sw Q txt G.k ok rr O_ a L s vl vc vm w:=h.m.m
theorem Qn.swap (h:Qn (Sn sw T.k) G T Q txt K X rr O_ a L s w)(hn:T.g.length<=40):Qn (Sn (!sw) G.k) T G Q txt K X rr O_ a L s w:=by
 obtain⟨vl,vc,vm,hv⟩:=h.sc
 have hx:=h.xk
 have bu:=h.m.ne
 refine⟨⟨h.t,⟨vl,vc,vm,⟨hv.o,hv.ne,?_,hv.Zc,hv.col,hv.mar,hv.n,hv.L⟩⟩,λb hb=> .inl (h.xr b hb),h.m.ro,λb hb=>⟨(h.nk b hb).1,(h.nk b hb).2,(bu b hb).2.2.1,(bu b hb).2.2.2⟩,h.Vm,hn⟩,h.m.g,h.xr,⟨hx.2.2.1,hx.2.2.2.1,hx.1,hx.2.1,hx.2.2.2.2.1,hx.2.2.2.2.2⟩,λb hb=>⟨(bu b hb).1,(bu b hb).2.1⟩,h.m.Vm⟩
 have:=hv.run
 cases sw with
 |true=>exact this
 |false=>exact this
def Sx (w:World):Pm prog 67 [I 0] w λ_ w'=>w'=w:=by
 refine py (e:=[(0,_)]) func67 O ntmps67 O O$ Pn O$ QE O$ Qg O$ Qa func67 O ?_
 exact⟨_,rfl,rfl⟩
def S2 {width:Nat}{xs:List Nat}{vb sv:Nat}(hP:Sp Q txt K X w)(hX:∀b,X b->b<w.heap.size)(hK:K<1000000000000)(hv:Uk Q txt vb width sv xs w)(eX:X vb){i x:Nat}(hi:xs[i]? =some x):Pm prog 103 [ptr vb 0,I (i:Int)] w λv w'=>v=OY x/\Sp Q txt K X w'/\Kp (λb=>¬X b) w w':=by
 refine py (e:=[(0,_),(1,_)]) func103 O ntmps103 O O$ qN O$ QS O$ Pa O$ P5 zhd O (z2l hP hX hK hv eX hi) ?_
 rintro _ w1 ⟨rfl,iy,az⟩
 refine ON O$ SU O$ SA O$ QW O$ P5 z3d O (Sx _) ?_
 rintro _ w1 rfl
 refine qM O$ ON O$ OV O$ OB func103 O ?_
 exact⟨_,rfl,rfl,iy,az⟩
end
def SI.iff {G:ZI}{Q:Ra}{txt:Int->OI}{K:Nat}{X Y:Nat->Prop}{w:World}(h:SI G Q txt K X w)(e:∀b,X b↔Y b):SI G Q txt K Y w:=by
 have e2:X=Y:=funext λb=>propext (e b)
 exact e2▸h
section
variable {G T:ZI}{w w':World}{sw:Bool}{Q:Ra}{txt txt':Int->OI}{K K' ok:Nat}{X Y O_:Nat->Prop}{rr a L vl vc vm:Nat}{s s':Sc}
theorem VU (h:Qn (Sn sw ok) G T Q txt K X rr O_ a L s w){v:Nat}(hv:v<s.label.length):Pm prog 66 [ptr rr 0,I (v:Int)] w λr w'=>r= .bool (decide (R5 s.label v))/\Qn (Sn sw ok) G T Q txt K X rr O_ a L s w'/\Kp (λb=>¬((X b\/b=T.rb)\/b=G.rb)) w w':=by
 obtain⟨vl,vc,vm,hV⟩:=h.sc
 obtain⟨x,hx⟩:∃x,s.label[v]? =some x:=⟨_,List.getElem?_eq_getElem hv⟩
 have hR:OP w rr [ptr (if sw then ok else G.k) 0,ptr (if sw then G.k else ok) 0,ptr vl 0,ptr vc 0,ptr vm 0,I (s.steps:Int),I (s.phase:Int),.bool s.done,.bool false] 86:=hV.run
 refine py (e:=[(0,_),(1,_)]) func66 O ntmps66 O O$ qN O$ QW O$ Pq O$ OW VQ O$ qV (OM Zd O O hR O)$ ON O$ P5 XA O (S2 h.sp h.lt h.m.g.Vu hV.Zc (.inl (.inl (h.xr _ hV.o.2.1))) hx) ?_
 rintro _ w1 ⟨rfl,iy,az⟩
 refine Rg O$ OV O$ OB func66 O (⟨_,rfl,?_,h.read az iy,az⟩)
 refine congrArg Value.bool$ decide_eq_decide.2 ?_
 show(x:Int)=4294967295↔s.label[v]? =some 4294967295
 rw[hx]
 exact⟨λe=>by rw[show x=4294967295 by omega],λe=>by rw[Rx e];rfl⟩
def Y2 (k v:Nat)(w:World):Pm prog 102 [ptr rr 0,ptr k 0,I (v:Int)] w λr w'=>∃b3 b4 b5,r= .func (.func 139) #[] #[ptr b4 0,ptr b5 0,ptr b3 0]/\OP w' b3 [ptr rr 0] 43/\OP w' b4 [ptr k 0] 28/\OP w' b5 [I (v:Int)] 3/\w.heap.size<=b3/\w.heap.size<=b4/\w.heap.size<=b5/\Ext w w':=by
 refine py (e:=[(0,_),(1,_),(2,_)]) func102 O ntmps102 O O$ qN O$ OJ O O (R4 O (cs:=[ptr rr 0]) O) ?_
 rintro _ w1 ⟨b3,rfl,dG,ad,ai⟩
 refine OJ O O (R4 O (cs:=[ptr k 0]) O) ?_
 rintro _ w2 ⟨b4,rfl,fZ,ae,ak⟩
 refine OJ O O (R4 O (cs:=[I (v:Int)]) O) ?_
 rintro _ w3 ⟨b5,rfl,gR,ah,ar⟩
 refine QS O$ qV (ymf (first:=[]) (caps:=[.tmp 4,.tmp 5,.tmp 3]) O O)$ OV O$ OB func102 O ?_
 have:=ad.size
 have:=ae.size
 exact⟨_,rfl,b3,b4,b5,rfl,ah.OA (ae.OA ai),ah.OA ak,ar,by omega,by omega,by omega,(ad.trans ae).trans ah⟩
def Zq {l bk bi br v:Nat}(hv:v<G.g.length)(hl:s.label.length=G.g.length)(h:Qn (Sn sw ok) G T Q txt K X rr O_ a L s w)(fH:OP w bk [ptr G.k 0] 28)(sU:OP w bi [I (v:Int)] 3)(Bu:OP w br [ptr rr 0] 43)(gS:X br)(Z:Nat->Prop)(hZ:∀j,Z j->X j/\j≠br/\¬O_ j)
  (E:Nat->(Int->OI)->Nat->Sc->World->Prop) (F:(Int->OI)->Nat->Sc->World->Prop)
  (hE:∀i txt' K' s' w' w'',E i txt' K' s' w'->w.heap.size<=w'.heap.size->Kp (λb=>¬X b) w' w''->E i txt' K' s' w'')
  (hF:∀txt' K' s' w' w'',F txt' K' s' w'->w.heap.size<=w'.heap.size->Kp (λb=>¬X b) w' w''->F txt' K' s' w'')
  (h0:∀w',w.heap.size<=w'.heap.size->Kp (λb=>¬X b) w w'->E 0 txt K s w')
  (AB:∀i u txt' K' s' w',(OU G.g v)[i]? =some u->¬R5 s.label u->E i txt' K' s' w'->E (i+1) txt' K' s' w')
  (hround:∀(Y:Nat->Prop) (i u:Nat) (txt':Int->OI) (K':Nat) (s':Sc) (w':World),(∀j,X j->Y j)->(∀j,Y j->X j\/w.heap.size<=j)->w.heap.size<=w'.heap.size->(OU G.g v)[i]? =some u->R5 s.label u->s'.label=s.label->Qn (Sn sw ok) G T Q txt' K' Y rr O_ a L s' w'->E i txt' K' s' w'->z1T prog l [I (u:Int)] w' λr w''=>((r= .bool true/\∃txt'' K'' s'',s''.label=s.label/\Qn (Sn sw ok) G T Q txt'' K'' Y rr O_ a L s'' w''/\E (i+1) txt'' K'' s'' w'')\/(r= .bool false/\∃txt'' K'' s'',s''.label=s.label/\Qn (Sn sw ok) G T Q txt'' K'' Y rr O_ a L s'' w''/\F txt'' K'' s'' w''))/\Kp (λj=>(¬Y j/\j≠T.rb)\/Z j) w' w''):
  Pm prog 139 [.func (.yield l) #[] #[],ptr bk 0,ptr bi 0,ptr br 0] w λr w'=>r= .tuple #[]/\∃(Y:Nat->Prop) (txt':Int->OI) (K':Nat) (s':Sc),(∀j,X j->Y j)/\(∀j,Y j->X j\/w.heap.size<=j)/\s'.label=s.label/\Qn (Sn sw ok) G T Q txt' K' Y rr O_ a L s' w'/\(E (OU G.g v).length txt' K' s' w'\/F txt' K' s' w'):=by
 have eE:=h.m.n
 have GF:=h.m.g.ok.gr
 obtain⟨n1,n2,n3⟩:=h.ng
 have aQ:∀b,X b->b<w.heap.size:=λb hb=>h.lt b (.inl (.inl hb))
 have hx:=h.xk
 have BZ:=h.lt G.rb (.inr O)
 have qc:=h.lt T.rb (.inl (.inr O))
 refine py (e:=[(0,_),(1,_),(2,_),(3,_)]) func139 O ntmps139 O O$ qN O$ OJ O O (R4 O (cs:=[.func (.yield l) #[] #[]]) O) ?_
 rintro _ w1 ⟨b4,rfl,fZ,ad,ai⟩
 have GG:=ad.OA fH
 have GH:=ad.OA sU
 have z1:=ad.size
 have l1:=ai.lt
 refine qM O$ qV ((OM ZH O O GG O))$ qV ((OM U3 O O GH O))$ P5 zga O (z6Q G.k v _) ?_
 rintro _ w6 ⟨bk2,bi2,rfl,wI,G0,MW,MX,aR⟩
 have z6:=aR.size
 refine OC$ OE$ RG (ps:=[10,11]) (p:=[]) (q:=[_,_]) O ziQ ?_
 rintro l2 wl cE eP cD hD Rc bK dx
 have zl:=cE.size
 have AC:=aR.trans cE
 have jL:=ad.trans AC
 obtain⟨X1,dr⟩:∃X1:Nat->Prop,(λj=>X j\/j=b4\/j=w6.heap.size\/j=l2)=X1:=⟨_,rfl⟩
 have df:∀j,X j->X1 j:=λj hj=>by rw[<-dr];exact .inl hj
 have eI:∀j,X1 j->X j\/w.heap.size<=j:=λj hj=>by rw[<-dr] at hj;exact hj.imp id λe=>by omega
 have jh:X1 b4/\X1 w6.heap.size/\X1 l2:=by rw[<-dr];exact⟨.inr (.inl O),.inr (.inr (.inl O)),.inr (.inr (.inr O))⟩
 have rI:Qn (Sn sw ok) G T Q txt K X1 rr O_ a L s wl:=h.grow jL (λj hj=>by rw[<-dr] at hj;exact hj.imp id λe=>by omega) df
 have J6:∀j,Z j->j<w.heap.size:=λj hj=>aQ j (hZ j hj).1
 have wX:∀j,O_ j->j<w.heap.size:=λj hj=>aQ j (h.xr j hj)
 have cR:∀{j},X j->∀{Y:Nat->Prop},(∀j,(X1 j\/j=T.rb)->Y j)->Y j/\j≠T.rb:=λhj Y hY=>⟨hY _ (.inl (df _ hj)),λe=>n3 (e▸hj)⟩
 have dE:∀j,w.heap.size<=j->j≠G.k/\j≠G.x/\j≠T.k/\j≠T.x/\j≠1/\j≠2/\¬O_ j:=λj hj=>by
  have e1:=aQ _ hx.1;have e2:=aQ _ hx.2.1;have e3:=aQ _ hx.2.2.1;have e4:=aQ _ hx.2.2.2.1;have e5:=aQ _ hx.2.2.2.2.1;have e6:=aQ _ hx.2.2.2.2.2;exact⟨by omega,by omega,by omega,by omega,by omega,by omega,λe=>by have:=wX j e;omega⟩
 refine Pm.mono (z6J (by omega) hv rI.m.g (cE.OA wI) (cE.OA G0) (λj=>j=l2\/Z j) (λj hj=> .inl (hj.elim (λe=>e▸jh.2.2) λe=>df _ (hZ j e).1))
  (λYg i w'=>Rc .ready none w'/\(∃txt' K' s',s'.label=s.label/\Qn (Sn sw ok) G T Q txt' K' (λb=>Yg b/\b≠T.rb) rr O_ a L s' w'/\E i txt' K' s' w')/\w'.heap[w6.heap.size]? =some (.deferred (some []))/\OP w' b4 [.func (.yield l) #[] #[]] 150/\OP w' br [ptr rr 0] 43/\w.heap.size<=w'.heap.size)
  (λw'=>Rc .done (some .ret) w'/\(∃Y txt' K' s',(∀j,X1 j->Y j)/\(∀j,Y j->X j\/w.heap.size<=j)/\s'.label=s.label/\Qn (Sn sw ok) G T Q txt' K' Y rr O_ a L s' w'/\F txt' K' s' w')/\w'.heap[w6.heap.size]? =some (.deferred (some []))/\w.heap.size<=w'.heap.size) ?_ ?_) ?_
 ·intro Yg w7 aN lq Gx aB;have z7:=aB.size;have hn:∀j,X1 j->¬¬(X1 j\/j=T.rb):=λj hj e=>e (.inl hj);have cP:Kp (λj=>¬(X1 j\/j=T.rb)) w1 w7:=AC.kp.trans aB;have dS:Kp (λj=>¬(X1 j\/j=T.rb)) w w7:=jL.kp.trans aB
  have GI:SI G Q txt K (λb=>(Yg b/\b≠T.rb)\/b=T.rb) w7:=Gx.iff λb=>by
   by_cases e:b=T.rb
   ·exact⟨λ_=> .inr e,λ_=>aN _ (.inr e)⟩
   ·exact⟨λhb=> .inl ⟨hb,e⟩,λhb=>hb.elim And.left λe2=>absurd e2 e⟩
  have qQ:∀j,X1 j->j≠T.rb:=λj hj e=>by
   rcases eI j hj with e2|e2
   ·exact n3 (e▸e2)
   ·omega
  refine⟨aB.rc bK dx (hn _ jh.2.2),⟨txt,K,s,rfl,?_,h0 w7 (by omega) (dS.OH λb e e2=>e (.inl (df _ e2)))⟩,aB.heap hD (hn _ jh.2.1),cP.OA ai (hn _ jh.1),dS.OA Bu (hn _ (df _ gS)),by omega⟩;refine rI.byG (rI.m.list GI aB λj e=>e.elim (λe=> .inl ⟨aN _ (.inl e),qQ j e⟩) .inr) aB (λb e=> .inl ⟨λe2=>e (.inl e2),λe2=>e (.inr e2)⟩) (λj hj=>⟨aN _ (.inl hj),qQ j hj⟩) (λj hj=>?_)$ λ_ _=>rfl;rcases lq j hj.1 with(e|e)| e
  ·exact .inl e
  ·exact absurd e hj.2
  ·exact .inr e
 ·rintro Yg i u w7 aN lq hs ⟨pa,⟨txt7,K7,s7,ik,h7,MY⟩,vD,bO,GJ,z7⟩;have jd:u<G.g.length:=Tq GF v u (List.mem_of_getElem? hs);obtain⟨Y,hY⟩:∃Y:Nat->Prop,(λb=>Yg b/\b≠T.rb)=Y:=⟨_,rfl⟩;rw[hY] at h7⊢
  have qQ:∀j,X1 j->j≠T.rb:=λj hj e=>by
   rcases eI j hj with e2|e2
   ·exact n3 (e▸e2)
   ·omega
  have mV:∀j,X1 j->Y j:=λj hj=>by rw[<-hY];exact⟨aN _ (.inl hj),qQ j hj⟩
  have rJ:∀j,X j->Y j:=λj hj=>mV j (df j hj)
  have mW:∀j,Y j->X j\/w.heap.size<=j:=λj hj=>by
   rw[<-hY] at hj;rcases lq j hj.1 with(e|e)| e
   ·exact eI j e
   ·exact absurd e hj.2
   ·exact .inr (by omega)
  have Om:∀j,¬Y j->¬Yg j\/j=T.rb:=λj hj=>by
   by_cases e:j=T.rb
   ·exact .inr e
   ·exact .inl λe2=>hj (by rw[<-hY];exact⟨e2,e⟩)
  have On:∀j,Z j->j≠l2/\j≠w6.heap.size/\j≠b4/\j≠br:=λj hj=>by
   have e1:=J6 j hj;exact⟨by omega,by omega,by omega,(hZ j hj).2.1⟩
  refine Sd bK pa O O$ Qx O$ OK O$ OV O$ run_beginRound O bK pa ?_;rintro w8 pX aL;have fQ:Y l2/\Y w6.heap.size/\Y b4:=⟨mV _ jh.2.2,mV _ jh.2.1,mV _ jh.1⟩;have h8:=h7.own aL (λj e=>by subst e;exact⟨fQ.1,dE _ (by omega)⟩);have sX:=aL.heap vD (by omega);have cj:=aL.OA bO (by omega);have AD:=aL.OA GJ (λe=>by have:=aQ br gS;omega);have wL:=hE _ _ _ _ _ _ MY z7 (aL.OH λj e e2=>by have:=aQ j e2;omega);have z8:=aL.size;refine OE$ Pn O$ P5 z3d O (Sx _) ?_;rintro _ w8 rfl;refine qM O$ qV (OM Xo O O AD O)$ ON O$ qV (PJ O QR U3 (by omega))$ P5 zdo O (VU h8 (by rw[ik,hl];exact jd)) ?_;rintro _ w9 ⟨rfl,h9,aw⟩;rw[ik];have dC:∀j,Y j->¬¬((Y j\/j=T.rb)\/j=G.rb):=λj hj e=>e (.inl (.inl hj));have C2:=aw.rc bK pX (dC _ fQ.1);have C3:=aw.heap sX (dC _ fQ.2.1);have cK:=aw.OA cj (dC _ fQ.2.2);have AE:=aw.OA AD (dC _ (rJ _ gS));have wM:=hE _ _ _ _ _ _ wL (by omega) (aw.OH λj e e2=>e (.inl (.inl (rJ _ e2))));have z9:=aw.size
  have AF:Kp (λj=>¬Yg j\/(j=l2\/Z j)) w7 w9:=(aL.OH λj e=> .inr (.inl e)).trans (aw.OH λj e=> .inl λe2=>e (by
   by_cases e3:j=T.rb
   ·exact .inl (.inr e3)
   ·exact .inl (.inl (by rw[<-hY];exact⟨e2,e3⟩))))
  by_cases iZ:R5 s.label u
  ·rw[decide_eq_true iZ];refine ON O$ qV (OM zif O O cK O)$ ON O$ qV (PJ O QR U3 (by omega))$ z3i O O (yy O O) (hround Y i u txt7 K7 s7 w9 rJ mW (by omega) hs iZ ik h9 wM) ?_;rintro r wa GK;obtain⟨GK,bE⟩:=GK;have kz:∀j,Y j->w.heap.size<=j->¬((¬Y j/\j≠T.rb)\/Z j):=λj hj hw e=>e.elim (λe=>e.1 hj) (λe=>by have:=J6 j e;omega);have sY:=bE.rc bK C2 (kz _ fQ.1 (by omega));have sZ:=bE.heap C3 (kz _ fQ.2.1 (by omega));have C4:=bE.OA cK (kz _ fQ.2.2 (by omega));have GL:=bE.OA AE (λe=>e.elim (λe=>e.1 (rJ _ gS)) (λe=>(hZ _ e).2.1 O));have za:=bE.size;have GM:Kp (λj=>¬Yg j\/(j=l2\/Z j)) w9 wa:=bE.OH λj e=>e.elim (λe=> .inl λe2=>e.1 (by rw[<-hY];exact⟨e2,e.2⟩)) (λe=> .inr (.inr e));rcases GK with⟨rfl,txta,Ka,sa,pd,ha,MZ⟩|⟨rfl,txta,Ka,sa,pd,ha,TD⟩
   ·refine qV ((RZ O))$ QX O$ OC$ Po.qb (e:=[(24,_)]) ?_;refine SH O$ Oz$ RA bK sY ?_;intro wb kQ aY;refine .inl ⟨rfl,⟨kQ,⟨txta,Ka,sa,pd,ha.own aY (λj e=>by subst e;exact⟨fQ.1,dE _ (by omega)⟩),hE _ _ _ _ _ _ MZ (by omega) (aY.OH λj e e2=>by have:=aQ j e2;omega)⟩,aY.heap sZ (by omega),aY.OA C4 (by omega),aY.OA GL (λe=>by have:=aQ br gS;omega),by have:=aY.size;omega⟩,(AF.trans GM).trans (aY.OH λj e=> .inr (.inl e))⟩
   ·refine qV ((RZ O))$ QX O$ OC$ Po.qb (e:=[(24,_)]) ?_;refine OS O$ Tf bK sY ?_;intro wb kQ aY;exact .inr ⟨rfl,kQ,⟨Y,txta,Ka,sa,mV,mW,pd,ha.own aY (λj e=>by subst e;exact⟨fQ.1,dE _ (by omega)⟩),hF _ _ _ _ _ TD (by omega) (aY.OH λj e e2=>by have:=aQ j e2;omega)⟩,aY.heap sZ (by omega),by have:=aY.size;omega⟩
  ·rw[decide_eq_false iZ];refine ON O$ QL$ QL$ qS$ PM O$ OC$ Po.qb (e:=[(24,_)]) ?_;refine SH O$ Oz$ RA bK C2 ?_;intro wb kQ aY;exact .inl ⟨rfl,⟨kQ,⟨txt7,K7,s7,ik,h9.own aY (λj e=>by subst e;exact⟨fQ.1,dE _ (by omega)⟩),hE _ _ _ _ _ _ (AB _ _ _ _ _ _ hs iZ wM) (by omega) (aY.OH λj e e2=>by have:=aQ j e2;omega)⟩,aY.heap C3 (by omega),aY.OA cK (by omega),aY.OA AE (λe=>by have:=aQ br gS;omega),by have:=aY.size;omega⟩,AF.trans (aY.OH λj e=> .inr (.inl e))⟩
 ·rintro v' wz ⟨rfl,⟨Yg,aN,lq,mX,⟨txtz,Kz,sz,iz,hz,N0⟩,mY,IB,N1,zz⟩|⟨mX,⟨Y,txtz,Kz,sz,mV,mW,iz,hz,N2⟩,mY,zz⟩⟩
  ·have qQ:∀j,X1 j->j≠T.rb:=λj hj e=>by
    rcases eI j hj with e2|e2
    ·exact n3 (e▸e2)
    ·omega
   obtain⟨Y,hY⟩:∃Y:Nat->Prop,(λb=>Yg b/\b≠T.rb)=Y:=⟨_,rfl⟩;rw[hY] at hz;have mV:∀j,X1 j->Y j:=λj hj=>by rw[<-hY];exact⟨aN _ (.inl hj),qQ j hj⟩
   have mW:∀j,Y j->X j\/w.heap.size<=j:=λj hj=>by
    rw[<-hY] at hj;rcases lq j hj.1 with(e|e)| e
    ·exact eI j e
    ·exact absurd e hj.2
    ·exact .inr (by omega)
   refine⟨_,_,mX,by simp,λwy de=>?_⟩;have jE:=de.heap mY (by omega);have dP:Kp (λk=>k=w6.heap.size) wy (Rl [.mk w6.heap.size] wy):=Q4 wy w6.heap.size (.deferred none);have bQ:Kp (λk=>k=l2\/k=w6.heap.size) wz (Rl [.mk w6.heap.size] wy):=(de.OH λj e=> .inl e).trans (dP.OH λj e=> .inr e);refine Oz$ zcl (by simp) (Ts jE) func139 O ?_;exact⟨_,rfl,rfl,Y,txtz,Kz,sz,λj hj=>mV j (df j hj),mW,iz,hz.own bQ (λj e=>⟨by rcases e with rfl|rfl;exact mV _ jh.2.2;exact mV _ jh.2.1,dE j (by omega)⟩),.inl (hE _ _ _ _ _ _ N0 zz (bQ.OH λj e e2=>by have:=aQ j e2;omega))⟩
  ·refine⟨_,_,mX,by simp,λwy de=>?_⟩;have jE:=de.heap mY (by omega);have dP:Kp (λk=>k=w6.heap.size) wy (Rl [.mk w6.heap.size] wy):=Q4 wy w6.heap.size (.deferred none);have bQ:Kp (λk=>k=l2\/k=w6.heap.size) wz (Rl [.mk w6.heap.size] wy):=(de.OH λj e=> .inl e).trans (dP.OH λj e=> .inr e);refine z5u (by simp) (Ts jE) func139 O ?_;exact⟨_,rfl,rfl,Y,txtz,Kz,sz,λj hj=>mV j (df j hj),mW,iz,hz.own bQ (λj e=>⟨by rcases e with rfl|rfl;exact mV _ jh.2.2;exact mV _ jh.2.1,dE j (by omega)⟩),.inr (hF _ _ _ _ _ N2 zz (bQ.OH λj e e2=>by have:=aQ j e2;omega))⟩
end
section
variable {G T:ZI}{w w':World}{sw:Bool}{Q:Ra}{txt txt':Int->OI}{K K' ok:Nat}{X Y O_:Nat->Prop}{rr a L:Nat}{s s':Sc}
def Qn.far (h:Qn (Sn sw ok) G T Q txt K X rr O_ a L s w):∀j,w.heap.size<=j->j≠G.k/\j≠G.x/\j≠T.k/\j≠T.x/\j≠1/\j≠2/\¬O_ j:=λj hj=>by
 have aS:∀b,X b->b<w.heap.size:=λb hb=>h.lt b (.inl (.inl hb))
 have hx:=h.xk
 have e1:=aS _ hx.1
 have e2:=aS _ hx.2.1
 have e3:=aS _ hx.2.2.1
 have e4:=aS _ hx.2.2.2.1
 have e5:=aS _ hx.2.2.2.2.1
 have e6:=aS _ hx.2.2.2.2.2
 exact⟨by omega,by omega,by omega,by omega,by omega,by omega,λe=>by have:=aS j (h.xr j e);omega⟩
theorem z04 (h:Qn (Sn sw ok) G T Q txt K X rr O_ a L s w){v:Nat}(hv:v<G.g.length)(hl:s.label.length=G.g.length):Pm prog 98 [ptr rr 0,ptr G.k 0,I (v:Int)] w λr w'=>r= .bool (Wi G.g s.label v)/\Qn (Sn sw ok) G T Q txt K X rr O_ a L s w'/\Kp (λb=>¬X b) w w':=by
 have aQ:∀b,X b->b<w.heap.size:=λb hb=>h.lt b (.inl (.inl hb))
 have cg:=h.far
 obtain⟨n1,n2,n3⟩:=h.ng
 have qc:=h.lt T.rb (.inl (.inr O))
 refine py (e:=[(0,_),(1,_),(2,_)]) func98 O ntmps98 O O$ qN O$ OJ O O (R4 O (cs:=[I (v:Int)]) O) ?_
 rintro _ w1 ⟨b5,rfl,gR,ad,ai⟩
 refine OJ O O (Ry (cs:=[_]) UH O) ?_
 rintro _ w2 ⟨b6,rfl,nN,ae,ak⟩
 have aX:=ae.OA ai
 have z1:=ad.size
 have z2:=ae.size
 have l1:=ai.lt
 have l2:=ak.lt
 refine OC$ An$ Qt O$ qV (OM U3 O O aX O)$ P5 zbf O (Y2 G.k v _) ?_
 rintro _ w3 ⟨c3,c4,c5,rfl,t8,AG,vE,nz,m7,J7,ah⟩
 have z3:=ah.size
 have l3:=t8.lt
 have bV:=ah.OA aX
 have bF:=ah.OA ak
 replace bF:OP w3 b6 [.bool false] 4:=bF
 refine OC$ OE$ RG (ps:=[12]) (p:=[]) (q:=[_,_,_]) O zc9 ?_
 rintro l wl cE eP cD hD Rc bK dx
 have zl:=cE.size
 have jL:=((ad.trans ae).trans ah).trans cE
 obtain⟨X1,dr⟩:∃X1:Nat->Prop,(λj=>X j\/j=b5\/j=b6\/j=c3\/j=w3.heap.size\/j=l)=X1:=⟨_,rfl⟩
 have df:∀j,X j->X1 j:=λj hj=>by rw[<-dr];exact .inl hj
 have ao:X1 b5/\X1 b6/\X1 c3/\X1 w3.heap.size/\X1 l:=by rw[<-dr];exact⟨.inr (.inl O),.inr (.inr (.inl O)),.inr (.inr (.inr (.inl O))),.inr (.inr (.inr (.inr (.inl O)))),.inr (.inr (.inr (.inr (.inr O))))⟩
 have rI:Qn (Sn sw ok) G T Q txt K X1 rr O_ a L s wl:=h.grow jL (λj hj=>by rw[<-dr] at hj;exact hj.imp id λe=>by omega) df
 have dg:∀j,w.heap.size<=j->¬O_ j:=λj hj=>(cg j hj).2.2.2.2.2.2
 refine Pm.mono (Zq hv hl rI (cE.OA AG) (cE.OA vE) (cE.OA t8) ao.2.2.1 (λj=>j=l\/j=b6) (λj hj=>by
   rcases hj with rfl|rfl
   ·exact⟨ao.2.2.2.2,by omega,dg _ (by omega)⟩
   ·exact⟨ao.2.1,by omega,dg _ (by omega)⟩)
  (λi txt' K' s' w'=>Rc .ready none w'/\txt'=txt/\K'=K/\s'=s/\(∀u,u∈(OU G.g v).take i->R5 s.label u->u=v)/\w'.heap[w3.heap.size]? =some (.deferred (some []))/\OP w' b5 [I (v:Int)] 3/\OP w' b6 [.bool false] 4/\Kp (λb=>¬X b) w w')
  (λtxt' K' s' w'=>Rc .done (some .ret) w'/\txt'=txt/\K'=K/\s'=s/\(∃u,u∈OU G.g v/\R5 s.label u/\u≠v)/\w'.heap[w3.heap.size]? =some (.deferred (some []))/\OP w' b6 [.bool false] 4/\Kp (λb=>¬X b) w w')
  ?_ ?_ ?_ ?_ ?_) ?_
 ·rintro i txt' K' s' w7 w8 ⟨e1,e2,e3,e4,e5,e6,e7,e8,e9⟩ hz hk;exact⟨hk.rc bK e1 (λe=>e ao.2.2.2.2),e2,e3,e4,e5,hk.heap e6 (λe=>e ao.2.2.2.1),hk.OA e7 (λe=>e ao.1),hk.OA e8 (λe=>e ao.2.1),e9.trans (hk.OH λb e e2=>e (df _ e2))⟩
 ·rintro txt' K' s' w7 w8 ⟨e1,e2,e3,e4,e5,e6,e8,e9⟩ hz hk;exact⟨hk.rc bK e1 (λe=>e ao.2.2.2.2),e2,e3,e4,e5,hk.heap e6 (λe=>e ao.2.2.2.1),hk.OA e8 (λe=>e ao.2.1),e9.trans (hk.OH λb e e2=>e (df _ e2))⟩
 ·intro w7 hz hk;have cP:=cE.kp.trans hk;have dS:Kp (λb=>¬X1 b) w w7:=jL.kp.trans hk;exact⟨hk.rc bK dx (λe=>e ao.2.2.2.2),rfl,rfl,rfl,λu hu=>(by cases hu),hk.heap hD (λe=>e ao.2.2.2.1),cP.OA bV (λe=>e ao.1),cP.OA bF (λe=>e ao.2.1),dS.OH λb e e2=>e (df _ e2)⟩
 ·rintro i u txt' K' s' w7 hs iG ⟨e1,e2,e3,e4,e5,e6,e7,e8,e9⟩;refine⟨e1,e2,e3,e4,λx hx cE=>?_,e6,e7,e8,e9⟩;rw[PC hs,List.mem_append,List.mem_singleton] at hx;rcases hx with hx|rfl
  ·exact e5 x hx cE
  ·exact absurd cE iG
 ·rintro Y i u txt' K' s' w7 aN lq z7 hs iZ ik h7 ⟨pa,rfl,rfl,rfl,cQ,vD,fw,ia,dS⟩;have gT:Y l/\Y b6:=⟨aN _ ao.2.2.2.2,aN _ ao.2.1⟩;refine Sd bK pa O O$ OK O$ OV O$ run_beginRound O bK pa ?_;rintro w8 pX aL;have h8:=h7.own aL (λj e=>by subst e;exact⟨gT.1,cg _ (by omega)⟩);have gZ:=aL.OA fw (by omega);have er:=aL.OA ia (by omega);have sX:=aL.heap vD (by omega);have z8:=aL.size;have mj:=dS.trans (aL.OH λj e e2=>by have:=aQ j e2;omega);refine OE$ Pn O$ qV (OM U3 O O gZ O) ?_;by_cases D9:u=v
  ·refine QE O$ PH$ Qg O$ Oz$ RA bK pX ?_;intro wb kQ aY;refine⟨.inl ⟨rfl,txt',K',s',ik,h8.own aY (λj e=>by subst e;exact⟨gT.1,cg _ (by omega)⟩),kQ,rfl,rfl,rfl,λx hx cE=>?_,aY.heap sX (by omega),aY.OA gZ (by omega),aY.OA er (by omega),mj.trans (aY.OH λj e e2=>by have:=aQ j e2;omega)⟩,(aL.OH λj e=> .inr (.inl e)).trans (aY.OH λj e=> .inr (.inl e))⟩;rw[PC hs,List.mem_append,List.mem_singleton] at hx;rcases hx with hx|rfl
   ·exact cQ x hx cE
   ·exact D9
  ·refine QE O$ Rz$ OC$ OS O$ qN O$ OT O (QG UH O O O er (by simp)) ?_;rintro w9 ⟨iS,aw⟩;have C2:=aw.rc bK pX (by omega);have C3:=aw.heap sX (by omega);have z9:=aw.size;have h9:=h8.own aw (λj e=>by subst e;exact⟨gT.2,cg _ (by omega)⟩);refine OC$ Tf bK C2 ?_;intro wb kQ aY;exact⟨.inr ⟨rfl,txt',K',s',ik,h9.own aY (λj e=>by subst e;exact⟨gT.1,cg _ (by omega)⟩),kQ,rfl,rfl,rfl,⟨u,List.mem_of_getElem? hs,iZ,D9⟩,aY.heap C3 (by omega),aY.OA iS (by omega),(mj.trans (aw.OH λj e e2=>by have:=aQ j e2;omega)).trans (aY.OH λj e e2=>by have:=aQ j e2;omega)⟩,((aL.OH λj e=> .inr (.inl e)).trans (aw.OH λj e=> .inr (.inr e))).trans (aY.OH λj e=> .inr (.inl e))⟩
 ·rintro v' wz ⟨rfl,Y,txtz,Kz,sz,aN,lq,iz,hz,⟨mX,rfl,rfl,rfl,cQ,mY,rq,j0,cZ⟩|⟨mX,rfl,rfl,rfl,wn,mY,j0,cZ⟩⟩
  ·refine⟨_,_,mX,by simp,λwy de=>?_⟩;have zz:=cZ.size;have zy:=de.size;have il:=de.OA j0 (by omega);have jE:=de.heap mY (by omega);rw[List.take_length] at cQ;have pT:Wi G.g sz.label v=true:=YC.2 cQ;refine Oz$ qN O$ OT O (QG UH O O O il (by simp)) ?_;rintro wx ⟨pe,iw⟩;have AH:=iw.heap jE (by omega);have dP:Kp (λk=>k=w3.heap.size) wx (Rl [.mk w3.heap.size] wx):=Q4 wx w3.heap.size (.deferred none);have j3:=dP.OA pe (by omega);have bQ:Kp (λk=>k=l\/k=b6\/k=w3.heap.size) wz (Rl [.mk w3.heap.size] wx):=((de.OH λj e=> .inl e).trans (iw.OH λj e=> .inr (.inl e))).trans (dP.OH λj e=> .inr (.inr e));refine OC$ T3 (by simp) (Ts AH) func98 (.cell1 U4 O O ((j3).cell _) .nil) ?_;rw[pT];exact⟨_,rfl,rfl,(hz.own bQ (λj e=>⟨by rcases e with rfl|rfl|rfl;exact aN _ ao.2.2.2.2;exact aN _ ao.2.1;exact aN _ ao.2.2.2.1,cg j (by omega)⟩)).less (λj hj=>aN j (df j hj)) h.xk h.xr,cZ.trans (bQ.OH λj e e2=>by have:=aQ j e2;omega)⟩
  ·refine⟨_,_,mX,by simp,λwy de=>?_⟩;have zz:=cZ.size;have zy:=de.size;have il:=de.OA j0 (by omega);have jE:=de.heap mY (by omega);obtain⟨u,kD,lD,N3⟩:=wn
   have pT:Wi G.g sz.label v=false:=by
    cases e:Wi G.g sz.label v with
    |false=>rfl
    |true=>exact absurd (YC.1 e u kD lD) N3
   have dP:Kp (λk=>k=w3.heap.size) wy (Rl [.mk w3.heap.size] wy):=Q4 wy w3.heap.size (.deferred none);have j3:=dP.OA il (by omega);have bQ:Kp (λk=>k=l\/k=b6\/k=w3.heap.size) wz (Rl [.mk w3.heap.size] wy):=(de.OH λj e=> .inl e).trans (dP.OH λj e=> .inr (.inr e));refine T3 (by simp) (Ts jE) func98 (.cell1 U4 O O ((j3).cell _) .nil) ?_;rw[pT];exact⟨_,rfl,rfl,(hz.own bQ (λj e=>⟨by rcases e with rfl|rfl|rfl;exact aN _ ao.2.2.2.2;exact aN _ ao.2.1;exact aN _ ao.2.2.2.1,cg j (by omega)⟩)).less (λj hj=>aN j (df j hj)) h.xk h.xr,cZ.trans (bQ.OH λj e e2=>by have:=aQ j e2;omega)⟩
end
def vtS (g t:List (List Nat))(ph:Nat)(s:Sc)(v:Nat):Sc×Bool:=
 if ph=0 then({s with label:=(trV g t (s.label,false) v).1},(trV g t (s.label,false) v).2)
 else if ph=1 then({s with OR:=(coV g s.label (s.OR,false) v).1},(coV g s.label (s.OR,false) v).2)
 else({s with mark:=(bkV g s.label s.OR (s.mark,false) v).1},(bkV g s.label s.OR (s.mark,false) v).2)
def rtS (ph:Nat)(s:Sc)(v:Nat):Sc:=
 if ph=0 then {s with OR:=s.OR.set v v}
 else if ph=1 then(if s.OR.getD v 0=v then {s with mark:=s.mark.set v 1} else s)
 else(if s.mark.getD v 0=1 then {s with label:=s.label.set v (s.OR.getD v 0)} else s)
section
variable {G T:ZI}{w w':World}{sw:Bool}{Q:Ra}{txt txt':Int->OI}{K K' ok:Nat}{X O_:Nat->Prop}{rr a L vl vc vm bx v:Nat}{s s':Sc}{ys:List Nat}
abbrev Vk (G T:ZI)(X:Nat->Prop):Nat->Prop:=λb=>(X b\/b=T.rb)\/b=G.rb
theorem Qn.put (h:Qn (Sn sw ok) G T Q txt K X rr O_ a L s w)(hK:K'<1000000000000)(hk:Kp (λb=>¬Vk G T X b) w w')(hP:Sp Q txt' K' (Vk G T X) w')(hy:∀y:Int,y<(a:Int)\/(a:Int)+(L:Int)<=y->txt' y=txt y)(hv:VC sw Q txt' G.k ok rr O_ a L s' vl vc vm w'):Qn (Sn sw ok) G T Q txt' K' X rr O_ a L s' w':=
 h.Z5 hK hk (λb e=> .inl e) hP hy ⟨vl,vc,vm,hv⟩
def Qn.z62 (h:Qn (Sn sw ok) G T Q txt K X rr O_ a L s w)(hV:VC sw Q txt G.k ok rr O_ a L s vl vc vm w)(hl:ys.length=s.label.length)(hK:K'<1000000000000)(hW:VcW Q txt K' (Vk G T X) vl 4 a ys w w'):∃txt',Qn (Sn sw ok) G T Q txt' K' X rr O_ a L {s with label:=ys} w'/\(∀y:Int,y<(a:Int)\/(a:Int)+(L:Int)<=y->txt' y=txt y)/\Kp (λb=>¬Vk G T X b) w w':=by
 obtain⟨txt',hP,hv,hy,hk⟩:=hW
 have AI:=hV.zk2 hk (λb hb e=>e (.inl (.inl (h.xr b hb)))) hv hl hy
 have hL:=hV.L
 have hn:=hV.n
 have ta:∀y:Int,y<(a:Int)\/(a:Int)+(L:Int)<=y->txt' y=txt y:=λy e=>hy y (by rw[RK (by omega)];omega)
 exact⟨txt',h.put hK hk hP ta AI,ta,hk⟩
def Qn.zcb (h:Qn (Sn sw ok) G T Q txt K X rr O_ a L s w)(hV:VC sw Q txt G.k ok rr O_ a L s vl vc vm w)(hl:ys.length=s.OR.length)(hK:K'<1000000000000)(hW:VcW Q txt K' (Vk G T X) vc 4 (a+1) ys w w'):∃txt',Qn (Sn sw ok) G T Q txt' K' X rr O_ a L {s with OR:=ys} w'/\(∀y:Int,y<(a:Int)\/(a:Int)+(L:Int)<=y->txt' y=txt y)/\Kp (λb=>¬Vk G T X b) w w':=by
 obtain⟨txt',hP,hv,hy,hk⟩:=hW
 have AI:=hV.zkS hk (λb hb e=>e (.inl (.inl (h.xr b hb)))) hv hl hy
 have hL:=hV.L
 have hn:=hV.n
 have ta:∀y:Int,y<(a:Int)\/(a:Int)+(L:Int)<=y->txt' y=txt y:=λy e=>hy y (by rw[RK (by omega)];omega)
 exact⟨txt',h.put hK hk hP ta AI,ta,hk⟩
def Qn.z6W (h:Qn (Sn sw ok) G T Q txt K X rr O_ a L s w)(hV:VC sw Q txt G.k ok rr O_ a L s vl vc vm w)(hl:ys.length=s.mark.length)(hK:K'<1000000000000)(hW:VcW Q txt K' (Vk G T X) vm 1 (a+2) ys w w'):∃txt',Qn (Sn sw ok) G T Q txt' K' X rr O_ a L {s with mark:=ys} w'/\(∀y:Int,y<(a:Int)\/(a:Int)+(L:Int)<=y->txt' y=txt y)/\Kp (λb=>¬Vk G T X b) w w':=by
 obtain⟨txt',hP,hv,hy,hk⟩:=hW
 have AI:=hV.zl9 hk (λb hb e=>e (.inl (.inl (h.xr b hb)))) hv hl hy
 have hL:=hV.L
 have hn:=hV.n
 have ta:∀y:Int,y<(a:Int)\/(a:Int)+(L:Int)<=y->txt' y=txt y:=λy e=>hy y (by rw[WV (by omega)];omega)
 exact⟨txt',h.put hK hk hP ta AI,ta,hk⟩
structure ScW (G T:ZI)(Q:Ra)(txt:Int->OI)(K:Nat)(X:Nat->Prop)(rr:Nat)(O_:Nat->Prop)(a L n:Nat)(s:Sc)(w w':World):Prop where
 ex:∃txt' K',Qn (Sn false T.k) G T Q txt' K' X rr O_ a L s w'/\K'<=K+n/\∀y:Int,y<(a:Int)\/(a:Int)+(L:Int)<=y->txt' y=txt y
 k:Kp (λb=>¬X b) w w'
def ScW.of {n:Nat}(h:Qn (Sn false T.k) G T Q txt' K' X rr O_ a L s w')(hK:K'<=K+n)(hy:∀y:Int,y<(a:Int)\/(a:Int)+(L:Int)<=y->txt' y=txt y)(hk:Kp (λb=>¬X b) w w'):ScW G T Q txt K X rr O_ a L n s w w':=⟨⟨txt',K',h,hK,hy⟩,hk⟩
theorem Qn.cells (h:VC false Q txt G.k ok rr O_ a L s vl vc vm w):OP w rr [ptr G.k 0,ptr ok 0,ptr vl 0,ptr vc 0,ptr vm 0,I (s.steps:Int),I (s.phase:Int),.bool s.done,.bool false] 86:=h.run
theorem z5I (h:Qn (Sn false T.k) G T Q txt K X rr O_ a L s w)(hI:UK G.g s)(ht:T.g.length=G.g.length)(hK:K<=900000000000)(hb:OP w bx [ptr rr 0] 43)(cR:X bx)(hv:v<G.g.length)(iZ:R5 s.label v):Pm prog 97 [I (v:Int),ptr bx 0] w λr w'=>r= .bool (vtS G.g T.g 0 s v).2/\ScW G T Q txt K X rr O_ a L 1 (vtS G.g T.g 0 s v).1 w w':=by
 have eE:=h.m.n
 obtain⟨vl,vc,vm,hV⟩:=h.sc
 have hR:=Qn.cells hV
 have hg:=Ext.P4 w
 have pD:=h.ext hg
 have GN:=z04 pD hv hI.ln
 have gS:=h.xr _ hV.o.1
 have nw:vtS G.g T.g 0 s v=({s with label:=(trV G.g T.g (s.label,false) v).1},(trV G.g T.g (s.label,false) v).2):=rfl
 have gV:∀{w1:World} {txt1:Int->OI} {K1:Nat},Qn (Sn false T.k) G T Q txt1 K1 X rr O_ a L s w1->K1<=900000000000->(Wi G.g s.label v=true\/Wi T.g s.label v=true)->vtS G.g T.g 0 s v=({s with label:=s.label.set v v},true):=λ_ _ e=>by
  rw[nw];unfold trV;rw[if_pos ⟨iZ,e⟩]
 refine py (e:=[(0,_),(1,_)]) func97 O ntmps97 O O$ Qx O$ An$ PD (λe' w'=>e'=[(0,I (v:Int)),(1,ptr bx 0)]/\Qn (Sn false T.k) G T Q txt K X rr O_ a L s w'/\Kp (λb=>¬X b) w w'/\(Wi G.g s.label v=true\/Wi T.g s.label v=true)) ?bE$ λbE=>?cM
 case bE=>
  rintro e' w2 ⟨rfl,h2,am,pT⟩;obtain⟨vl2,vc2,vm2,ly⟩:=h2.sc;have di:=Qn.cells ly;have bN:=am.OA hb (λe=>e cR);have BE:=hI.ln;rw[gV h2 hK pT];refine qN O$ qV ((OM Xo O O bN O))$ Pq O$ OW VQ O$ qV ((OM Zd O O di O))$ Pa O$ qV ((Q7 O U3 Rt (by omega)))$ P5 z9j O (Uh h2.sp h2.lt h2.m.g.Vu ly.Zc (.inl (.inl (h2.xr _ ly.o.2.1))) (i:=v) (x:=v) (by omega) (by show v<2^32;omega)) ?_;rintro _ w3 ⟨rfl,hW⟩;obtain⟨txt3,h3,m8,av⟩:=h2.z62 ly (List.length_set ..) (by omega) hW;refine P5 z3d O (Sx _) ?_;rintro _ w3 rfl;refine qM O$ OV O$ OB func97 O ?_;exact⟨_,rfl,rfl,.of h3 (Nat.le_refl _) m8 (am.trans (av.OH λb e e2=>e (.inl (.inl e2))))⟩
 case cM=>
  refine An$ QV (λw'=>Kp (λb=>¬X b) w w') O$ qT 0 O (λ_ hS=>(OM Xo O O (hS.OA hb (λe=>e cR)) O)) (hg.kp)$ qT 1 O (λ_ hS=>(OM Xo O O (hS.OA hb (λe=>e cR)) O)) (hg.kp)$ OG 2 O (Q8 O) (hg.kp)$ OG 3 O (Pr Y9 O) (hg.kp)$ qT 4 O (λ_ hS=>(OM ZH O O (hS.OA hR (λe=>e gS)) O)) (hg.kp)$ OZ 5 O O (hg.kp)$ RT 6 O zjc O (GN) ?_;rintro _ w1 ⟨rfl,h1,az⟩;refine⟨hg.kp.trans az,?_⟩;by_cases e1:Wi G.g s.label v=true
  ·rw[e1];refine OG 7 O ((RZ O)) (hg.kp.trans az) ?_;rw[show(!true)=false from rfl];refine OZ 8 O O (hg.kp.trans az)$ qJ 9 O (hg.kp.trans az)$ qJ 10 O (hg.kp.trans az)$ qJ 11 O (hg.kp.trans az)$ qJ 12 O (hg.kp.trans az)$ qJ 13 O (hg.kp.trans az)$ qJ 14 O (hg.kp.trans az)$ qJ 15 O (hg.kp.trans az)$ qJ 16 O (hg.kp.trans az)$ OG 17 O (U0 O O) (hg.kp.trans az)$ qE$ SH O ?_;exact(bE _ _ ⟨rfl,h1,hg.kp.trans az,.inl e1⟩).qb
  ·have e1':Wi G.g s.label v=false:=by simpa using e1
   rw[e1'];have dz:=hg.kp.trans az;have N4:v<T.g.length:=by omega
   have ry:T.g.length<=40:=by omega
   have Cy:Qn (Sn true G.k) T G Q txt K X rr O_ a L s w1:=h1.swap ry;have Gg:s.label.length=T.g.length:=by rw[ht];exact hI.ln
   have GO:=z04 Cy N4 Gg;refine OG 7 O ((RZ O)) (hg.kp.trans az) ?_;rw[show(!false)=true from rfl];refine OZ 8 O O (hg.kp.trans az)$ qT 9 O (λ_ hS=>(OM Xo O O (hS.OA hb (λe=>e cR)) O)) (hg.kp.trans az)$ qT 10 O (λ_ hS=>(OM Xo O O (hS.OA hb (λe=>e cR)) O)) (hg.kp.trans az)$ OG 11 O (Q8 O) (hg.kp.trans az)$ OG 12 O (Pr zfC O) (hg.kp.trans az)$ qT 13 O (λ_ hS=>(OM ZH O O (hS.OA hR (λe=>e gS)) O)) (hg.kp.trans az)$ OZ 14 O O (hg.kp.trans az)$ RT 15 O zjc O (GO) ?_;rintro _ w2 ⟨rfl,N5,am⟩;refine⟨dz.trans am,?_⟩;have h2:Qn (Sn false T.k) G T Q txt K X rr O_ a L s w2:=N5.swap eE;have dL:=dz.trans am;by_cases e2:Wi T.g s.label v=true
   ·rw[e2];refine OG 16 O ((RZ O)) (dz.trans am)$ OG 17 O (Uu O O) (dz.trans am)$ qE ?_;rw[show(!true)=false from rfl];refine SH O ?_;exact(bE _ _ ⟨rfl,h2,dL,.inr e2⟩).qb
   ·have e2':Wi T.g s.label v=false:=by simpa using e2
    rw[e2'];refine OG 16 O ((RZ O)) (dz.trans am)$ OG 17 O (Uu O O) (dz.trans am)$ qE ?_;rw[show(!false)=true from rfl]
    have dg:vtS G.g T.g 0 s v=(s,false):=by
     rw[nw];unfold trV;rw[if_neg (λe=>e.2.elim e1 e2)]
    rw[dg];refine OS O$ Qx O$ OB func97 O ?_;exact⟨_,rfl,rfl,.of h2 (Nat.le_add_right _ _) (λ_ _=>rfl) dL⟩
theorem z4w (h:Qn (Sn false T.k) G T Q txt K X rr O_ a L s w)(hI:UK G.g s)(hK:K<=900000000000)(hb:OP w bx [ptr rr 0] 43)(cR:X bx)(hv:v<G.g.length):Pm prog 100 [I (v:Int),ptr bx 0] w λ_ w'=>ScW G T Q txt K X rr O_ a L 1 (rtS 0 s v) w w':=by
 have eE:=h.m.n
 have C5:=hI.cn
 obtain⟨vl,vc,vm,hV⟩:=h.sc
 have hR:=Qn.cells hV
 refine py (e:=[(0,_),(1,_)]) func100 O ntmps100 O O$ OK O$ qV ((OM Xo O O hb O))$ Pq O$ OW Vg O$ qV ((OM Zd O O hR O))$ Pa O$ qV ((Q7 O U3 Rt (by omega)))$ P5 z9j O (Uh h.sp h.lt h.m.g.Vu hV.col (.inl (.inl (h.xr _ hV.o.2.2.1))) (i:=v) (x:=v) (by omega) (by show v<2^32;omega)) ?_
 rintro _ w3 ⟨rfl,hW⟩
 obtain⟨txt3,h3,m8,av⟩:=h.zcb hV (List.length_set ..) (by omega) hW
 refine P5 z3d O (Sx _) ?_
 rintro _ w3 rfl
 refine OC$ Qa func100 O ?_
 exact⟨_,rfl,.of h3 (Nat.le_refl _) m8 (av.OH λb e e2=>e (.inl (.inl e2)))⟩
theorem z3S (h:Qn (Sn false T.k) G T Q txt K X rr O_ a L s w)(hI:UK G.g s)(hK:K<=900000000000)(hb:OP w bx [ptr rr 0] 43)(cR:X bx)(hv:v<G.g.length):Pm prog 104 [I (v:Int),ptr bx 0] w λ_ w'=>ScW G T Q txt K X rr O_ a L 1 (rtS 1 s v) w w':=by
 have eE:=h.m.n
 have C5:=hI.cn
 have BP:=hI.mn
 obtain⟨vl,vc,vm,hV⟩:=h.sc
 have hR:=Qn.cells hV
 have gS:=h.xr _ hV.o.1
 obtain⟨x,hx⟩:∃x,s.OR[v]? =some x:=⟨_,List.getElem?_eq_getElem (by omega)⟩
 have yK:rtS 1 s v=if x=v then {s with mark:=s.mark.set v 1} else s:=by
  unfold rtS;rw[if_neg (by decide),if_pos O,Tk hx]
 rw[yK]
 refine py (e:=[(0,_),(1,_)]) func104 O ntmps104 O O$ qN O$ qV ((OM Xo O O hb O))$ Pq O$ OW Vg O$ qV ((OM Zd O O hR O))$ ON O$ P5 XA O (S2 h.sp h.lt h.m.g.Vu hV.col (.inl (.inl (h.xr _ hV.o.2.2.1))) hx) ?_
 rintro _ w1 ⟨rfl,iy,az⟩
 have h1:=h.read az iy
 have bL:=az.OA hb (λe=>e (.inl (.inl cR)))
 refine ON O$ qV ((Q7 O U3 Rt (by omega))) ?_
 by_cases e:x=v
 ·rw[if_pos e];refine Rg O$ Rz ?_;obtain⟨vl1,vc1,vm1,nE⟩:=h1.sc;have iA:=Qn.cells nE;refine OC$ OS O$ OK O$ qV ((OM Xo O O bL O))$ Pq O$ OW WH O$ qV ((OM Zd O O iA O))$ ON O$ P5 z9j O (Uh h1.sp h1.lt h1.m.g.Vu nE.mar (.inl (.inl (h1.xr _ nE.o.2.2.2))) (i:=v) (x:=1) (by omega) (by decide)) ?_;rintro _ w3 ⟨rfl,hW⟩;obtain⟨txt3,h3,m8,av⟩:=h1.z6W nE (List.length_set ..) (by omega) hW;refine P5 z3d O (Sx _) ?_;rintro _ w3 rfl;refine OC$ Qa func104 O ?_;exact⟨_,rfl,.of h3 (Nat.le_refl _) m8 ((az.trans av).OH λb e e2=>e (.inl (.inl e2)))⟩
 ·rw[if_neg e];refine Rg O$ PH$ Qg O$ Qa func104 O ?_;exact⟨_,rfl,.of h1 (Nat.le_add_right _ _) (λ_ _=>rfl) (az.OH λb e e2=>e (.inl (.inl e2)))⟩
theorem z57 (h:Qn (Sn false T.k) G T Q txt K X rr O_ a L s w)(hI:UK G.g s)(hK:K<=900000000000)(hb:OP w bx [ptr rr 0] 43)(cR:X bx)(hv:v<G.g.length):Pm prog 106 [I (v:Int),ptr bx 0] w λ_ w'=>ScW G T Q txt K X rr O_ a L 1 (rtS 2 s v) w w':=by
 have eE:=h.m.n
 have C5:=hI.cn
 have BP:=hI.mn
 have BE:=hI.ln
 obtain⟨vl,vc,vm,hV⟩:=h.sc
 have hR:=Qn.cells hV
 have gS:=h.xr _ hV.o.1
 obtain⟨x,hx⟩:∃x,s.OR[v]? =some x:=⟨_,List.getElem?_eq_getElem (by omega)⟩
 obtain⟨y,hy⟩:∃y,s.mark[v]? =some y:=⟨_,List.getElem?_eq_getElem (by omega)⟩
 have I4:=hI.cb x (List.mem_of_getElem? hx)
 have yK:rtS 2 s v=if y=1 then {s with label:=s.label.set v x} else s:=by
  unfold rtS;rw[if_neg (by decide),if_neg (by decide),Tk hx,Tk hy]
 rw[yK]
 refine py (e:=[(0,_),(1,_)]) func106 O ntmps106 O O$ qN O$ qV ((OM Xo O O hb O))$ Pq O$ OW WH O$ qV ((OM Zd O O hR O))$ ON O$ P5 XA O (S2 h.sp h.lt h.m.g.Vu hV.mar (.inl (.inl (h.xr _ hV.o.2.2.2))) hy) ?_
 rintro _ w1 ⟨rfl,iy,az⟩
 have h1:=h.read az iy
 have bL:=az.OA hb (λe=>e (.inl (.inl cR)))
 by_cases e:y=1
 ·rw[if_pos e];refine Rg O$ Rz ?_;obtain⟨vl1,vc1,vm1,nE⟩:=h1.sc;have iA:=Qn.cells nE;have hg:=Ext.P4 w1;have AJ:=h1.xr _ nE.o.1;have hn:∀j,X j->¬¬Vk G T X j:=λj hj e=>e (.inl (.inl hj));have pD:=h1.ext hg;have ly:VC false Q txt G.k T.k rr O_ a L s vl1 vc1 vm1 w1.drew:=nE.kp (S:=λ_=>False) hg.kp (λ_ _ e=>e);refine OC$ OS O$ QV (λw'=>Kp (λb=>¬Vk G T X b) w1 w') O$ qT 0 O (λ_ hS=>(OM Xo O O (hS.OA bL (hn _ cR)) O)) (hg.kp)$ OG 1 O (Q8 O) (hg.kp)$ OG 2 O (Pr VQ O) (hg.kp)$ qT 3 O (λ_ hS=>(OM Zd O O (hS.OA iA (hn _ AJ)) O)) (hg.kp)$ OZ 4 O O (hg.kp)$ qT 5 O (λ_ hS=>(OM Xo O O (hS.OA bL (hn _ cR)) O)) (hg.kp)$ OG 6 O (Q8 O) (hg.kp)$ OG 7 O (Pr Vg O) (hg.kp)$ qT 8 O (λ_ hS=>(OM Zd O O (hS.OA iA (hn _ AJ)) O)) (hg.kp)$ OZ 9 O O (hg.kp)$ RT 10 O XA O (S2 pD.sp pD.lt pD.m.g.Vu ly.col (.inl (.inl (pD.xr _ ly.o.2.2.1))) hx) ?_;rintro _ w2 ⟨rfl,fd,am⟩;refine⟨hg.kp.trans am,?_⟩;have h2:=pD.read am fd;have vF:VC false Q txt G.k T.k rr O_ a L s vl1 vc1 vm1 w2:=ly.kp am (λb e e2=>e2 (.inl (.inl (h.xr b e))));refine RT 11 O z9j O (Uh h2.sp h2.lt h2.m.g.Vu vF.Zc (.inl (.inl (h2.xr _ vF.o.2.1))) (i:=v) (x:=x) (by omega) (by show x<2^32;omega)) ?_;rintro _ w3 ⟨rfl,hW⟩;refine⟨(hg.kp.trans am).trans (by obtain⟨_,_,_,_,hk⟩:=hW;exact hk),?_⟩;obtain⟨txt3,h3,m8,av⟩:=h2.z62 vF (List.length_set ..) (by omega) hW;refine RT 12 O z3d O (Sx _) ?_;rintro _ w3 rfl;refine⟨(hg.kp.trans am).trans av,?_⟩;refine qE$ Qa func106 O ?_;exact⟨_,rfl,.of h3 (Nat.le_refl _) m8 (((az.trans (hg.kp.trans am)).trans av).OH λb e e2=>e (.inl (.inl e2)))⟩
 ·rw[if_neg e];refine Rg O$ PH$ Qg O$ Qa func106 O ?_;exact⟨_,rfl,.of h1 (Nat.le_add_right _ _) (λ_ _=>rfl) (az.OH λb e e2=>e (.inl (.inl e2)))⟩
end
section
variable {G T:ZI}{w w':World}{Q:Ra}{txt txt':Int->OI}{K K' ok:Nat}{X Y O_:Nat->Prop}{rr a L vl vc vm bx v:Nat}{s s':Sc}
def zbs {g:List (List Nat)}(h:∀{l:List Nat},l∈g->l.length<=g.length){v:Nat}(hv:v<g.length):(OU g v).length<=g.length:=
 by
 unfold OU
 rw[List.getElem?_eq_getElem hv]
 exact h (List.getElem_mem hv)
def coA (g:List (List Nat))(s:Sc)(v i:Nat):List Nat×Bool:=((OU g v).take i).foldl (XE s.label v) (s.OR,false)
theorem z4k {g:List (List Nat)}{u i:Nat}(h:(OU g v)[i]? =some u):coA g s v (i+1)=XE s.label v (coA g s v i) u:=by
 unfold coA
 rw[PC h,List.foldl_append]
 rfl
def zeV {g:List (List Nat)}{i:Nat}(h:∀x∈s.OR,x<4294967296):(∀x∈(coA g s v i).1,x<4294967296)/\(coA g s v i).1.length=s.OR.length:=z0k h
theorem z3B (h:Qn (Sn false T.k) G T Q txt K X rr O_ a L s w)(hI:UK G.g s)(hK:K<=900000000000)(hb:OP w bx [ptr rr 0] 43)(cR:X bx/\¬O_ bx)(hv:v<G.g.length)(iZ:R5 s.label v):Pm prog 101 [I (v:Int),ptr bx 0] w λr w'=>r= .bool (vtS G.g T.g 1 s v).2/\ScW G T Q txt K X rr O_ a L 40 (vtS G.g T.g 1 s v).1 w w':=by
 have aQ:∀b,X b->b<w.heap.size:=λb hb=>h.lt b (.inl (.inl hb))
 have cg:=h.far
 obtain⟨n1,n2,n3⟩:=h.ng
 have qc:=h.lt T.rb (.inl (.inr O))
 have eE:=h.m.n
 have C5:=hI.cn
 have fU:=zbs h.m.g.ok.gr.len hv
 obtain⟨vl,vc,vm,hV⟩:=h.sc
 have hR:=Qn.cells hV
 have gS:=h.xr _ hV.o.1
 have nw:vtS G.g T.g 1 s v=({s with OR:=(coA G.g s v (OU G.g v).length).1},(coA G.g s v (OU G.g v).length).2):=by
  unfold vtS coA coV;rw[if_neg (by decide),if_pos O,if_pos iZ,List.take_length]
 rw[nw]
 refine py (e:=[(0,_),(1,_)]) func101 O ntmps101 O O$ qN O$ OJ O O (R4 O (cs:=[I (v:Int)]) O) ?_
 rintro _ w1 ⟨b2,rfl,bN,ad,ai⟩
 refine OJ O O (Ry (cs:=[_]) UH O) ?_
 rintro _ w2 ⟨b3,rfl,dG,ae,ak⟩
 have aX:=ae.OA ai
 have aG:=ad.trans ae
 have jM:=aG.OA hb
 have di:=aG.OA hR
 have z1:=ad.size
 have z2:=ae.size
 have l1:=ai.lt
 have l2:=ak.lt
 have hg:=Ext.P4 w2
 refine OC$ An$ An$ QV (λw'=>Kp (λ_=>False) w2 w') O$ qT 0 O (λ_ h=>(OM Xo O O (h.OA jM id) O)) (hg.kp)$ qT 1 O (λ_ h=>(OM Xo O O (h.OA jM id) O)) (hg.kp)$ OG 2 O (Q8 O) (hg.kp)$ OG 3 O (Pr Y9 O) (hg.kp)$ qT 4 O (λ_ h=>(OM ZH O O (h.OA di id) O)) (hg.kp)$ qT 5 O (λ_ h=>(OM U3 O O (h.OA aX id) O)) (hg.kp)$ RT 6 O zbf O (Y2 G.k v _) ?_
 rintro _ w3 ⟨c3,c4,c5,rfl,t8,AG,vE,nz,m7,J7,AK⟩
 refine⟨hg.kp.trans AK.kp,?_⟩
 have ah:=hg.trans AK
 have z3:=ah.size
 have l3:=t8.lt
 have N6:=hg.size
 have bV:=ah.OA aX
 have bF:=ah.OA ak
 replace bF:OP w3 b3 [.bool false] 4:=bF
 refine qE$ OE$ RG (ps:=[13]) (p:=[]) (q:=[_,_,_]) O zc9 ?_
 rintro l wl cE eP cD hD Rc bK dx
 have zl:=cE.size
 have jL:=(aG.trans ah).trans cE
 obtain⟨X1,dr⟩:∃X1:Nat->Prop,(λj=>X j\/j=b2\/j=b3\/j=c3\/j=w3.heap.size\/j=l)=X1:=⟨_,rfl⟩
 have df:∀j,X j->X1 j:=λj hj=>by rw[<-dr];exact .inl hj
 have ao:X1 b2/\X1 b3/\X1 c3/\X1 w3.heap.size/\X1 l:=by rw[<-dr];exact⟨.inr (.inl O),.inr (.inr (.inl O)),.inr (.inr (.inr (.inl O))),.inr (.inr (.inr (.inr (.inl O)))),.inr (.inr (.inr (.inr (.inr O))))⟩
 have rI:Qn (Sn false T.k) G T Q txt K X1 rr O_ a L s wl:=h.grow jL (λj hj=>by rw[<-dr] at hj;exact hj.imp id λe=>by omega) df
 have dg:∀j,w.heap.size<=j->¬O_ j:=λj hj=>(cg j hj).2.2.2.2.2.2
 have Cf:=aQ _ cR.1
 refine Pm.mono (Zq hv hI.ln rI (cE.OA AG) (cE.OA vE) (cE.OA t8) ao.2.2.1 (λj=>j=l\/j=b3) (λj hj=>by
   rcases hj with rfl|rfl
   ·exact⟨ao.2.2.2.2,by omega,dg _ (by omega)⟩
   ·exact⟨ao.2.1,by omega,dg _ (by omega)⟩)
  (λi txt' K' s' w'=>Rc .ready none w'/\s'={s with OR:=(coA G.g s v i).1}/\K'<=K+i/\(∀y:Int,y<(a:Int)\/(a:Int)+(L:Int)<=y->txt' y=txt y)/\w'.heap[w3.heap.size]? =some (.deferred (some []))/\OP w' b2 [I (v:Int)] 3/\OP w' b3 [.bool (coA G.g s v i).2] 4/\OP w' bx [ptr rr 0] 43/\Kp (λb=>¬X b) w w')
  (λtxt' K' s' w'=>False)
  ?_ ?_ ?_ ?_ ?_) ?_
 ·rintro i txt' K' s' w7 w8 ⟨e1,e2,e3,e4,e6,e7,e8,e9,e10⟩ hz hk;exact⟨hk.rc bK e1 (λe=>e ao.2.2.2.2),e2,e3,e4,hk.heap e6 (λe=>e ao.2.2.2.1),hk.OA e7 (λe=>e ao.1),hk.OA e8 (λe=>e ao.2.1),hk.OA e9 (λe=>e (df _ cR.1)),e10.trans (hk.OH λb e e2=>e (df _ e2))⟩
 ·rintro txt' K' s' w7 w8 e;exact e.elim
 ·intro w7 hz hk;have cP:=cE.kp.trans hk;have dS:Kp (λb=>¬X1 b) w w7:=jL.kp.trans hk;exact⟨hk.rc bK dx (λe=>e ao.2.2.2.2),rfl,Nat.le_refl _,λ_ _=>rfl,hk.heap hD (λe=>e ao.2.2.2.1),cP.OA bV (λe=>e ao.1),cP.OA bF (λe=>e ao.2.1),dS.OA hb (λe=>e (df _ cR.1)),dS.OH λb e e2=>e (df _ e2)⟩
 ·rintro i u txt' K' s' w7 hs iG ⟨e1,e2,e3,e4,e6,e7,e8,e9,e10⟩
  have bR:coA G.g s v (i+1)=coA G.g s v i:=by
   rw[z4k hs];unfold XE;rw[if_neg (λe=>iG e.1)]
  rw[bR];exact⟨e1,e2,by omega,e4,e6,e7,e8,e9,e10⟩
 ·rintro Y i u txt' K' s' w7 aN lq z7 hs iZ ik h7 ⟨pa,rfl,Oo,BR,vD,fw,ia,kZ,dS⟩;have gT:Y l/\Y b3:=⟨aN _ ao.2.2.2.2,aN _ ao.2.1⟩;have j4:∀j,X j->Y j:=λj hj=>aN j (df j hj);obtain⟨BJ,fL⟩:=zeV (g:=G.g) (v:=v) (i:=i) hI.cb;obtain⟨dl,-⟩:=List.getElem?_eq_some_iff.1 hs
  have rE:u<G.g.length:=by
   have:=hI.ln;have:=RF iZ;omega
  obtain⟨x,hx⟩:∃x,(coA G.g s v i).1[v]? =some x:=⟨_,List.getElem?_eq_getElem (by omega)⟩;obtain⟨y,hy⟩:∃y,(coA G.g s v i).1[u]? =some y:=⟨_,List.getElem?_eq_getElem (by omega)⟩;have I4:=BJ x (List.mem_of_getElem? hx)
  have dB:coA G.g s v (i+1)=if x<y then((coA G.g s v i).1.set u x,true) else coA G.g s v i:=by
   rw[z4k hs];unfold XE;rw[Tk hx,Tk hy];by_cases e:x<y
   ·rw[if_pos ⟨iZ,e⟩,if_pos e]
   ·rw[if_neg (λe2=>e e2.2),if_neg e]
  refine Sd bK pa O O$ OK O$ OV O$ run_beginRound O bK pa ?_;rintro w8 pX aL;have h8:=h7.own aL (λj e=>by subst e;exact⟨gT.1,cg _ (by omega)⟩);have gZ:=aL.OA fw (by omega);have er:=aL.OA ia (by omega);have ie:=aL.OA kZ (by omega);have sX:=aL.heap vD (by omega);have z8:=aL.size;obtain⟨vl8,vc8,vm8,vG⟩:=h8.sc;have nj:=Qn.cells vG;have aP:=Ext.P4 w8;have mZ:=h8.ext aP;have lz:VC false Q txt' G.k T.k rr O_ a L {s with OR:=(coA G.g s v i).1} vl8 vc8 vm8 w8.drew:=vG.kp (S:=λ_=>False) aP.kp (λ_ _ e=>e);have dC:∀j,Y j->¬¬Vk G T Y j:=λj hj e=>e (.inl (.inl hj));have qd:=j4 _ cR.1;have wY:=j4 _ (h.xr _ vG.o.1);refine OE$ An$ QV (λw'=>Kp (λb=>¬Vk G T Y b) w8 w') O$ qT 0 O (λ_ hS=>(OM Xo O O (hS.OA ie (dC _ qd)) O)) (aP.kp)$ OG 1 O (Q8 O) (aP.kp)$ OG 2 O (Pr Vg O) (aP.kp)$ qT 3 O (λ_ hS=>(OM Zd O O (hS.OA nj (dC _ wY)) O)) (aP.kp)$ qT 4 O (λ_ hS=>(OM U3 O O (hS.OA gZ (dC _ (aN _ ao.1))) O)) (aP.kp)$ RT 5 O XA O (S2 mZ.sp mZ.lt mZ.m.g.Vu lz.col (.inl (.inl (mZ.xr _ lz.o.2.2.1))) hx) ?_;rintro _ w9 ⟨rfl,q9,aw⟩;refine⟨aP.kp.trans aw,?_⟩;have h9:=mZ.read aw q9;have pf:VC false Q txt' G.k T.k rr O_ a L {s with OR:=(coA G.g s v i).1} vl8 vc8 vm8 w9:=lz.kp aw (λb e e2=>e2 (.inl (.inl (mZ.xr b e))));have ii:=aP.kp.trans aw;have pC:=Qn.cells pf;have oP:=ii.OA ie (dC _ qd);refine OG 6 O (Rp O) (aP.kp.trans aw)$ qE$ qN O$ qV ((OM Xo O O oP O))$ Pq O$ OW Vg O$ qV ((OM Zd O O pC O))$ ON O$ P5 XA O (S2 h9.sp h9.lt h9.m.g.Vu pf.col (.inl (.inl (h9.xr _ pf.o.2.2.1))) hy) ?_;rintro _ wa ⟨rfl,N7,bE⟩;have ha:=h9.read bE N7;have nF:VC false Q txt' G.k T.k rr O_ a L {s with OR:=(coA G.g s v i).1} vl8 vc8 vm8 wa:=pf.kp bE (λb e e2=>e2 (.inl (.inl (h9.xr b e))));have ee:=ii.trans bE;have AL:=Qn.cells nF;have jN:=ee.OA ie (dC _ qd);have pi:=ee.OA er (dC _ gT.2);have pj:=ee.OA gZ (dC _ (aN _ ao.1));have sZ:=ee.heap sX (dC _ (aN _ ao.2.2.2.1));have sY:=ee.rc bK pX (dC _ gT.1);have za:=ee.size;have pn:Kp (λb=>¬X b) w wa:=(dS.trans (aL.OH λj e e2=>by have:=aQ j e2;omega)).trans (ee.OH λj e e2=>e (.inl (.inl (j4 j e2))));have po:Kp (λj=>(¬Y j/\j≠T.rb)\/(j=l\/j=b3)) w7 wa:=(aL.OH λj e=> .inr (.inl e)).trans (ee.OH λj e=> .inl ⟨λe2=>e (.inl (.inl e2)),λe2=>e (.inl (.inr e2))⟩);refine ON O ?_;by_cases exy:x<y
  ·rw[if_pos exy] at dB;refine QB O$ Rz$ OC$ Po.qb (e:=[(1,_),(3,_),(4,_),(5,_),(27,_)]) ?_;refine OS O$ qN O$ qV ((OM Xo O O jN O))$ Pq O$ OW Vg O$ qV ((OM Zd O O AL O))$ Pa O$ P5 z9j O (Uh ha.sp ha.lt ha.m.g.Vu nF.col (.inl (.inl (ha.xr _ nF.o.2.2.1))) (i:=u) (x:=x) (by show u<(coA G.g s v i).1.length;omega) (by show x<2^32;omega)) ?_;rintro _ wb ⟨rfl,hW⟩;obtain⟨txtb,gX,GP,aY⟩:=ha.zcb nF (List.length_set ..) (by omega) hW;refine P5 z3d O (Sx _) ?_;rintro _ wb rfl;have vH:=aY.OA pi (dC _ gT.2);have GQ:=aY.OA pj (dC _ (aN _ ao.1));have vI:=aY.OA jN (dC _ qd);have GR:=aY.heap sZ (dC _ (aN _ ao.2.2.2.1));have kQ:=aY.rc bK sY (dC _ gT.1);have zb:=aY.size;refine OC$ OK O$ OT O (QG UH O O O vH (by simp)) ?_;rintro wc ⟨vJ,aq⟩;have GS:=aq.rc bK kQ (by omega);have GT:=aq.heap GR (by omega);have GU:=aq.OA GQ (by omega);have GV:=aq.OA vI (by omega);have zc:=aq.size;have hc:=gX.own aq (λj e=>by subst e;exact⟨gT.2,cg _ (by omega)⟩);refine OC$ Oz$ RA bK GS ?_;intro wd kP dp;rw[dB];refine⟨.inl ⟨rfl,txtb,K'+1,{s with OR:=(coA G.g s v i).1.set u x},rfl,hc.own dp (λj e=>by subst e;exact⟨gT.1,cg _ (by omega)⟩),kP,rfl,by omega,λy e=>(GP y e).trans (BR y e),dp.heap GT (by omega),dp.OA GU (by omega),dp.OA vJ (by omega),dp.OA GV (by omega),((pn.trans (aY.OH λj e e2=>e (.inl (.inl (j4 j e2))))).trans (aq.OH λj e e2=>by have:=aQ j e2;omega)).trans (dp.OH λj e e2=>by have:=aQ j e2;omega)⟩,((po.trans (aY.OH λj e=> .inl ⟨λe2=>e (.inl (.inl e2)),λe2=>e (.inl (.inr e2))⟩)).trans (aq.OH λj e=> .inr (.inr e))).trans (dp.OH λj e=> .inr (.inl e))⟩
  ·rw[if_neg exy] at dB;refine QB O$ PH$ OC$ Po.qb (e:=[(1,_),(3,_),(4,_),(5,_),(27,_)]) ?_;refine SH O$ Oz$ RA bK sY ?_;intro wd kP dp;rw[dB];refine⟨.inl ⟨rfl,txt',_,_,ik,ha.own dp (λj e=>by subst e;exact⟨gT.1,cg _ (by omega)⟩),kP,rfl,by omega,BR,dp.heap sZ (by omega),dp.OA pj (by omega),dp.OA pi (by omega),dp.OA jN (by omega),pn.trans (dp.OH λj e e2=>by have:=aQ j e2;omega)⟩,po.trans (dp.OH λj e=> .inr (.inl e))⟩
 ·rintro v' wz ⟨rfl,Y,txtz,Kz,sz,aN,lq,iz,hz,⟨mX,rfl,N8,og,mY,rq,j0,GW,cZ⟩|e⟩
  ·refine⟨_,_,mX,by simp,λwy de=>?_⟩;have zz:=cZ.size;have zy:=de.size;have il:=de.OA j0 (by omega);have jE:=de.heap mY (by omega);refine Oz$ qN O$ qV (OM U4 O O il O)$ OT O (QG UH O O O il (by simp)) ?_;rintro wx ⟨pe,iw⟩;have AH:=iw.heap jE (by omega);have dP:Kp (λk=>k=w3.heap.size) wx (Rl [.mk w3.heap.size] wx):=Q4 wx w3.heap.size (.deferred none);have j3:=dP.OA pe (by omega);have bQ:Kp (λk=>k=l\/k=b3\/k=w3.heap.size) wz (Rl [.mk w3.heap.size] wx):=((de.OH λj e=> .inl e).trans (iw.OH λj e=> .inr (.inl e))).trans (dP.OH λj e=> .inr (.inr e));refine OC$ T3 (by simp) (Ts AH) func101 (.cell1 U4 O O ((j3).cell _) .nil) ?_;exact⟨_,rfl,rfl,.of ((hz.own bQ (λj e=>⟨by rcases e with rfl|rfl|rfl;exact aN _ ao.2.2.2.2;exact aN _ ao.2.1;exact aN _ ao.2.2.2.1,cg j (by omega)⟩)).less (λj hj=>aN j (df j hj)) h.xk h.xr) (by omega) og (cZ.trans (bQ.OH λj e e2=>by have:=aQ j e2;omega))⟩
  ·exact e.elim
end
end Go.Proofs.YtffbidffdbpcoaaGreatDoor
