/- Merged by program. -/
import Derived.Test.YtfgjaafcgghnoaaGreatDoorCNp8
import Derived.SizedLaws
import Derived.Carry
import Derived.ProofKit
import Derived.OpenShut
import Derived.ShutString
import Derived.ChangeOld
import Derived.Below
import Derived.Deep.SlicePairs
import Derived.LaidLaws
import Derived.MakeChecks
import Derived.Handed
set_option linter.all false
set_option maxRecDepth 1000000
set_option maxHeartbeats 16000000
namespace Go.Proofs.YtfgjaafcgghnoaaGreatDoor
open Go Go.RowKit
def insL (x:Nat):List Nat->List Nat
 |[]=>[x]
 |y::l=>if x<y then x::y::l else if x=y then y::l else y::insL x l
theorem WL {x z:Nat}:∀{l:List Nat},z∈insL x l↔z=x\/z∈l
 |[]=>by simp[insL]
 | y :: l => by
   have ih:=WL (x:=x) (z:=z) (l:=l);unfold insL;by_cases h1:x<y
   ·rw[if_pos h1];simp
   ·rw[if_neg h1];by_cases h2:x=y
    ·rw[if_pos h2];subst h2;simp
    ·rw[if_neg h2];simp only[List.mem_cons,ih];constructor
     ·rintro(e|e|e)
      ·exact .inr (.inl e)
      ·exact .inl e
      ·exact .inr (.inr e)
     ·rintro(e|e|e)
      ·exact .inr (.inl e)
      ·exact .inl e
      ·exact .inr (.inr e)
theorem Yb {x:Nat}:∀{l:List Nat},List.Pairwise (·<·) l->List.Pairwise (·<·) (insL x l)
 |[],_=>by simp[insL]
 | y :: l, h => by
   obtain⟨h1,h2⟩:=List.pairwise_cons.1 h;unfold insL;by_cases e1:x<y
   ·rw[if_pos e1];refine List.pairwise_cons.2 ⟨λz hz=>?_,h⟩;rcases List.mem_cons.1 hz with e| e
    ·omega
    ·have:=h1 z e;omega
   ·rw[if_neg e1];by_cases e2:x=y
    ·rw[if_pos e2];exact h
    ·rw[if_neg e2];refine List.pairwise_cons.2 ⟨λz hz=>?_,Yb h2⟩;rcases WL.1 hz with e| e
     ·omega
     ·exact h1 z e
theorem XF {v:Nat}:∀{l:List Nat} {i:Nat},i<=l.length->(∀(j y:Nat),j<i->l[j]? =some y->y<v)->(∀y:Nat,l[i]? =some y->v<=y)->insL v l=if l[i]? =some v then l else l.take i++v::l.drop i
 | [], i, hi, _, _ => by
   have:i=0:=by simpa using hi
   subst this
   rfl
 | x :: l, 0, _, _, h2 => by
   have hx:=h2 x O;unfold insL;by_cases e:v<x
   ·rw[if_pos e,if_neg (by simp;omega)]
    rfl
   ·have:v=x:=by omega
    subst this;rw[if_neg e,if_pos O]
    exact(if_pos O).symm
 | x :: l, i + 1, hi, h1, h2 => by
   have hx:=h1 0 x (by omega) O;have ih:=XF (v:=v) (l:=l) (i:=i) (by simpa using hi) (λj y hj hy=>h1 (j+1) y (by omega) (by simpa using hy)) (λy hy=>h2 y (by simpa using hy));unfold insL;rw[if_neg (by omega),if_neg (by omega),ih];have e:(x::l)[i+1]? =l[i]? :=by simp
   rw[e];split
   ·rfl
   ·rfl
def Yj (g:List (List Nat))(e:Nat×Nat):List (List Nat):=g.set e.1 (insL e.2 (Lo g e.1))
def WO (n:Nat)(es:List (Nat×Nat)):List (List Nat):=es.foldl Yj (List.replicate n [])
theorem UU {g:List (List Nat)}{u v:Nat}{l:List Nat}(hu:u<g.length):Lo (g.set u l) v=if u=v then l else Lo g v:=by
 unfold Lo
 by_cases e:u=v
 ·subst e;rw[List.getElem?_set_self hu,if_pos O];rfl
 ·rw[List.getElem?_set_ne e,if_neg e]
structure UW (n:Nat)(es:List (Nat×Nat))(g:List (List Nat)):Prop where
 len:g.length=n
 mem:∀v u,u∈Lo g v↔(v,u)∈es
 Uq:∀v,List.Pairwise (·<·) (Lo g v)
theorem UW.new {n:Nat}:UW n [] (List.replicate n []):=by
 have e:∀v,Lo (List.replicate n []) v=[]:=λv=>by
  unfold Lo;rw[List.getElem?_replicate];split<;>rfl
 exact⟨by simp,λv u=>by rw[e];simp,λv=>by rw[e];exact List.Pairwise.nil⟩
theorem UW.step {n:Nat}{es:List (Nat×Nat)}{g:List (List Nat)}(h:UW n es g){e:Nat×Nat}(he:e.1<n):UW n (es++[e]) (Yj g e):=by
 have hl:=h.len
 unfold Yj
 refine⟨by rw[List.length_set];exact hl,λv u=>?_,λv=>?_⟩
 ·rw[UU (by omega),List.mem_append,List.mem_singleton];by_cases e2:e.1=v
  ·rw[if_pos e2,WL,h.mem,e2];constructor
   ·rintro(e3|e3)
    ·right;subst e3;subst e2;rfl
    ·exact .inl e3
   ·rintro(e3|e3)
    ·exact .inr e3
    ·left;rw[<-e3]
  ·rw[if_neg e2,h.mem];constructor
   ·exact .inl
   ·rintro(e3|e3)
    ·exact e3
    ·exact absurd (by rw[<-e3]) e2
 ·rw[UU (by omega)];split
  ·exact Yb (h.Uq _)
  ·exact h.Uq v
theorem zak {n:Nat}{es:List (Nat×Nat)}(h:∀e∈es,e.1<n):UW n es (WO n es):=by
 have key:∀(l p:List (Nat×Nat)) (g:List (List Nat)),UW n p g->(∀e∈l,e.1<n)->UW n (p++l) (l.foldl Yj g):=λl=>by
  induction l with
  |nil=>exact λp g hg _=>by rw[List.append_nil];exact hg
  | cons e l ih =>
    intro p g hg hl;rw[List.foldl_cons];have:=ih (p++[e]) _ (hg.step (hl e List.mem_cons_self)) (λx hx=>hl x (List.mem_cons_of_mem _ hx))
    rwa [List.append_assoc] at this
 exact key es [] _ UW.new h
theorem UW.gr {n:Nat}{es:List (Nat×Nat)}{g:List (List Nat)}(h:UW n es g)(hn:n<=60)(he:∀e∈es,e.2<n):Nu g:=by
 have hmem:∀l∈g,∃v,Lo g v=l:=λl hl=>by
  obtain⟨v,hv,e⟩:=List.getElem_of_mem hl;exact⟨v,by unfold Lo;rw[List.getElem?_eq_getElem hv,e];rfl⟩
 have hlt:∀l∈g,∀y∈l,y<g.length:=λl hl y hy=>by
  obtain⟨v,rfl⟩:=hmem l hl;rw[h.len];exact he _ ((h.mem v y).1 hy)
 refine⟨λl hl=>⟨?_,λy hy=>?_⟩,hlt,by rw[h.len];exact hn⟩
 ·obtain⟨v,rfl⟩:=hmem l hl;exact h.Uq v
 ·have:=hlt l hl y hy;rw[h.len] at this;omega
theorem UW.sym {n:Nat}{es:List (Nat×Nat)}{g:List (List Nat)}(h:UW n es g)(h1:∀a b,(a,b)∈es->(b,a)∈es)(h2:∀a,(a,a)∉es):Z7 g:=
 ⟨λu v hu=>(h.mem u v).2 (h1 v u ((h.mem v u).1 hu)),λv hv=>h2 v ((h.mem v v).1 hv)⟩
def z0f (g:List (List Nat)):List (Nat×Nat):=(List.range g.length).flatMap λu=>(Lo g u).flatMap λx=>if x=u then [] else [(x,u),(u,x)]
theorem TO {g:List (List Nat)}(hg:Nu g)(a b:Nat):(a,b)∈z0f g↔a≠b/\(b∈Lo g a\/a∈Lo g b):=by
 have hl:∀{u x:Nat},x∈Lo g u->u<g.length:=fun {u x} hx=>by
  rcases Nat.lt_or_ge u g.length with e| e
  ·exact e
  ·unfold Lo at hx;rw[List.getElem?_eq_none e] at hx;cases hx
 unfold z0f
 simp only[List.mem_flatMap,List.mem_range]
 constructor
 ·rintro⟨u,hu,x,hx,h⟩;split at h
  ·cases h
  ·rename_i hxu
   simp only[List.mem_cons,List.not_mem_nil,or_false,Prod.mk.injEq] at h;rcases h with⟨rfl,rfl⟩|⟨rfl,rfl⟩
   ·exact⟨hxu,.inr hx⟩
   ·exact⟨λe=>hxu e.symm,.inl hx⟩
 ·rintro⟨hab,h|h⟩
  ·exact⟨a,hl h,b,h,by rw[if_neg (λe=>hab e.symm)];simp⟩
  ·exact⟨b,hl h,a,h,by rw[if_neg hab];simp⟩
def z6T (g:List (List Nat)):List (List Nat):=WO g.length (z0f g)
theorem z7Z {g:List (List Nat)}(hg:Nu g):Nu (z6T g)/\Z7 (z6T g)/\(z6T g).length=g.length:=by
 have hb:∀e∈z0f g,e.1<g.length/\e.2<g.length:=λe he=>by
  obtain⟨a,b⟩:=e;obtain⟨-,h|h⟩:=(TO hg a b).1 he
  ·refine⟨?_,NR hg a b h⟩;rcases Nat.lt_or_ge a g.length with e| e
   ·exact e
   ·unfold Lo at h;rw[List.getElem?_eq_none e] at h;cases h
  ·refine⟨NR hg b a h,?_⟩;rcases Nat.lt_or_ge b g.length with e| e
   ·exact e
   ·unfold Lo at h;rw[List.getElem?_eq_none e] at h;cases h
 have hI:=zak (n:=g.length) (es:=z0f g) (λe he=>(hb e he).1)
 exact⟨hI.gr hg.n (λe he=>(hb e he).2),hI.sym (λa b h=>by
  rw[TO hg] at h⊢
  exact⟨λe=>h.1 e.symm,h.2.symm⟩) (λa h=>((TO hg a a).1 h).1 O),hI.len⟩
theorem z83 {w:World}{s:List Nat}{v:Nat}(JW:s.length<=1000000){a:Option Addr}{c:Nat}(gE:s.length<=c)(hr:Rd w (.slice a s.length c) 1 s.length (s.map LO)):LP Tryz.prog 84 [.slice a s.length c,LO v] w λr w'=>∃a' c',r= .slice a' (insL v s).length c'/\(insL v s).length<=c'/\Rd w' (.slice a' (insL v s).length c') 1 (insL v s).length ((insL v s).map LO)/\(∀b,(Value.slice a' (insL v s).length c').ownBlock=some b->(Value.slice a s.length c).ownBlock=some b\/w.heap.size<=b)/\Ext w w':=by
 have ev:maxLen=9223372036854775807:=rfl
 have aZ:∀{k y:Nat},s[k]? =some y->∃lb lo,a=some ⟨lb,lo,none⟩/\w.cell? ⟨lb,lo+k*1,none⟩=some (LO y):=fun {k y} hy=>by
  have jL:k<s.length:=by
   rcases Nat.lt_or_ge k s.length with h| h
   ·exact h
   ·rw[List.getElem?_eq_none h] at hy;cases hy
  rcases hr.2 with⟨⟨ca,cc⟩,fd,pE⟩|⟨lb,lo,cap,fd,dt⟩
  ·omega
  cases fd;exact⟨lb,lo,rfl,dt (k*1) _ (by rw[Nat.mul_one,List.getElem?_map,hy];rfl)⟩
 refine Lb (e:=[(0,_),(1,_)]) Tryz.func84 O Tryz.ntmps84 O O$ qN O$ Lw O$ qM O$ Lk O$ run_seq$ Lc$ Nl (λe' w'=>∃k:Nat,e'=[(0,.slice a s.length c),(1,LO v),(5,I (k:Int))]/\k<=s.length/\(∀j y,j<k->s[j]? =some y->y<v)/\(∀y,s[k]? =some y->v<=y)/\w'=w) ?jd$ λjd=>?th
 case jd =>
  rintro e' w3 ⟨k,rfl,hk,gJ,ip,rfl⟩;have UG:=XF hk gJ ip;refine run_seq$ run_seq$ M6 (λe' w'=>∃q,e'=[(0,.slice a s.length c),(1,LO v),(5,I (k:Int)),(31,.bool q)]/\(q=true↔s[k]? =some v)/\w'=w3) ?et$ λet=>?iv
  case et =>
   rintro e' w4 ⟨q,rfl,ox,rfl⟩;refine Mg O (λpW=>?_)$ λpW=>?_
   ·rw[if_pos (ox.1 pW)] at UG;rw[UG];refine qN O$ Le O$ Lk O$ Lh Tryz.func84 O ?_;exact⟨_,rfl,a,c,rfl,gE,hr,λb hb=> .inl hb,Ext.refl _⟩
   ·rw [if_neg (λe => by rw [ox.2 e] at pW; cases pW)] at UG; have aj := Ext.LC w4; have bu := aj.size
    have kS:((s.take k++[v])++s.drop k).length=s.length+1:=by
     rw[List.length_append,List.length_append,List.length_take,List.length_drop,List.length_singleton];omega
    have dh:∀(l:List Nat),∀c∈l.map LO,c.oneCell'=true:=λl c hc=>by obtain⟨z,-,rfl⟩:=List.mem_map.1 hc;rfl
    have js:(s.take k).length=k:=by rw[List.length_take];omega
    have tM:(s.drop k).length=s.length-k:=List.length_drop ..;refine py$ run_seq$ N7 (λw'=>Ext w4 w') O$ LA 1 O O (aj)$ LA 2 O O (aj)$ LA 5 O O (aj)$ LA 8 O O (aj)$ LA 9 O O (aj)$ Ll 3 O (z7c LI Lz O O (by omega)) aj$ Ll 10 O (T7 LI Lz O O hk gE) aj$ zd1 (i:=0) (j:=6) (by kernel_rfl) ?_ ?_
    ·refine NY (i:=0) O O O (RN (cs:=[]) (zs:=[]) LI Lz O (by kernel_rfl) O O O (by decide)) ?_;rintro v6 w6 ⟨b6,rfl,⟨m7,aK,aR⟩,eK⟩;refine⟨aj.trans aK,?_⟩;have ye:w4.heap.size<=b6:=by omega
     have lb6:=aR.lt;have aj:=aj.trans aK
     try have bq:=bq.ext aK
     have bu:=Nat.le_trans bu aK.size;refine zd1 (i:=4) (j:=6) (by kernel_rfl) ?_ ?_
     ·refine NY (i:=4) O O O (pap LI Lz O (by decide) O O eK ((P6 (i:=k) hr hk).ext aj) (λc hc=>dh s c (List.mem_of_mem_take hc)) (by omega) (by omega)) ?_;rintro v10 w10 ⟨bh,ar,ba,-⟩;refine⟨aj.It ar (λj e=>by have e:b6=j:=ML e;omega),?_⟩;have aj:=aj.It ar (λj e=>by have e:b6=j:=ML e;omega)
      try have bq:=bq.kp ar (λj hj e=>by have e:b6=j:=ML e;have hj:b16=j:=ML hj;omega)
      have ba:∀j,v10.ownBlock=some j->w4.heap.size<=j:=λj hj=>by rcases ba j hj with e|e;(have e:b6=j:=ML e;omega);omega
      have bu:=Nat.le_trans bu ar.size;have nJ:=λ(j:Nat) (hj:v10.ownBlock=some j)=>bh.lt hj;refine qO 6$ NY (i:=6) O O O (RN (cs:=[_]) (zs:=[Value.int .u32 0]) LI Lz O (by kernel_rfl) O O O (by decide)) ?_;rintro v16 w16 ⟨b16,rfl,⟨nK,aO,gj⟩,bq⟩;refine⟨aj.trans aO,?_⟩;have nL:w4.heap.size<=b16:=by omega
      have aj:=aj.trans aO
      try have eK:=eK.ext aO
      try have bh:=bh.ext aO
      have lb16:=gj.lt;have bu:=Nat.le_trans bu aO.size;refine qO 7$ NY (i:=7) O O O (pap LI Lz O (by decide) O O bh bq.rd (λc hc=>dh [v] c hc) (by omega) (by omega)) ?_;rintro v17 w17 ⟨eg,cj,bG,-⟩;refine⟨aj.It cj (λj e=>ba j e),?_⟩;have aj:=aj.It cj (λj e=>ba j e);have bG:∀j,v17.ownBlock=some j->w4.heap.size<=j:=λj hj=>by rcases bG j hj with e|e;exact ba j e;omega
      have bu:=Nat.le_trans bu cj.size;refine qO 11$ NY (i:=11) O O O (pap LI Lz O (by decide) O O eg ((Of (i:=k) hr hk gE).ext aj) (λc hc=>dh s c (List.mem_of_mem_drop hc)) (by omega) (by omega)) ?_;rintro v21 w21 ⟨bL,dI,cL,-⟩;refine⟨aj.It dI (λj e=>bG j e),?_⟩;have aj:=aj.It dI (λj e=>bG j e);have cL:∀j,v21.ownBlock=some j->w4.heap.size<=j:=λj hj=>by rcases cL j hj with e|e;exact bG j e;omega
      refine Ll 12 O (Ni O) aj$ qE ?_;rw[show 0+k+1+(s.length-k)=(insL v s).length by rw[UG,List.length_append,List.length_cons,js,tM];omega,show([]++List.take k (s.map LO)++[LO v]++List.drop k (s.map LO))=(insL v s).map LO by rw[UG];simp[List.map_take,List.map_drop]] at bL;obtain⟨ra,rc,rfl,-⟩:=bL.rd.shape
      have nM:(insL v s).length<=rc:=by
       rcases bL.shape with⟨e1,e2⟩|⟨gg,cc,e1,e2⟩
       ·omega
       ·cases e1;exact e2
      refine Lh Tryz.func84 O ?_;exact⟨_,rfl,ra,rc,rfl,nM,bL.rd,λb hb=> .inr (cL b hb),aj⟩
     ·refine NY (i:=6) O O O (RN (cs:=[_]) (zs:=[Value.int .u32 0]) LI Lz O (by kernel_rfl) O O O (by decide)) ?_;rintro v16 w16 ⟨b16,rfl,⟨nK,aO,gj⟩,bq⟩;refine⟨aj.trans aO,?_⟩;have nL:w4.heap.size<=b16:=by omega
      have aj:=aj.trans aO
      try have eK:=eK.ext aO
      try have bh:=bh.ext aO
      have lb16:=gj.lt;have bu:=Nat.le_trans bu aO.size;refine qO 4$ NY (i:=4) O O O (pap LI Lz O (by decide) O O eK ((P6 (i:=k) hr hk).ext aj) (λc hc=>dh s c (List.mem_of_mem_take hc)) (by omega) (by omega)) ?_;rintro v10 w10 ⟨bh,ar,ba,-⟩;refine⟨aj.It ar (λj e=>by have e:b6=j:=ML e;omega),?_⟩;have aj:=aj.It ar (λj e=>by have e:b6=j:=ML e;omega)
      try have bq:=bq.kp ar (λj hj e=>by have e:b6=j:=ML e;have hj:b16=j:=ML hj;omega)
      have ba:∀j,v10.ownBlock=some j->w4.heap.size<=j:=λj hj=>by rcases ba j hj with e|e;(have e:b6=j:=ML e;omega);omega
      have bu:=Nat.le_trans bu ar.size;have nJ:=λ(j:Nat) (hj:v10.ownBlock=some j)=>bh.lt hj;refine qO 7$ NY (i:=7) O O O (pap LI Lz O (by decide) O O bh bq.rd (λc hc=>dh [v] c hc) (by omega) (by omega)) ?_;rintro v17 w17 ⟨eg,cj,bG,-⟩;refine⟨aj.It cj (λj e=>ba j e),?_⟩;have aj:=aj.It cj (λj e=>ba j e);have bG:∀j,v17.ownBlock=some j->w4.heap.size<=j:=λj hj=>by rcases bG j hj with e|e;exact ba j e;omega
      have bu:=Nat.le_trans bu cj.size;refine qO 11$ NY (i:=11) O O O (pap LI Lz O (by decide) O O eg ((Of (i:=k) hr hk gE).ext aj) (λc hc=>dh s c (List.mem_of_mem_drop hc)) (by omega) (by omega)) ?_;rintro v21 w21 ⟨bL,dI,cL,-⟩;refine⟨aj.It dI (λj e=>bG j e),?_⟩;have aj:=aj.It dI (λj e=>bG j e);have cL:∀j,v21.ownBlock=some j->w4.heap.size<=j:=λj hj=>by rcases cL j hj with e|e;exact bG j e;omega
      refine Ll 12 O (Ni O) aj$ qE ?_;rw[show 0+k+1+(s.length-k)=(insL v s).length by rw[UG,List.length_append,List.length_cons,js,tM];omega,show([]++List.take k (s.map LO)++[LO v]++List.drop k (s.map LO))=(insL v s).map LO by rw[UG];simp[List.map_take,List.map_drop]] at bL;obtain⟨ra,rc,rfl,-⟩:=bL.rd.shape
      have nM:(insL v s).length<=rc:=by
       rcases bL.shape with⟨e1,e2⟩|⟨gg,cc,e1,e2⟩
       ·omega
       ·cases e1;exact e2
      refine Lh Tryz.func84 O ?_;exact⟨_,rfl,ra,rc,rfl,nM,bL.rd,λb hb=> .inr (cL b hb),aj⟩
    ·refine NY (i:=6) O O O (RN (cs:=[_]) (zs:=[Value.int .u32 0]) LI Lz O (by kernel_rfl) O O O (by decide)) ?_;rintro v16 w16 ⟨b16,rfl,⟨nK,aO,gj⟩,bq⟩;refine⟨aj.trans aO,?_⟩;have nL:w4.heap.size<=b16:=by omega
     have aj:=aj.trans aO
     try have eK:=eK.ext aO
     try have bh:=bh.ext aO
     have lb16:=gj.lt;have bu:=Nat.le_trans bu aO.size;refine qO 0$ NY (i:=0) O O O (RN (cs:=[]) (zs:=[]) LI Lz O (by kernel_rfl) O O O (by decide)) ?_;rintro v6 w6 ⟨b6,rfl,⟨m7,aK,aR⟩,eK⟩;refine⟨aj.trans aK,?_⟩;have ye:w4.heap.size<=b6:=by omega
     have lb6:=aR.lt;have aj:=aj.trans aK
     try have bq:=bq.ext aK
     have bu:=Nat.le_trans bu aK.size;refine qO 4$ NY (i:=4) O O O (pap LI Lz O (by decide) O O eK ((P6 (i:=k) hr hk).ext aj) (λc hc=>dh s c (List.mem_of_mem_take hc)) (by omega) (by omega)) ?_;rintro v10 w10 ⟨bh,ar,ba,-⟩;refine⟨aj.It ar (λj e=>by have e:b6=j:=ML e;omega),?_⟩;have aj:=aj.It ar (λj e=>by have e:b6=j:=ML e;omega)
     try have bq:=bq.kp ar (λj hj e=>by have e:b6=j:=ML e;have hj:b16=j:=ML hj;omega)
     have ba:∀j,v10.ownBlock=some j->w4.heap.size<=j:=λj hj=>by rcases ba j hj with e|e;(have e:b6=j:=ML e;omega);omega
     have bu:=Nat.le_trans bu ar.size;have nJ:=λ(j:Nat) (hj:v10.ownBlock=some j)=>bh.lt hj;refine qO 7$ NY (i:=7) O O O (pap LI Lz O (by decide) O O bh bq.rd (λc hc=>dh [v] c hc) (by omega) (by omega)) ?_;rintro v17 w17 ⟨eg,cj,bG,-⟩;refine⟨aj.It cj (λj e=>ba j e),?_⟩;have aj:=aj.It cj (λj e=>ba j e);have bG:∀j,v17.ownBlock=some j->w4.heap.size<=j:=λj hj=>by rcases bG j hj with e|e;exact ba j e;omega
     have bu:=Nat.le_trans bu cj.size;refine qO 11$ NY (i:=11) O O O (pap LI Lz O (by decide) O O eg ((Of (i:=k) hr hk gE).ext aj) (λc hc=>dh s c (List.mem_of_mem_drop hc)) (by omega) (by omega)) ?_;rintro v21 w21 ⟨bL,dI,cL,-⟩;refine⟨aj.It dI (λj e=>bG j e),?_⟩;have aj:=aj.It dI (λj e=>bG j e);have cL:∀j,v21.ownBlock=some j->w4.heap.size<=j:=λj hj=>by rcases cL j hj with e|e;exact bG j e;omega
     refine Ll 12 O (Ni O) aj$ qE ?_;rw[show 0+k+1+(s.length-k)=(insL v s).length by rw[UG,List.length_append,List.length_cons,js,tM];omega,show([]++List.take k (s.map LO)++[LO v]++List.drop k (s.map LO))=(insL v s).map LO by rw[UG];simp[List.map_take,List.map_drop]] at bL;obtain⟨ra,rc,rfl,-⟩:=bL.rd.shape
     have nM:(insL v s).length<=rc:=by
      rcases bL.shape with⟨e1,e2⟩|⟨gg,cc,e1,e2⟩
      ·omega
      ·cases e1;exact e2
     refine Lh Tryz.func84 O ?_;exact⟨_,rfl,ra,rc,rfl,nM,bL.rd,λb hb=> .inr (cL b hb),aj⟩
  case iv=>
   refine Li O$ Lu O O$ Nd LI O ?_;by_cases od:k<s.length
   ·obtain⟨y,hy⟩:∃y,s[k]? =some y:=⟨_,List.getElem?_eq_getElem (by omega)⟩;obtain⟨lb,lo,rfl,pX⟩:=aZ hy;refine Mw O O$ Ns$ Lu O O$ Le O$ qV (M9 LI Lz O O (by omega))$ qV (LN Mx O O pX)$ Le O ?_;by_cases uw:y=v
    ·refine Nb O O$ Ns$ MU O O$ Lf ?_;exact(et _ _ ⟨true,rfl,⟨λ_=>by rw[hy,uw],λ_=>rfl⟩,rfl⟩).qb
    ·refine Nb O O$ M5$ MU O O$ Lf ?_;exact(et _ _ ⟨false,rfl,⟨λe=>(by cases e),λe=>by rw[hy] at e;exact absurd (ML e) uw⟩,rfl⟩).qb
   ·refine Mw O O$ M5$ Le O$ qS$ qS$ qS$ qS$ qS$ qS$ M8 O O$ Lf ?_;exact(et _ _ ⟨false,rfl,⟨λe=>(by cases e),λe=>by rw[List.getElem?_eq_none (by omega)] at e;cases e⟩,rfl⟩).qb
 case th=>
  refine Nj (α:=Nat) (0) (λk=>[(0,.slice a s.length c),(1,LO v),(5,I (k:Int))]) (λk w'=>k<=s.length/\(∀j y,j<k->s[j]? =some y->y<v)/\w'=w) (λk=>s.length-k) ?hI ?hround
  case hI=>exact⟨Nat.zero_le _,λj y hj=>absurd hj (Nat.not_lt_zero _),rfl⟩
  case hround=>
   rintro k w3 ⟨hk,gJ,rfl⟩ ih2
   try dsimp only
   refine run_seq$ qN O$ Lu O O$ Nd LI O ?_;by_cases jL:k<s.length
   ·obtain⟨y,hy⟩:∃y,s[k]? =some y:=⟨_,List.getElem?_eq_getElem jL⟩;obtain⟨lb,lo,rfl,pX⟩:=aZ hy;refine Mw O O$ Ns$ Lu O O$ Le O$ qV (M9 LI Lz O O (by omega))$ qV (LN Mx O O pX)$ Le O ?_;by_cases zO:y<v
    ·refine Mw O O$ Ns$ MU O O$ Lf$ Lr O$ py$ Lc$ Li O$ Le O$ Mb O O$ Lk O$ Ld ((ih2 (k+1) _ ⟨by omega,λj z hj hz=>?_,rfl⟩ (by omega)).qb);by_cases e:j=k
     ·subst e;rw[hy] at hz;cases hz;exact zO
     ·exact gJ j z (by omega) hz
    ·refine Mw O O$ M5$ MU O O$ Lf$ An O$ Ln O ?_;exact(jd _ _ ⟨k,rfl,hk,gJ,λz hz=>(by rw[hy] at hz;cases hz;omega),rfl⟩).qb
   ·refine Mw O O$ M5$ Le O$ qS$ qS$ qS$ qS$ qS$ qS$ M8 O O$ Lf$ An O$ Ln O ?_;exact(jd _ _ ⟨k,rfl,hk,gJ,λz hz=>(by rw[List.getElem?_eq_none (by omega)] at hz;cases hz),rfl⟩).qb
theorem z7j (n:Nat)(es:List (Nat×Nat)):(WO n es).length=n:=by
 have key:∀(l:List (Nat×Nat)) (g:List (List Nat)),(l.foldl Yj g).length=g.length:=λl=>by
  induction l with
  |nil=>exact λ_=>rfl
  |cons e l ih=>intro g;rw[List.foldl_cons,ih];unfold Yj;rw[List.length_set]
 unfold WO
 rw[key,List.length_replicate]
theorem ZR {x:Nat}:∀{l:List Nat},(insL x l).length<=l.length+1
 |[]=>Nat.le_refl _
 | y :: l => by
   unfold insL;have:=ZR (x:=x) (l:=l);split
   ·exact Nat.le_refl _
   ·split<;>simp<;>omega
theorem z4d {w:World}{n:Nat}(cT:1<=n)(hn:n<=60){ea:Option Addr}{ec:Nat}{es:List (Nat×Nat)}(oh:es.length<=100000)(hb:∀e∈es,e.1<n/\e.2<n)(hE:EdR w ea es):LP Tryz.prog 51 [I (n:Int),.slice ea es.length ec] w λv w'=>∃bg,v= .tuple #[.slice (some ⟨bg,0,none⟩) n n,I 0]/\UO w' bg w.heap.size (WO n es)/\Ext w w':=by
 have ev:maxLen=9223372036854775807:=rfl
 refine Lb (e:=[(0,_),(1,_)]) Tryz.func51 O Tryz.ntmps51 O O$ qN O$ Lw O$ Lk O$ run_seq$ qN O$ Le O$ Mw O O$ M5$ Lu O O$ MH O O$ M5$ M8 O O$ Lf ?_
 refine An O$ py$ qN O$ Le O$ Lm O O (pmk (c:=n) (n:=n) Qq O2 O O O (by omega) (by omega) (by omega)) ?_
 rintro _ w1 ⟨bg,rfl,⟨FN,ad,ai⟩,-⟩
 have kr:UO w1 bg w.heap.size (List.replicate n []):=UO.new ai
 refine Lk O$ run_seq$ qN O$ Lk O$ Lc$ Nj (α:=Nat) (0) (λi=>[(0,I (n:Int)),(1,.slice ea es.length ec),(6,.slice (some ⟨bg,0,none⟩) n n),(7,I (i:Int))]) (λi w'=>i<=es.length/\UO w' bg w.heap.size (WO n (es.take i))/\(∀v,(Lo (WO n (es.take i)) v).length<=i)/\Ext w w') (λi=>es.length-i) ?hI ?hround
 case hI=>exact⟨Nat.zero_le _,kr,λv=>by
  rw[List.take_zero];show(Lo (List.replicate n []) v).length<=0;unfold Lo;rw[List.getElem?_replicate]
  split<;>exact Nat.le_refl _,ad⟩
 case hround=>
  rintro i w2 ⟨hi,cH,u5,ag⟩ ih
  try dsimp only
  refine run_seq$ qN O$ Lu O O$ Nd XN O$ Mw O O$ Lf$ Lp O (λhq=>?_)$ λhq=>?_
  ·have cE:i<es.length:=by omega
   obtain⟨e,he⟩:∃e,es[i]? =some e:=⟨_,List.getElem?_eq_getElem cE⟩;obtain⟨b1,b2⟩:=hb e (List.mem_of_getElem? he);obtain⟨e1,e2,eb,eo,rfl,dv,dM⟩:=(hE.ext ag) i e he
   have dW:WO n (es.take (i+1))=Yj (WO n (es.take i)) e:=by
    unfold WO;rw[M4 he,List.foldl_append];rfl
   obtain⟨g,hg⟩:∃g,WO n (es.take i)=g:=⟨_,rfl⟩;have dS:g.length=n:=by rw[<-hg];exact z7j _ _
   rw[hg] at cH u5 dW
   have JX:g[e.1]? =some (Lo g e.1):=by
    unfold Lo;rw[List.getElem?_eq_getElem (by omega)];rfl
   obtain⟨a,c,fB,gE,dO,DJ⟩:=cH.cell JX;have Eo:=u5 e.1;obtain⟨s,hs⟩:∃s,Lo g e.1=s:=⟨_,rfl⟩;rw[hs] at fB gE dO DJ Eo;refine py$ run_seq$ Lc$ run_seq$ qN O$ Lu O O$ qV (M9 XN PC O O (by omega))$ Lt SG O$ qV (LN Mx O O dv)$ qV (M3 O Mx U2 (by omega))$ Le O$ Pa O O$ M5$ Lu O O ?_;refine Le O$ qV (M9 XN PC O O (by omega))$ Lt Re O$ qV (LN Mx O O dM)$ qV (M3 O Mx U2 (by omega))$ Le O$ Pa O O$ M5$ M8 O O$ Lf$ An O$ py ?_;have aj:=Ext.LC w2;obtain⟨vs,nI,jW,-⟩:=id cH.ex;have DM:=cH.lt;have z2:=ag.size;refine LH [21] (λw'=>Ext w2 w') (by kernel_rfl) O$ qL [20,21] 0 O (λ_ h=>M0 O) aj$ qL [3,4,5,20,21] 1 O (λ_ h=>M0 O) aj$ qL [3,4,5,20,21] 2 O (λ_ h=>M0 O) aj$ qL [4,5,20,21] 3 O (λ_ h=>M9 XN PC O O (by omega)) aj$ qL [5,20,21] 4 O (λ_ h=>LV SG O) aj$ qL [12,13,19,20,21] 6 O (λ_ h=>M0 O) aj$ qL [9,10,11,12,13,19,20,21] 7 O (λ_ h=>M0 O) aj$ qL [9,10,11,12,13,19,20,21] 8 O (λ_ h=>M0 O) aj$ qL [10,11,12,13,19,20,21] 9 O (λ_ h=>M9 XN PC O O (by omega)) aj$ qL [11,12,13,19,20,21] 10 O (λ_ h=>LV SG O) aj$ qL [16,17,18,19,20,21] 14 O (λ_ h=>M0 O) aj$ qL [16,17,18,19,20,21] 15 O (λ_ h=>M0 O) aj$ qL [17,18,19,20,21] 16 O (λ_ h=>M9 XN PC O O (by omega)) aj ?_;refine qL [18,19,20,21] 17 O (λ_ h=>LV Re O) aj$ qL [20,21] 5 O (λ_ h=>LN Mx O O (LQ h dv)) aj$ qL [12,13,19,20,21] 11 O (λ_ h=>LN Mx O O (LQ h dv)) aj$ qL [19,20,21] 18 O (λ_ h=>LN Mx O O (LQ h dM)) aj$ qL [13,19,20,21] 12 O (λ_ h=>M9 Qq O2 O O (by omega)) aj$ qL [19,20,21] 13 O (λ_ h=>LN LI O O (LQ h fB)) aj$ N4 (i:=19) (by kernel_rfl)$ ND (i:=19) O O O (yc zeR O) (z83 (by omega) gE (dO.ext aj)) ?_;rintro _ w3 ⟨a',c',rfl,Ep,Eq,Er,ah⟩;refine⟨aj.trans ah,?_⟩;have ae:=aj.trans ah;have zg:=aj.size;have gl:=ae.Lg nI;refine qL [21] 20 O (λ_ h=>M9 Qq O2 O O (by omega)) (aj.trans ah)$ OY [21]$ qO 21$ M1 (i:=21) O O (MY O2 O O O gl (by rw[jW];omega)) ?_;rintro w4 ⟨aF,av⟩;refine⟨trivial,?_⟩
   have fE:=(cH.ext ae).set av (f:=e.1) (l:=insL e.2 s) (a:=a') (c:=c') (λvs' h'=>by rw[Lq.uniq h' gl];exact aF) (by omega) Ep Eq (λj hj=>by
    rcases Er j hj with e| e
    ·exact DJ j e
    ·omega)
   refine qE$ Ld$ Li O$ Le O$ Mb O O$ Lk O ((ih (i+1) _ ⟨by omega,?_,λv=>?_,(ag.trans ae).It av (λj e=>by omega)⟩ (by omega)).qb)
   ·rw[dW];unfold Yj;rw[hs];exact fE
   ·rw[dW];unfold Yj;rw[UU (by omega),hs];have:=u5 v;have:=ZR (x:=e.2) (l:=s);split<;>omega
  ·have cE:i=es.length:=by omega
   subst cE;rw[List.take_length] at cH;refine Ln O$ qN O$ Le O$ Lw O$ Lk O$ Lh Tryz.func51 O ?_;exact⟨_,rfl,bg,rfl,cH,ag⟩
def edC (es:List (Nat×Nat)):List Value:=es.flatMap λe=>[LO e.1,LO e.2]
theorem z3x:∀{es:List (Nat×Nat)} {i:Nat} {e:Nat×Nat},es[i]? =some e->(edC es)[i*2+0]? =some (LO e.1)/\(edC es)[i*2+1]? =some (LO e.2)
 |x::es,0,e,h=>by cases h;exact⟨rfl,rfl⟩
 | x :: es, i + 1, e, h => by
   obtain⟨h1,h2⟩:=z3x (es:=es) (i:=i) (e:=e) (by simpa using h);unfold edC at h1 h2⊢;rw[List.flatMap_cons,List.getElem?_append_right (by simp;omega),List.getElem?_append_right (by simp;omega)];simp only[List.length_cons,List.length_nil];rw[show(i+1)*2+0-(0+1+1)=i*2+0 by omega,show(i+1)*2+1-(0+1+1)=i*2+1 by omega];exact⟨h1,h2⟩
theorem z4l {w:World}{v:Value}{T:TypeId}{es:List (Nat×Nat)}(h:Sl w v T 2 es.length (edC es))(hb:∀e∈es,e.1<4294967296/\e.2<4294967296):∃ea ec,v= .slice ea es.length ec/\EdR w ea es:=by
 obtain⟨a,c,rfl,-⟩:=h.rd.shape
 refine⟨a,c,rfl,λi e he=>?_⟩
 obtain⟨b1,b2⟩:=hb e (List.mem_of_getElem? he)
 have cE:i<es.length:=by
  rcases Nat.lt_or_ge i es.length with h| h
  ·exact h
  ·rw[List.getElem?_eq_none h] at he;cases he
 obtain⟨g1,g2⟩:=z3x he
 rcases h.rd.2 with⟨⟨ca,cc⟩,fd,pE⟩|⟨lb,lo,cap,fd,dt⟩
 ·omega
 cases fd
 exact⟨b1,b2,lb,lo,rfl,by rw[Nat.add_assoc];exact dt _ _ g1,by rw[Nat.add_assoc];exact dt _ _ g2⟩
def z3G (u x:Nat):List (Nat×Nat):=if x=u then [] else [(x,u),(u,x)]
def Qi (g:List (List Nat))(u i:Nat):List (Nat×Nat):=((List.range u).flatMap λu=>(Lo g u).flatMap (z3G u))++((Lo g u).take i).flatMap (z3G u)
theorem z1U (g:List (List Nat))(u:Nat):Qi g u (Lo g u).length=Qi g (u+1) 0:=by
 unfold Qi
 rw[List.take_length,List.range_succ,List.flatMap_append,List.take_zero]
 simp
theorem z1l {g:List (List Nat)}{u i x:Nat}(h:(Lo g u)[i]? =some x):Qi g u (i+1)=Qi g u i++z3G u x:=by
 unfold Qi
 rw[M4 h,List.flatMap_append,List.append_assoc]
 simp
theorem z3Y (g:List (List Nat)):Qi g g.length 0=z0f g:=by
 unfold Qi z0f z3G
 simp
theorem z8e (a b:List (Nat×Nat)):edC (a++b)=edC a++edC b:=List.flatMap_append ..
theorem z8o {g:List (List Nat)}(aw:Nu g)(aJ:1<=g.length){w:World}{gb go gc:Nat}(hg:GrR w gb go g):LP Tryz.prog 26 [.slice (some ⟨gb,go,none⟩) g.length gc] w λv w'=>∃bg,v= .slice (some ⟨bg,0,none⟩) g.length g.length/\UO w' bg w.heap.size (z6T g)/\Ext w w':=by
 have ev:maxLen=9223372036854775807:=rfl
 have hn:=aw.n
 refine Lb (e:=[(0,_)]) Tryz.func26 O Tryz.ntmps26 O O$ qN O$ Lw O$ qM O$ Lk O$ run_seq$ qN O$ Lk O$ Lc$ Nj (α:=Nat×Value) ((0,.slice none 0 0)) (λy=>[(0,.slice (some ⟨gb,go,none⟩) g.length gc),(3,y.2),(4,I (y.1:Int))]) (λy w'=>y.1<=g.length/\(Qi g y.1 0).length<=200*y.1/\Sl w' y.2 113 2 (Qi g y.1 0).length (edC (Qi g y.1 0))/\(∀b,y.2.ownBlock=some b->w.heap.size<=b)/\Ext w w') (λy=>g.length-y.1) ?hI ?hround
 case hI=>exact⟨Nat.zero_le _,Nat.le_refl _,Sl.nil _ _ _,λb hb=>(by cases hb),Ext.refl _⟩
 case hround =>
  rintro⟨u,v⟩ w2 ⟨hu,gy,cG,pM,ag⟩ ih;dsimp only at hu gy cG pM ih⊢
  try dsimp only
  refine run_seq$ qN O$ Lu O O$ Nd Qq O$ Mw O O$ Lf$ Lp O (λhq=>?_)$ λhq=>?_
  ·have oy:u<g.length:=by omega
   have dS:g[u]? =some (Lo g u):=by unfold Lo;rw[List.getElem?_eq_getElem oy];rfl
   have fm:(Lo g u).length<=g.length:=aw.len (List.mem_of_getElem? dS);refine py$ run_seq$ Lc$ qN O$ Lk O$ Lc$ Nj (α:=Nat×Value) ((0,v)) (λy=>[(0,.slice (some ⟨gb,go,none⟩) g.length gc),(3,y.2),(4,I (u:Int)),(5,I (y.1:Int))]) (λy w'=>y.1<=(Lo g u).length/\(Qi g u y.1).length<=200*u+2*y.1/\Sl w' y.2 113 2 (Qi g u y.1).length (edC (Qi g u y.1))/\(∀b,y.2.ownBlock=some b->w.heap.size<=b)/\Ext w w') (λy=>(Lo g u).length-y.1) ?hI ?hround
   case hI=>exact⟨Nat.zero_le _,gy,cG,pM,ag⟩
   case hround=>
    rintro⟨i,v3⟩ w3 ⟨hi,jZ,cC,gO,ah⟩ ih2;dsimp only at hi jZ cC gO ih2⊢;obtain⟨a,c,dv,dM⟩:=hg u _ dS;have ae:=Ext.LC w3
    try dsimp only
    refine run_seq$ qN O$ Lu O O$ Le O$ qV (M9 Qq O2 O O (by omega))$ qV (LN LI O O (LQ ah dv))$ Nd LI O$ Mw O O$ Lf$ Lp O (λeC=>?_)$ λeC=>?_
    ·obtain⟨x,hx⟩:∃x,(Lo g u)[i]? =some x:=⟨_,List.getElem?_eq_getElem (by omega)⟩;obtain⟨lb,lo,rfl,kT⟩:=dM i x hx;have iF:x<g.length:=NR aw u x (List.mem_of_getElem? hx);have eL:=z1l hx;refine py$ run_seq$ Lc$ qN O$ Lu O O$ qV (M9 Qq O2 O O (by omega))$ qV (LN LI O O (LQ ah dv))$ Le O$ qV (M9 LI Lz O O (by omega))$ qV (LN Mx O O (LQ ah kT))$ qV (M3 O Mx U3 (by omega))$ Le O ?_;by_cases Ge:x=u
     ·rw[show z3G u x=[] from if_pos Ge,List.append_nil] at eL;refine Mu O O$ M5$ Lf$ An O$ py$ Ld$ Li O$ Le O$ Mb O O$ Lk O ?_;exact(ih2 (i+1,v3) _ ⟨by omega,by rw[eL];omega,by rw[eL];exact cC,gO,ah⟩ (by omega)).qb
     ·rw[show z3G u x=[(x,u),(u,x)] from if_neg Ge] at eL;have z3:=ah.size;have oz:∀{w':World},Kp (λb=>v3.ownBlock=some b) w3 w'->Ext w w':=λhk=>ah.It hk (λb e=>gO b e);refine Mu O O$ Ns$ Lf$ Lr O$ N7 (λw'=>Kp (λb=>v3.ownBlock=some b) w3 w') O$ LA 0 O O (ae.kp)$ LA 1 O O (ae.kp)$ LA 2 O O (ae.kp)$ Ll 3 O (M9 Qq O2 O O (by omega)) (ae.kp)$ LA 5 O O (ae.kp)$ LA 8 O O (ae.kp)$ Ll 9 O (WA O U3 Mx) (ae.kp)$ LA 11 O O (ae.kp)$ Ll 12 O (WA O U3 Mx) (ae.kp) ?_;refine LA 13 O O (ae.kp)$ LA 14 O O (ae.kp)$ Ll 15 O (M9 Qq O2 O O (by omega)) (ae.kp)$ LA 17 O O (ae.kp)$ qT 4 O (λ_ h=>LN LI O O (LQ (oz h) dv)) (ae.kp)$ qT 16 O (λ_ h=>LN LI O O (LQ (oz h) dv)) (ae.kp)$ Ll 6 O (M9 LI Lz O O (by omega)) (ae.kp)$ Ll 18 O (M9 LI Lz O O (by omega)) (ae.kp)$ qT 7 O (λ_ h=>LN Mx O O (LQ (oz h) kT)) (ae.kp)$ qT 19 O (λ_ h=>LN Mx O O (LQ (oz h) kT)) (ae.kp)$ Ll 10 O (O6 (cs:=[_,_]) PC O z9M O O) (ae.kp)$ Ll 20 O (O6 (cs:=[_,_]) PC O z9M O O) (ae.kp) ?_;rw[Nat.mod_eq_of_lt (show u<4294967296 by omega)];refine qO 21$ NY (i:=21) O O O (RN (cs:=[_,_,_,_]) (zs:=[Value.int .u32 0,Value.int .u32 0,Value.int .u32 0,Value.int .u32 0]) XN PC O (by kernel_rfl) O O O (by decide)) ?_;rintro v4 w4 ⟨b4,rfl,⟨gn,ay,aF⟩,dT⟩;refine⟨ae.kp.trans ay.kp,?_⟩;have cx:=ae.trans ay;refine qO 22$ NY (i:=22) O O O (pap XN PC O (by decide) O O (cC.ext cx) dT.rd (λc hc=>by obtain⟨z,-,rfl⟩:=List.mem_map.1 (show c∈[x,u,u,x].map LO from hc);rfl) (by omega) (by omega)) ?_;rintro v5 w5 ⟨fD,ak,oW,-⟩;refine⟨cx.kp.trans ak,?_⟩;have z34:=cx.size;refine Ll 23 O (Ni O) (cx.kp.trans ak)$ qE$ Ld$ Li O$ Le O$ Mb O O$ Lk O ((ih2 (i+1,v5) _ ⟨by omega,by rw[eL,List.length_append];show _+2<=_;omega,?_,λb hb=>?_,oz (cx.kp.trans ak)⟩ (by omega)).qb)
      ·rw[eL,List.length_append,z8e];exact fD
      ·rcases oW b hb with e| e
       ·exact gO b e
       ·omega
    ·have cE:i=(Lo g u).length:=by omega
     subst cE;rw[z1U] at jZ cC;refine Ln O$ Ld$ Li O$ Le O$ Mb O O$ Lk O ?_;exact(ih (u+1,v3) _ ⟨by show u+1<=g.length;omega,by show(Qi g (u+1) 0).length<=200*(u+1);omega,cC,gO,ah⟩ (by show g.length-(u+1)<g.length-u;omega)).qb
  ·have oy:u=g.length:=by omega
   subst oy;rw[z3Y] at gy cG
   have xo:∀e∈z0f g,e.1<g.length/\e.2<g.length:=λe he=>by
    have aV:∀{u x:Nat},x∈Lo g u->u<g.length:=fun {u x} hx=>by
     rcases Nat.lt_or_ge u g.length with e| e
     ·exact e
     ·unfold Lo at hx;rw[List.getElem?_eq_none e] at hx;cases hx
    obtain⟨a,b⟩:=e;obtain⟨-,h|h⟩:=(TO aw a b).1 he
    ·exact⟨aV h,NR aw a b h⟩
    ·exact⟨NR aw b a h,aV h⟩
   obtain⟨ea,ec,rfl,hE⟩:=z4l cG (λe he=>by have:=xo e he;omega);refine Ln O$ qN O$ Le O$ Nd Qq O$ Le O$ LD zeD O (z4d aJ (by omega) (by omega) xo hE) ?_;rintro _ w3 ⟨bg,rfl,kP,ah⟩;refine Le O$ Mp O O$ Mp O O$ Lw O$ Lw O$ qM O$ Le O$ Lk O$ Lh Tryz.func26 O (⟨_,rfl,bg,rfl,?_,ag.trans ah⟩);have z2:=ag.size;obtain⟨vs,h1,h2,h3⟩:=kP.ex
   exact⟨vs,h1,h2,λi l hl=>by
    obtain⟨a,c,g1,g2,g3,g4⟩:=h3 i l hl
    exact⟨a,c,g1,g2,g3,λb hb=>⟨by have:=(g4 b hb).1;omega,(g4 b hb).2⟩⟩⟩
theorem z4z {w:World}{n fr fo:Int}{pl:Bool}(hn: -9223372036854775808<=n/\n<=9223372036854775807){ea:Option Addr}{ec:Nat}{es:List (Nat×Nat)}(oh:es.length<=9000000000000000000)(hE:EdR w ea es):LP Tryz.prog 6 [.agg #[I n,.slice ea es.length ec,.bool pl,I fr,I fo]] w λv w'=>∃g bg,v= .slice (some ⟨bg,0,none⟩) g.length g.length/\1<=g.length/\g.length<=40/\Nu g/\(pl=false->Z7 g)/\UO w' bg w.heap.size g/\Ext w w':=by
 refine Lb (e:=[(0,_)]) Tryz.func6 O Tryz.ntmps6 O O$ qN O$ Lm O O (Nc O (cs:=[I n,.slice ea es.length ec,.bool pl,I fr,I fo]) O) ?_
 rintro _ w1 ⟨b1,rfl,bR,ad,ai⟩
 have aJ:=Ext.LC w1
 refine Lk O$ run_seq$ N7 (λw'=>Ext w1 w') O$ Ll 0 O (LV za2 O) aJ$ qT 1 O (λ_ h=>Lj U3 O O (h.Lg ai) O) aJ$ Ll 3 O (LV zas O) aJ$ qT 4 O (λ_ h=>Lj XN O O (h.Lg ai) O) aJ$ OA 2 O zfh O (Yh n hn _) ?_
 rintro _ w2 ⟨m,rfl,oq,en,rfl⟩
 refine⟨aJ,?_⟩
 refine OA 5 O zer O (z4T oq en oh ((hE.ext ad).ext aJ)) ?_
 rintro _ w2 ⟨g,bg,rfl,je,aw,cH,ag⟩
 refine⟨aJ.trans ag,?_⟩
 have aa:=aJ.trans ag
 have am:=aa.Lg ai
 have aG:=ad.trans aa
 have m5:=ad.size
 have m8:=aJ.size
 have Es:UO w2 bg w.heap.size g:=by
  obtain⟨vs,h1,h2,h3⟩:=cH.ex
  exact⟨vs,h1,h2,λi l hl=>by
   obtain⟨a,c,g1,g2,g3,g4⟩:=h3 i l hl
   exact⟨a,c,g1,g2,g3,λb hb=>⟨by have:=(g4 b hb).1;omega,(g4 b hb).2⟩⟩⟩
 cases pl with
 | true =>
   refine Ll 6 O (Ni O) (aJ.trans ag)$ qE$ run_seq$ qN O$ Lt z2d O$ qV (Lj U4 O O am O)$ Lf$ Lr O$ qN O$ Le O$ Lk O$ Lh Tryz.func6 O ?_
   exact⟨_,rfl,g,bg,rfl,by omega,by omega,aw,λe=>by(cases e),Es,aG⟩
 | false =>
   refine Ll 6 O (Ni O) (aJ.trans ag)$ qE$ run_seq$ qN O$ Lt z2d O$ qV (Lj U4 O O am O)$ Lf$ An O$ py$ qN O$ Le O ?_;obtain⟨gb,go,gc,iH,uj⟩:=cH.gr.r (by omega);cases iH;refine LD zfK O (z8o aw (by omega) uj) ?_;rintro _ w3 ⟨bs,rfl,kP,ah⟩;obtain⟨k1,k2,k3⟩:=z7Z aw;have z02:=aG.size;refine Lk O$ Lh Tryz.func6 O (⟨_,rfl,z6T g,bs,by rw[k3];rfl,by omega,by omega,k1,λ_=>k2,?_,aG.trans ah⟩);obtain⟨vs,h1,h2,h3⟩:=kP.ex
   exact⟨vs,h1,h2,λi l hl=>by
    obtain⟨a,c,g1,g2,g3,g4⟩:=h3 i l hl
    exact⟨a,c,g1,g2,g3,λb hb=>⟨by have:=(g4 b hb).1;omega,(g4 b hb).2⟩⟩⟩
theorem Ur {g:List (List Nat)}(hg:Nu g){s:PL}(h:CrJ g s)(hd:s.done=true)(hn:g.length<=40){v:Nat}(hv:v<g.length):QT s v<=g.length/\QT s v=Um s v/\∀k,QS g k v↔k<=QT s v:=by
 obtain⟨l,h1,h2,h3⟩:=h.value hg hd hv
 have e:pl=2147483648:=rfl
 have e2:QT s v=l:=by
  unfold QT;rw[h1];show(pl+l)%2147483648=l;omega
 refine⟨by omega,?_,λk=>by rw[h3,e2]⟩
 rw[e2]
 unfold Um
 rw[h1]
 simp
theorem z5b {g:List (List Nat)}(hg:Nu g){s:PL}(h:CrJ g s)(hd:s.done=true)(hn:g.length<=40){v:Nat}(hv:v<g.length):QT s v<=(Lo g v).countP (λu=>decide (QT s v<=QT s u)):=by
 have h1:=h.zfs hg hd hv
 rw[(Ur hg h hd hn hv).2.1]
 refine Nat.le_trans h1$ Nat.le_of_eq ?_
 exact List.countP_congr λu hu=>by rw[(Ur hg h hd hn (NR hg v u hu)).2.1]
theorem z00 {p:Nat->Bool}{l:List Nat}{i x:Nat}(h:l[i]? =some x):(l.take (i+1)).countP p=(l.take i).countP p+(if p x then 1 else 0):=by
 rw[M4 h,List.countP_append]
 simp[List.countP_cons]
theorem numbers_ret {w : World}(hG : Lq w 0 (Og .gamma) 260)(hU : Lq w 1 (Og .unary) 260)(n fr fo : Int)(plain : Bool)(hn : -9223372036854775808 <= n /\ n <= 9223372036854775807)(kw : -9223372036854775808 <= fr /\ fr <= 9223372036854775807)(yh : -9223372036854775808 <= fo /\ fo <= 9223372036854775807){ea : Option Addr}{ec : Nat}{es : List (Nat × Nat)}(oh : es.length <= 9000000000000000000)(hE : EdR w ea es) : LP Tryz.prog 3 [.agg #[I n, .slice ea es.length ec, .bool plain, I fr, I fo]] w λv w' => v = .bool true /\ Ext w w' := by
 have ev:maxLen=9223372036854775807:=rfl
 refine Lb (e:=[(0,_)]) Tryz.func3 O Tryz.ntmps3 O O$ qN O$ Lm O O (Nc O (cs:=[I n,.slice ea es.length ec,.bool plain,I fr,I fo]) O) ?_
 rintro _ wm ⟨bn,rfl,me,JY,iZ⟩
 refine Lw O$ qM O$ Lt z2d O$ Ls O (MY Rz O O O iZ (by simp)) ?_
 rintro wn ⟨oU,ud⟩
 replace oU:Lq wn bn [I n,.slice ea es.length ec,.bool false,I fr,I fo] 24:=oU
 have iF:Ext w wn:=JY.It ud λb e=>by omega
 refine qM O$ qV (LM (news:=[I n,.slice ea es.length ec,.bool false,I fr,I fo]) U24 O zfC O (oU.cells (n:=5) O) O)$ LD cf6 O (z4z hn oh (hE.ext iF)) ?_
 rintro _ w1 ⟨g,bg,rfl,aJ,iy,aw,JZ,kr,oF⟩
 have Et:Z7 g:=JZ O
 have ad:=iF.trans oF
 have yu:=oF.Lg oU
 have yv:=kr.gr
 refine Lw O$ qM O$ Le O$ Lt zaK O$ qV (Lj U3 O O yu O)$ Lt z9Z O$ qV (Lj U3 O O yu O)$ LD cf7 O (z3b aw aJ iy yv (ad.Lg hG) (ad.Lg hU) fr fo kw yh) ?_
 rintro _ w5 ⟨W,XX,rfl,hW,aX,fi⟩
 have bK:=ad.trans aX
 have z15:=aX.size
 have z5:=bK.size
 refine Le O$ Mp O O$ Mp O O$ Lm O O (NJ (cs:=[_,_,_,_,_]) Zd O) ?_
 rintro _ w6 ⟨b6,rfl,m7,aK,aR⟩
 have z6:=aK.size
 refine Ls O (M7 (news:=W.v) Zd O O O O aR (by simp)) ?_
 rintro w7 ⟨bJ,aC⟩
 have fF:Lq w7 b6 [ptr W.d 0,ptr W.Q.s 0,ptr W.G.k 0,ptr W.T.k 0,I ((200-W.a:Nat):Int)] 31:=bJ
 have l7:=bJ.lt
 have z7:=aC.size
 have gK:=hW.hg.lt
 have iz:=hW.hg.xk
 have i1:=gK _ iz.1
 have i2:=gK _ iz.2.1
 have i3:=gK _ iz.2.2.1
 have i4:=gK _ iz.2.2.2
 obtain⟨X,hX⟩:∃X:Nat->Prop,(λb=>(XX b/\b≠W.G.rb)\/b=b6)=X:=⟨_,rfl⟩
 have tq:Oq W.G W.Q W.txt W.K X w7:=by
  rw[<-hX];exact(hW.hg.grow aK (Y:=λb=>(XX b/\b≠W.G.rb)\/b=b6) (λj e=>e.imp id λe=>by have:=aR.lt;omega) (λj e=> .inl e)).own aC λj e=>by subst e;exact⟨.inr O,by omega,by omega,by omega,by omega⟩
 have tC:∀b,b<w1.heap.size->X b:=λb hb=>by rw[<-hX];exact .inl ⟨(fi b hb).1,(fi b hb).2.1⟩
 have ki:X b6:=by rw[<-hX];exact .inr O
 have aj:=hW.gg
 have dS:W.G.g.length=g.length:=by rw[aj]
 have ha:=hW.a
 have hL:=hW.L
 have JU:=hW.K
 have JV:=hW.gs
 have tF:=hW.ts
 have fI:=hW.pre
 refine Lw O$ qM O$ Lt z1Q O$ qV (Lj SJ O O fF O)$ Lt z5N O$ qV (Lj Zl O O fF O)$ LD cf8 O (XS tq (by omega) (by omega) fI (by omega) (by omega)) ?_
 rintro _ w9 ⟨rr,vb,txt9,rfl,ly,ew,h9,zU,aP⟩
 rw[aj] at h9
 obtain⟨Q,hQ⟩:∃Q,W.Q.MD (MZ W.Q.L W.a 1 true)=Q:=⟨_,rfl⟩
 obtain⟨Y,hY⟩:∃Y:Nat->Prop,(λb=>X b\/b=rr\/b=vb)=Y:=⟨_,rfl⟩
 rw[hQ,hY] at h9
 have kR:∀b,X b->Y b:=λb e=>by rw[<-hY];exact .inl e
 have La:Y rr/\Y vb:=by rw[<-hY];exact⟨.inr (.inl O),.inr (.inr O)⟩
 have z9:=aP.size
 have gH:Ext w1 w9:=((aX.trans aK).It aC λb e=>by omega).It aP λb e=>by
  rcases Nat.lt_or_ge b w1.heap.size with h| h
  ·exact absurd (tC b h) e
  ·exact h
 have Eu:w1.heap.size<=rr/\w1.heap.size<=vb/\b6≠rr/\b6≠vb:=by omega
 have cM:=aP.Lg fF (λe=>e ki)
 have K0:CrJ g (PL.new g):=CrJ.new aw aJ (by show g.length<2147483648;omega)
 have Ga:=ad.Lg hG
 have K4:=ad.Lg hU
 refine Le O$ Mp O O$ Mp O O$ Lw O$ Lk O$ LS.qb (e:=[(2,_),(3,_),(4,_),(5,_),(6,_),(7,_)]) ?_
 refine run_seq$ qN O$ Le O$ qV ((by first|exact Mh O|exact NL O)) ?_
 rw[show(!true)=false from rfl]
 refine Lu O O$ Mu O O$ M8 O O$ Lf$ An O$ py$ qN O$ Lk O$ run_seq$ qN O$ Lk O$ Lc$ Nl (λe' w'=>∃(s:PL),e'=[(3,.slice (some ⟨bg,0,none⟩) g.length g.length),(4,ptr b6 0),(6,ptr rr 0),(8,.bool true)]/\s.done=true/\CrJ g s/\(∃txt K,OZ RW W.G Q txt K Y rr vb W.a s w'/\K<=1000000)/\Ext w1 w'/\Lq w' b6 [ptr W.d 0,ptr W.Q.s 0,ptr W.G.k 0,ptr W.T.k 0,I ((200-W.a:Nat):Int)] 31) ?cD$ λcD=>?cQ
 case cD =>
  rintro e' w10 ⟨s,rfl,hd,hJ,⟨txt10,K10,dj,yw⟩,bC,dc⟩;have pz:=λv hv=>Ur aw hJ hd iy (v:=v) hv;have yx:=λv hv=>z5b aw hJ hd iy (v:=v) hv;have f9:s.xs.length=g.length:=hJ.i.num.len;have yO:=dj.run.lt;refine run_seq$ qN O$ Le O$ qV ((by first|exact Mh O|exact NL O)) ?_;rw[show(!true)=false from rfl];refine Lf$ An O$ py$ qN O$ Lk O$ run_seq$ qN O$ Lk O$ Lc$ Nj (α:=Nat×Value) ((0,.slice none 0 0)) (λy=>[(3,.slice (some ⟨bg,0,none⟩) g.length g.length),(4,ptr b6 0),(6,ptr rr 0),(12,y.2),(13,I (y.1:Int))]) (λy w'=>y.1<=g.length/\Sl w' y.2 3 1 y.1 (TY ((List.range y.1).map (QT s)))/\(∀b,y.2.ownBlock=some b->w10.heap.size<=b)/\(∃Z:Nat->Prop,(∀b,Y b->Z b)/\(∀b,y.2.ownBlock=some b->Z b)/\OZ RW W.G Q txt10 K10 Z rr vb W.a s w')/\Ext w1 w'/\w10.heap.size<=w'.heap.size/\Lq w' b6 [ptr W.d 0,ptr W.Q.s 0,ptr W.G.k 0,ptr W.T.k 0,I ((200-W.a:Nat):Int)] 31) (λy=>g.length-y.1) ?hI ?hround
  case hI=>exact⟨Nat.zero_le _,Sl.nil _ _ _,λb hb=>(by cases hb),⟨Y,λ_ e=>e,λb hb=>(by cases hb),dj⟩,bC,Nat.le_refl _,dc⟩
  case hround =>
   rintro⟨i,v⟩ w11 ⟨hi,jz,yz,⟨Z,ul,zW,ko⟩,aQ,AD,aH⟩ ih;dsimp only at hi jz yz zW ih⊢
   try dsimp only
   refine run_seq$ qN O$ Lu O O$ Nd Qq O$ Mw O O$ Lf$ Lp O (λhq=>?_)$ λhq=>?_
   ·have aT:i<g.length:=by omega
    obtain⟨v1,v2,v3⟩:=pz i aT;have my:=Va ko (i:Int);rw[z8r hd (by omega)] at my;refine py$ run_seq$ Lc$ qN O$ Lu O O$ LD zaB O (my) ?_;rintro _ w12 ⟨rfl,sd,aS⟩;have i5:=jz.kp aS (λb hb e=>e (.inl (zW b hb)));have bz:=aS.Lg aH (λe=>e (.inl (ul _ (kR _ ki))))
    have aA:Ext w1 w12:=aQ.It aS λb e=>by
     rcases Nat.lt_or_ge b w1.heap.size with h| h
     ·exact absurd (.inl (ul b (kR b (tC b h)))) e
     ·exact h
    have z12:=aS.size;refine Le O$ Mp O O$ Mp O O$ Lw O$ Lk O$ run_seq$ qN O$ Le O$ Mu O O$ Lu O O$ Le O$ Nd Qq O$ qV ((by first|exact Mc O U3 MP (by omega)|exact Ny O U3 MP)) ?_;refine MH O O$ M5$ M8 O O$ Lf$ An O$ py$ Li O$ Lu O O$ qV (M3 O MP U3 (by omega))$ Lm O O (RN (cs:=[_]) (zs:=[Value.int .i64 0]) N3 Md O (by kernel_rfl) O O O (by decide)) ?_;rintro _ w13 ⟨b13,rfl,⟨K5,aL,dp⟩,rZ⟩;refine Lm O O (pap N3 Md O (by decide) O O (i5.ext aL) rZ.rd (by intro c hc;simp at hc;subst hc;rfl) (by omega) (by omega)) ?_;rintro v14 w14 ⟨f7,ce,yA,-⟩;have z13:=aL.size;have z14:=ce.size
    have yB:Sl w14 v14 3 1 (i+1) (TY ((List.range (i+1)).map (QT s))):=by
     rw[List.range_succ,List.map_append];unfold TY at f7⊢;rw[List.map_append];exact f7
    have lR:=sd.g.lt
    have sM:=sd.grow aL (Y:=λb=>Z b\/v14.ownBlock=some b/\b<w13.heap.size) (λj hj=>by
     rcases hj with e|⟨e,e2⟩
     ·exact .inl e
     ·rcases yA j e with e3|e3
      ·exact .inl (zW j e3)
      ·omega) (λj e=> .inl e)
    have di:∀b,v.ownBlock=some b->w10.heap.size<=b:=yz;have lk:=lR _ sd.g.xk.1;have l10:=dj.g.lt;have lk10:=l10 _ dj.g.xk.1;have lx10:=l10 _ dj.g.xk.2.1;have l110:=l10 _ dj.g.xk.2.2.1;have l210:=l10 _ dj.g.xk.2.2.2;have lv10:=dj.vec.lt
    have CN:OZ RW W.G Q txt10 K10 (λb=>Z b\/v14.ownBlock=some b) rr vb W.a s w14:=sM.step ce (λj e=>⟨.inl (zW j e),by have:=di j e;omega,by have:=di j e;omega,by have:=di j e;omega,by have:=di j e;omega,by have:=di j e;omega,by have:=di j e;omega⟩) (λj e=>e.imp id And.left) (λj e=>by
     rcases e with e| e
     ·exact .inl (.inl e)
     ·rcases Nat.lt_or_ge j w13.heap.size with h| h
      ·exact .inl (.inr ⟨e,h⟩)
      ·exact .inr ⟨h,f7.lt e⟩)
    refine Lk O$ Ld$ Li O$ Le O$ Mb O O$ Lk O ?_
    exact(ih (i+1,v14) _ ⟨by show i+1<=g.length;omega,yB,λb hb=>by
     rcases yA b hb with e| e
     ·exact di b e
     ·omega,⟨_,λb e=> .inl (ul b e),λb e=> .inr e,CN⟩,(aA.trans aL).It ce (λb e=>by have:=di b e;have:=bC.size;omega),by omega,ce.Lg (aL.Lg bz) (λe=>by have:=di b6 e;have:=dc.lt;omega)⟩ (by show g.length-(i+1)<g.length-i;omega)).qb
   ·have aT : i = g.length := by omega
    subst aT;have dV:=jz.rd;obtain⟨va,vc,rfl,-⟩:=dV.shape
    obtain⟨vb2,vo,rfl,dt⟩:∃b o,va=some ⟨b,o,none⟩/\∀u,u<g.length->w11.cell? ⟨b,o+u*1,none⟩=some (I (QT s u:Int)):=by
     rcases dV.2 with⟨⟨ca,cc⟩,fd,pE⟩|⟨lb,lo,cap,fd,dt⟩
     ·omega
     cases fd;refine⟨lb,lo,rfl,λu hu=>dt (u*1) _ ?_⟩;rw[Nat.mul_one];exact TP (by rw[List.getElem?_map,List.getElem?_range hu];rfl)
    obtain⟨gb,go,gc,iH,uj⟩:=(yv.ext aQ).r aJ;cases iH;refine Ln O$ run_seq$ qN O$ Lk O$ Lc$ Nl (λe' w'=>e'=[(3,.slice (some ⟨bg,0,none⟩) g.length g.length),(4,ptr b6 0),(6,ptr rr 0),(12,.slice (some ⟨vb2,vo,none⟩) g.length vc)]/\Ext w11 w') ?e8$ λe8=>?eS
    case e8 =>
     rintro e' w12 ⟨rfl,aA⟩;refine run_seq$ qN O$ Lk O$ Lc$ Nl (λe' w'=>e'=[(3,.slice (some ⟨bg,0,none⟩) g.length g.length),(4,ptr b6 0),(6,ptr rr 0)]/\Ext w11 w') ?au$ λau=>?dz
     case au=>
      rintro e' w13 ⟨rfl,aL⟩;have sM:=ko.ext aL;have dp:=aL.Lg aH;have yC:=aQ.trans aL;have hg:=Ext.LC w13;have Gf:Q.L=MZ W.Q.L W.a 1 true:=by rw[<-hQ];rfl
      have uW:Q.s=W.Q.s/\Q.m=W.Q.m:=by rw[<-hQ];exact⟨rfl,rfl⟩
      have Gg:W.a+1<=W.Q.L.length:=by omega
      have rz:=z09 (sM.ext hg) fI.a2 (by rw[Gf,RX Gg,if_pos ⟨by omega,by omega⟩]);obtain⟨Q2,yT⟩:∃Q2,Q.MD (MZ Q.L W.a 1 false)=Q2:=⟨_,rfl⟩;have tD:Q2.L=W.Q.L:=by rw[<-yT];show MZ Q.L W.a 1 false=_;rw[Gf,z4v fI Gg]
      have tE:Q2.s=W.Q.s/\Q2.m=W.Q.m:=by rw[<-yT];exact uW
      rw[yT] at rz;have f7:∀{w14:World},Kp (λb=>¬Z b\/b=rr\/b=vb) w13.drew w14->Kp (λb=>¬Z b\/b=rr\/b=vb) w13 w14:=λhk=>hg.kp.trans hk;have bq:∀{w14 w16:World},Kp (λb=>¬Z b\/b=rr\/b=vb) w13.drew w14->Ext w14 w16->Kp (λb=>¬Z b\/b=rr\/b=vb) w13 w16:=λhk hx=>(f7 hk).trans hx.kp
      have Ev:∀{w14:World} {txt14:Int->Bytes} (h:Oq W.G Q2 txt14 K10 Z w14),LP Tryz.prog 13 [ptr W.Q.s 0] w14 λv w'=>v=ptr W.Q.m 0/\w'=w14:=λh=>by
       have:=h.sp.map;rw[tE.1,tE.2] at this;exact this
      have fh:∀{w14:World} {txt14:Int->Bytes} (h:Oq W.G Q2 txt14 K10 Z w14),LP Tryz.prog 14 [ptr W.Q.m 0] w14 λv w'=>v=I ((200-W.a:Nat):Int)/\Ext w14 w':=λh=>by
       have:=h.sp.room (by rw[tD];exact fI) (by rw[tD];omega);rw[tE.2,tD,hL] at this;exact this
      have pR:∀{w14:World},Kp (λb=>¬Z b\/b=rr\/b=vb) w13 w14->Ext w1 w14:=λhk=>yC.It hk λb e=>by
       rcases Nat.lt_or_ge b w1.heap.size with h| h
       ·rcases e with e|e| e
        ·exact absurd (ul b (kR b (tC b h))) e
        ·omega
        ·omega
       ·exact h
      refine run_seq$ N7 (λw'=>Kp (λb=>¬Z b\/b=rr\/b=vb) w13 w') O$ LA 0 O O (hg.kp)$ OA 1 O zfn O (rz) ?_;rintro _ w14 ⟨rfl,txt14,yD,-,K6,ce⟩;refine⟨f7 ce,?_⟩;refine Ll 2 O (Xu O O) (f7 ce)$ Pu$ LA 3 O O (f7 ce)$ Ll 4 O (LV z1Q O) (f7 ce)$ qT 5 O (λ_ hS=>Lj SJ O O (hS.Lg dp (λe=>e.elim (λe=>e (ul _ (kR b6 ki))) (λe=>by omega))) O) (f7 ce) ?_;refine Ll 8 O (LV zal O) (f7 ce)$ qT 9 O (λ_ hS=>Lj U3 O O (hS.Lg dp (λe=>e.elim (λe=>e (ul _ (kR b6 ki))) (λe=>by omega))) O) (f7 ce) ?_;refine OA 6 O zeE O (Ev yD) ?_;rintro _ w15 ⟨rfl,rfl⟩;refine⟨f7 ce,?_⟩;refine OA 7 O zdI O (fh yD) ?_;rintro _ w16 ⟨rfl,aO⟩;refine⟨bq ce aO,?_⟩;refine Ll 10 O (Xu O O) (bq ce aO)$ Pu$ Ll 11 O (Qy O O) (bq ce aO)$ LA 12 O O (bq ce aO)$ OA 13 O zeZ O (ZQ ((pR (bq ce aO)).Lg Ga) ((pR (bq ce aO)).Lg K4)) ?_;rintro _ w17 ⟨rfl,ee⟩;refine⟨(bq ce aO).trans ee.kp,?_⟩;refine Ll 14 O (Qy O O) ((bq ce aO).trans ee.kp)$ Ll 15 O (Ni O) ((bq ce aO).trans ee.kp)$ qE$ Lh Tryz.func3 O ?_;exact⟨_,rfl,rfl,ad.trans ((pR (bq ce aO)).trans ee)⟩
     case dz =>
      refine Nj (α:=Nat) (0) (λv=>[(3,.slice (some ⟨bg,0,none⟩) g.length g.length),(4,ptr b6 0),(6,ptr rr 0),(12,.slice (some ⟨vb2,vo,none⟩) g.length vc),(19,I (v:Int))]) (λv w'=>v<=g.length/\Ext w11 w') (λv=>g.length-v) ?hI ?hround
      case hI=>exact⟨Nat.zero_le _,aA⟩
      case hround=>
       rintro v w13 ⟨hv,aL⟩ ih2
       try dsimp only
       refine run_seq$ qN O$ Lu O O$ Nd Qq O$ Mw O O$ Lf$ Lp O (λeC=>?_)$ λeC=>?_
       ·have di:v<g.length:=by omega
        have yE:g[v]? =some (Lo g v):=by unfold Lo;rw[List.getElem?_eq_getElem di];rfl
        have fm:(Lo g v).length<=g.length:=aw.len (List.mem_of_getElem? yE);obtain⟨a,c,dv,dM⟩:=uj v _ yE;refine py$ run_seq$ Lc$ qN O$ Lk O$ run_seq$ qN O$ Lk O$ Lc$ Nj (α:=Nat×Nat) ((0,0)) (λy=>[(3,.slice (some ⟨bg,0,none⟩) g.length g.length),(4,ptr b6 0),(6,ptr rr 0),(12,.slice (some ⟨vb2,vo,none⟩) g.length vc),(19,I (v:Int)),(20,I (y.2:Int)),(21,I (y.1:Int))]) (λy w'=>y.1<=(Lo g v).length/\y.2=((Lo g v).take y.1).countP (λu=>decide (QT s v<=QT s u))/\y.2<=y.1/\Ext w11 w') (λy=>(Lo g v).length-y.1) ?hI ?hround
        case hI=>exact⟨Nat.zero_le _,rfl,Nat.le_refl _,aL⟩
        case hround=>
         rintro⟨j,m⟩ w14 ⟨hj,hm,K7,bV⟩ ih3;dsimp only at hj hm K7 ih3⊢;have bM:=Ext.LC w14
         try dsimp only
         refine run_seq$ qN O$ Lu O O$ Le O$ qV (M9 Qq O2 O O (by omega))$ qV (LN LI O O (LQ bV dv))$ Nd LI O$ Mw O O$ Lf$ Lp O (λrK=>?_)$ λrK=>?_
         ·obtain⟨x,hx⟩:∃x,(Lo g v)[j]? =some x:=⟨_,List.getElem?_eq_getElem (by omega)⟩;obtain⟨lb,lo,rfl,kT⟩:=dM j x hx;have iF:x<g.length:=NR aw v x (List.mem_of_getElem? hx);have eL:=z00 (p:=λu=>decide (QT s v<=QT s u)) hx;refine py$ run_seq$ Lc$ run_seq$ N7 (λw'=>Ext w14 w') O$ LA 0 O O (bM)$ LA 1 O O (bM)$ LA 2 O O (bM)$ Ll 3 O (M9 Qq O2 O O (by omega)) bM$ LA 5 O O (bM)$ LA 10 O O (bM)$ LA 11 O O (bM)$ Ll 12 O (M9 N3 Md O O (by omega)) bM$ qT 4 O (λ_ h=>LN LI O O (LQ h (LQ bV dv))) bM ?_;refine Ll 6 O (M9 LI Lz O O (by omega)) bM$ qT 7 O (λ_ h=>LN Mx O O (LQ h (LQ bV kT))) bM$ Ll 8 O (M9 N3 Md O O (by omega)) bM$ qT 9 O (λ_ hS=>LN U3 O O (LQ hS (LQ bV (dt x iF)))) bM$ qT 13 O (λ_ hS=>LN U3 O O (LQ hS (LQ bV (dt v di)))) bM ?_;by_cases gA:QT s v<=QT s x
          ·rw[if_pos (by simpa using gA)] at eL;refine Ll 14 O (yge O O) bM$ Pu$ qE$ Lr O$ Li O$ Le O$ Mb O O$ Lk O$ Ld$ Li O$ Le O$ Mb O O$ Lk O ?_;exact(ih3 (j+1,m+1) _ ⟨by show j+1<=_;omega,by show m+1=_;rw[eL,hm],by show m+1<=j+1;omega,bV.trans bM⟩ (by show(Lo g v).length-(j+1)<(Lo g v).length-j;omega)).qb
          ·rw[if_neg (by simpa using gA)] at eL;refine Ll 14 O (yge O O) bM$ PU$ qE$ An O$ py$ Ld$ Li O$ Le O$ Mb O O$ Lk O ?_;exact(ih3 (j+1,m) _ ⟨by show j+1<=_;omega,by show m=_;rw[eL,hm];rfl,by show m<=j+1;omega,bV.trans bM⟩ (by show(Lo g v).length-(j+1)<(Lo g v).length-j;omega)).qb
         ·have vI:j=(Lo g v).length:=by omega
          subst vI;rw[List.take_length] at hm;have K8:=yx v di;rw[<-hm] at K8;refine Ln O$ qN O$ Lu O O$ Le O$ qV (M9 N3 Md O O (by omega))$ qV (LN U3 O O (LQ bV (dt v di)))$ Mw O O$ M5$ Lf$ An O$ py$ Ld$ Li O$ Le O ?_;refine Mb O O$ Lk O ?_;exact(ih2 (v+1) _ ⟨by omega,bV⟩ (by omega)).qb
       ·refine Ln O ?_;exact(au _ _ ⟨rfl,aL⟩).qb
    case eS =>
     refine Nj (α:=Nat) (0) (λk=>[(3,.slice (some ⟨bg,0,none⟩) g.length g.length),(4,ptr b6 0),(6,ptr rr 0),(12,.slice (some ⟨vb2,vo,none⟩) g.length vc),(16,I (k:Int))]) (λk w'=>k<=g.length+1/\Ext w11 w') (λk=>g.length+1-k) ?hI ?hround
     case hI=>exact⟨Nat.zero_le _,Ext.refl _⟩
     case hround =>
      rintro k w12 ⟨hk,aA⟩ ih2
      try dsimp only
      refine run_seq$ qN O$ Lu O O$ Nd Qq O$ zle O O$ Lf$ Lp O (λeC=>?_)$ λeC=>?_
      ·have ud:k<=g.length:=by omega
       have yF:=uj.ext aA;refine py$ run_seq$ Lc$ qN O$ Lu O O$ LD zf2 O (z5n aw yF (k:=k) (by omega)) ?_;rintro _ w13 ⟨bl,ls,rfl,tR,dN,Ka,eT,aL⟩;have nX:=aA.trans aL;refine Lw O$ qM O$ Lk O$ Lc$ Nj (α:=Nat) (0) (λv=>[(3,.slice (some ⟨bg,0,none⟩) g.length g.length),(4,ptr b6 0),(6,ptr rr 0),(12,.slice (some ⟨vb2,vo,none⟩) g.length vc),(16,I (k:Int)),(17,.slice (some ⟨bl,0,none⟩) g.length g.length),(18,I (v:Int))]) (λv w'=>v<=g.length/\Ext w13 w') (λv=>g.length-v) ?hI ?hround
       case hI=>exact⟨Nat.zero_le _,Ext.refl _⟩
       case hround=>
        rintro v w14 ⟨hv,bV⟩ ih3;have bM:=Ext.LC w14
        try dsimp only
        refine run_seq$ qN O$ Lu O O$ Nd Qq O$ Mw O O$ Lf$ Lp O (λrK=>?_)$ λrK=>?_
        ·have di:v<g.length:=by omega
         obtain⟨x,hx⟩:∃x,ls[v]? =some x:=⟨_,List.getElem?_eq_getElem (by omega)⟩
         have kT:w14.cell? ⟨bl,0+v*1,none⟩=some (I (x:Int)):=by
          rw[(bV.Lg tR).cell,Nat.zero_add,Nat.mul_one];exact TP hx
         have yG:(x:Int)=1↔(k:Int)<=(QT s v:Int):=by
          have h1:=Ka v;rw[(pz v di).2.2 k,hx] at h1;constructor
          ·intro e;have:x=1:=by omega
           have:=h1.1 (by rw[this]);omega
          ·intro e;have:=ML (h1.2 (by omega));omega
         have Ew:(!(decide ((x:Int)=1)==decide ((k:Int)<=(QT s v:Int))))=false:=by
          by_cases h:(x:Int)=1
          ·rw[decide_eq_true h,decide_eq_true (yG.1 h)];rfl
          ·rw[decide_eq_false h,decide_eq_false (λe=>h (yG.2 e))];rfl
         refine py$ run_seq$ Lc$ run_seq$ N7 (λw'=>Ext w14 w') O$ LA 0 O O (bM)$ LA 1 O O (bM)$ Ll 2 O (M9 N3 Md O O (by omega)) bM$ LA 5 O O (bM)$ LA 6 O O (bM)$ Ll 7 O (M9 N3 Md O O (by omega)) bM$ LA 9 O O (bM)$ qT 3 O (λ_ h=>LN U3 O O (LQ h kT)) bM$ qT 8 O (λ_ hS=>LN U3 O O (LQ hS (LQ (nX.trans bV) (dt v di)))) bM ?_;refine Ll 4 O (Xu O O) bM$ Ll 10 O (yge O O) bM$ Ll 11 O (z6q O O U4) bM ?_;rw[Ew];refine qE$ An O$ py$ Ld$ Li O$ Le O$ Mb O O$ Lk O ?_;exact(ih3 (v+1) _ ⟨by omega,bV.trans bM⟩ (by omega)).qb
        ·refine Ln O$ Ld$ Li O$ Le O$ Mb O O$ Lk O ?_;exact(ih2 (k+1) _ ⟨by omega,nX.trans bV⟩ (by omega)).qb
      ·refine Ln O ?_;exact(e8 _ _ ⟨rfl,aA⟩).qb
 case cQ=>
  refine Nj (α:=PL×Nat) ((PL.new g,0)) (λp=>[(3,.slice (some ⟨bg,0,none⟩) g.length g.length),(4,ptr b6 0),(6,ptr rr 0),(8,.bool p.1.done),(9,I (p.2:Int))]) (λp w'=>p.2=p.1.t/\CrJ g p.1/\(∃txt K,OZ RW W.G Q txt K Y rr vb W.a p.1 w'/\K<=1000+3300*p.1.t)/\Ext w1 w'/\Lq w' b6 [ptr W.d 0,ptr W.Q.s 0,ptr W.G.k 0,ptr W.T.k 0,I ((200-W.a:Nat):Int)] 31) (λp=>100-p.2) ?hI ?hround
  case hI=>exact⟨rfl,K0,⟨txt9,_,h9,by show W.K+50<=1000+3300*0;omega⟩,gH,cM⟩
  case hround=>
   rintro⟨s,i⟩ w10 ⟨hi,hJ,⟨txt10,K10,dj,yw⟩,bC,dc⟩ ih;dsimp only at hi hJ dj yw ih⊢;have tU:=hJ.i.bounds;subst hi
   try dsimp only
   by_cases hd:s.done=true
   ·rw[hd];refine run_seq$ qN O$ Lu O O$ Nd Qq O$ qV (T6 O O (by omega)) ?_;by_cases gA:s.t<=2*g.length
    ·refine zle O O$ Ns$ Lu O O$ qV ((by first|exact Mh O|exact NL O)) ?_;rw[show(!true)=false from rfl];refine MU O O$ Lf$ An O$ Ln O ?_;exact(cD _ _ ⟨s,rfl,hd,hJ,⟨txt10,K10,dj,by omega⟩,bC,dc⟩).qb
    ·refine zle O O$ M5$ Le O$ qS$ qS$ M8 O O$ Lf$ An O$ Ln O ?_;exact(cD _ _ ⟨s,rfl,hd,hJ,⟨txt10,K10,dj,by omega⟩,bC,dc⟩).qb
   ·have zX:s.done=false:=by cases e:s.done with
     |false=>rfl
     |true=>exact absurd e hd
    have eL:=hJ.i.zfu zX;rw[zX];refine run_seq$ qN O$ Lu O O$ Nd Qq O$ qV (T6 O O (by omega))$ zle O O$ Ns$ Lu O O$ qV ((by first|exact Mh O|exact NL O)) ?_;rw[show(!false)=true from rfl];refine MU O O$ Lf$ Lr O$ py$ run_seq$ Lc$ qN O$ Le O ?_;have s10:=Wt dj (by omega) (by omega) (by omega) zX;rw[aj] at s10;refine LD cf9 O (s10) ?_;rintro _ w11 ⟨rfl,txt11,ko,Kb,bA⟩;refine Le O$ Mp O O$ Mp O O$ Lw O$ Lk O$ run_seq$ qN O$ Le O$ Mu O O$ Lf$ An O$ py$ Li O$ Le O ?_;refine Lk O$ Ld$ Li O$ Le O$ Mb O O$ Lk O ?_
    have aQ:Ext w1 w11:=bC.It bA λb e=>by
     rcases Nat.lt_or_ge b w1.heap.size with h| h
     ·exact e.elim (λe=>absurd (kR b (tC b h)) e) (λe=>by omega)
     ·exact h
    exact(ih (s.step g,s.t+1) _ ⟨rfl,hJ.step aw Et (by show g.length<2147483648;omega) zX,⟨txt11,K10+3200,ko,by show K10+3200<=1000+3300*(s.t+1);omega⟩,aQ,bA.Lg dc (λe=>e.elim (λe=>e (kR b6 ki)) (λe=>Eu.2.2.1 e))⟩ (by show 100-(s.t+1)<100-s.t;omega)).qb
end Go.Proofs.YtfgjaafcgghnoaaGreatDoor
namespace Go.Proofs.YtfgjaafcgghnoaaGreatDoor
open Go Go.ChangeShapes Go.WideShapes Go.ChangeAt Go.RowKit
def UQ (P:Program)(ts:List TypeId):Bool:=ts.all λt=>P.readableRec t&&decide (t<P.types.size)
theorem SX {H:Type}{enc:TypeId×Value->H}{P:Program}(hl:laidOutB P=true){W W':World}(hb:Below W.heap.size W W'):
  ∀ {ts : List TypeId} {vs : List Value} {ds : List (DataW H)} {ps : List MemPlace}, UQ P ts = true -> DataW.TrodAll enc P W 0 (λ_ => true) true ts vs ds ps ->
    DataW.TrodAll enc P W' 0 (λb=>decide (b<W.heap.size)) true ts vs ds ps
 |[],[],[],_,_,h=>h
 | t :: ts, v :: vs, d :: ds, _, hr, h => by
   obtain⟨p,q,h1,h2,rfl⟩:=h;simp only[UQ,List.all_cons,Bool.and_eq_true,decide_eq_true_eq] at hr
   exact⟨p,q,Below.trod hl hr.1.1 hr.1.2 h1 hb (by obtain⟨m,hm⟩:=h1;exact DataW.trod_lt m _ _ _ hm),SX hl hb hr.2 h2,rfl⟩
 |[],[],_::_,_,_,h=>h.elim
 |[],_::_,_,_,_,h=>h.elim
 |_::_,[],_,_,_,h=>h.elim
 |_::_,_::_,[],_,_,h=>h.elim
theorem Vd {H:Type}{enc:TypeId×Value->H}{P:Program}{W:World}{base:Nat}{spare:Nat->Bool}{held:Bool}:
  ∀{ts:List TypeId} {vs:List Value} {ds:List (DataW H)} {ps:List MemPlace},DataW.TrodAll enc P W base spare held ts vs ds ps->ds.length=ts.length
 |[],[],[],_,_=>rfl
 | t :: ts, v :: vs, d :: ds, _, h => by
   obtain⟨p,q,h1,h2,rfl⟩:=h
   simpa using Vd h2
 |[],[],_::_,_,h=>h.elim
 |[],_::_,_,_,h=>h.elim
 |_::_,[],_,_,h=>h.elim
 |_::_,_::_,[],_,h=>h.elim
theorem own:ownKnob Tryz.prog.godebug=none:=by kernel_rfl
theorem laidOut:laidOutB Tryz.prog=true:=by kernel_rfl
end Go.Proofs.YtfgjaafcgghnoaaGreatDoor
namespace Go.Proofs.YtfgjaafcgghnoaaGreatDoor
open Go Go.ChangeShapes Go.WideShapes Go.ChangeAt Go.RowKit Go.Deep
section
variable {H:Type}{enc:TypeId×Value->H}{W:World}{sp:Nat->Bool}
theorem z6o (n:Int)(h:(Lit.int .u32 n).wf=true):Value.int .u32 n=LO n.toNat/\n.toNat<4294967296:=by
 simp[Lit.wf,IntKind.min,IntKind.max,IntKind.signed,IntKind.bits] at h
 exact⟨by unfold LO;congr;omega,by omega⟩
theorem i64_in (n:Int)(h:(Lit.int .i64 n).wf=true): -9223372036854775808<=n/\n<=9223372036854775807:=by
 simp[Lit.wf,IntKind.min,IntKind.max,IntKind.signed,IntKind.bits] at h;omega
theorem z4n {w:World}{b off:Nat}{spot:Option Nat}{v:Value}(h:w.cell? ⟨b,off,spot⟩=some v):spot=none:=by
 unfold World.cell? at h
 split at h
 ·cases spot with
  |none=>rfl
  |some s=>simp at h
 ·cases h
theorem z1N {fuel:Nat}{v:Value}{x:DataW H×List MemPlace}(h:DataW.trod enc Tryz.prog W 0 sp true fuel 22 [v]=some x)(hw:∀n∈x.1.weights Tryz.prog 22,n<=reachBytes):∃(ea:Option Addr) (ec:Nat) (es:List (Nat×Nat)),v= .slice ea es.length ec/\EdR W ea es/\es.length<=9000000000000000000:=by
 rcases open_slice_pairs XN zeM (by kernel_rfl) O O (by kernel_rfl) (by kernel_rfl) h with⟨hv,hx⟩|⟨a,len,cap,m,n,V0,V1,D0,D1,P0,P1,hv,-,hl,hm,zt,hx,nY⟩
 ·cases hv;exact⟨none,0,[],rfl,λi e he=>by simp at he,by simp⟩
 ·cases hv;have ev:maxLen=9223372036854775807:=rfl;have gZ:len<=m:=by rw[zt];split<;>omega
  have hk:∀i,i<len->∃e:Nat×Nat,e.1<4294967296/\e.2<4294967296/\W.cell? (a.add (i*2))=some (LO e.1)/\W.cell? (a.add (i*2+1))=some (LO e.2):=λi hi=>by
   obtain⟨c0,c1,h0,h1⟩:=nY i (by omega);obtain⟨n0,e0,-,f0⟩:=DataW.trod_int Mx h0;obtain⟨n1,e1,-,f1⟩:=DataW.trod_int Mx h1;have e0:V0 i= .int .u32 n0:=by simpa using e0
   have e1:V1 i= .int .u32 n1:=by simpa using e1
   obtain⟨q0,b0⟩:=z6o n0 f0;obtain⟨q1,b1⟩:=z6o n1 f1;exact⟨(n0.toNat,n1.toNat),b0,b1,by rw[c0,e0,q0],by rw[c1,e1,q1]⟩
  obtain⟨E,hE⟩:∃E:Nat->Nat×Nat,∀i,i<len->(E i).1<4294967296/\(E i).2<4294967296/\W.cell? (a.add (i*2))=some (LO (E i).1)/\W.cell? (a.add (i*2+1))=some (LO (E i).2):=
   choose_lt (α:=Nat×Nat) (n:=len) (p:=λi e=>e.1<4294967296/\e.2<4294967296/\W.cell? (a.add (i*2))=some (LO e.1)/\W.cell? (a.add (i*2+1))=some (LO e.2)) hk
  refine⟨some a,cap,(List.range len).map E,by simp,λi e he=>?_,?_⟩
  ·rw[List.getElem?_map] at he;rcases Nat.lt_or_ge i len with hi|hi
   ·rw[List.getElem?_range hi] at he;obtain rfl:=ML he;obtain⟨g1,g2,g3,g4⟩:=hE i hi;obtain⟨b,off,spot⟩:=a;have h3:=(hE 0 (by omega)).2.2.1;rw[Nat.zero_mul] at h3;simp only[Addr.add,if_true] at h3;obtain rfl:=z4n h3;rw[Ng] at g3 g4;exact⟨g1,g2,b,off,rfl,g3,by rw[Nat.add_assoc];exact g4⟩
   ·rw[List.getElem?_eq_none (by simpa using hi)] at he;cases he
  ·have ov:=hw ((len+(m-len))*8) (by rw[hx];simp[DataW.weights,XN,show Tryz.prog.bytesOf 113=8 by kernel_rfl]);simp[reachBytes] at ov;simp;omega
end
end Go.Proofs.YtfgjaafcgghnoaaGreatDoor
namespace Go.Proofs.YtfgjaafcgghnoaaGreatDoor
open Go Go.RowKit
end Go.Proofs.YtfgjaafcgghnoaaGreatDoor
namespace Go.Proofs.YtfgjaafcgghnoaaGreatDoor
open Go Go.ChangeShapes Go.WideShapes Go.ChangeAt Go.RowKit Go.Deep
section
variable {H:Type}{enc:TypeId×Value->H}{W:World}{sp:Nat->Bool}
theorem open_net {fuel:Nat}{cs:List Value}{x:DataW H×List MemPlace}(h:DataW.trod enc Tryz.prog W 0 sp true fuel 24 cs=some x)(hw:∀n∈x.1.weights Tryz.prog 24,n<=reachBytes):∃(n fr fo:Int) (pl:Bool) (ea:Option Addr) (ec:Nat) (es:List (Nat×Nat)),cs=[I n,.slice ea es.length ec,.bool pl,I fr,I fo]/\(-9223372036854775808<=n/\n<=9223372036854775807)/\(-9223372036854775808<=fr/\fr<=9223372036854775807)/\(-9223372036854775808<=fo/\fo<=9223372036854775807)/\EdR W ea es/\es.length<=9000000000000000000:=by
 obtain⟨xs,n,-,hx,hl,hlen,hf⟩:=DataW.trod_struct Tryz.underlying24 h
 rw[show Tryz.prog.cellsOf 24=5 by kernel_rfl] at hl
 match xs,hlen with
 |[y0,y1,y2,y3,y4],_=>
 match cs,hl with
 | [c0, c1, c2, c3, c4], _ =>
   have t0:=hf 0 _ O;have t1:=hf 1 _ O;have t2:=hf 2 _ O;have t3:=hf 3 _ O;have t4:=hf 4 _ O;simp only[show Tryz.prog.cellsOf 22=1 by kernel_rfl,show Tryz.prog.cellsOf 3=1 by kernel_rfl,show Tryz.prog.cellsOf 4=1 by kernel_rfl,List.drop,List.take,List.getElem?_cons_zero,List.getElem?_cons_succ] at t0 t1 t2 t3 t4;obtain⟨n0,e0,-,w0⟩:=DataW.trod_int Tryz.underlying3 t0;obtain⟨b2,e2,-,-⟩:=DataW.trod_bool Tryz.underlying4 t2;obtain⟨n3,e3,-,w3⟩:=DataW.trod_int Tryz.underlying3 t3;obtain⟨n4,e4,-,w4⟩:=DataW.trod_int Tryz.underlying3 t4;cases e0;cases e2;cases e3;cases e4
   obtain⟨ea,ec,es,e1,hE,hes⟩:=z1N t1 (λn hn=>hw n (by
    rw[hx];simp only[DataW.weights,Tryz.underlying24,DataW.weightsEach,List.map,List.mem_append]
    exact .inr (.inl hn)))
   subst e1;exact⟨n0,n3,n4,b2,ea,ec,es,rfl,i64_in _ w0,i64_in _ w3,i64_in _ w4,hE,hes⟩
end
end Go.Proofs.YtfgjaafcgghnoaaGreatDoor
namespace Go.Proofs.YtfgjaafcgghnoaaGreatDoor
open Go Go.ChangeShapes Go.WideShapes Go.ChangeAt Go.RowKit
theorem law_lifted_tied {H:Type}{enc:TypeId×Value->H}{C:Checked}{os:Os}{f:FuncId}{fn:Func}{s:ChangeSpec}{t:TypeId}{ts:List TypeId}{laid:List (String×DataW Unit)}
  (own:ownKnob C.prog.godebug=none) (started:os.Started) (hl:laidOutB C.prog=true) (noInit:C.prog.inits.idxOf? f=none) (hfn:C.prog.funcs[f]? =some fn)
  (hts:fn.params.toList=ts) (hrd:UQ C.prog ts=true) (hrt:fn.resultTypes=#[t]) (hb:C.prog.underlying t=some .bool) (hsv:s.vars=[])
  (hpl:(laid.all λx=>x.2.handleName?.isNone)=true)
  (hspec:∀ds:List (DataW H),ds.length=ts.length->s.fn H ds={results:=[.lit (.bool true)],args:=ds})
  (witness:∃(w:World) (tape:Tape) (i:Input),w.os=os/\(w.forCall tape i).Shaped C.prog/\i.vars=[]/\Input.okWide C.prog (w.forCall tape i) .any w.heap.size f i/\
   ((s.pre enc C.prog fn [] false (w.forCall tape i).memory i.args/\laidMetH C.prog laid (w.forCall tape i).memory)/\sizedMet enc C.prog fn (OpenSpec.ofChange s) false (w.forCall tape i).memory i.args)/\({}:Assume).holds C.prog (lone (Frame.enter C.prog f i.args .normal) [] (w.forCall tape i)))
  (hret:∀(W:World) (base:Nat) (args:List Value) (ds:List (DataW H)) (ps:List MemPlace),W.ShapedOpen C.prog->laidMet C.prog laid W->
   (∀(j:Nat) t v,ts[j]? =some t->args[j]? =some v->Value.okWide C.prog W .any base t v)->
   DataW.TrodAll enc C.prog W 0 (λ_=>true) true ts args ds ps->W.noneFrozen ps->
   (DataW.weightsEach C.prog ts ds).all (·<=reachBytes)=true->
   LP C.prog f args W λv w'=>v= .bool true/\Ext W w'):
  ReturnsInHanded {} C os f .any (λw args=>(s.pre enc C.prog fn [] false w args/\laidMetH C.prog laid w)/\sizedMet enc C.prog fn (OpenSpec.ofChange s) false w args) (s.post enc C.prog fn false true false false):=by
 refine returnsInHanded_of_calls own started noInit witness ?_
 intro w tape i _ hsh _ hok hpre hholds
 obtain⟨_,_,_,fn',hfn',_,_,_,_,hval⟩:=hok
 have e:fn'=fn:=Option.some.inj (hfn'.symm.trans hfn)
 subst e
 obtain⟨⟨⟨ds,gs,before,hw,hc⟩,hx⟩,hz⟩:=hpre
 have hW:=DataW.Whole.of_heap (w':=w.forCall tape i) (by rfl) hw
 have hW':=hW
 have hsz0:(DataW.weightsEach C.prog (fn'.params.toList++s.plain.varTypes C.prog) (ds++gs)).all (·<=reachBytes)=true:=hz.weights hw
 obtain⟨p,q,hA,hV,rfl,hfz,_⟩:=hW
 rw[hsv] at hV
 obtain⟨rfl,rfl⟩:=trodVars_none hV
 rw[hts] at hA
 have hlen:=Vd hA
 have hsz:(DataW.weightsEach C.prog ts ds).all (·<=reachBytes)=true:=by
  have hv:s.plain.varTypes C.prog=[]:=by simp[ChangeSpec.plain,DataSpec.varTypes,hsv]
  rw[hts,hv,List.append_nil,List.append_nil] at hsz0;exact hsz0
 have hL:laidMet C.prog laid (w.forCall tape i):=by
  rw[MakeChecks.laidMetH_plain _ _ _ hpl] at hx;exact hx.of_heap (by rfl)
 have hr:=hret _ w.heap.size i.args.toList ds p hsh hL (λj t v h1 h2=>hval j t v (by rw[<-hts] at h1;simpa using h1) (by simpa using h2)) hA (by rw[List.append_nil] at hfz;exact hfz) hsz
 unfold LP at hr;rw[Array.toArray_toList] at hr
 refine Calls.mono hr λx W' ⟨v,hx,hv,hext⟩=>?_
 subst hx;subst hv
 have bel:=hext.below
 refine ChangeSpec.post_blind ⟨ds,[],p++[],[],p,[],hW',?_,?_,?_,bel.frame _,λh=>by cases h⟩
 ·rw[List.append_nil,hspec ds hlen,hrt];exact trodAll_mk1 (shut_bool hb _)
 ·rw[List.append_nil,hspec ds hlen,hts];exact SX hl bel hrd hA
 ·rw[hsv,List.append_nil,hspec ds hlen]
  rfl
theorem pair_cells {P:Program}{W:World}{t fuel:Nat}{cs:Array Value}{f0 f1:Field}{ka kb:IntKind}{a b:Int}{p:List MemPlace}(hs:P.underlying t=some (.struct #[f0,f1]))(hc:P.cellsOf t=2)(o0:f0.offset=0)(o1:f1.offset=1)
  (c0:P.cellsOf f0.type=1) (c1:P.cellsOf f1.type=1) (u0:P.underlying f0.type=some (.int ka)) (u1:P.underlying f1.type=some (.int kb))
  (hd:DataW.trod (λ_=>()) P W 0 (λ_=>true) false fuel t cs.toList=some (.agg [.lit (.int ka a),.lit (.int kb b)],p)):cs.toList=[.int ka a,.int kb b]:=by
 obtain⟨y0,y1,n,hx,hl,h0,h1⟩:=trod_struct2 hs hd
 obtain⟨v0,e0,rfl,-⟩:=DataW.trod_int u0 h0
 obtain⟨v1,e1,rfl,-⟩:=DataW.trod_int u1 h1
 rw[hc] at hl
 rw[o0,c0] at e0
 rw[o1,c1] at e1
 simp at hx
 obtain⟨⟨rfl,rfl⟩,-⟩:=hx
 match hcs:cs.toList,hl with
 | [x, y], _ =>
   rw[hcs] at e0 e1;simp at e0 e1;rw[e0,e1]
theorem z2L {P:Program}{W:World}{n:String}{g T:Nat}{cs:Array Value}{l:List Value}(hW:W.ShapedOpen P)(hgs:g<P.globals.size)(hz:(((begin P (λ_ _=>0) default).world.heap[g]?).bind Obj.row?).map (·.2)=some T)(hg:P.globalNamed n=some g)(hv:W.var? P n=some cs)(hcs:cs.toList=l):Lq W g l T:=by
 cases hr:((begin P (λ_ _=>0) default).world.heap[g]?).bind Obj.row? with
 |none=>rw[hr] at hz;cases hz
 | some x =>
   obtain⟨z,t⟩:=x;rw[hr] at hz;obtain rfl:t=T:=Option.some.inj hz;obtain⟨c,hh,-,-⟩:=hW.1 g z t hgs hr;simp only[World.var?,hg,Option.bind_some,hh] at hv;have hc:c=cs:=by simpa using hv
   subst hc;refine⟨(0,0),by rw[hh,<-hcs],λi _ e=>by simp at e⟩
theorem laid_two {W:World}{laid:List (String×DataW Unit)}(hlaid:laid=[("wattle/list.gamma",.agg [.lit (.int .u8 1),.lit (.int .u64 0)]),("wattle/list.unary",.agg [.lit (.int .u8 0),.lit (.int .u64 0)])])(hW:W.ShapedOpen Tryz.prog)(h:laidMet Tryz.prog laid W):Lq W 0 [.int .u8 1,.int .u64 0] 260/\Lq W 1 [.int .u8 0,.int .u64 0] 260:=by
 subst hlaid
 obtain⟨ps,hL,-,hB⟩:=h
 obtain⟨g0,t0,cs0,fuel0,p0,q0,hg0,ht0,hv0,hd0,hL,hps⟩:=hL
 obtain⟨g1,t1,cs1,fuel1,p1,q1,hg1,ht1,hv1,hd1,hL,hqs⟩:=hL
 obtain rfl:=Option.some.inj ((show Tryz.prog.globalNamed "wattle/list.gamma"=some 0 by kernel_rfl).symm.trans hg0)
 obtain rfl:=Option.some.inj ((show Tryz.prog.globalNamed "wattle/list.unary"=some 1 by kernel_rfl).symm.trans hg1)
 obtain rfl:=Option.some.inj ((show(Tryz.prog.globals[0]?).map (·.type)=some 260 by kernel_rfl).symm.trans ht0)
 obtain rfl:=Option.some.inj ((show(Tryz.prog.globals[1]?).map (·.type)=some 260 by kernel_rfl).symm.trans ht1)
 have e0:=pair_cells Tryz.underlying260 (by kernel_rfl) O O (by kernel_rfl) (by kernel_rfl) Tryz.underlying5 Tryz.underlying41 hd0
 have e1:=pair_cells Tryz.underlying260 (by kernel_rfl) O O (by kernel_rfl) (by kernel_rfl) Tryz.underlying5 Tryz.underlying41 hd1
 have hgs:∀g:Nat,g<3->g<Tryz.prog.globals.size:=λg hg=>Nat.lt_of_lt_of_le hg (of_decide_eq_true (by kernel_rfl))
 exact⟨z2L hW (hgs 0 (by decide)) (by kernel_rfl) hg0 hv0 e0,z2L hW (hgs 1 (by decide)) (by kernel_rfl) hg1 hv1 e1⟩
noncomputable def limWorld (os:Os):World:=
 let w0:=World.holding Tryz.prog os ⟨#[],#[],[]⟩
 { w0 with heap := w0.heap.modify 0 fun
   | .cells _ t frozen=> .cells #[.int .u8 1,.int .u64 0] t frozen
   |o=>o}
end Go.Proofs.YtfgjaafcgghnoaaGreatDoor
