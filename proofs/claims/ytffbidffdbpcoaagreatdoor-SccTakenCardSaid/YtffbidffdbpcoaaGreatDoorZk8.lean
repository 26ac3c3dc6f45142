/- Merged by program. -/
import Derived.Test.YtffbidffdbpcoaaGreatDoorZk7
set_option linter.all false
set_option maxRecDepth 1000000
set_option maxHeartbeats 16000000
namespace Go.Proofs.YtffbidffdbpcoaaGreatDoor
open Go Go.RowKit Go.Proofs.Tryz
def WR (g:List (List Nat))(v i u:Nat):List Nat:=(List.range v).filter (λx=>decide (u∈Qe g x))++(if u∈(Qe g v).take i then [v] else [])
def W1 (g:List (List Nat))(v i:Nat):List (List Nat):=(List.range g.length).map (WR g v i)
def R0 (g:List (List Nat)):List (List Nat):=W1 g g.length 0
def z7n (g:List (List Nat))(v u:Nat):WR g v (Qe g v).length u=WR g (v+1) 0 u:=by
 unfold WR
 rw[List.take_length,List.range_succ,List.filter_append]
 by_cases h:u∈Qe g v<;>simp[h]
theorem UI (g:List (List Nat))(v i:Nat):(W1 g v i).length=g.length:=by simp[W1]
theorem WH (g:List (List Nat))(v i:Nat){u:Nat}(hu:u<g.length):(W1 g v i)[u]? =some (WR g v i u):=by
 unfold W1
 rw[List.getElem?_map,List.getElem?_range hu];rfl
def zb0 (g:List (List Nat))(v i u:Nat):(WR g v i u).length<=v+1:=by
 unfold WR
 have h1:=List.length_filter_le (λx=>decide (u∈Qe g x)) (List.range v)
 rw[List.length_range] at h1
 rw[List.length_append]
 split<;>simp<;>omega
theorem zaN {g:List (List Nat)}(az:Tl g){v i u:Nat}(hu:(Qe g v)[i]? =some u):(W1 g v i).set u (WR g v i u++[v])=W1 g v (i+1):=by
 have tB:=Zx az v u (List.mem_of_getElem? hu)
 have eY:u∉(Qe g v).take i:=λh=>by
  have gW:v<g.length:=by
   rcases Nat.lt_or_ge v g.length with h| h
   ·exact h
   ·unfold Qe at hu;rw[List.getElem?_eq_none h] at hu;cases hu
  have hr:List.Pairwise (·<·) (Qe g v):=by
   unfold Qe;rw[List.getElem?_eq_getElem gW];exact(az.ok _ (List.getElem_mem gW)).ris
  have h2:=QR hu;have h3:List.Pairwise (·<·) ((Qe g v).take (i+1)):=hr.sublist (List.take_sublist _ _);rw[h2,List.pairwise_append] at h3;have:=h3.2.2 u h u List.mem_cons_self;omega
 apply List.ext_getElem?
 intro x
 by_cases hx:u=x
 ·subst hx;rw[List.getElem?_set_self (by rw[UI];exact tB),WH _ _ _ tB]
  congr 1
  unfold WR;rw[if_neg eY,List.append_nil,QR hu,if_pos ξ]
 ·rw[List.getElem?_set_ne hx];by_cases kB:x<g.length
  ·rw[WH _ _ _ kB,WH _ _ _ kB]
   congr 1
   unfold WR
   congr 1
   rw[QR hu]
   have:x∈(Qe g v).take i++[u]↔x∈(Qe g v).take i:=by
    rw[List.mem_append,List.mem_singleton];exact⟨λe=>e.resolve_right λe=>hx e.symm,.inl⟩
   simp only[this]
  ·rw[List.getElem?_eq_none (by rw[UI];omega),List.getElem?_eq_none (by rw[UI];omega)]
theorem z0w (g:List (List Nat)){u:Nat}(hu:u<g.length):(R0 g)[u]? =some ((List.range g.length).filter λx=>decide (u∈Qe g x)):=by
 unfold R0
 rw[WH _ _ _ hu]
 unfold WR
 rw[List.take_zero,if_neg ξ,List.append_nil]
theorem Te (g:List (List Nat)):(R0 g).length=g.length:=UI _ _ _
def zcj {g:List (List Nat)}(h:Tl g):Tl (R0 g):=by
 have hl:=Te g
 have gM:∀l∈R0 g,∃u,l=(List.range g.length).filter λx=>decide (u∈Qe g x):=λl hm=>by
  obtain⟨u,hu⟩:=List.getElem?_of_mem hm
  have tB:u<g.length:=by
   rcases Nat.lt_or_ge u g.length with h| h
   ·exact h
   ·rw[List.getElem?_eq_none ω] at hu;cases hu
  rw[z0w g tB] at hu;exact⟨u,(SH hu).symm⟩
 have hn:=h.n
 refine⟨λl hm=>?_,λl hm y hy=>?_,ω⟩
 ·obtain⟨u,rfl⟩:=gM l hm;exact⟨(List.pairwise_lt_range).sublist List.filter_sublist,λy hy=>by have:=List.mem_range.1 (List.mem_filter.1 hy).1;omega⟩
 ·obtain⟨u,rfl⟩:=gM l hm;have:=List.mem_range.1 (List.mem_filter.1 hy).1;omega
structure RwA (w:World)(bg B:Nat)(L:List (List Nat)):Prop where
 ex:∃vs:List Value,Q7 w bg vs 62/\vs.length=L.length/\(∀(i:Nat) (l:List Nat),L[i]? =some l->∃v:Value,vs[i]? =some v/\Sl w v 59 1 l.length (l.map QJ)/\∀b,v.ownBlock=some b->B<=b/\b≠bg)/\∀(i j:Nat) (vi vj:Value) (b:Nat),i≠j->vs[i]? =some vi->vs[j]? =some vj->vi.ownBlock=some b->vj.ownBlock≠some b
section
variable {w w':World}{bg B:Nat}{L:List (List Nat)}
def RwA.new {n:Nat}(h:Q7 w bg (List.replicate n (.slice none 0 0)) 62):RwA w bg B (List.replicate n []):=by
 refine⟨_,h,ξ,λi l hl=>?_,λi j vi vj b _ hi _ hb=>?_⟩
 ·rw[List.getElem?_replicate] at hl;split at hl
  ·rename_i hi
   cases hl;exact⟨.slice none 0 0,by rw[List.getElem?_replicate,if_pos hi],Sl.nil w _ 1,λb hb=>by cases hb⟩
  ·cases hl
 ·have:=List.mem_of_getElem? hi;rw[List.eq_of_mem_replicate this] at hb;cases hb
theorem RwA.rw (h:RwA w bg B L):RwM w bg B L:=by
 obtain⟨vs,h1,h2,h3,h4⟩:=h.ex
 refine⟨vs,h1,h2,λi l hl=>?_⟩
 obtain⟨v,g1,g2,g3⟩:=h3 i l hl
 obtain⟨a,c,rfl,-⟩:=g2.rd.shape
 refine⟨a,c,g1,?_,g2.rd,g3⟩
 rcases g2.shape with⟨e1,e2⟩|⟨gg,cc,e1,e2⟩
 ·omega
 ·cases e1;exact e2
theorem RwA.put {w2:World}(h:RwA w bg B L){u:Nat}{l l':List Nat}{v v':Value}{vs:List Value}(rR:Q7 w bg vs 62)(hu:L[u]? =some l)(hv:vs[u]? =some v)(hk:Kp (λb=>v.ownBlock=some b) w w')(hS:Sl w' v' 59 1 l'.length (l'.map QJ))(ho:∀b,v'.ownBlock=some b->v.ownBlock=some b\/w.heap.size<=b)(am:Kp (λb=>b=bg) w' w2)(hB:Q7 w2 bg (vs.set (0+u*1) v') 62)(sy:B<=w.heap.size):RwA w2 bg B (L.set u l'):=by
 obtain⟨vs0,h1,h2,h3,h4⟩:=h.ex
 have e0:=h1.uniq rR
 subst e0
 rw[Nat.zero_add,Nat.mul_one] at hB
 obtain⟨v0,g1,g2,g3⟩:=h3 u l hu
 rw[hv] at g1
 cases g1
 have eP:=h1.lt
 have u5:u<L.length:=by
  rcases Nat.lt_or_ge u L.length with h| h
  ·exact h
  ·rw[List.getElem?_eq_none h] at hu;cases hu
 have BQ:∀b,v'.ownBlock=some b->B<=b/\b≠bg:=λb hb=>by
  rcases ho b hb with e| e
  ·exact g3 b e
  ·omega
 have aR:∀(j:Nat) (vj:Value) (b:Nat),vs0[j]? =some vj->vj.ownBlock=some b->b<w.heap.size:=λj vj b hj hb=>by
  obtain⟨lj,Nu⟩:∃lj,L[j]? =some lj:=⟨_,List.getElem?_eq_getElem (by
   rw[<-h2];rcases Nat.lt_or_ge j vs0.length with h| h
   ·exact h
   ·rw[List.getElem?_eq_none h] at hj;cases hj)⟩
  obtain⟨vj',k1,k2,-⟩:=h3 j lj Nu;rw[hj] at k1;cases k1;exact k2.lt hb
 refine⟨_,hB,by simp[h2],λi li hl=>?_,λi j vi vj b hH hi hj hb=>?_⟩
 ·by_cases e:u=i
  ·subst e;rw[List.getElem?_set_self u5] at hl;cases hl;exact⟨v',List.getElem?_set_self (by rw[h2];exact u5),hS.kp am (λb hb e=>(BQ b hb).2 e),BQ⟩
  ·rw[List.getElem?_set_ne e] at hl;obtain⟨vi,k1,k2,k3⟩:=h3 i li hl;exact⟨vi,by rw[List.getElem?_set_ne e];exact k1,(k2.kp hk (λb hb e2=>h4 u i v vi b e hv k1 e2 hb)).kp am (λb hb e=>(k3 b hb).2 e),k3⟩
 ·by_cases ei:u=i
  ·subst ei;rw[List.getElem?_set_self (by rw[h2];exact u5)] at hi;cases hi;rw[List.getElem?_set_ne hH] at hj;intro bO;rcases ho b hb with e| e
   ·exact h4 u j v vj b hH hv hj e bO
   ·have:=aR j vj b hj bO;omega
  ·rw[List.getElem?_set_ne ei] at hi;by_cases ej:u=j
   ·subst ej;rw[List.getElem?_set_self (by rw[h2];exact u5)] at hj;cases hj;intro bO;rcases ho b bO with e| e
    ·exact h4 i u vi v b hH hi hv hb e
    ·have:=aR i vi b hi hb;omega
   ·rw[List.getElem?_set_ne ej] at hj;exact h4 i j vi vj b hH hi hj hb
end
def z7S {g:List (List Nat)}(az:Tl g){w:World}{gb go gc:Nat}(hg:GrR w gb go g):Qu prog 12 [.slice (some ⟨gb,go,none⟩) g.length gc] w λv w'=>∃bt,v= .slice (some ⟨bt,0,none⟩) g.length g.length/\RwM w' bt w.heap.size (R0 g)/\Ext w w':=by
 have fF:maxLen=9223372036854775807:=rfl
 have hn:=az.n
 refine py (e:=[(0,_)]) func12 O ntmps12 O O$ qN O$ RZ O$ SR U23 O$ PY O O (pmk (c:=g.length) (n:=g.length) U23 Vz O O O ω ω ω) ?_
 rintro _ w1 ⟨bt,rfl,⟨qc,ad,ai⟩,-⟩
 have i3:RwA w1 bt w.heap.size (W1 g 0 0):=by
  have e:W1 g 0 0=List.replicate g.length []:=by
   apply List.ext_getElem<;>simp[W1,WR]
  rw[e];exact RwA.new ai
 refine Qc O$ An$ RN O$ PS$ SK (α:=Nat) (0) (λv=>[(0,.slice (some ⟨gb,go,none⟩) g.length gc),(3,.slice (some ⟨bt,0,none⟩) g.length g.length),(4,I (v:Int))]) (λv w'=>v<=g.length/\RwA w' bt w.heap.size (W1 g v 0)/\Ext w w') (λv=>g.length-v) ?hI ?hround
 case hI=>exact⟨Nat.zero_le _,i3,ad⟩
 case hround =>
  rintro v w2 ⟨hv,dc,ae⟩ ih
  try dsimp only
  refine An$ RI O$ SR U23 O$ RT O$ PQ$ Q8 O (λhq=>?_)$ λhq=>?_
  ·have gW:v<g.length:=by omega
   have gd:g[v]? =some (Qe g v):=by unfold Qe;rw[List.getElem?_eq_getElem gW];rfl
   have fU:(Qe g v).length<=g.length:=az.len (List.mem_of_getElem? gd);refine PR$ RP$ RN O$ PS$ SK (α:=Nat) (0) (λi=>[(0,.slice (some ⟨gb,go,none⟩) g.length gc),(3,.slice (some ⟨bt,0,none⟩) g.length g.length),(4,I (v:Int)),(5,I (i:Int))]) (λi w'=>i<=(Qe g v).length/\RwA w' bt w.heap.size (W1 g v i)/\Ext w w') (λi=>(Qe g v).length-i) ?hI ?hround
   case hI=>exact⟨Nat.zero_le _,dc,ae⟩
   case hround=>
    rintro i w3 ⟨hi,jo,ah⟩ ih2;obtain⟨a,c,gS,g7⟩:=hg v _ gd;have ag:=Ext.Qh w3
    try dsimp only
    refine An$ RI O$ Q4 O$ qV (Rh U23 Vz O O ω)$ qV (QF QE O O (Rw ah gS))$ SR QE O$ RT O$ PQ$ Q8 O (λi9=>?_)$ λi9=>?_
    ·obtain⟨u,hu⟩:∃u,(Qe g v)[i]? =some u:=⟨_,List.getElem?_eq_getElem ω⟩;obtain⟨lb,lo,rfl,JO⟩:=g7 i u hu;have tB:u<g.length:=Zx az v u (List.mem_of_getElem? hu);have JP:=WH g v i tB;have kM:=zb0 g v i u;obtain⟨vs,rR,rx,kD,GO⟩:=id jo.ex;obtain⟨vu,JQ,Nv,CC⟩:=kD u _ JP
     have Nw:∀{w':World},Kp (λb=>vu.ownBlock=some b) w3 w'->w'.cell? ⟨bt,0+u*1,none⟩=some vu:=λhk=>by
      rw[(hk.PN rR (λe=>(CC _ e).2 O)).cell,Nat.zero_add,Nat.mul_one];exact JQ
     have z3:=ah.size;refine PR$ RP ?_;have CD:∀{w':World},Kp (λb=>vu.ownBlock=some b) w3 w'->Ext w w':=λhk=>ah.It hk (λb e=>(CC b e).1);refine Qn [23] (λw'=>Kp (λb=>vu.ownBlock=some b) w3 w') (by kernel_rfl) O$ R1 0 O O (ag.kp)$ R1 1 O O (ag.kp)$ R1 2 O O (ag.kp)$ Qs 3 O (Rh U23 Vz O O ω) (ag.kp)$ R1 5 O O (ag.kp)$ R1 8 O O (ag.kp)$ R1 9 O O (ag.kp)$ R1 10 O O (ag.kp)$ Qs 11 O (Rh U23 Vz O O ω) (ag.kp)$ R1 13 O O (ag.kp)$ R1 18 O O (ag.kp)$ Qs 19 O (z3H O U3 RQ) (ag.kp)$ qL 4 O (λ_ h=>QF QE O O (Rw (CD h) gS)) (ag.kp) ?_;refine qL 12 O (λ_ h=>QF QE O O (Rw (CD h) gS)) (ag.kp)$ Qs 6 O (Rh QE Ql O O ω) (ag.kp)$ Qs 14 O (Rh QE Ql O O ω) (ag.kp)$ qL 7 O (λ_ h=>QF RQ O O (Rw (CD h) JO)) (ag.kp)$ qL 15 O (λ_ h=>QF RQ O O (Rw (CD h) JO)) (ag.kp)$ Qs 16 O (Rh U23 Vz O O ω) (ag.kp)$ qL 17 O (λ_ h=>QF QE O O (Nw h)) (ag.kp) ?_;rw[Nat.mod_eq_of_lt (show v<4294967296 by omega)];refine Sc (i:=20) (by kernel_rfl)$ Ru (i:=20) O O O (Zh (cs:=[_]) (zs:=[Value.int .u32 0]) QE Ql O (by kernel_rfl) O O O ψ) ?_;rintro v4 w4 ⟨b4,rfl,⟨eM,aC,aM⟩,eH⟩;refine⟨ag.kp.trans aC.kp,?_⟩;have dD:=ag.trans aC;refine Sc (i:=21) (by kernel_rfl)$ Ru (i:=21) O O O (pap QE Ql O ψ O O (Nv.ext dD) eH.rd (λc hc=>by obtain⟨z,-,rfl⟩:=List.mem_map.1 (show c∈[v].map QJ from hc);rfl) ω ω) ?_;rintro v5 w5 ⟨fG,aj,uC,-⟩;refine⟨dD.kp.trans aj,?_⟩;have fE:Kp (λb=>vu.ownBlock=some b) w3 w5:=dD.kp.trans aj;have z34:=dD.size;have GP:=fE.PN rR (λe=>(CC _ e).2 O);refine Qs 22 O (Rh U23 Vz O O ω) (dD.kp.trans aj)$ Ut [23]$ qO 23$ QO (i:=23) O O (RV Vz O O (Yr fG) GP (by rw[rx,UI];omega)) ?_;rintro w6 ⟨aY,aL⟩;refine⟨trivial,?_⟩;have gU:=jo.put (l':=WR g v i u++[v]) rR JP JQ fE (by rw[List.length_append,List.map_append];exact fG) (λb hb=>(uC b hb).imp id λe=>by omega) aL aY z3;rw[zaN az hu] at gU;refine qE$ PM$ St O$ R7 O$ Qc O ?_;exact(ih2 (i+1) _ ⟨ω,gU,(ah.It fE (λb e=>(CC b e).1)).It aL (λb e=>by omega)⟩ ω).qb
    ·have dq:i=(Qe g v).length:=by omega
     subst dq;refine Q5 O$ PM$ St O$ R7 O$ Qc O ?_
     have e:W1 g v (Qe g v).length=W1 g (v+1) 0:=by
      unfold W1;exact List.map_congr_left λu _=>z7n g v u
     exact(ih (v+1) _ ⟨ω,by rw[<-e];exact jo,ah⟩ ω).qb
  ·have gW:v=g.length:=by omega
   subst gW;refine Q5 O$ Qx O$ Qc O$ PO func12 O ?_;exact⟨_,rfl,bt,rfl,dc.rw,ae⟩
def z4g (z:Int)(hz:JIq z)(w:World):Qu prog 7 [I z] w λv w'=>∃n:Nat,v=I (n:Int)/\1<=n/\n<=40/\w'=w:=by
 have r1:=VP z 40 ψ
 have r2:=Yn z 40 ψ
 refine py (e:=[(0,_)]) func7 O ntmps7 O O$ qN O$ RZ O$ qV (yrt O O ψ)$ R7 O$ qV (yrt O O ψ) ?_
 rw[show(z.tmod 40+40).tmod 40=nrm z 40 from rfl]
 refine R7 O$ Qc O$ PO func7 O ?_
 exact⟨_,rfl,(1+nrm z 40).toNat,by rw[Int.toNat_of_nonneg ω];rfl,ω,ω,rfl⟩
def z8K:Ry:=⟨7,3,3,3,64⟩
def z96:Ry:=⟨0,0,2,1,64⟩
def z8B:Ry:=⟨2,1,4,2,3⟩
def z64 (z:Int)(hz:JIq z)(w:World):Qu prog 24 [I z] w λv w'=>∃p:Ry,v=bpV p/\p.RE/\p.zeta<=3/\Ext w w':=by
 have r1:=VP z 3 ψ
 have r2:=Yn z 3 ψ
 refine py (e:=[(0,_)]) func24 O ntmps24 O O$ qN O$ PY O O (SE (cs:=[_,_,_,_,_]) SO O) ?_
 rintro _ w1 ⟨b2,rfl,bO,ad,ai⟩
 refine qM O$ qV (Tq (cs:=[_,_,_,_,_]) SO O zeH O O)$ qV (Tq (cs:=[_,_,_,_,_]) SO O zeH O O)$ qV (Tq (cs:=[_,_,_,_,_]) SO O zeH O O)$ PY O O (Zh (cs:=[_,_,_,_,_,_,_,_,_,_,_,_,_,_,_]) (zs:=[Value.int .i64 0,Value.int .i64 0,Value.int .i64 0,Value.int .i64 0,Value.int .i64 0,Value.int .i64 0,Value.int .i64 0,Value.int .i64 0,Value.int .i64 0,Value.int .i64 0,Value.int .i64 0,Value.int .i64 0,Value.int .i64 0,Value.int .i64 0,Value.int .i64 0]) zeI SO O (by kernel_rfl) O O O ψ) ?_
 rintro _ w2 ⟨b3,rfl,⟨dP,ae,ak⟩,-⟩
 refine Q4 O$ qV (yrt O O ψ)$ R7 O$ qV (yrt O O ψ) ?_
 rw[show(z.tmod 3+3).tmod 3=nrm z 3 from rfl]
 have gq:=ae.PN ai
 have GQ:nrm z 3=((0:Nat):Int)\/nrm z 3=((1:Nat):Int)\/nrm z 3=((2:Nat):Int):=by omega
 have lb:=ai.lt
 rcases GQ with e|e| e
 ·rw[e];refine qV (Rh zeI SO O O ω)$ qV (QB (news:=Wz z8K) U75 O SO O (Q7.cells (i:=0+0*5) (n:=5) ak O) O)$ Qb O (QT (news:=Wz z8K) SO O O O O gq ξ) ?_;rintro w3 ⟨aw,av⟩;refine PQ$ Qt func24 (.cell U75 O SO O (Q7.cells (n:=5) aw (news:=[_,_,_,_,_]) O) O .nil) ?_;exact⟨_,rfl,z8K,rfl,by unfold Ry.RE Th.RE z8K Ry.list;decide,ψ,(ad.trans ae).It av (λj e=>by omega)⟩
 ·rw[e];refine qV (Rh zeI SO O O ω)$ qV (QB (news:=Wz z96) U75 O SO O (Q7.cells (i:=0+1*5) (n:=5) ak O) O)$ Qb O (QT (news:=Wz z96) SO O O O O gq ξ) ?_;rintro w3 ⟨aw,av⟩;refine PQ$ Qt func24 (.cell U75 O SO O (Q7.cells (n:=5) aw (news:=[_,_,_,_,_]) O) O .nil) ?_;exact⟨_,rfl,z96,rfl,by unfold Ry.RE Th.RE z96 Ry.list;decide,ψ,(ad.trans ae).It av (λj e=>by omega)⟩
 ·rw[e];refine qV (Rh zeI SO O O ω)$ qV (QB (news:=Wz z8B) U75 O SO O (Q7.cells (i:=0+2*5) (n:=5) ak O) O)$ Qb O (QT (news:=Wz z8B) SO O O O O gq ξ) ?_;rintro w3 ⟨aw,av⟩;refine PQ$ Qt func24 (.cell U75 O SO O (Q7.cells (n:=5) aw (news:=[_,_,_,_,_]) O) O .nil) ?_;exact⟨_,rfl,z8B,rfl,by unfold Ry.RE Th.RE z8B Ry.list;decide,ψ,(ad.trans ae).It av (λj e=>by omega)⟩
def z6r {Q:Sj}{txt:Int->PV}{K:Nat}{X:Nat->Prop}{w:World}(h:Sp Q txt K X w):Qu prog 28 [ptr Q.s 0] w λv w'=>∃a b c d e:Value,v= .agg #[a,b,c,d,e,I 0,I 0]/\Ext w w':=by
 obtain⟨P,hm,hI,hs,hf⟩:=h
 rw[<-hs.s]
 have hB:=hm.cells
 refine py (e:=[(0,_)]) func28 O ntmps28 O O$ qN O$ PY O O (SE (cs:=[_,_,_,_,_,_,_]) z3k O) ?_
 rintro _ w1 ⟨b2,rfl,bO,ad,ai⟩
 have xN:=ad.PN hB
 refine PQ$ QS O$ qV (R9 Y1 O O)$ Re O$ Qx O$ QA O$ Qd WT O$ qV (QB (news:=[I (P.fr:Int),I P.h,I P.mi,I P.wr,I 0,I 0,I 0]) U79 O z3k O (Q7.cells (i:=4) (n:=7) xN O) O)$ PY O O (SE (cs:=[_,_,_,_,_,_,_]) z3k O) ?_
 rintro _ w2 ⟨b3,rfl,dP,ae,ak⟩
 refine Qb O (QT (news:=[I (P.fr:Int),I P.h,I P.mi,I P.wr,I 0,I 0,I 0]) z3k O O O O ak ξ) ?_
 rintro w3 ⟨aw,av⟩
 replace aw:Q7 w3 b3 [I (P.fr:Int),I P.h,I P.mi,I P.wr,I 0,I 0,I 0] 79:=aw
 have aZ:Ext w1 w3:=ae.It av (λj e=>by omega)
 have ct:=ad.trans aZ
 have lC:=ct.PN hB
 have rH:=hm.mp.ext ct
 have bZ:=aZ.PN ai
 have z1:=ad.size
 have z2:=ae.size
 have l1:=ai.lt
 refine qM O$ Q4 O$ QA O$ Qd Wj O$ qV (PX YC O O lC O)$ qV (ziP YC O rH.l)$ Qd zgo O$ Qb O (RV Rl O O O aw ξ) ?_
 rintro w4 ⟨aM,ar⟩
 have cZ:=ar.PN bZ ω
 replace aM:Q7 w4 b3 [I (P.fr:Int),I P.h,I P.mi,I P.wr,I ((Vp P.l).length:Int),I 0,I 0] 79:=aM
 refine qM O$ qV (QB (news:=[I (P.fr:Int),I P.h,I P.mi,I P.wr,I ((Vp P.l).length:Int),I 0,I 0]) U79 O z3k O (Q7.cells (i:=0) (n:=7) aM O) O)$ Qb O (QT (news:=[I (P.fr:Int),I P.h,I P.mi,I P.wr,I ((Vp P.l).length:Int),I 0,I 0]) z3k O O O O cZ ξ) ?_
 rintro w5 ⟨aJ,aj⟩
 refine PQ$ Qt func28 (.cell U79 O z3k O (Q7.cells (n:=7) aJ (news:=[_,_,_,_,_,_,_]) O) O .nil) ?_
 exact⟨_,rfl,_,_,_,_,_,rfl,(ct.It ar (λj e=>by omega)).It aj (λj e=>by omega)⟩
theorem Su {L:List Bool}{s n:Nat}{b:Bool}(h:s+n<=L.length)(i:Nat):(Rn L s n b)[i]? =if s<=i/\i<s+n then some b else L[i]? :=by
 unfold Rn
 have hl:(L.take s).length=s:=by rw[List.length_take];omega
 by_cases h1:i<s
 ·rw[if_neg ω,List.getElem?_append_left ω,List.getElem?_take_of_lt h1]
 ·rw[List.getElem?_append_right ω,hl];by_cases h2:i<s+n
  ·rw[if_pos ω,List.getElem?_append_left (by rw[List.length_replicate];omega),List.getElem?_replicate,if_pos ω]
  ·rw[if_neg ω,List.getElem?_append_right (by rw[List.length_replicate];omega),List.length_replicate,List.getElem?_drop]
   congr 1
   omega
def z0e {L:List Bool}{a n:Nat}(h:Pre L a)(hn:a+n<=L.length):Pre (Rn L a n true) (a+n):=by
 have h2:=h.a2
 refine⟨ω,by rw[R5 hn];exact hn,λi h1 h3=>?_,λi h1 h3=>?_⟩
 ·rw[Su hn];split
  ·rfl
  ·exact h.tk i h1 ω
 ·rw[R5 hn] at h3;rw[Su hn,if_neg ω];exact h.fr i ω h3
theorem zaW {L:List Bool}{a n:Nat}(h:Pre L a)(hn:a+n<=L.length):Rn (Rn L a n true) a n false=L:=by
 have h1:=R5 (b:=true) hn
 have h4:=R5 (b:=false) (L:=Rn L a n true) (s:=a) (n:=n) ω
 apply List.ext_getElem?
 intro i
 rw[Su ω,Su hn]
 by_cases hi:a<=i/\i<a+n
 ·rw[if_pos hi];exact(h.fr i hi.1 ω).symm
 ·rw[if_neg hi,if_neg hi]
def z62 {Q:Sj}{txt:Int->PV}{K:Nat}{X:Nat->Prop}{w:World}(hP:Sp Q txt K X w)(hX:∀b,X b->b<w.heap.size)(hK:K<=90000000000)(x1:X 1)(x2:X 2)(hG:Q7 w 1 (Ts .gamma) 294)(hU:Q7 w 2 (Ts .unary) 294){g:List (List Nat)}(az:Tl g)(aT:1<=g.length)(ff:g.length<=40){ga:Option Addr}{gc:Nat}(kr:GrM w (.slice ga g.length gc) g){p:Ry}(hp:p.RE)(hz:p.zeta<=3){a:Nat}(ha:Pre Q.L a)(fd:a+72<=Q.L.length):
  Qu prog 23 [ptr Q.s 0,.slice ga g.length gc,bpV p] w λv w'=>∃(G:ZM) (txt':Int->PV),v= .tuple #[ptr G.k 0,.bool true]/\G.g=g/\G.st=a/\G.len<=72/\1<=G.len/\(w.heap.size<=G.k/\w.heap.size<=G.x/\w.heap.size<=G.rb)/\U0 G (Q.Rx (Rn Q.L a G.len true)) txt' (K+200) (λj=>X j\/j=G.x\/j=G.k) w'/\(∀y:Int,y<(a:Int)\/(a:Int)+(G.len:Int)<=y->txt' y=txt y)/\Kp (λb=>¬X b) w w':=by
 have dS:=hP.n
 refine py (e:=[(0,_),(1,_),(2,_)]) func23 O ntmps23 O O$ qN O$ PY O O (Se O (cs:=Wz p) O) ?_
 rintro _ w1 ⟨bp,rfl,Pt,ad,sJ⟩
 refine TN O$ RZ O$ qV (QB (news:=Wz p) U75 O SO O (Q7.cells (i:=0) (n:=5) sJ O) O)$ Qk zlE O (z6T hp az aT (kr.ext ad) (ad.PN hG) (ad.PN hU)) ?_
 rintro _ w2 ⟨E,Ny,rfl,ae⟩
 have Cc:Ue p g E:=⟨hp,az,aT,Ny⟩
 have GR:=zcZ Cc ff hz
 obtain⟨T,hT⟩:∃T,YI p g E=T:=⟨_,rfl⟩
 rw[hT] at GR⊢
 have aG:=ad.trans ae
 have ev:=hP.ext' aG
 refine Q4 O$ TK O$ Rt O$ QS O$ RA O$ Re O$ Qx O$ Qk z5I O (ev.size) ?_
 rintro _ w2 ⟨rfl,rfl⟩
 refine Q4 O$ qV (Wf U9 O)$ Qk zmi O (z4f T.length ω _) ?_
 rintro _ w2 ⟨rfl,rfl⟩
 obtain⟨N,hN⟩:∃N,(T.length+523) / 512=N:=⟨_,rfl⟩
 rw[hN]
 have lE:1<=N/\N<=72/\T.length<=N*512-12:=by omega
 refine Q4 O$ TK O$ Rt O$ Qy.qb (e:=[(0,_),(6,_),(7,_),(8,_),(9,_),(10,_)]) ?_
 refine QS O$ RA O ?_
 have fx:∀b,X b->b<w2.heap.size:=λb hb=>by have:=hX b hb;have:=aG.size;omega
 refine Re O$ RI O$ Qk zjy O (ev.take fx ha lE.1 ω) ?_
 rintro _ w3 ⟨rfl,fL,av⟩
 have fu:(Rn Q.L a N true).length=Q.L.length:=R5 ω
 obtain⟨Q3,rT⟩:∃Q3,Q.Rx (Rn Q.L a N true)=Q3:=⟨_,rfl⟩
 rw[rT] at fL
 have DJ:Q3.s=Q.s:=by rw[<-rT];rfl
 have Pu:Q3.L.length=Q.L.length:=by rw[<-rT];exact fu
 rw[<-DJ]
 have z3:=av.size
 have pU:∀b,X b->b<w3.heap.size:=λb hb=>by have:=fx b hb;omega
 refine Q4 O$ TK O$ PY O O (SE (cs:=[_,_]) Sd O) ?_
 rintro _ w4 ⟨be,rfl,Fv,aC,eG⟩
 refine Qb O (QT (news:=[I (a:Int),I (N:Int)]) Sd O O O O eG ξ) ?_
 rintro w5 ⟨lN,aj⟩
 replace lN:Q7 w5 be [I (a:Int),I (N:Int)] 118:=lN
 have cC:Ext w3 w5:=aC.It aj (λj e=>by omega)
 refine Qc O$ QS O$ RA O ?_
 have fT:Sp Q3 txt K (λb=>X b\/b=be) w5:=fL.ext cC (λb e=>e.imp id λe=>by omega)
 refine Re O$ Qx O$ qV (QB (news:=[I (a:Int),I (N:Int)]) YE O Sd O (Q7.cells (i:=0) (n:=2) lN O) O)$ Qk zkX O (z4O fT lE.1 ω) ?_
 rintro _ w6 ⟨wb,bs,bx,bw,sum,rfl,i8,B3,⟨z1',z2',z3',z4'⟩,aS⟩
 have z5:=cC.size
 have z6:=aS.size
 have lbe:=lN.lt
 obtain⟨X6,lK⟩:∃X6:Nat->Prop,(λb=>X b\/b=be\/b=wb\/b=bs\/b=bx\/b=bw)=X6:=⟨_,rfl⟩
 have eK:∀b,X b->X6 b:=λb hb=>by rw[<-lK];exact .inl hb
 have au:X6 wb/\X6 bs/\X6 bx/\X6 bw:=by rw[<-lK];exact⟨.inr (.inr (.inl O)),.inr (.inr (.inr (.inl O))),.inr (.inr (.inr (.inr (.inl O)))),.inr (.inr (.inr (.inr (.inr O))))⟩
 have GS:X6 be:=by rw[<-lK];exact .inr (.inl O)
 have nM:Sp Q3 txt K X6 w6:=fT.ext aS (λb e=>by
  rw[<-lK] at e;rcases e with e|e| e
  ·exact .inl (.inl e)
  ·exact .inl (.inr e)
  ·exact .inr ω)
 have l1:=B3.wr.lt
 have l2:=B3.sb.lt
 have l3:=B3.xb.lt
 have l4:=B3.pb.lt
 have rU:∀b,X6 b->b<w6.heap.size:=λb e=>by
  rw[<-lK] at e;rcases e with e| e
  ·have:=pU b e;omega
  ·omega
 have GT:be≠wb:=by omega
 refine Q4 O$ TK O$ Rt O$ QS O$ RA O$ Qp O$ Q4 O$ Qk zlT O (z6i nM rU ω B3 i8 au ω lE.1 lE.2.2) ?_
 rintro _ w7 ⟨rfl,sum7,tC,txt7,rest,tw,iI,i6,GU,GV,aA,ui⟩
 have z7:=aA.size
 refine RA O$ QY O$ Qp O$ Qk zly O (z52 tw (λb e=>by have:=rU b e;omega) ω iI tC au ω hN.symm (by rw[show T.length%512=T.length-512*(T.length / 512) by omega];exact i6) (λb hb e=>by have:=rU b e;have:=ui b hb;omega) GU) ?_
 rintro _ w8 ⟨rfl,txt8,pW,GW,GX,Nz,aK⟩
 have z8:=aK.size
 have qs:Kp (λb=>¬X6 b\/b=wb) w6 w8:=aA.trans aK
 have GY:=qs.PN (aS.PN lN) (λe=>e.elim (λe=>e GS) GT)
 refine RA O$ QY O$ PQ$ Qy.qb (e:=[(0,_),(6,_),(7,_),(9,_),(11,_),(59,_)]) ?_
 refine TT O$ Qx O$ qV (QB (news:=[I (a:Int),I (N:Int)]) YE O Sd O (Q7.cells (i:=0) (n:=2) GY O) O)$ Qk zlx O (z8s pW (λb e=>by have:=rU b e;omega) ω lE.1 ω lE.2.2 tC GX) ?_
 rintro _ w9 ⟨rb,rfl,B4,qv,qg,ax⟩
 have z9:=ax.size
 have lrb:=B4.lt
 have hL:Laid txt8 a T:=Laid.of λk hk=>⟨qg.z0s ω ω,GW k hk⟩
 subst hT
 have hO:StO Q3 txt8 (K+(YI p g E).length / 512+2) a N (YI p g E):=⟨ω,ω,hL,ω⟩
 have uo:Kp (λb=>¬X b) w w6:=(aG.kp.trans av).trans (cC.trans aS).kp
 have mK:Kp (λb=>¬X b) w w8:=uo.It qs λb e=>by
  rcases e with e| e
  ·exact .inr λe2=>e (eK b e2)
  ·exact .inl (by have:=aG.size;omega)
 have pa:Kp (λb=>¬X b) w w9:=mK.trans (ax.PU λb e e2=>e (eK b e2))
 have z2:=aG.size
 have vR:¬X rb:=λe=>by have:=hX rb e;omega
 have hI:(z8z hO rb sum7).inv X w9:=⟨qg.less (λb e=>e.imp (eK b) id),B4,vR⟩
 refine Q4 O$ TK O$ Rt O$ QS O$ RA O$ Re O$ Qx O$ Qk zkW O (z8a Cc hO hI (λb e=>by have:=hX b e;omega) x1 x2 (pa.PN hG (λe=>e x1)) (pa.PN hU (λe=>e x2))) ?_
 rintro _ w10 ⟨k,x,rfl,kz,kB,NA,aB⟩
 refine Q4 O$ TK O$ TN O$ S7 O$ Qp O$ Ss O$ SM$ Qp O$ qV (z6y YV O O)$ Sa O$ Rt O$ Qy.qb (e:=[(6,_),(7,_)]) ?_
 refine PO func23 O (⟨_,rfl,⟨p,g,E,a,N,rb,sum7,k,x⟩,txt8,rfl,rfl,rfl,lE.2.1,lE.1,⟨by show w.heap.size<=k;omega,by show w.heap.size<=x;omega,by show w.heap.size<=rb;omega⟩,?_,λy hy=>?_,pa.trans aB⟩)
 ·rw[rT];exact U0.more (G:=⟨p,g,E,a,N,rb,sum7,k,x⟩) ⟨hO,NA⟩ ω ω
 ·show txt8 y=txt y;have hy:y<(a:Int)\/(a:Int)+(N:Int)<=y:=hy;rw[Nz y hy,GV y ω]
structure Wd where
 d:Nat
 Q:Sj
 txt:Int->PV
 K:Nat
 G:ZM
 T:ZM
 a:Nat
def Wd.v (W:Wd):List Value:=[ptr W.d 0,ptr W.Q.s 0,ptr W.G.k 0,ptr W.T.k 0,I ((200-W.a:Nat):Int)]
structure WdM (W:Wd)(g:List (List Nat))(XX:Nat->Prop)(w:World):Prop where
 hg:U0 W.G W.Q W.txt W.K (λb=>XX b/\b≠W.G.rb) w
 ht:U0 W.T W.Q W.txt W.K (λb=>XX b/\b≠W.T.rb) w
 gg:W.G.g=g
 tg:W.T.g=R0 g
 pre:Pre W.Q.L W.a
 a:W.a<=146
 L:W.Q.L.length=200
 K:W.K<=400
 gs:W.G.st+W.G.len<=W.T.st
 ts:W.T.st+W.T.len<=W.a
 rb:XX W.G.rb/\XX W.T.rb/\W.G.rb≠W.T.rb/\W.T.rb≠W.G.k/\W.T.rb≠W.G.x/\W.G.rb≠W.T.k/\W.G.rb≠W.T.x
def z2p {w:World}{g:List (List Nat)}(az:Tl g)(aT:1<=g.length)(ff:g.length<=40){ga:Option Addr}{gc:Nat}(kr:GrM w (.slice ga g.length gc) g)(hG:Q7 w 1 (Ts .gamma) 294)(hU:Q7 w 2 (Ts .unary) 294)(fr fo:Int)(m7:JIq fr)(B5:JIq fo):
  Qu prog 8 [.slice ga g.length gc,I fr,I fo] w λv w'=>∃(W:Wd) (XX:Nat->Prop),v= .tuple #[.agg W.v.toArray,.bool true]/\WdM W g XX w'/\Ext w w'/\(∀b,b<w.heap.size->XX b/\b≠W.G.rb/\b≠W.T.rb)/\w.heap.size<=W.G.k/\w.heap.size<=W.G.x/\w.heap.size<=W.T.k/\w.heap.size<=W.T.x:=by
 have r1:=VP fr 12 ψ
 have r2:=Yn fr 12 ψ
 have l1:=hG.lt
 have l2:=hU.lt
 refine py (e:=[(0,_),(1,_),(2,_)]) func8 O ntmps8 O O$ qN O$ PY O O (SE (cs:=[_,_,_,_,_]) z0f O) ?_
 rintro _ w1 ⟨bW,rfl,Pv,ad,JR⟩
 have z1:=ad.size
 have lW:=JR.lt
 refine S7 O$ qV (Tq (cs:=[_,_]) zcH O zlU O O)$ Qk zm5 O (zew 200 1 _ (by unfold z0Z;decide)) ?_
 rintro _ w2 ⟨d,Fd,rfl,hD,ae,NB⟩
 refine Q4 O$ TK O$ TN O$ S7 O$ Qk zlZ O (zaw 200 ψ _) ?_
 rintro _ w3 ⟨m,gi,rfl,hE,hm,uY,ah⟩
 have z2:=ae.size
 have z3:=ah.size
 have NC:=hD.ext ah
 refine Q4 O$ TK O$ TN O$ S7 O$ Qp O$ qV (yrt O O ψ)$ R7 O$ qV (yrt O O ψ) ?_
 rw[show(fr.tmod 12+12).tmod 12=nrm fr 12 from rfl]
 obtain⟨nf,ND,GZ,NE⟩:∃nf:Nat,1+nrm fr 12=(nf:Int)/\1<=nf/\nf<=12:=⟨(1+nrm fr 12).toNat,ω,ω,ω⟩
 refine R7 O ?_
 rw[ND]
 have iy:(List.replicate 200 false).length=200:=List.length_replicate
 have NF:¬Fd m/\¬Fd gi:=⟨λe=>by have:=hD.lt _ e;omega,λe=>by have:=hD.lt _ e;omega⟩
 refine Q4 O$ Qk zlP O (zaa (L:=List.replicate 200 false) (by rw[iy];exact NC) hE NF nf GZ ω) ?_
 rintro _ w4 ⟨P,rfl,hM,hI,NG,NH,JS,NI,aC⟩
 have z4:=aC.size
 have ce:Ext w w4:=((ad.trans ae).trans ah).trans aC
 have H0:=((ae.trans ah).trans aC).PN JR
 obtain⟨X,hX⟩:∃X:Nat->Prop,(λb=>b<w.heap.size\/b=bW)=X:=⟨_,rfl⟩
 have H1:∀b,X b->b<w1.heap.size:=λb e=>by rw[<-hX] at e;omega
 have pd:∀b,b<w.heap.size->X b:=λb e=>by rw[<-hX];exact .inl e
 have CE:X bW:=by rw[<-hX];exact .inr O
 have ji:Sp P (λ_=>zeros 512) 0 X w4:=⟨P,hM,hI,⟨rfl,rfl,rfl,rfl,rfl,rfl,rfl,rfl,rfl⟩,λb hb e=>by
  have:=H1 b e;rcases NI b hb with e|e|e| e
  ·have:=NB b e;omega
  ·omega
  ·omega
  ·omega⟩
 have dJ:Pre P.L 2:=by
  rw[JS];exact⟨Nat.le_refl _,by rw[iy];omega,λi h1 h2=>by omega,λi h1 h2=>by rw[iy] at h2;rw[List.getElem?_replicate,if_pos h2]⟩
 have H2:P.L.length=200:=by rw[JS,iy]
 refine Q4 O$ TK O$ Rt O$ Qy.qb (e:=[(0,_),(2,_),(6,_),(7,_),(8,_),(9,_),(10,_),(11,_),(12,_),(13,_)]) ?_
 refine QS O$ RA O$ QW$ Qp O$ RA O$ QW$ QY O$ Qp O$ RA O$ QW$ QY O$ Qp O$ qV (R9 Y1 O O)$ QY O ?_
 refine Re O$ RI O$ Q4 O$ Qk zkt O (z64 fo B5 _) ?_
 rintro _ w5 ⟨p1,rfl,Dx,nR,aU⟩
 have z5:=aU.size
 have bV:=ce.trans aU
 have B6:∀b,X b->b<w5.heap.size:=λb e=>by have:=H1 b e;omega
 refine Qk zkx O (z62 (ji.ext' aU) B6 ω (pd 1 l1) (pd 2 l2) (bV.PN hG) (bV.PN hU) az aT ff (kr.ext bV) Dx nR dJ ω) ?_
 rintro _ w6 ⟨G,txt6,rfl,NJ,Pw,Px,NK,⟨n1,n2,n3⟩,dR,JT,aL⟩
 have iT:Ext w w6:=bV.It aL (λb e=>by
  rcases Nat.lt_or_ge b w.heap.size with h| h
  ·exact absurd (pd b h) e
  ·exact h)
 have z6:=aL.size
 have H3:=aL.PN (aU.PN H0) (λe=>e CE)
 have GL:(Rn P.L 2 G.len true).length=P.L.length:=R5 ω
 have pe:Pre (Rn P.L 2 G.len true) (2+G.len):=z0e dJ ω
 obtain⟨Q6,H4⟩:∃Q6,P.Rx (Rn P.L 2 G.len true)=Q6:=⟨_,rfl⟩
 have H5:Q6.L=Rn P.L 2 G.len true:=by rw[<-H4];rfl
 have vY:Q6.s=P.s/\Q6.d=P.d/\Q6.m=P.m:=by rw[<-H4];exact⟨rfl,rfl,rfl⟩
 rw[H4] at dR
 rw[<-H5] at GL pe
 obtain⟨gb,go,gc',mG,NL⟩:=kr.r aT
 cases mG
 refine Q4 O$ TK O$ Rt O$ Qy.qb (e:=[(0,_),(2,_),(6,_),(7,_),(8,_),(10,_),(12,_),(14,_),(15,_)]) ?_
 refine RI O$ Qk zlj O (z7S az (NL.ext iT)) ?_
 rintro _ w7 ⟨bt,rfl,NM,cu⟩
 have kJ:=iT.trans cu
 have z7:=cu.size
 have H6:=dR.ext cu
 have kM:=Te g
 refine Q4 O$ qV (zcl O O) ?_
 obtain⟨fo2,B7⟩:∃z,IntKind.i64.wrap (fo+1)=z:=⟨_,rfl⟩
 have B8:JIq fo2:=by
  rw[<-B7,IntKind.wrap_i64];omega
 rw[B7]
 refine Qk zkt O (z64 fo2 B8 _) ?_
 rintro _ w8 ⟨p2,rfl,uw,nE,cV⟩
 have z8:=cV.size
 have aP:=H6.ext cV
 have vZ:=kJ.trans cV
 obtain⟨X2,fx⟩:∃X2:Nat->Prop,(λb=>(X b\/b=G.x\/b=G.k)\/b=G.rb)=X2:=⟨_,rfl⟩
 have iP:∀b,X b->X2 b:=λb e=>by rw[<-fx];exact .inl (.inl e)
 have pW:Sp Q6 txt6 (0+200) X2 w8:=by rw[<-fx];exact aP.sp
 have H7:∀b,X2 b->b<w8.heap.size:=λb e=>aP.lt1 b (by rw[<-fx] at e;exact e)
 have H8:GrM w8 (.slice (some ⟨bt,0,none⟩) (R0 g).length (R0 g).length) (R0 g):=(NM.ext cV).gr
 have pO:=z62 pW H7 ω (iP _ (pd 1 l1)) (iP _ (pd 2 l2)) (vZ.PN hG) (vZ.PN hU) (zcj az) ω ω H8 uw nE pe ω
 rw[vY.1,kM] at pO
 refine Qk zkx O (pO) ?_
 rintro _ w9 ⟨T,txt9,rfl,NN,Py,Pz,NO,⟨t1,t2,t3⟩,ik,CG,ax⟩
 have z9:=ax.size
 have gH:Ext w w9:=vZ.It ax (λb e=>by
  rcases Nat.lt_or_ge b w.heap.size with h| h
  ·exact absurd (iP b (pd b h)) e
  ·exact h)
 have H9:=ax.PN ((cu.trans cV).PN H3) (λe=>e (iP _ CE))
 have JU:(Rn Q6.L (2+G.len) T.len true).length=Q6.L.length:=R5 ω
 have pf:Pre (Rn Q6.L (2+G.len) T.len true) (2+G.len+T.len):=z0e pe ω
 obtain⟨Q9,Ha⟩:∃Q9,Q6.Rx (Rn Q6.L (2+G.len) T.len true)=Q9:=⟨_,rfl⟩
 have Hb:Q9.L=Rn Q6.L (2+G.len) T.len true:=by rw[<-Ha];rfl
 have wj:Q9.s=Q6.s/\Q9.d=Q6.d/\Q9.m=Q6.m:=by rw[<-Ha];exact⟨rfl,rfl,rfl⟩
 rw[Ha] at ik
 rw[<-Hb] at JU pf
 have B9:=ik.sp
 have wk:=ik.lt1
 have NP:U0 G Q9 txt9 (0+200+200) (λb=>(X b\/b=G.x\/b=G.k)\/b=T.x\/b=T.k\/b=T.rb) w9:=aP.zlW ax (λb e=>by rw[<-fx] at e;exact e) (λj e=> .inl e) (λj e=>e.imp id λe=>by
   have h1:=wk T.x (.inl (.inr (.inl O)));have h2:=wk T.k (.inl (.inr (.inr O)));have h3:=wk T.rb (.inr O)
   omega) (B9.less λb e=>by
   rw[<-fx];rcases e with(e|e|e|e)| e
   ·exact .inl (.inl (.inl e))
   ·exact .inl (.inr (.inl e))
   ·exact .inl (.inr (.inr e))
   ·exact .inr e
   ·exact .inl (.inl (.inr e))) wj.1 JU ω (λy h1 h2=>CG y (.inl ω))
 have fd:=B9.room pf ω
 rw[wj.2.2,vY.2.2,NG] at fd
 refine Q4 O$ TK O$ TN O$ S7 O$ Qp O$ Qp O$ Q4 O$ Qk zi6 O (fd) ?_
 rintro _ w10 ⟨rfl,bQ⟩
 have Ba:=bQ.PN H9
 rw[show Q9.L.length-(2+G.len+T.len)=200-(2+G.len+T.len) by omega]
 refine qV (Tq (cs:=[_,_,_,_,_]) z0f O zlR O O)$ Qp O$ Q4 O$ Sa O$ Qb O (QT (news:=[_,_,_,_,_]) z0f O O O O Ba ξ) ?_
 rintro w11 ⟨Bb,bz⟩
 refine Qc O$ Qy.qb (e:=[(6,_),(7,_)]) ?_
 refine Qt func8 (.cell U30 O z0f O (Q7.cells (n:=5) Bb (news:=[_,_,_,_,_]) O) O (.tmp O .nil)) ?_
 obtain⟨XX,eK⟩:∃XX:Nat->Prop,(λb=>X b\/b=G.x\/b=G.k\/b=G.rb\/b=T.x\/b=T.k\/b=T.rb)=XX:=⟨_,rfl⟩
 have CH:=aP.rbX
 have qh:=ik.rbX
 have CI:=aP.xk
 have JV:=ik.xk
 have zG:=aP.lt1 _ (.inr O)
 have zGk:=aP.lt1 _ (.inl CI.1)
 have zGx:=aP.lt1 _ (.inl CI.2.1)
 have cT:∀b,X b->b<w1.heap.size:=H1
 have Hc:U0 G Q9 txt9 400 (λb=>XX b/\b≠G.rb) w11:=by
  refine U0.less (Y:=λb=>(X b\/b=G.x\/b=G.k)\/b=T.x\/b=T.k\/b=T.rb) ((NP.ext bQ).own bz λj e=>?_) (λb e=>?_) ?_
  ·subst e;exact⟨.inl (.inl CE),ω,ω,ω,ω⟩
  ·rw[<-eK] at e;rcases e with⟨e|e|e|e|e,h⟩
   ·exact .inl (.inl e)
   ·exact .inl (.inr (.inl e))
   ·exact .inl (.inr (.inr e))
   ·exact absurd e h
   ·exact .inr e
  ·rw[<-eK];exact⟨⟨.inr (.inr (.inl O)),λe=>CH (e▸CI.1)⟩,⟨.inr (.inl O),λe=>CH (e▸CI.2.1)⟩,⟨.inl (pd 1 l1),ω⟩,⟨.inl (pd 2 l2),ω⟩⟩
 have Hd:U0 T Q9 txt9 400 (λb=>XX b/\b≠T.rb) w11:=by
  refine U0.less (Y:=λj=>X2 j\/j=T.x\/j=T.k) ((ik.ext bQ).own bz λj e=>?_) (λb e=>?_) ?_
  ·subst e;exact⟨.inl (iP _ CE),ω,ω,ω,ω⟩
  ·rw[<-eK] at e;rw[<-fx];rcases e with⟨e|e|e|e|e|e|e,h⟩
   ·exact .inl (.inl (.inl e))
   ·exact .inl (.inl (.inr (.inl e)))
   ·exact .inl (.inl (.inr (.inr e)))
   ·exact .inl (.inr e)
   ·exact .inr (.inl e)
   ·exact .inr (.inr e)
   ·exact absurd e h
  ·rw[<-eK];exact⟨⟨.inr (.inr (.inr (.inr (.inr (.inl O))))),λe=>qh (e▸JV.1)⟩,⟨.inr (.inr (.inr (.inr (.inl O)))),λe=>qh (e▸JV.2.1)⟩,⟨.inl (pd 1 l1),ω⟩,⟨.inl (pd 2 l2),ω⟩⟩
 refine⟨_,rfl,⟨d,Q9,txt9,400,G,T,2+G.len+T.len⟩,XX,?_,⟨Hc,Hd,NJ,NN,pf,?_,?_,?_,?_,?_,by rw[<-eK];exact⟨.inr (.inr (.inr (.inl O))),.inr (.inr (.inr (.inr (.inr (.inr O))))),λe=>qh (.inl (by rw[<-fx];exact .inr e.symm)),λe=>qh (.inl (by rw[<-fx];exact .inl (.inr (.inr e)))),λe=>qh (.inl (by rw[<-fx];exact .inl (.inr (.inl e)))),(by show G.rb≠T.k;omega),(by show G.rb≠T.x;omega)⟩⟩,?_,λb hb=>⟨by rw[<-eK];exact .inl (pd b hb),λe=>?_,λe=>?_⟩,?_,?_,?_,?_⟩
 ·unfold Wd.v;rw[wj.1,vY.1]
  rfl
 ·show 2+G.len+T.len<=146;omega
 ·show Q9.L.length=200;omega
 ·exact Nat.le_refl _
 ·show G.st+G.len<=T.st;omega
 ·show T.st+T.len<=2+G.len+T.len;omega
 ·exact(gH.trans bQ).It bz λb e=>by omega
 ·have e:b=G.rb:=e;omega
 ·have e:b=T.rb:=e;omega
 ·show w.heap.size<=G.k;omega
 ·show w.heap.size<=G.x;omega
 ·show w.heap.size<=T.k;omega
 ·show w.heap.size<=T.x;omega
def zdh {w:World}{g:List (List Nat)}(az:Tl g)(aT:1<=g.length)(ff:g.length<=40){ga:Option Addr}{gc:Nat}(kr:GrM w (.slice ga g.length gc) g)(hG:Q7 w 1 (Ts .gamma) 294)(hU:Q7 w 2 (Ts .unary) 294)(fr fo:Int)(m7:JIq fr)(B5:JIq fo):
  Qu prog 8 [.slice ga g.length gc,I fr,I fo] w λv w'=>∃(W:Wd) (XX:Nat->Prop),v= .tuple #[.agg W.v.toArray,.bool true]/\WdM W g XX w'/\Ext w w'/\(∀b,b<w.heap.size->XX b/\b≠W.G.rb/\b≠W.T.rb)/\w.heap.size<=W.G.k/\w.heap.size<=W.G.x:=by
 refine(z2p az aT ff kr hG hU fr fo m7 B5).mono ?_
 rintro v w' ⟨W,XX,h1,h2,h3,h4,h5,h6,-⟩
 exact⟨W,XX,h1,h2,h3,h4,h5,h6⟩
def z9r {w:World}{g:List (List Nat)}(az:Tl g)(aT:1<=g.length)(ff:g.length<=40){ga:Option Addr}{gc:Nat}(kr:GrM w (.slice ga g.length gc) g)(hG:Q7 w 1 (Ts .gamma) 294)(hU:Q7 w 2 (Ts .unary) 294)(fr fo:Int)(m7:JIq fr)(B5:JIq fo):
  Qu prog 8 [.slice ga g.length gc,I fr,I fo] w λv w'=>∃(W:Wd) (XX:Nat->Prop),v= .tuple #[.agg W.v.toArray,.bool true]/\WdM W g XX w'/\Ext w w'/\∀b,b<w.heap.size->XX b/\b≠W.G.rb/\b≠W.T.rb:=by
 refine(zdh az aT ff kr hG hU fr fo m7 B5).mono ?_
 rintro v w' ⟨W,XX,h1,h2,h3,h4,-⟩
 exact⟨W,XX,h1,h2,h3,h4⟩
structure RuK (σ:Type) where
 M:Sj->(Int->PV)->Nat->Nat->(Nat->Prop)->Nat->Nat->σ->World->Prop
 tm:σ->Nat
 c0:Nat
 c1:Nat
 kp:∀{Q:Sj} {txt:Int->PV} {k rr:Nat} {O_:Nat->Prop} {a L:Nat} {s:σ} {w w':World} {S:Nat->Prop},M Q txt k rr O_ a L s w->Kp S w w'->(∀b,O_ b->¬S b)->M Q txt k rr O_ a L s w'
 Vr:∀{Q:Sj} {txt txt':Int->PV} {k rr:Nat} {O_:Nat->Prop} {a L:Nat} {s:σ} {w:World},M Q txt k rr O_ a L s w->(∀y:Int,(a:Int)<=y->y<(a:Int)+(L:Int)->txt' y=txt y)->M Q txt' k rr O_ a L s w
 q:∀{Q Q':Sj} {txt:Int->PV} {k rr:Nat} {O_:Nat->Prop} {a L:Nat} {s:σ} {w:World},M Q txt k rr O_ a L s w->Q'.s=Q.s->Q'.L.length=Q.L.length->M Q' txt k rr O_ a L s w
structure RuM {σ:Type}(R:RuK σ)(G:ZM)(Q:Sj)(txt:Int->PV)(K:Nat)(X:Nat->Prop)(rr:Nat)(O_:Nat->Prop)(a L:Nat)(s:σ)(w:World):Prop where
 g:U0 G Q txt K X w
 m:R.M Q txt G.k rr O_ a L s w
 xr:∀b,O_ b->X b
 ro:O_ rr
 ne:∀b,O_ b->b≠G.k/\b≠G.x/\b≠1/\b≠2
 WB:G.st+G.len<=a
 n:G.g.length<=40
section
variable {σ:Type}{R:RuK σ}{w w':World}{g:List (List Nat)}{G:ZM}{Q:Sj}{txt txt':Int->PV}{K K':Nat}{X Y S' O_:Nat->Prop}{rr a L:Nat}{s s':σ}
theorem RuM.step (h:RuM R G Q txt K X rr O_ a L s w)(hk:Kp S' w w')(hS:∀j,S' j->X j/\j≠G.k/\j≠G.x/\j≠1/\j≠2/\¬O_ j)(hXY:∀j,X j->Y j)(hY:∀j,Y j->X j\/(w.heap.size<=j/\j<w'.heap.size)):RuM R G Q txt K Y rr O_ a L s w':=
 ⟨h.g.step hk (λj e=>⟨(hS j e).1,(hS j e).2.1,(hS j e).2.2.1,(hS j e).2.2.2.1,(hS j e).2.2.2.2.1⟩) hY hXY,R.kp h.m hk (λb hb e=>(hS b e).2.2.2.2.2 hb),λb hb=>hXY b (h.xr b hb),h.ro,h.ne,h.WB,h.n⟩
theorem RuM.less (h:RuM R G Q txt K Y rr O_ a L s w)(hXY:∀j,X j->Y j)(hx:X G.k/\X G.x/\X 1/\X 2)(hr:∀b,O_ b->X b):RuM R G Q txt K X rr O_ a L s w:=⟨h.g.less hXY hx,h.m,hr,h.ro,h.ne,h.WB,h.n⟩
theorem RuM.read (h:RuM R G Q txt K X rr O_ a L s w)(hk:Kp (λb=>¬(X b\/b=G.rb)) w w')(hP:Sp Q txt K (λb=>X b\/b=G.rb) w'):RuM R G Q txt K X rr O_ a L s w':=
 ⟨h.g.upd hk (λb e=> .inl e) hP O O h.g.Wv (λ_ _ _=>rfl),R.kp h.m hk (λb hb e=>e (.inl (h.xr b hb))),h.xr,h.ro,h.ne,h.WB,h.n⟩
theorem RuM.upd (h:RuM R G Q txt K X rr O_ a L s w)(hK:K'<1000000000000)(hk:Kp S' w w')(hS:∀b,S' b->¬(X b\/b=G.rb)\/O_ b)(hP:Sp Q txt' K' (λb=>X b\/b=G.rb) w')(hy:∀y:Int,y<(a:Int)\/(a:Int)+(L:Int)<=y->txt' y=txt y)(hm:R.M Q txt' G.k rr O_ a L s' w'):RuM R G Q txt' K' X rr O_ a L s' w':=by
 have hd:=h.WB
 exact⟨h.g.upd hk (λb e=>(hS b e).imp id λhb=>⟨h.xr b hb,h.ne b hb⟩) hP O O hK (λy h1 h2=>hy y (.inl ω)),hm,h.xr,h.ro,h.ne,h.WB,h.n⟩
theorem RuM.set (h:RuM R G Q txt K X rr O_ a L s w)(hk:Kp S' w w')(hS:∀b,S' b->O_ b)(hm:R.M Q txt G.k rr O_ a L s' w'):RuM R G Q txt K X rr O_ a L s' w':=
 ⟨h.g.own hk (λj e=>⟨h.xr j (hS j e),h.ne j (hS j e)⟩),hm,h.xr,h.ro,h.ne,h.WB,h.n⟩
theorem RuM.list (h:RuM R G Q txt K X rr O_ a L s w)(hg:U0 G Q txt K Y w')(hk:Kp (λj=>¬X j) w w')(hXY:∀j,X j->Y j):RuM R G Q txt K Y rr O_ a L s w':=
 ⟨hg,R.kp h.m hk (λb hb e=>e (h.xr b hb)),λb hb=>hXY b (h.xr b hb),h.ro,h.ne,h.WB,h.n⟩
end
def Sp.iff {Q:Sj}{txt:Int->PV}{K:Nat}{X Y:Nat->Prop}{w:World}(h:Sp Q txt K X w)(e:∀b,X b↔Y b):Sp Q txt K Y w:=by
 have e2:X=Y:=funext λb=>propext (e b)
 exact e2▸h
section
variable {G:ZM}{w w':World}{Q Q':Sj}{txt txt':Int->PV}{K K':Nat}{X Y S':Nat->Prop}
def U0.at_ (h:U0 G Q txt K X w)(hk:Kp S' w w')(hS:¬S' G.k/\¬S' G.x/\¬S' 1/\¬S' 2/\¬S' G.rb)(hY:Y G.k/\Y G.x/\Y 1/\Y 2)(hlt:∀j,Y j->j<w'.heap.size)(hr:¬Y G.rb)(hP:Sp Q' txt' K' (λb=>Y b\/b=G.rb) w')(hs:Q'.s=Q.s)(hl:Q'.L.length=Q.L.length)(hK:K'<1000000000000)(ht:∀y:Int,(G.st:Int)<=y->y<(G.st:Int)+(G.len:Int)->txt' y=txt y):U0 G Q' txt' K' Y w':=by
 have hrB:=h.rbB
 obtain⟨o,h⟩:=h
 have hlen:=o.len
 have hI:(z8z (⟨hK,by rw[hl];exact o.fit,o.laid.Vr λk hk=>ht _ ω ω,o.len⟩:StO Q' txt' K' G.st G.len (YI G.p G.g G.E)) G.rb G.sum).inv Y w':=⟨hP,by rw[hs];exact hk.PN hrB hS.2.2.2.2,hr⟩
 exact⟨_,⟨h.ok,hk.PN h.PN hS.1,hk.PN h.ix hS.2.1,hY.1,hY.2.1,hI,hlt,hY.2.2.1,hY.2.2.2,hk.PN h.gam hS.2.2.1,hk.PN h.una hS.2.2.2.1⟩⟩
end
structure Rg {σ:Type}(R:RuK σ)(G T:ZM)(Q:Sj)(txt:Int->PV)(K:Nat)(X:Nat->Prop)(rr:Nat)(O_:Nat->Prop)(a L:Nat)(s:σ)(w:World):Prop where
 m:RuM R G Q txt K (λb=>X b\/b=T.rb) rr O_ a L s w
 t:U0 T Q txt K (λb=>X b\/b=G.rb) w
 xr:∀b,O_ b->X b
 xk:X G.k/\X G.x/\X T.k/\X T.x/\X 1/\X 2
 nk:∀b,O_ b->b≠T.k/\b≠T.x
 WB:T.st+T.len<=a
section
variable {σ:Type}{R:RuK σ}{G T:ZM}{w w':World}{Q:Sj}{txt txt':Int->PV}{K K':Nat}{X Y S' O_:Nat->Prop}{rr a L:Nat}{s s':σ}
def Rg.ng (h:Rg R G T Q txt K X rr O_ a L s w):¬X G.rb/\G.rb≠T.rb/\¬X T.rb:=by
 have h1:=h.m.g.rbX
 have h2:=h.t.rbX
 exact⟨λe=>h1 (.inl e),λe=>h1 (.inr e),λe=>h2 (.inl e)⟩
def Rg.sp (h:Rg R G T Q txt K X rr O_ a L s w):Sp Q txt K (λb=>(X b\/b=T.rb)\/b=G.rb) w:=h.m.g.sp
def Rg.lt (h:Rg R G T Q txt K X rr O_ a L s w):∀b,((X b\/b=T.rb)\/b=G.rb)->b<w.heap.size:=h.m.g.lt1
def Rg.byG (h:Rg R G T Q txt K X rr O_ a L s w)(hm:RuM R G Q txt' K' (λb=>Y b\/b=T.rb) rr O_ a L s' w')(hk:Kp S' w w')(hS:∀b,S' b->(¬X b/\b≠T.rb)\/O_ b)(hXY:∀j,X j->Y j)(hY:∀j,Y j->X j\/w.heap.size<=j)(hy:∀y:Int,y<(a:Int)\/(a:Int)+(L:Int)<=y->txt' y=txt y):Rg R G T Q txt' K' Y rr O_ a L s' w':=by
 obtain⟨n1,n2,n3⟩:=h.ng
 have hd:=h.WB
 have hlt:=h.lt
 have hml:=hm.g.lt1
 have hx:=h.xk
 have hne:=h.m.ne
 have hrt:=hlt T.rb (.inl (.inr O))
 have hrg:=hlt G.rb (.inr O)
 have hnS:∀b,X b->¬O_ b->¬S' b:=λb hb ho e=>(hS b e).elim (λe=>e.1 hb) ho
 refine⟨hm,h.t.at_ hk ⟨hnS _ hx.2.2.1 λe=>(h.nk _ e).1 O,hnS _ hx.2.2.2.1 λe=>(h.nk _ e).2 O,hnS _ hx.2.2.2.2.1 λe=>(hne _ e).2.2.1 O,hnS _ hx.2.2.2.2.2 λe=>(hne _ e).2.2.2 O,λe=>(hS _ e).elim (λe=>e.2 O) (λe=>n3 (h.xr _ e))⟩ ⟨.inl (hXY _ hx.2.2.1),.inl (hXY _ hx.2.2.2.1),.inl (hXY _ hx.2.2.2.2.1),.inl (hXY _ hx.2.2.2.2.2)⟩ (λj e=>hml j (e.imp .inl id)) ?_ (hm.g.sp.iff λb=>?_) O O hm.g.Wv (λy e1 e2=>hy y (.inl ω)),λb hb=>hXY b (h.xr b hb),⟨hXY _ hx.1,hXY _ hx.2.1,hXY _ hx.2.2.1,hXY _ hx.2.2.2.1,hXY _ hx.2.2.2.2.1,hXY _ hx.2.2.2.2.2⟩,h.nk,hd⟩
 ·rintro(e|e)
  ·rcases hY _ e with e| e
   ·exact n3 e
   ·omega
  ·exact n2 e.symm
 ·constructor
  ·rintro((e|e)|e)
   ·exact .inl (.inl e)
   ·exact .inr e
   ·exact .inl (.inr e)
  ·rintro((e|e)|e)
   ·exact .inl (.inl e)
   ·exact .inr e
   ·exact .inl (.inr e)
theorem Rg.step (h:Rg R G T Q txt K X rr O_ a L s w)(hk:Kp S' w w')(hS:∀j,S' j->X j/\j≠G.k/\j≠G.x/\j≠T.k/\j≠T.x/\j≠1/\j≠2/\¬O_ j)(hXY:∀j,X j->Y j)(hY:∀j,Y j->X j\/(w.heap.size<=j/\j<w'.heap.size)):Rg R G T Q txt K Y rr O_ a L s w':=by
 have hx:=h.xk
 exact⟨h.m.step hk (λj e=>by obtain⟨e1,e2,e3,e4,e5,e6,e7,e8⟩:=hS j e;exact⟨.inl e1,e2,e3,e6,e7,e8⟩) (λj e=>e.imp (hXY j) id) (λj e=>e.elim (λe=>(hY j e).imp .inl id) (λe=> .inl (.inr e))),
  h.t.step hk (λj e=>by obtain⟨e1,e2,e3,e4,e5,e6,e7,e8⟩:=hS j e;exact⟨.inl e1,e4,e5,e6,e7⟩) (λj e=>e.elim (λe=>(hY j e).imp .inl id) (λe=> .inl (.inr e))) (λj e=>e.imp (hXY j) id),
  λb hb=>hXY b (h.xr b hb),⟨hXY _ hx.1,hXY _ hx.2.1,hXY _ hx.2.2.1,hXY _ hx.2.2.2.1,hXY _ hx.2.2.2.2.1,hXY _ hx.2.2.2.2.2⟩,h.nk,h.WB⟩
def Rg.ext (h:Rg R G T Q txt K X rr O_ a L s w)(hx:Ext w w'):Rg R G T Q txt K X rr O_ a L s w':=
 h.step hx (λ_ e=>e.elim) (λ_ e=>e) (λ_ e=> .inl e)
def Rg.grow (h:Rg R G T Q txt K X rr O_ a L s w)(hx:Ext w w')(hY:∀j,Y j->X j\/(w.heap.size<=j/\j<w'.heap.size))(hXY:∀j,X j->Y j):Rg R G T Q txt K Y rr O_ a L s w':=
 h.step hx (λ_ e=>e.elim) hXY hY
def Rg.own (h:Rg R G T Q txt K X rr O_ a L s w)(hk:Kp S' w w')(hS:∀j,S' j->X j/\j≠G.k/\j≠G.x/\j≠T.k/\j≠T.x/\j≠1/\j≠2/\¬O_ j):Rg R G T Q txt K X rr O_ a L s w':=
 h.step hk hS (λ_ e=>e) (λ_ e=> .inl e)
theorem Rg.read (h:Rg R G T Q txt K X rr O_ a L s w)(hk:Kp (λb=>¬((X b\/b=T.rb)\/b=G.rb)) w w')(hP:Sp Q txt K (λb=>(X b\/b=T.rb)\/b=G.rb) w'):Rg R G T Q txt K X rr O_ a L s w':=
 h.byG (h.m.read hk hP) hk (λb e=> .inl ⟨λe2=>e (.inl (.inl e2)),λe2=>e (.inl (.inr e2))⟩) (λ_ e=>e) (λ_ e=> .inl e) (λ_ _=>rfl)
theorem Rg.upd (h:Rg R G T Q txt K X rr O_ a L s w)(hK:K'<1000000000000)(hk:Kp S' w w')(hS:∀b,S' b->¬((X b\/b=T.rb)\/b=G.rb)\/O_ b)(hP:Sp Q txt' K' (λb=>(X b\/b=T.rb)\/b=G.rb) w')(hy:∀y:Int,y<(a:Int)\/(a:Int)+(L:Int)<=y->txt' y=txt y)(hm:R.M Q txt' G.k rr O_ a L s' w'):Rg R G T Q txt' K' X rr O_ a L s' w':=
 h.byG (h.m.upd hK hk hS hP hy hm) hk (λb e=>(hS b e).imp (λe=>⟨λe2=>e (.inl (.inl e2)),λe2=>e (.inl (.inr e2))⟩) id) (λ_ e=>e) (λ_ e=> .inl e) hy
theorem Rg.set (h:Rg R G T Q txt K X rr O_ a L s w)(hk:Kp S' w w')(hS:∀b,S' b->O_ b)(hm:R.M Q txt G.k rr O_ a L s' w'):Rg R G T Q txt K X rr O_ a L s' w':=
 h.byG (h.m.set hk hS hm) hk (λb e=> .inr (hS b e)) (λ_ e=>e) (λ_ e=> .inl e) (λ_ _=>rfl)
def Rg.less (h:Rg R G T Q txt K Y rr O_ a L s w)(hXY:∀j,X j->Y j)(hx:X G.k/\X G.x/\X T.k/\X T.x/\X 1/\X 2)(hr:∀b,O_ b->X b):Rg R G T Q txt K X rr O_ a L s w:=
 ⟨h.m.less (λj e=>e.imp (hXY j) id) ⟨.inl hx.1,.inl hx.2.1,.inl hx.2.2.2.2.1,.inl hx.2.2.2.2.2⟩ (λb hb=> .inl (hr b hb)),h.t.less (λj e=>e.imp (hXY j) id) ⟨.inl hx.2.2.1,.inl hx.2.2.2.1,.inl hx.2.2.2.2.1,.inl hx.2.2.2.2.2⟩,hr,hx,h.nk,h.WB⟩
end
inductive YF (g:List (List Nat)) (a:Nat):Nat->Prop
 |refl:YF g a a
 |step {x b:Nat}:YF g a x->b∈Qe g x->YF g a b
section
variable {g:List (List Nat)}{a b c v w:Nat}
theorem YF.trans (h1:YF g a b)(h2:YF g b c):YF g a c:=by
 induction h2 with
 |refl=>exact h1
 |step _ hx ih=>exact .step ih hx
def YF.one (h:b∈Qe g a):YF g a b:= .step .refl h
def YF.head (h:YF g a b)(hab:b≠a):∃u,u∈Qe g a/\u≠a/\YF g u b:=by
 induction h with
 |refl=>exact absurd O hab
 | step hx hb ih =>
   rename_i x y
   by_cases e:x=a
   ·subst e;exact⟨y,hb,hab,.refl⟩
   ·obtain⟨u,h1,h2,h3⟩:=ih e;exact⟨u,h1,h2,.step h3 hb⟩
theorem YF.last (h:YF g a b)(hab:b≠a):∃u,b∈Qe g u/\u≠b/\YF g a u:=by
 induction h with
 |refl=>exact absurd O hab
 | step hx hb ih =>
   rename_i x y
   by_cases e:x=y
   ·subst e;exact ih hab
   ·exact⟨x,hb,e,hx⟩
def Mut (g:List (List Nat))(a b:Nat):Prop:=YF g a b/\YF g b a
def Mut.refl:Mut g a a:=⟨.refl,.refl⟩
theorem Mut.symm (h:Mut g a b):Mut g b a:=⟨h.2,h.1⟩
def Cl (g:List (List Nat))(U:Nat->Prop):Prop:=∀u v,U u->Mut g u v->U v
def z9j (g:List (List Nat))(v l:Nat):Prop:=Mut g v l/\∀w,Mut g v w->l<=w
def zbF {U:Nat->Prop}(hU:Cl g U)(hv:U v)(h:∀u,u∈Qe g v->U u->u=v)(hm:Mut g v w):w=v:=by
 by_cases e:w=v
 ·exact e
 ·obtain⟨u,h1,h2,h3⟩:=hm.1.head e;exact absurd (h u h1 (hU v u hv ⟨.one h1,h3.trans hm.2⟩)) h2
def zeg {U:Nat->Prop}(hU:Cl g U)(hv:U v)(h:∀u,v∈Qe g u->U u->u=v)(hm:Mut g v w):w=v:=by
 by_cases e:w=v
 ·exact e
 ·obtain⟨u,h1,h2,h3⟩:=hm.2.last (λe2=>e e2.symm);exact absurd (h u h1 (hU v u hv ⟨hm.1.trans h3,.one h1⟩)) h2
def z9j.alone (h:∀w,Mut g v w->w=v):z9j g v v:=⟨.refl,λw hw=>by rw[h w hw];exact Nat.le_refl _⟩
theorem Cl.drop {U:Nat->Prop}(hU:Cl g U){M:Nat->Prop}(hM:∀u v,M u->Mut g u v->M v):Cl g λu=>U u/\¬M u:=
 λu v hu hm=>⟨hU u v hu.1 hm,λe=>hu.2 (hM v u e hm.symm)⟩
/-! ### Colours -/
structure z1s (g:List (List Nat))(U:Nat->Prop)(c:Nat->Nat):Prop where
 from_:∀u,U u->YF g (c u) u
 le:∀u,U u->c u<=u
 rest:∀v u,U v->U u->u∈Qe g v->c u<=c v
def z1s.mono {U:Nat->Prop}{c:Nat->Nat}(h:z1s g U c)(hU:Cl g U)(ha:U a)(hm:Mut g a b):c b<=c a:=by
 obtain⟨h1,h2⟩:=hm
 have key:∀{x},YF g a x->YF g x a->c x<=c a:=fun {x} hx=>by
  induction hx with
  |refl=>exact λ_=>Nat.le_refl _
  | step hy hz ih =>
    rename_i y z
    intro hza;have hya:YF g y a:=(YF.one hz).trans hza;have:=ih hya;have:=h.rest y z (hU a y ha ⟨hy,hya⟩) (hU a z ha ⟨.step hy hz,hza⟩) hz;omega
 exact key h1 h2
theorem z1s.same {U:Nat->Prop}{c:Nat->Nat}(h:z1s g U c)(hU:Cl g U)(ha:U a)(hm:Mut g a b):c b=c a:=
 Nat.le_antisymm (h.mono hU ha hm) (h.mono hU (hU a b ha hm) hm.symm)
theorem z1s.least {U:Nat->Prop}{c:Nat->Nat}(h:z1s g U c)(hU:Cl g U)(hv:U v)(hr:YF g v (c v)):z9j g v (c v):=by
 refine⟨⟨hr,h.from_ v hv⟩,λw hw=>?_⟩
 rw[<-h.same hU hv hw]
 exact h.le w (hU v w hv hw)
structure zdU (g:List (List Nat))(U:Nat->Prop)(c:Nat->Nat)(M:Nat->Prop):Prop where
 to_:∀v,U v->M v->YF g v (c v)
 rest:∀v u,U v->U u->u∈Qe g v->M u->c u=c v->M v
theorem zdU.whole {U M:Nat->Prop}{c:Nat->Nat}(h:zdU g U c M)(hc:z1s g U c)(hU:Cl g U)(hv:U v)(hM:M v)(hm:Mut g v w):M w:=by
 have key:∀{x},YF g w x->YF g x w->M x->M w:=fun {x} hx=>by
  induction hx with
  |refl=>exact λ_ h=>h
  | step hy hz ih =>
    rename_i y z
    intro hzw hMz;have hyw:YF g y w:=(YF.one hz).trans hzw;have hUw:=hU v w hv hm;have hUy:=hU w y hUw ⟨hy,hyw⟩;have hUz:=hU w z hUw ⟨.step hy hz,hzw⟩;have e1:=hc.same hU hUw (b:=y) ⟨hy,hyw⟩;have e2:=hc.same hU hUw (b:=z) ⟨.step hy hz,hzw⟩;exact ih hyw (h.rest y z hUy hUz hz hMz ω)
 exact key hm.2 hm.1 hM
def YF.lt (h:Tl g)(hr:YF g a b)(ha:a<g.length):b<g.length:=by
 cases hr with
 |refl=>exact ha
 |step _ hx=>exact Zx h _ _ hx
end
abbrev Sf (l:List Nat)(v:Nat):Prop:=l[v]? =some 4294967295
def Xx (g:List (List Nat))(l:List Nat)(v:Nat):Bool:=(Qe g v).all λu=>decide (u=v) ||!decide (Sf l u)
def trV (g t:List (List Nat))(a:List Nat×Bool)(v:Nat):List Nat×Bool:=if Sf a.1 v/\(Xx g a.1 v=true\/Xx t a.1 v=true) then(a.1.set v v,true) else a
def trS (g t:List (List Nat))(l:List Nat)(k:Nat):List Nat×Bool:=(List.range k).foldl (trV g t) (l,false)
def YR (l:List Nat)(v:Nat)(a:List Nat×Bool)(u:Nat):List Nat×Bool:=if Sf l u/\a.1.getD v 0<a.1.getD u 0 then(a.1.set u (a.1.getD v 0),true) else a
def coV (g:List (List Nat))(l:List Nat)(a:List Nat×Bool)(v:Nat):List Nat×Bool:=if Sf l v then(Qe g v).foldl (YR l v) a else a
def Zg (g:List (List Nat))(l c:List Nat)(k:Nat):List Nat×Bool:=(List.range k).foldl (coV g l) (c,false)
def bkC (l c m:List Nat)(v u:Nat):Prop:=Sf l u/\m.getD u 0=1/\c.getD u 0=c.getD v 0
instance (l c m:List Nat) (v u:Nat):Decidable (bkC l c m v u):=by unfold bkC;infer_instance
def bkV (g:List (List Nat))(l c:List Nat)(a:List Nat×Bool)(v:Nat):List Nat×Bool:=if Sf l v/\a.1.getD v 0=0/\(Qe g v).any (λu=>decide (bkC l c a.1 v u))=true then(a.1.set v 1,true) else a
def bkS (g:List (List Nat))(l c m:List Nat)(k:Nat):List Nat×Bool:=(List.range k).foldl (bkV g l c) (m,false)
def rsC (l c:List Nat)(k:Nat):List Nat:=(List.range k).foldl (λc v=>if Sf l v then c.set v v else c) c
def rsM (l c m:List Nat)(k:Nat):List Nat:=(List.range k).foldl (λm v=>if Sf l v/\c.getD v 0=v then m.set v 1 else m) m
def rsL (l c m:List Nat)(k:Nat):List Nat:=(List.range k).foldl (λl v=>if Sf l v/\m.getD v 0=1 then l.set v (c.getD v 0) else l) l
structure T8 where
 steps:Nat
 phase:Nat
 done:Bool
 label:List Nat
 Q0:List Nat
 mark:List Nat
def T8.new (n:Nat):T8:=⟨0,0,false,List.replicate n 4294967295,List.replicate n 0,List.replicate n 0⟩
def T8.go (g t:List (List Nat))(s:T8):T8:=
 let n:=g.length
 if s.phase=0 then
  if(trS g t s.label n).2 then {s with label:=(trS g t s.label n).1} else {s with phase:=1,Q0:=rsC s.label s.Q0 n}
 else if s.phase=1 then
  if(Zg g s.label s.Q0 n).2 then {s with Q0:=(Zg g s.label s.Q0 n).1} else {s with phase:=2,mark:=rsM s.label s.Q0 (List.replicate n 0) n}
 else
  if(bkS g s.label s.Q0 s.mark n).2 then {s with mark:=(bkS g s.label s.Q0 s.mark n).1} else {s with phase:=0,label:=rsL s.label s.Q0 s.mark n}
def z2r (l:List Nat)(n:Nat):Bool:=(List.range n).all λv=>!decide (Sf l v)
def T8.step (g t:List (List Nat))(s:T8):T8:={s.go g t with steps:=s.steps+1,done:=z2r (s.go g t).label g.length}
/-! ### Counting -/
def WX {p q:Nat->Bool}:∀{l:List Nat},(∀x∈l,p x=true->q x=true)->l.countP p<=l.countP q
 |[],_=>Nat.le_refl _
 | x :: l, h => by
   have ih:=WX (p:=p) (q:=q) (l:=l) λy hy=>h y (List.mem_cons_of_mem _ hy);have h1:=h x List.mem_cons_self;rw[List.countP_cons,List.countP_cons]
   cases hp:p x with
   |false=>simp;omega
   |true=>rw[h1 hp];simp;omega
def z0c {p q:Nat->Bool}:∀{l:List Nat},(∀x∈l,p x=true->q x=true)->∀{y:Nat},y∈l->p y=false->q y=true->l.countP p<l.countP q
 | x :: l, h, y, hy, h1, h2 => by
   have h3:=h x List.mem_cons_self;rw[List.countP_cons,List.countP_cons];rcases List.mem_cons.1 hy with e| e
   ·subst e;have ih:=WX (p:=p) (q:=q) (l:=l) λz hz=>h z (List.mem_cons_of_mem _ hz);rw[h1,h2];simp;omega
   ·have ih:=z0c (p:=p) (q:=q) (l:=l) (λz hz=>h z (List.mem_cons_of_mem _ hz)) e h1 h2
    cases hp:p x with
    |false=>simp;omega
    |true=>rw[h3 hp];simp;omega
open Classical in
noncomputable def z2m (n:Nat)(P:Nat->Prop):Nat:=(List.range n).countP λv=>decide (P v)
open Classical in
def z9S {n:Nat}{P Q:Nat->Prop}(h:∀v,v<n->P v->Q v):z2m n P<=z2m n Q:=
 WX λx hx hp=>decide_eq_true (h x (List.mem_range.1 hx) (of_decide_eq_true hp))
open Classical in
def ZE {n:Nat}{P Q:Nat->Prop}(h:∀v,v<n->P v->Q v){v:Nat}(hv:v<n)(h1:¬P v)(h2:Q v):z2m n P<z2m n Q:=
 z0c (λx hx hp=>decide_eq_true (h x (List.mem_range.1 hx) (of_decide_eq_true hp))) (List.mem_range.2 hv) (decide_eq_false h1) (decide_eq_true h2)
def zgu {n:Nat}{P:Nat->Prop}:z2m n P<=n:=by
 have:=List.countP_le_length (p:=λv=>@decide (P v) (Classical.propDecidable _)) (l:=List.range n)
 rw[List.length_range] at this
 exact this
def z1U {n:Nat}{P:Nat->Prop}{v:Nat}(hv:v<n)(h:P v):0<z2m n P:=by
 have:=ZE (n:=n) (P:=λ_=>False) (Q:=P) (λ_ _ e=>e.elim) hv (λe=>e) h
 omega
theorem SS {l:List Nat}{v:Nat}(h:Sf l v):v<l.length:=by
 obtain⟨h1,-⟩:=List.getElem?_eq_some_iff.1 h
 exact h1
theorem UC {l:List Nat}{v x:Nat}(h:l[v]? =some x):l.getD v 0=x:=by rw[List.getD_eq_getElem?_getD,h];rfl
def zax {l:List Nat}{v:Nat}(h:v<l.length):l[v]? =some (l.getD v 0):=by rw[List.getD_eq_getElem?_getD,List.getElem?_eq_getElem h];rfl
theorem TZ {l:List Nat}{v u x:Nat}(h:v<l.length):(l.set v x).getD u 0=if u=v then x else l.getD u 0:=by
 rw[List.getD_eq_getElem?_getD,List.getD_eq_getElem?_getD]
 split
 ·rename_i e
  subst e;rw[List.getElem?_set_self h];rfl
 ·rename_i e
  rw[List.getElem?_set_ne (Ne.symm e)]
/-! ### Trim -/
structure z2S (g:List (List Nat))(l:List Nat):Prop where
 n:l.length=g.length
 lab:∀(v x:Nat),l[v]? =some x->x≠4294967295->z9j g v x
 cl:Cl g (Sf l)
def z1H {l:List Nat}{v x u:Nat}(hx:x≠4294967295)(hv:v<l.length):Sf (l.set v x) u↔Sf l u/\u≠v:=by
 show(l.set v x)[u]? =some 4294967295↔l[u]? =some 4294967295/\u≠v
 by_cases e:v=u
 ·subst e;rw[List.getElem?_set_self hv];exact⟨λh=>absurd (Option.some.inj h) hx,λh=>absurd O h.2⟩
 ·rw[List.getElem?_set_ne e];exact⟨λh=>⟨h,Ne.symm e⟩,λh=>h.1⟩
def ZI {g:List (List Nat)}{l:List Nat}{v:Nat}:Xx g l v=true↔∀u,u∈Qe g v->Sf l u->u=v:=by
 unfold Xx
 rw[List.all_eq_true]
 constructor
 ·intro h u hu hl;have:=h u hu;rw[Bool.or_eq_true] at this;rcases this with e| e
  ·exact of_decide_eq_true e
  ·rw[decide_eq_true hl] at e;cases e
 ·intro h u hu;by_cases hl:Sf l u
  ·rw[decide_eq_true (h u hu hl)];rfl
  ·rw[decide_eq_false hl];simp
section
variable {g t:List (List Nat)}{l l0 c c0 m m0:List Nat}{a:List Nat×Bool}{v k:Nat}
structure TrI (g:List (List Nat))(l0:List Nat)(a:List Nat×Bool):Prop where
 i:z2S g a.1
 sub:∀u,Sf a.1 u->Sf l0 u
 eq:a.2=false->a.1=l0
 lt:a.2=true->∃u,Sf l0 u/\¬Sf a.1 u
def TrI.zgY (h:TrI g l0 a)(ht:∀u v,u∈Qe t v↔v∈Qe g u)(hn:g.length<4294967295):TrI g l0 (trV g t a v):=by
 unfold trV
 split
 ·rename_i hc
  obtain⟨hl,ha⟩:=hc;have hv:=SS hl;have hvn:v≠4294967295:=by have:=h.i.n;omega
  have hal:∀w,Mut g v w->w=v:=λw hw=>by
   rcases ha with ha|ha
   ·exact zbF h.i.cl hl (λu hu hu2=>ZI.1 ha u hu hu2) hw
   ·exact zeg h.i.cl hl (λu hu hu2=>ZI.1 ha u ((ht u v).2 hu) hu2) hw
  refine⟨⟨by rw[List.length_set];exact h.i.n,λu x hx hne=>?_,?_⟩,λu hu=>h.sub u ((z1H hvn hv).1 hu).1,λe=>(by cases e),λ_=>⟨v,h.sub v hl,λe=>((z1H hvn hv).1 e).2 rfl⟩⟩
  ·by_cases e:v=u
   ·subst e;have hx:(a.1.set v v)[v]? =some x:=hx;rw[List.getElem?_set_self hv] at hx;obtain rfl:=Option.some.inj hx;exact .alone hal
   ·have hx:(a.1.set v v)[u]? =some x:=hx;rw[List.getElem?_set_ne e] at hx;exact h.i.lab u x hx hne
  ·have:=Cl.drop h.i.cl (M:=λu=>u=v) (λu w e hm=>by subst e;exact hal w hm);intro u w hu hm;exact(z1H hvn hv).2 (this u w ((z1H hvn hv).1 hu) hm)
 ·exact h
theorem TrI.all (h:z2S g l)(ht:∀u v,u∈Qe t v↔v∈Qe g u)(hn:g.length<4294967295):∀k,TrI g l (trS g t l k)
 |0=>⟨h,λ_ e=>e,λ_=>rfl,λe=>(by cases e)⟩
 | k + 1 => by
   have:=(TrI.all h ht hn k).zgY (v:=k) ht hn;unfold trS at this⊢;rw[List.range_succ,List.foldl_append];exact this
/-! ### Colours -/
inductive RU (g:List (List Nat)) (l:List Nat) (a:Nat):Nat->Prop
 |refl:Sf l a->RU g l a a
 |step {x b:Nat}:RU g l a x->b∈Qe g x->Sf l b->RU g l a b
def RU.rch {a b:Nat}(h:RU g l a b):YF g a b:=by
 induction h with
 |refl=>exact .refl
 |step _ hx _ ih=>exact .step ih hx
def RU.left {a b:Nat}(h:RU g l a b):Sf l a:=by
 induction h with
 |refl h=>exact h
 |step _ _ _ ih=>exact ih
theorem RU.trans {a b x:Nat}(h1:RU g l a b)(h2:RU g l b x):RU g l a x:=by
 induction h2 with
 |refl _=>exact h1
 |step _ hx hl ih=>exact .step ih hx hl
structure Zj (g:List (List Nat))(l c:List Nat):Prop where
 n:c.length=g.length
 from_:∀u,Sf l u->RU g l (c.getD u 0) u
 le:∀u,Sf l u->c.getD u 0<=u
structure CoI (g:List (List Nat))(l c0:List Nat)(D:Nat->Nat->Prop)(a:List Nat×Bool):Prop where
 i:Zj g l a.1
 mono:∀u,a.1.getD u 0<=c0.getD u 0
 eq:a.2=false->a.1=c0
 lt:a.2=true->∃u,Sf l u/\a.1.getD u 0<c0.getD u 0
 did:∀v u,D v u->a.1.getD u 0<=c0.getD v 0
def CoI.zlO {D:Nat->Nat->Prop}(h:CoI g l c0 D a)(hl:l.length=g.length){u:Nat}(hv:Sf l v)(hu:u∈Qe g v):CoI g l c0 (λv' u'=>D v' u'\/(v'=v/\u'=u/\Sf l u)) (YR l v a u):=by
 unfold YR
 split
 ·rename_i hc
  obtain⟨hul,hlt⟩:=hc;have hun:u<a.1.length:=by have:=SS hul;have:=h.i.n;omega
  have hm:=h.mono u;have hmv:=h.mono v;refine⟨⟨by rw[List.length_set];exact h.i.n,λx hx=>?_,λx hx=>?_⟩,λx=>?_,λe=>(by cases e),λ_=>⟨u,hul,?_⟩,λv' u' hD=>?_⟩
  ·show RU g l ((a.1.set u (a.1.getD v 0)).getD x 0) x;rw[TZ hun];split
   ·rename_i e
    subst e;exact .step (h.i.from_ v hv) hu hul
   ·exact h.i.from_ x hx
  ·show(a.1.set u (a.1.getD v 0)).getD x 0<=x;rw[TZ hun];split
   ·rename_i e
    subst e;have:=h.i.le x hul;omega
   ·exact h.i.le x hx
  ·show(a.1.set u (a.1.getD v 0)).getD x 0<=_;rw[TZ hun];split
   ·rename_i e
    subst e;omega
   ·exact h.mono x
  ·show(a.1.set u (a.1.getD v 0)).getD u 0<_;rw[TZ hun,if_pos O];omega
  ·show(a.1.set u (a.1.getD v 0)).getD u' 0<=_;rw[TZ hun];split
   ·rename_i e
    rcases hD with hD|⟨rfl,-⟩
    ·have:=h.did v' u' hD;subst e;omega
    ·exact hmv
   ·rename_i e
    rcases hD with hD|⟨-,e2,-⟩
    ·exact h.did v' u' hD
    ·exact absurd e2 e
 ·rename_i hc
  refine⟨h.i,h.mono,h.eq,h.lt,λv' u' hD=>?_⟩;rcases hD with hD|⟨rfl,rfl,hul⟩
  ·exact h.did v' u' hD
  ·have h1:¬a.1.getD v' 0<a.1.getD u' 0:=λe=>hc ⟨hul,e⟩;have h2:=h.mono v';omega
def CoI.zf8 {D:Nat->Nat->Prop}(hl:l.length=g.length)(hv:Sf l v):∀{us:List Nat} {a:List Nat×Bool},CoI g l c0 D a->(∀u∈us,u∈Qe g v)->CoI g l c0 (λv' u'=>D v' u'\/(v'=v/\u'∈us/\Sf l u')) (us.foldl (YR l v) a)
 |[],a,h,_=>⟨h.i,h.mono,h.eq,h.lt,λv' u' hD=>hD.elim (h.did v' u') λe=>(by cases e.2.1)⟩
 | u :: us, a, h, hu => by
   have h1:=h.zlO hl hv (hu u List.mem_cons_self);have h2:=CoI.zf8 hl hv h1 λx hx=>hu x (List.mem_cons_of_mem _ hx);refine⟨h2.i,h2.mono,h2.eq,h2.lt,λv' u' hD=>h2.did v' u' ?_⟩;rcases hD with hD|⟨e1,e2,e3⟩
   ·exact .inl (.inl hD)
   ·rcases List.mem_cons.1 e2 with e| e
    ·subst e;exact .inl (.inr ⟨e1,rfl,e3⟩)
    ·exact .inr ⟨e1,e,e3⟩
theorem CoI.all (h:Zj g l c)(hl:l.length=g.length):∀k,CoI g l c (λv u=>v<k/\Sf l v/\u∈Qe g v/\Sf l u) (Zg g l c k)
 |0=>⟨h,λ_=>Nat.le_refl _,λ_=>rfl,λe=>(by cases e),λv u hD=>absurd hD.1 (Nat.not_lt_zero _)⟩
 | k + 1 => by
   have h1:=CoI.all h hl k;have e:Zg g l c (k+1)=coV g l (Zg g l c k) k:=by unfold Zg;rw[List.range_succ,List.foldl_append];rfl
   rw[e];unfold coV;split
   ·rename_i hv
    have h2:=h1.zf8 hl hv (us:=Qe g k) λu hu=>hu;refine⟨h2.i,h2.mono,h2.eq,h2.lt,λv u ⟨d1,d2,d3,d4⟩=>h2.did v u ?_⟩;by_cases e:v=k
    ·subst e;exact .inr ⟨rfl,d3,d4⟩
    ·exact .inl ⟨ω,d2,d3,d4⟩
   ·rename_i hv
    refine⟨h1.i,h1.mono,h1.eq,h1.lt,λv u ⟨d1,d2,d3,d4⟩=>h1.did v u ⟨?_,d2,d3,d4⟩⟩;by_cases e:v=k
    ·subst e;exact absurd d2 hv
    ·omega
def z88 (g:List (List Nat))(l c:List Nat)(u:Nat):Prop:=Sf l u/\∀x,RU g l x u->c.getD u 0<=x
def RU.zie {P:Nat->Prop}{a b:Nat}(h:RU g l a b)(ha:P a)(hb:¬P b):∃y z,RU g l a y/\P y/\z∈Qe g y/\Sf l z/\¬P z/\RU g l z b:=by
 induction h with
 |refl _=>exact absurd ha hb
 | step hx hz hl ih =>
   rename_i x z
   by_cases e:P x
   ·exact⟨x,z,hx,e,hz,hl,hb,.refl hl⟩
   ·obtain⟨y,z',h1,h2,h3,h4,h5,h6⟩:=ih e;exact⟨y,z',h1,h2,h3,h4,h5,.step h6 hz hl⟩
def z6s {b:Nat}:∀(x:Nat),RU g l x b->∃y,y<=x/\RU g l y b/\∀z,RU g l z b->y<=z:=by
 intro x
 induction x using Nat.strongRecOn with
 | ind x ih =>
   intro h;by_cases e:∃z,RU g l z b/\z<x
   ·obtain⟨z,hz,hlt⟩:=e;obtain⟨y,h1,h2,h3⟩:=ih z hlt hz;exact⟨y,ω,h2,h3⟩
   ·exact⟨x,Nat.le_refl _,h,λz hz=>by
     rcases Nat.lt_or_ge z x with h1|h1
     ·exact absurd ⟨z,hz,h1⟩ e
     ·exact h1⟩
def z4V (hc:Zj g l c)(hl:l.length=g.length){b:List Nat×Bool}(h:CoI g l c (λv u=>v<g.length/\Sf l v/\u∈Qe g v/\Sf l u) b)(hb:b.2=true):z2m g.length (z88 g l c)<z2m g.length (z88 g l b.1):=by
 obtain⟨u,hu,hlt⟩:=h.lt hb
 obtain⟨x,h1,h2,h3⟩:=z6s _ (h.i.from_ u hu)
 have hxl:=h2.left
 have hxF:z88 g l c x:=⟨hxl,λz hz=>Nat.le_trans (hc.le x hxl) (h3 z (hz.trans h2))⟩
 have huF:¬z88 g l c u:=λe=>by
  have:=e.2 x h2;omega
 obtain⟨y,z,p1,p2,p3,p4,p5,p6⟩:=h2.zie (P:=z88 g l c) hxF huF
 have hyl:=p2.1
 have hyn:y<g.length:=by have:=SS hyl;omega
 have hzn:z<g.length:=by have:=SS p4;omega
 refine ZE (λw _ hw=>⟨hw.1,λq hq=>Nat.le_trans (h.mono w) (hw.2 q hq)⟩) hzn p5 ⟨p4,λq hq=>?_⟩
 have d1:=h.did y z ⟨hyn,hyl,p3,p4⟩
 have d2:=p2.2 x p1
 have d3:=h3 q (hq.trans p6)
 omega
theorem Zj.rest (hc:Zj g l c)(h:CoI g l c (λv u=>v<g.length/\Sf l v/\u∈Qe g v/\Sf l u) (c,false))(hl:l.length=g.length):z1s g (Sf l) (λu=>c.getD u 0):=
 ⟨λu hu=>(hc.from_ u hu).rch,hc.le,λv u hv hu hs=>h.did v u ⟨by have:=SS hv;omega,hv,hs,hu⟩⟩
def Yx {P:List Nat->Nat->Prop}[∀l v,Decidable (P l v)]{f:Nat->Nat}{l0:List Nat}(hP:∀l v,l.length=l0.length->l[v]? =l0[v]?->(P l v↔P l0 v)):∀k,k<=l0.length->∀u,((List.range k).foldl (λl v=>if P l v then l.set v (f v) else l) l0).length=l0.length/\((List.range k).foldl (λl v=>if P l v then l.set v (f v) else l) l0)[u]? =if u<k/\P l0 u then some (f u) else l0[u]?
 |0,_,u=>⟨rfl,by rw[if_neg (λe=>absurd e.1 (Nat.not_lt_zero _))];rfl⟩
 | k + 1, hk, u => by
   have ih:=Yx (f:=f) hP k ω;rw[List.range_succ,List.foldl_append]
   generalize (List.range k).foldl (λl v=>if P l v then l.set v (f v) else l) l0=q at ih
   have hq:=(ih u).1;have hqk:=(ih k).2;rw[if_neg (λe=>absurd e.1 (Nat.lt_irrefl _))] at hqk;have hPk:=hP q k hq hqk;show(if P q k then q.set k (f k) else q).length=_/\(if P q k then q.set k (f k) else q)[u]? =_;by_cases e:P l0 k
   ·rw[if_pos (hPk.2 e)];refine⟨by rw[List.length_set];exact hq,?_⟩;by_cases e2:k=u
    ·subst e2;rw[List.getElem?_set_self ω,if_pos ⟨Nat.lt_succ_self _,e⟩]
    ·rw[List.getElem?_set_ne e2,(ih u).2];by_cases e3:u<k/\P l0 u
     ·rw[if_pos e3,if_pos ⟨ω,e3.2⟩]
     ·rw[if_neg e3,if_neg (λe4=>e3 ⟨ω,e4.2⟩)]
   ·rw[if_neg (λe2=>e (hPk.1 e2))];refine⟨hq,?_⟩;rw[(ih u).2];by_cases e3:u<k/\P l0 u
    ·rw[if_pos e3,if_pos ⟨ω,e3.2⟩]
    ·rw[if_neg e3,if_neg (λe4=>?_)];by_cases e5:u=k
     ·subst e5;exact e e4.2
     ·exact e3 ⟨ω,e4.2⟩
theorem z9J (hl:l.length=g.length)(hc:c.length=g.length)(u:Nat):(rsC l c g.length).length=g.length/\(rsC l c g.length)[u]? =if Sf l u then some u else c[u]? :=by
 have h:=Yx (P:=λ_ v=>Sf l v) (f:=λv=>v) (l0:=c) (λ_ _ _ _=>Iff.rfl) g.length ω u
 refine⟨by unfold rsC;rw[h.1];exact hc,?_⟩
 unfold rsC
 rw[h.2]
 by_cases e:Sf l u
 ·rw[if_pos ⟨by have:=SS e;omega,e⟩,if_pos e]
 ·rw[if_neg (λe2=>e e2.2),if_neg e]
def zee (hl:l.length=g.length)(hc:c.length=g.length):Zj g l (rsC l c g.length):=by
 have hg:∀u,Sf l u->(rsC l c g.length).getD u 0=u:=λu hu=>UC (by rw[(z9J hl hc u).2,if_pos hu])
 exact⟨(z9J hl hc 0).1,λu hu=>by rw[hg u hu];exact .refl hu,λu hu=>by rw[hg u hu];exact Nat.le_refl _⟩
/-! ### Marks -/
structure z74 (g:List (List Nat))(l c m:List Nat):Prop where
 n:m.length=g.length
 bit:∀(v x:Nat),m[v]? =some x->x=0\/x=1
 to_:∀v,Sf l v->m.getD v 0=1->YF g v (c.getD v 0)
 some_:∃v,Sf l v/\m.getD v 0=1
abbrev mrk (l m:List Nat)(v:Nat):Prop:=Sf l v/\m.getD v 0=1
structure BkI (g:List (List Nat))(l c m0:List Nat)(k:Nat)(a:List Nat×Bool):Prop where
 i:z74 g l c a.1
 mono:∀v,m0.getD v 0=1->a.1.getD v 0=1
 eq:a.2=false->a.1=m0
 lt:a.2=true->∃v,Sf l v/\a.1.getD v 0=1/\m0.getD v 0≠1
 did:a.2=false->∀v,v<k->Sf l v->m0.getD v 0=0->∀u,u∈Qe g v->¬bkC l c m0 v u
theorem BkI.zgY (h:BkI g l c m0 k a)(hl:l.length=g.length):BkI g l c m0 (k+1) (bkV g l c a k):=by
 unfold bkV
 split
 ·rename_i hc
  obtain⟨hkl,hk0,hany⟩:=hc;obtain⟨u,hu,hb⟩:=List.any_eq_true.1 hany;obtain⟨b1,b2,b3⟩:=of_decide_eq_true hb;have hkn:k<a.1.length:=by have:=SS hkl;have:=h.i.n;omega
  refine⟨⟨by rw[List.length_set];exact h.i.n,λv x hx=>?_,λv hv hm=>?_,?_⟩,λv hv=>?_,λe=>(by cases e),λ_=>⟨k,hkl,?_,λe=>?_⟩,λe=>(by cases e)⟩
  ·rcases List.mem_or_eq_of_mem_set (List.mem_of_getElem? hx) with e| e
   ·obtain⟨j,hj⟩:=List.getElem?_of_mem e;exact h.i.bit j x hj
   ·exact .inr e
  ·have hm:(a.1.set k 1).getD v 0=1:=hm;rw[TZ hkn] at hm;split at hm
   ·rename_i e
    subst e;have:=h.i.to_ u b1 b2;rw[b3] at this;exact(YF.one hu).trans this
   ·exact h.i.to_ v hv hm
  ·exact⟨k,hkl,by show(a.1.set k 1).getD k 0=1;rw[TZ hkn,if_pos O]⟩
  ·show(a.1.set k 1).getD v 0=1;rw[TZ hkn];split
   ·rfl
   ·exact h.mono v hv
  ·show(a.1.set k 1).getD k 0=1;rw[TZ hkn,if_pos O]
  ·have:=h.mono k e;omega
 ·rename_i hc
  refine⟨h.i,h.mono,h.eq,h.lt,λe v hv hvl hv0 u hu hb=>?_⟩;by_cases e2:v=k
  ·subst e2;rw[h.eq e] at hc;exact hc ⟨hvl,hv0,List.any_eq_true.2 ⟨u,hu,decide_eq_true hb⟩⟩
  ·exact h.did e v ω hvl hv0 u hu hb
theorem BkI.all (h:z74 g l c m)(hl:l.length=g.length):∀k,BkI g l c m k (bkS g l c m k)
 |0=>⟨h,λ_ e=>e,λ_=>rfl,λe=>(by cases e),λ_ v hv=>absurd hv (Nat.not_lt_zero _)⟩
 | k + 1 => by
   have h1:=(BkI.all h hl k).zgY hl;unfold bkS at h1⊢;rw[List.range_succ,List.foldl_append];exact h1
theorem z9w (hl:l.length=g.length)(u:Nat):(rsM l c (List.replicate g.length 0) g.length).length=g.length/\(rsM l c (List.replicate g.length 0) g.length)[u]? =if Sf l u/\c.getD u 0=u then some 1 else(List.replicate g.length 0)[u]? :=by
 have h:=Yx (P:=λ_ v=>Sf l v/\c.getD v 0=v) (f:=λ_=>1) (l0:=List.replicate g.length 0) (λ_ _ _ _=>Iff.rfl) g.length (by rw[List.length_replicate];exact Nat.le_refl _) u
 refine⟨by unfold rsM;rw[h.1];exact List.length_replicate,?_⟩
 unfold rsM
 rw[h.2]
 by_cases e:Sf l u/\c.getD u 0=u
 ·rw[if_pos ⟨by have:=SS e.1;omega,e⟩,if_pos e]
 ·rw[if_neg (λe2=>e e2.2),if_neg e]
def zev (hl:l.length=g.length)(hc:Zj g l c)(hu:∃v,Sf l v):z74 g l c (rsM l c (List.replicate g.length 0) g.length):=by
 have hg:=λu=>(z9w (g:=g) (c:=c) hl u).2
 refine⟨(z9w hl 0).1,λv x hx=>?_,λv hv hm=>?_,?_⟩
 ·rw[hg] at hx;split at hx
  ·exact .inr (Option.some.inj hx).symm
  ·exact .inl (List.mem_replicate.1 (List.mem_of_getElem? hx)).2
 ·by_cases e:c.getD v 0=v
  ·rw[e];exact .refl
  ·rw[List.getD_eq_getElem?_getD,hg,if_neg (λe2=>e e2.2),List.getElem?_replicate] at hm;split at hm<;>cases hm
 ·obtain⟨v,hv⟩:=hu
  -- the Q0 of v's last Q0
  have key:∀x,Sf l x->∃y,Sf l y/\c.getD y 0=y:=by
   intro x
   induction x using Nat.strongRecOn with
   | ind x ih =>
     intro hx;by_cases e:c.getD x 0=x
     ·exact⟨x,hx,e⟩
     ·have h1:=hc.le x hx;exact ih (c.getD x 0) ω (hc.from_ x hx).left
  obtain⟨y,h1,h2⟩:=key v hv;exact⟨y,h1,UC (by rw[hg,if_pos ⟨h1,h2⟩])⟩
theorem z90 (hl:l.length=g.length)(u:Nat):(rsL l c m g.length).length=g.length/\(rsL l c m g.length)[u]? =if Sf l u/\m.getD u 0=1 then some (c.getD u 0) else l[u]? :=by
 have h:=Yx (P:=λl v=>Sf l v/\m.getD v 0=1) (f:=λv=>c.getD v 0) (l0:=l) (λl' v _ e=>by unfold Sf;rw[e]) g.length ω u
 refine⟨by unfold rsL;rw[h.1];exact hl,?_⟩
 unfold rsL
 rw[h.2]
 by_cases e:Sf l u/\m.getD u 0=1
 ·rw[if_pos ⟨by have:=SS e.1;omega,e⟩,if_pos e]
 ·rw[if_neg (λe2=>e e2.2),if_neg e]
theorem zek (h:z2S g l)(hc:Zj g l c)(hr:z1s g (Sf l) (λu=>c.getD u 0))(hM:z74 g l c m)(hm:zdU g (Sf l) (λu=>c.getD u 0) (λu=>m.getD u 0=1))(hn:g.length<4294967295):z2S g (rsL l c m g.length)/\(∀u,Sf (rsL l c m g.length) u↔Sf l u/\¬m.getD u 0=1):=by
 have hg:=λu=>(z90 (g:=g) (c:=c) (m:=m) h.n u).2
 have hlf:∀u,Sf (rsL l c m g.length) u↔Sf l u/\¬m.getD u 0=1:=λu=>by
  show(rsL l c m g.length)[u]? =_↔_;rw[hg];by_cases e:Sf l u/\m.getD u 0=1
  ·rw[if_pos e];have h1:=hc.le u e.1;have h2:=SS e.1;have h3:=h.n;exact⟨λe2=>by have:=Option.some.inj e2;omega,λe2=>absurd e.2 e2.2⟩
  ·rw[if_neg e];exact⟨λe2=>⟨e2,λe3=>e ⟨e2,e3⟩⟩,λe2=>e2.1⟩
 refine⟨⟨(z90 h.n 0).1,λv x hx hne=>?_,λu w hu hmu=>?_⟩,hlf⟩
 ·rw[hg] at hx;split at hx
  ·rename_i e
   obtain rfl:=Option.some.inj hx;exact hr.least h.cl e.1 (hM.to_ v e.1 e.2)
  ·exact h.lab v x hx hne
 ·rw[hlf] at hu⊢;refine⟨h.cl u w hu.1 hmu,λe=>hu.2 ?_⟩;exact hm.whole hr h.cl (h.cl u w hu.1 hmu) e hmu.symm
end
structure Ve (g:List (List Nat))(s:T8):Prop where
 ph:s.phase<=2
 ln:s.label.length=g.length
 cn:s.Q0.length=g.length
 mn:s.mark.length=g.length
 lb:∀x∈s.label,x<4294967296
 cb:∀x∈s.Q0,x<4294967296
 mb:∀x∈s.mark,x<256
section
variable {g t:List (List Nat)}{s:T8}{l c m:List Nat}{b k:Nat}
def Uw {P:Nat->Prop}{l:List Nat}{v y:Nat}(h:∀x∈l,P x)(hy:P y):∀x∈l.set v y,P x:=λx hx=>by
 rcases List.mem_or_eq_of_mem_set hx with e| e
 ·exact h x e
 ·rw[e];exact hy
def z1Y {P:Nat->Prop}{l:List Nat}{v:Nat}(h:∀x∈l,P x)(h0:P 0):P (l.getD v 0):=by
 rw[List.getD_eq_getElem?_getD]
 cases e:l[v]? with
 |none=>exact h0
 |some y=>exact h y (List.mem_of_getElem? e)
def z9x (hl:∀x∈l,x<4294967296):∀k,k<=100000->(∀x∈(trS g t l k).1,x<4294967296)/\(trS g t l k).1.length=l.length
 |0,_=>⟨hl,rfl⟩
 | k + 1, hk => by
   have ih:=z9x hl k ω;unfold trS at ih⊢;rw[List.range_succ,List.foldl_append];show(∀x∈(trV g t _ k).1,_)/\(trV g t _ k).1.length=_;unfold trV;split
   ·exact⟨Uw ih.1 ω,by rw[List.length_set];exact ih.2⟩
   ·exact ih
def z1A {v:Nat}:∀{us:List Nat} {a:List Nat×Bool},(∀x∈a.1,x<4294967296)->(∀x∈(us.foldl (YR l v) a).1,x<4294967296)/\(us.foldl (YR l v) a).1.length=a.1.length
 |[],a,h=>⟨h,rfl⟩
 | u :: us, a, h => by
   have h1:(∀x∈(YR l v a u).1,x<4294967296)/\(YR l v a u).1.length=a.1.length:=by
    unfold YR;split
    ·exact⟨Uw h (z1Y (P:=λx=>x<4294967296) h ψ),List.length_set⟩
    ·exact⟨h,rfl⟩
   have h2:=z1A (v:=v) (us:=us) h1.1;exact⟨h2.1,h2.2.trans h1.2⟩
def z9i (hc:∀x∈c,x<4294967296):∀k,(∀x∈(Zg g l c k).1,x<4294967296)/\(Zg g l c k).1.length=c.length
 |0=>⟨hc,rfl⟩
 | k + 1 => by
   have ih:=z9i hc k;unfold Zg at ih⊢;rw[List.range_succ,List.foldl_append];show(∀x∈(coV g l _ k).1,_)/\(coV g l _ k).1.length=_;unfold coV;split
   ·have h2:=z1A (l:=l) (v:=k) (us:=Qe g k) ih.1;exact⟨h2.1,h2.2.trans ih.2⟩
   ·exact ih
def z9d (hm:∀x∈m,x<256):∀k,(∀x∈(bkS g l c m k).1,x<256)/\(bkS g l c m k).1.length=m.length
 |0=>⟨hm,rfl⟩
 | k + 1 => by
   have ih:=z9d hm k;unfold bkS at ih⊢;rw[List.range_succ,List.foldl_append];show(∀x∈(bkV g l c _ k).1,_)/\(bkV g l c _ k).1.length=_;unfold bkV;split
   ·exact⟨Uw ih.1 ψ,by rw[List.length_set];exact ih.2⟩
   ·exact ih
def z8O (hc:∀x∈c,x<4294967296):∀k,k<=100000->(∀x∈rsC l c k,x<4294967296)/\(rsC l c k).length=c.length
 |0,_=>⟨hc,rfl⟩
 | k + 1, hk => by
   have ih:=z8O hc k ω;unfold rsC at ih⊢;rw[List.range_succ,List.foldl_append];show(∀x∈(if Sf l k then _ else _),_)/\(if Sf l k then _ else _:List Nat).length=_;split
   ·exact⟨Uw ih.1 ω,by rw[List.length_set];exact ih.2⟩
   ·exact ih
def z99 (hm:∀x∈m,x<256):∀k,(∀x∈rsM l c m k,x<256)/\(rsM l c m k).length=m.length
 |0=>⟨hm,rfl⟩
 | k + 1 => by
   have ih:=z99 hm k;unfold rsM at ih⊢;rw[List.range_succ,List.foldl_append];show(∀x∈(if Sf l k/\c.getD k 0=k then _ else _),_)/\(if Sf l k/\c.getD k 0=k then _ else _:List Nat).length=_;split
   ·exact⟨Uw ih.1 ψ,by rw[List.length_set];exact ih.2⟩
   ·exact ih
def z8Z (hl:∀x∈l,x<4294967296)(hc:∀x∈c,x<4294967296):∀k,(∀x∈rsL l c m k,x<4294967296)/\(rsL l c m k).length=l.length
 |0=>⟨hl,rfl⟩
 | k + 1 => by
   have ih:=z8Z hl hc k;unfold rsL at ih⊢;rw[List.range_succ,List.foldl_append];show(∀x∈(if _/\_ then _ else _),_)/\(if _/\_ then _ else _:List Nat).length=_;split
   ·exact⟨Uw ih.1 (z1Y (P:=λx=>x<4294967296) hc ψ),by rw[List.length_set];exact ih.2⟩
   ·exact ih
def Ve.new (hn:g.length<=60):Ve g (T8.new g.length):=
 ⟨Nat.zero_le _,List.length_replicate,List.length_replicate,List.length_replicate,λx hx=>by rw[(List.mem_replicate.1 hx).2];decide,λx hx=>by rw[(List.mem_replicate.1 hx).2];decide,λx hx=>by rw[(List.mem_replicate.1 hx).2];decide⟩
theorem Ve.go (h:Ve g s)(hn:g.length<=60):Ve g (s.go g t):=by
 have h1:=z9x (g:=g) (t:=t) h.lb g.length ω
 have h2:=z9i (g:=g) (l:=s.label) h.cb g.length
 have h3:=z9d (g:=g) (l:=s.label) (c:=s.Q0) h.mb g.length
 have h4:=z8O (l:=s.label) h.cb g.length ω
 have h5:=z99 (l:=s.label) (c:=s.Q0) (m:=List.replicate g.length 0) (λx hx=>by rw[(List.mem_replicate.1 hx).2];decide) g.length
 have h6:=z8Z (m:=s.mark) h.lb h.cb g.length
 have l5:(List.replicate g.length 0).length=g.length:=List.length_replicate
 unfold T8.go
 dsimp only
 split
 ·split
  ·exact⟨h.ph,h1.2.trans h.ln,h.cn,h.mn,h1.1,h.cb,h.mb⟩
  ·exact⟨by show 1<=2;decide,h.ln,h4.2.trans h.cn,h.mn,h.lb,h4.1,h.mb⟩
 ·split
  ·split
   ·exact⟨h.ph,h.ln,h2.2.trans h.cn,h.mn,h.lb,h2.1,h.mb⟩
   ·exact⟨by show 2<=2;decide,h.ln,h.cn,h5.2.trans l5,h.lb,h.cb,h5.1⟩
  ·split
   ·exact⟨h.ph,h.ln,h.cn,h3.2.trans h.mn,h.lb,h.cb,h3.1⟩
   ·exact⟨by show 0<=2;decide,h6.2.trans h.ln,h.cn,h.mn,h6.1,h.cb,h.mb⟩
theorem Ve.step (h:Ve g s)(hn:g.length<=60):Ve g (s.step g t):=
 let h':=Ve.go (t:=t) h hn
 ⟨h'.ph,h'.ln,h'.cn,h'.mn,h'.lb,h'.cb,h'.mb⟩
/-! ### The bound -/
noncomputable def kS (g:List (List Nat))(l:List Nat):Nat:=z2m g.length (Sf l)
noncomputable def fS (g:List (List Nat))(l c:List Nat):Nat:=z2m g.length (z88 g l c)
noncomputable def mS (g:List (List Nat))(l m:List Nat):Nat:=z2m g.length (mrk l m)
def rS (k:Nat):Nat:=k*k+3*k
def z4H {a b:Nat}(h:a<=b):rS a<=rS b:=by
 have:=Nat.mul_le_mul h h
 unfold rS;omega
def zeJ (k:Nat):rS (k+1)=rS k+2*k+4:=by
 unfold rS
 rw[Nat.mul_add,Nat.add_mul];omega
structure ScJ (g:List (List Nat))(s:T8)(b:Nat):Prop where
 i:Ve g s
 lab:z2S g s.label
 dn:s.done=false↔∃v,Sf s.label v
 p0:s.phase=0->rS (kS g s.label)<=b
 p1:s.phase=1->Zj g s.label s.Q0/\kS g s.label-fS g s.label s.Q0+1+kS g s.label+rS (kS g s.label-1)<=b
 p2:s.phase=2->Zj g s.label s.Q0/\z1s g (Sf s.label) (λu=>s.Q0.getD u 0)/\z74 g s.label s.Q0 s.mark/\kS g s.label-mS g s.label s.mark+1+rS (kS g s.label-1)<=b
theorem z2D (hl:l.length=g.length):z2r l g.length=false↔∃v,Sf l v:=by
 constructor
 ·intro h;unfold z2r at h;rw[List.all_eq_false] at h;obtain⟨v,-,hv⟩:=h;refine⟨v,?_⟩;by_cases e:Sf l v
  ·exact e
  ·rw[decide_eq_false e] at hv;exact absurd O hv
 ·rintro⟨v,hv⟩;unfold z2r;rw[List.all_eq_false];exact⟨v,List.mem_range.2 (by have:=SS hv;omega),by rw[decide_eq_true hv];decide⟩
theorem ScJ.new (hg:Tl g)(h1:1<=g.length):ScJ g (T8.new g.length) (g.length*g.length+3*g.length):=by
 have hl:∀v,Sf (T8.new g.length).label v↔v<g.length:=λv=>by
  show(List.replicate g.length 4294967295)[v]? =some 4294967295↔_;rw[List.getElem?_replicate];split
  ·rename_i e;exact⟨λ_=>e,λ_=>rfl⟩
  ·rename_i e;exact⟨λh=>(by cases h),λh=>absurd h e⟩
 refine⟨Ve.new hg.n,⟨List.length_replicate,λv x hx hne=>?_,λu v hu hm=>?_⟩,⟨λ_=>⟨0,(hl 0).2 h1⟩,λ_=>rfl⟩,λ_=>?_,λe=>(by cases e),λe=>(by cases e)⟩
 ·exact absurd (List.mem_replicate.1 (List.mem_of_getElem? hx)).2 hne
 ·exact(hl v).2 (hm.1.lt hg ((hl u).1 hu))
 ·exact z4H (b:=g.length) zgu
def zeQ (hl:l.length=g.length)(hc:Zj g l c)(hu:∃v,Sf l v):0<fS g l c:=by
 obtain⟨u,hu⟩:=hu
 obtain⟨x,h1,h2,h3⟩:=z6s (g:=g) (l:=l) u (.refl hu)
 have hxl:=h2.left
 exact z1U (by have:=SS hxl;omega) (⟨hxl,λz hz=>Nat.le_trans (hc.le x hxl) (h3 z (hz.trans h2))⟩:z88 g l c x)
theorem ScJ.step (h:ScJ g s b)(hg:Tl g)(ht:∀u v,u∈Qe t v↔v∈Qe g u)(hd:s.done=false):∃b',b'+1<=b/\ScJ g (s.step g t) b':=by
 have hn:=hg.n
 have hI:=h.i.step (t:=t) hn
 have hex:=h.dn.1 hd
 have hln:=h.lab.n
 have hk1:1<=kS g s.label:=by
  obtain⟨v,hv⟩:=hex;exact z1U (by have:=SS hv;omega) hv
 have hdn:∀s':T8,s.go g t=s'->s'.label.length=g.length->((s.step g t).done=false↔∃v,Sf (s.step g t).label v):=λs' e hl=>by
  show z2r (s.go g t).label g.length=false↔∃v,Sf (s.go g t).label v;rw[e];exact z2D hl
 have hph:=h.i.ph
 obtain⟨k,hk⟩:∃k,kS g s.label=k+1:=⟨kS g s.label-1,ω⟩
 have hrk:=zeJ k
 rcases (by omega:s.phase=0\/s.phase=1\/s.phase=2) with hp|hp|hp
 ·have hb:=h.p0 hp;rw[hk] at hb;have hT:=TrI.all h.lab ht ω g.length
  cases e:(trS g t s.label g.length).2 with
  | true =>
    have ego:s.go g t={s with label:=(trS g t s.label g.length).1}:=by unfold T8.go;simp only[hp,e,if_true]
    obtain⟨v,v1,v2⟩:=hT.lt e;have hlt:kS g (trS g t s.label g.length).1<kS g s.label:=ZE (λu _=>hT.sub u) (by have:=SS v1;omega) v2 v1;refine⟨b-1,ω,hI,?_,hdn _ ego hT.i.n,?_,?_,?_⟩
    ·show z2S g (s.go g t).label;rw[ego];exact hT.i
    ·intro _;show rS (kS g (s.go g t).label)<=b-1;rw[ego];have:=z4H (a:=kS g (trS g t s.label g.length).1) (b:=k) ω;show rS (kS g (trS g t s.label g.length).1)<=b-1;omega
    ·intro e2;have e2:(s.go g t).phase=1:=e2;rw[ego] at e2;exact absurd (hp.symm.trans e2) ψ
    ·intro e2;have e2:(s.go g t).phase=2:=e2;rw[ego] at e2
     exact absurd (hp.symm.trans e2) ψ
  | false =>
    have ego:s.go g t={s with phase:=1,Q0:=rsC s.label s.Q0 g.length}:=by unfold T8.go;simp[hp,e]
    have hC:=zee (g:=g) hln h.i.cn;have hF:=zeQ hln hC hex;refine⟨b-1,ω,hI,?_,hdn _ ego hln,?_,?_,?_⟩
    ·show z2S g (s.go g t).label;rw[ego];exact h.lab
    ·intro e2;have e2:(s.go g t).phase=0:=e2;rw[ego] at e2;cases e2
    ·intro _;show Zj g (s.go g t).label (s.go g t).Q0/\kS g (s.go g t).label-fS g (s.go g t).label (s.go g t).Q0+1+kS g (s.go g t).label+rS (kS g (s.go g t).label-1)<=b-1;rw[ego];refine⟨hC,?_⟩;show kS g s.label-fS g s.label (rsC s.label s.Q0 g.length)+1+kS g s.label+rS (kS g s.label-1)<=b-1;rw[hk,Nat.add_sub_cancel];omega
    ·intro e2;have e2:(s.go g t).phase=2:=e2;rw[ego] at e2;cases e2
 ·obtain⟨hC,hb⟩:=h.p1 hp;rw[hk,Nat.add_sub_cancel] at hb;have hA:=CoI.all hC hln g.length;have hfk:∀c',fS g s.label c'<=kS g s.label:=λc'=>z9S λv _ e=>e.1
  cases e:(Zg g s.label s.Q0 g.length).2 with
  | true =>
    have ego:s.go g t={s with Q0:=(Zg g s.label s.Q0 g.length).1}:=by unfold T8.go;simp[hp,e]
    have hlt:fS g s.label s.Q0<fS g s.label (Zg g s.label s.Q0 g.length).1:=z4V hC hln hA e;have hle:=hfk (Zg g s.label s.Q0 g.length).1;refine⟨b-1,ω,hI,?_,hdn _ ego hln,?_,?_,?_⟩
    ·show z2S g (s.go g t).label;rw[ego];exact h.lab
    ·intro e2;have e2:(s.go g t).phase=0:=e2;rw[ego] at e2;exact absurd (hp.symm.trans e2) ψ
    ·intro _;show Zj g (s.go g t).label (s.go g t).Q0/\kS g (s.go g t).label-fS g (s.go g t).label (s.go g t).Q0+1+kS g (s.go g t).label+rS (kS g (s.go g t).label-1)<=b-1;rw[ego];refine⟨hA.i,?_⟩;show kS g s.label-fS g s.label (Zg g s.label s.Q0 g.length).1+1+kS g s.label+rS (kS g s.label-1)<=b-1;rw[hk] at hle⊢;rw[Nat.add_sub_cancel];omega
    ·intro e2;have e2:(s.go g t).phase=2:=e2;rw[ego] at e2
     exact absurd (hp.symm.trans e2) ψ
  | false =>
    have ego:s.go g t={s with phase:=2,mark:=rsM s.label s.Q0 (List.replicate g.length 0) g.length}:=by unfold T8.go;simp[hp,e]
    have hM:=zev (g:=g) hln hC hex
    have hA':CoI g s.label s.Q0 (λv u=>v<g.length/\Sf s.label v/\u∈Qe g v/\Sf s.label u) (s.Q0,false):=by
     have h1:=hA.eq e;have h2:Zg g s.label s.Q0 g.length=(s.Q0,false):=Prod.ext h1 e;rw[h2] at hA;exact hA
    have hR:=hC.rest hA' hln
    have hmp:0<mS g s.label (rsM s.label s.Q0 (List.replicate g.length 0) g.length):=by
     obtain⟨v,v1,v2⟩:=hM.some_;exact z1U (by have:=SS v1;omega) (⟨v1,v2⟩:mrk s.label _ v)
    refine⟨b-1,ω,hI,?_,hdn _ ego hln,?_,?_,?_⟩
    ·show z2S g (s.go g t).label;rw[ego];exact h.lab
    ·intro e2;have e2:(s.go g t).phase=0:=e2;rw[ego] at e2;cases e2
    ·intro e2;have e2:(s.go g t).phase=1:=e2;rw[ego] at e2;cases e2
    ·intro _;show Zj g (s.go g t).label (s.go g t).Q0/\z1s g (Sf (s.go g t).label) (λu=>(s.go g t).Q0.getD u 0)/\z74 g (s.go g t).label (s.go g t).Q0 (s.go g t).mark/\kS g (s.go g t).label-mS g (s.go g t).label (s.go g t).mark+1+rS (kS g (s.go g t).label-1)<=b-1;rw[ego];refine⟨hC,hR,hM,?_⟩;show kS g s.label-mS g s.label (rsM s.label s.Q0 (List.replicate g.length 0) g.length)+1+rS (kS g s.label-1)<=b-1;rw[hk,Nat.add_sub_cancel];omega
 ·obtain⟨hC,hR,hM,hb⟩:=h.p2 hp;rw[hk,Nat.add_sub_cancel] at hb;have hA:=BkI.all hM hln g.length;have hmk:∀m',mS g s.label m'<=kS g s.label:=λm'=>z9S λv _ e=>e.1
  cases e:(bkS g s.label s.Q0 s.mark g.length).2 with
  | true =>
    have ego:s.go g t={s with mark:=(bkS g s.label s.Q0 s.mark g.length).1}:=by unfold T8.go;simp[hp,e]
    obtain⟨v,v1,v2,v3⟩:=hA.lt e;have hlt:mS g s.label s.mark<mS g s.label (bkS g s.label s.Q0 s.mark g.length).1:=ZE (λu _ hu=>⟨hu.1,hA.mono u hu.2⟩) (by have:=SS v1;omega) (λe=>v3 e.2) (⟨v1,v2⟩:mrk s.label _ v);have hle:=hmk (bkS g s.label s.Q0 s.mark g.length).1;refine⟨b-1,ω,hI,?_,hdn _ ego hln,?_,?_,?_⟩
    ·show z2S g (s.go g t).label;rw[ego];exact h.lab
    ·intro e2;have e2:(s.go g t).phase=0:=e2;rw[ego] at e2;exact absurd (hp.symm.trans e2) ψ
    ·intro e2;have e2:(s.go g t).phase=1:=e2;rw[ego] at e2;exact absurd (hp.symm.trans e2) ψ
    ·intro _;show Zj g (s.go g t).label (s.go g t).Q0/\z1s g (Sf (s.go g t).label) (λu=>(s.go g t).Q0.getD u 0)/\z74 g (s.go g t).label (s.go g t).Q0 (s.go g t).mark/\kS g (s.go g t).label-mS g (s.go g t).label (s.go g t).mark+1+rS (kS g (s.go g t).label-1)<=b-1;rw[ego];refine⟨hC,hR,hA.i,?_⟩;show kS g s.label-mS g s.label (bkS g s.label s.Q0 s.mark g.length).1+1+rS (kS g s.label-1)<=b-1;rw[hk] at hle⊢;rw[Nat.add_sub_cancel]
     omega
  | false =>
    have ego:s.go g t={s with phase:=0,label:=rsL s.label s.Q0 s.mark g.length}:=by unfold T8.go;simp[hp,e]
    have hMR:zdU g (Sf s.label) (λu=>s.Q0.getD u 0) (λu=>s.mark.getD u 0=1):=⟨λv hv hm=>hM.to_ v hv hm,λv u hv hu hs hmu hcc=>by
     have hvn:v<s.mark.length:=by rw[h.i.mn,<-hln];exact SS hv
     rcases hM.bit v _ (zax hvn) with e0|e1
     ·exact absurd ⟨hu,hmu,hcc⟩ (hA.did e v (by have:=h.i.mn;omega) hv e0 u hs)
     ·exact e1⟩
    obtain⟨hL,hlf⟩:=zek h.lab hC hR hM hMR ω;obtain⟨v,v1,v2⟩:=hM.some_;have hlt:kS g (rsL s.label s.Q0 s.mark g.length)<kS g s.label:=ZE (λu _ hu=>((hlf u).1 hu).1) (by have:=SS v1;omega) (λe=>((hlf v).1 e).2 v2) v1;refine⟨b-1,ω,hI,?_,hdn _ ego hL.n,?_,?_,?_⟩
    ·show z2S g (s.go g t).label;rw[ego];exact hL
    ·intro _;show rS (kS g (s.go g t).label)<=b-1;rw[ego];have:=z4H (a:=kS g (rsL s.label s.Q0 s.mark g.length)) (b:=k) ω;show rS (kS g (rsL s.label s.Q0 s.mark g.length))<=b-1;omega
    ·intro e2;have e2:(s.go g t).phase=1:=e2;rw[ego] at e2;cases e2
    ·intro e2;have e2:(s.go g t).phase=2:=e2;rw[ego] at e2;cases e2
end
def scC (s:T8)(g t vl vc vm:Nat):List Value:=[ptr g 0,ptr t 0,ptr vl 0,ptr vc 0,ptr vm 0,I (s.steps:Int),I (s.phase:Int),.bool s.done,.bool false]
structure Vk (sw:Bool)(Q:Sj)(txt:Int->PV)(k ok rr:Nat)(O_:Nat->Prop)(a L:Nat)(s:T8)(vl vc vm:Nat)(w:World):Prop where
 o:O_ rr/\O_ vl/\O_ vc/\O_ vm
 ne:rr≠vl/\rr≠vc/\rr≠vm/\vl≠vc/\vl≠vm/\vc≠vm
 run:Q7 w rr (scC s (if sw then ok else k) (if sw then k else ok) vl vc vm) 86
 lab:Vn Q txt vl 4 a s.label w
 col:Vn Q txt vc 4 (a+1) s.Q0 w
 mar:Vn Q txt vm 1 (a+2) s.mark w
 n:s.label.length<=100/\s.Q0.length<=100/\s.mark.length<=100
 L:L=3
theorem Sn {n:Nat}(h:n<=100):WA n (512 / 4)=1:=by
 unfold WA
 omega
theorem Wm {n:Nat}(h:n<=100):WA n (512 / 1)=1:=by
 unfold WA
 omega
section
variable {w w':World}{sw:Bool}{Q Q':Sj}{txt txt':Int->PV}{k ok rr a L vl vc vm:Nat}{s:T8}{O_ S:Nat->Prop}
def Vk.kp (h:Vk sw Q txt k ok rr O_ a L s vl vc vm w)(hk:Kp S w w')(hS:∀b,O_ b->¬S b):Vk sw Q txt k ok rr O_ a L s vl vc vm w':=
 ⟨h.o,h.ne,hk.PN h.run (hS _ h.o.1),h.lab.kp hk (hS _ h.o.2.1),h.col.kp hk (hS _ h.o.2.2.1),h.mar.kp hk (hS _ h.o.2.2.2),h.n,h.L⟩
def Vk.Vr (h:Vk sw Q txt k ok rr O_ a L s vl vc vm w)(e:∀y:Int,(a:Int)<=y->y<(a:Int)+(L:Int)->txt' y=txt y):Vk sw Q txt' k ok rr O_ a L s vl vc vm w:=by
 have h1:=h.L
 obtain⟨n1,n2,n3⟩:=h.n
 refine⟨h.o,h.ne,h.run,h.lab.Vr λy e1 e2=>?_,h.col.Vr λy e1 e2=>?_,h.mar.Vr λy e1 e2=>?_,h.n,h.L⟩
 ·rw[Sn n1] at e2;exact e y ω ω
 ·rw[Sn n2] at e2;exact e y ω ω
 ·rw[Wm n3] at e2;exact e y ω ω
theorem Vk.q (h:Vk sw Q txt k ok rr O_ a L s vl vc vm w)(hs:Q'.s=Q.s)(hl:Q'.L.length=Q.L.length):Vk sw Q' txt k ok rr O_ a L s vl vc vm w:=
 ⟨h.o,h.ne,h.run,h.lab.q hs hl,h.col.q hs hl,h.mar.q hs hl,h.n,h.L⟩
def Vk.zk1 {ys:List Nat}(h:Vk sw Q txt k ok rr O_ a L s vl vc vm w)(hk:Kp S w w')(hS:∀b,O_ b->¬S b)(hv:Vn Q txt' vl 4 a ys w')(hl:ys.length=s.label.length)(ht:∀y:Int,y<(a:Int)\/(a:Int)+(WA ys.length (512 / 4):Int)<=y->txt' y=txt y):Vk sw Q txt' k ok rr O_ a L {s with label:=ys} vl vc vm w':=by
 obtain⟨n1,n2,n3⟩:=h.n
 have h5:=h.kp hk hS
 rw[hl,Sn n1] at ht
 refine⟨h.o,h.ne,h5.run,hv,h5.col.Vr λy e1 e2=>ht y (.inr ω),h5.mar.Vr λy e1 e2=>ht y (.inr ω),⟨by show ys.length<=100;omega,n2,n3⟩,h.L⟩
def Vk.zjB {ys:List Nat}(h:Vk sw Q txt k ok rr O_ a L s vl vc vm w)(hk:Kp S w w')(hS:∀b,O_ b->¬S b)(hv:Vn Q txt' vc 4 (a+1) ys w')(hl:ys.length=s.Q0.length)(ht:∀y:Int,y<((a+1:Nat):Int)\/((a+1:Nat):Int)+(WA ys.length (512 / 4):Int)<=y->txt' y=txt y):Vk sw Q txt' k ok rr O_ a L {s with Q0:=ys} vl vc vm w':=by
 obtain⟨n1,n2,n3⟩:=h.n
 have h5:=h.kp hk hS
 rw[hl,Sn n2] at ht
 refine⟨h.o,h.ne,h5.run,h5.lab.Vr λy e1 e2=>?_,hv,h5.mar.Vr λy e1 e2=>ht y (.inr ω),⟨n1,by show ys.length<=100;omega,n3⟩,h.L⟩
 rw[Sn n1] at e2
 exact ht y (.inl ω)
def Vk.zk5 {ys:List Nat}(h:Vk sw Q txt k ok rr O_ a L s vl vc vm w)(hk:Kp S w w')(hS:∀b,O_ b->¬S b)(hv:Vn Q txt' vm 1 (a+2) ys w')(hl:ys.length=s.mark.length)(ht:∀y:Int,y<((a+2:Nat):Int)\/((a+2:Nat):Int)+(WA ys.length (512 / 1):Int)<=y->txt' y=txt y):Vk sw Q txt' k ok rr O_ a L {s with mark:=ys} vl vc vm w':=by
 obtain⟨n1,n2,n3⟩:=h.n
 have h5:=h.kp hk hS
 rw[hl,Wm n3] at ht
 refine⟨h.o,h.ne,h5.run,h5.lab.Vr λy e1 e2=>?_,h5.col.Vr λy e1 e2=>?_,hv,⟨n1,n2,by show ys.length<=100;omega⟩,h.L⟩
 ·rw[Sn n1] at e2;exact ht y (.inl ω)
 ·rw[Sn n2] at e2;exact ht y (.inl ω)
end
def SU (sw:Bool)(ok:Nat):RuK T8 where
 M Q txt k rr O_ a L s w:=∃vl vc vm,Vk sw Q txt k ok rr O_ a L s vl vc vm w
 tm s:=s.steps
 c0:=0
 c1:=0
 kp:=λ⟨vl,vc,vm,h⟩ hk hS=>⟨vl,vc,vm,h.kp hk hS⟩
 Vr:=λ⟨vl,vc,vm,h⟩ e=>⟨vl,vc,vm,h.Vr e⟩
 q:=λ⟨vl,vc,vm,h⟩ hs hl=>⟨vl,vc,vm,h.q hs hl⟩
section
variable {G T:ZM}{w w':World}{sw:Bool}{Q:Sj}{txt:Int->PV}{K ok:Nat}{X O_:Nat->Prop}{rr a L vl vc vm:Nat}{s:T8}
def Rg.sc (h:Rg (SU sw ok) G T Q txt K X rr O_ a L s w):∃vl vc vm,Vk sw Q txt G.k ok rr O_ a L s vl vc vm w:=h.m.m
theorem Rg.swap (h:Rg (SU sw T.k) G T Q txt K X rr O_ a L s w)(hn:T.g.length<=40):Rg (SU (!sw) G.k) T G Q txt K X rr O_ a L s w:=by
 obtain⟨vl,vc,vm,hv⟩:=h.sc
 have hx:=h.xk
 have bE:=h.m.ne
 refine⟨⟨h.t,⟨vl,vc,vm,⟨hv.o,hv.ne,?_,hv.lab,hv.col,hv.mar,hv.n,hv.L⟩⟩,λb hb=> .inl (h.xr b hb),h.m.ro,λb hb=>⟨(h.nk b hb).1,(h.nk b hb).2,(bE b hb).2.2.1,(bE b hb).2.2.2⟩,h.WB,hn⟩,h.m.g,h.xr,⟨hx.2.2.1,hx.2.2.2.1,hx.1,hx.2.1,hx.2.2.2.2.1,hx.2.2.2.2.2⟩,λb hb=>⟨(bE b hb).1,(bE b hb).2.1⟩,h.m.WB⟩
 have:=hv.run
 cases sw with
 |true=>exact this
 |false=>exact this
def Ty (w:World):Qu prog 67 [I 0] w λ_ w'=>w'=w:=by
 refine py (e:=[(0,_)]) func67 O ntmps67 O O$ Qx O$ RA O$ Re O$ Rq func67 O ?_
 exact⟨_,rfl,rfl⟩
def Tj {width:Nat}{xs:List Nat}{vb sv:Nat}(hP:Sp Q txt K X w)(hX:∀b,X b->b<w.heap.size)(hK:K<1000000000000)(hv:Vn Q txt vb width sv xs w)(dF:X vb){i x:Nat}(hi:xs[i]? =some x):Qu prog 103 [ptr vb 0,I (i:Int)] w λv w'=>v=Qg x/\Sp Q txt K X w'/\Kp (λb=>¬X b) w w':=by
 refine py (e:=[(0,_),(1,_)]) func103 O ntmps103 O O$ qN O$ S7 O$ Qp O$ Qk ziH O (z43 hP hX hK hv dF hi) ?_
 rintro _ w1 ⟨rfl,ge,ay⟩
 refine Q4 O$ TK O$ TN O$ RZ O$ Qk z4L O (Ty _) ?_
 rintro _ w1 rfl
 refine qM O$ Q4 O$ Qc O$ PO func103 O ?_
 exact⟨_,rfl,rfl,ge,ay⟩
end
def U0.iff {G:ZM}{Q:Sj}{txt:Int->PV}{K:Nat}{X Y:Nat->Prop}{w:World}(h:U0 G Q txt K X w)(e:∀b,X b↔Y b):U0 G Q txt K Y w:=by
 have e2:X=Y:=funext λb=>propext (e b)
 exact e2▸h
section
variable {G T:ZM}{w w':World}{sw:Bool}{Q:Sj}{txt txt':Int->PV}{K K' ok:Nat}{X Y O_:Nat->Prop}{rr a L vl vc vm:Nat}{s s':T8}
theorem X9 (h:Rg (SU sw ok) G T Q txt K X rr O_ a L s w){v:Nat}(hv:v<s.label.length):Qu prog 66 [ptr rr 0,I (v:Int)] w λr w'=>r= .bool (decide (Sf s.label v))/\Rg (SU sw ok) G T Q txt K X rr O_ a L s w'/\Kp (λb=>¬((X b\/b=T.rb)\/b=G.rb)) w w':=by
 obtain⟨vl,vc,vm,hV⟩:=h.sc
 obtain⟨x,hx⟩:∃x,s.label[v]? =some x:=⟨_,List.getElem?_eq_getElem hv⟩
 have hR:Q7 w rr [ptr (if sw then ok else G.k) 0,ptr (if sw then G.k else ok) 0,ptr vl 0,ptr vc 0,ptr vm 0,I (s.steps:Int),I (s.phase:Int),.bool s.done,.bool false] 86:=hV.run
 refine py (e:=[(0,_),(1,_)]) func66 O ntmps66 O O$ qN O$ RZ O$ QA O$ Qd VN O$ qV (PX XA O O hR O)$ Q4 O$ Qk YT O (Tj h.sp h.lt h.m.g.Wv hV.lab (.inl (.inl (h.xr _ hV.o.2.1))) hx) ?_
 rintro _ w1 ⟨rfl,ge,ay⟩
 refine Ss O$ Qc O$ PO func66 O (⟨_,rfl,?_,h.read ay ge,ay⟩)
 refine congrArg Value.bool$ decide_eq_decide.2 ?_
 show(x:Int)=4294967295↔s.label[v]? =some 4294967295
 rw[hx]
 exact⟨λe=>by rw[show x=4294967295 by omega],λe=>by rw[SH e];rfl⟩
def Z9 (k v:Nat)(w:World):Qu prog 102 [ptr rr 0,ptr k 0,I (v:Int)] w λr w'=>∃b3 b4 b5,r= .func (.func 139) #[] #[ptr b4 0,ptr b5 0,ptr b3 0]/\Q7 w' b3 [ptr rr 0] 43/\Q7 w' b4 [ptr k 0] 28/\Q7 w' b5 [I (v:Int)] 3/\w.heap.size<=b3/\w.heap.size<=b4/\w.heap.size<=b5/\Ext w w':=by
 refine py (e:=[(0,_),(1,_),(2,_)]) func102 O ntmps102 O O$ qN O$ PY O O (Se O (cs:=[ptr rr 0]) O) ?_
 rintro _ w1 ⟨b3,rfl,dP,ad,ai⟩
 refine PY O O (Se O (cs:=[ptr k 0]) O) ?_
 rintro _ w2 ⟨b4,rfl,eM,ae,ak⟩
 refine PY O O (Se O (cs:=[I (v:Int)]) O) ?_
 rintro _ w3 ⟨b5,rfl,gm,ah,aw⟩
 refine S7 O$ qV (ymf (first:=[]) (caps:=[.tmp 4,.tmp 5,.tmp 3]) O O)$ Qc O$ PO func102 O ?_
 have:=ad.size
 have:=ae.size
 exact⟨_,rfl,b3,b4,b5,rfl,ah.PN (ae.PN ai),ah.PN ak,aw,ω,ω,ω,(ad.trans ae).trans ah⟩
def z0D {l bk bi br v:Nat}(hv:v<G.g.length)(hl:s.label.length=G.g.length)(h:Rg (SU sw ok) G T Q txt K X rr O_ a L s w)(fH:Q7 w bk [ptr G.k 0] 28)(xE:Q7 w bi [I (v:Int)] 3)(Ca:Q7 w br [ptr rr 0] 43)(gX:X br)(Z:Nat->Prop)(hZ:∀j,Z j->X j/\j≠br/\¬O_ j)
  (E:Nat->(Int->PV)->Nat->T8->World->Prop) (F:(Int->PV)->Nat->T8->World->Prop)
  (hE:∀i txt' K' s' w' w'',E i txt' K' s' w'->w.heap.size<=w'.heap.size->Kp (λb=>¬X b) w' w''->E i txt' K' s' w'')
  (hF:∀txt' K' s' w' w'',F txt' K' s' w'->w.heap.size<=w'.heap.size->Kp (λb=>¬X b) w' w''->F txt' K' s' w'')
  (h0:∀w',w.heap.size<=w'.heap.size->Kp (λb=>¬X b) w w'->E 0 txt K s w')
  (Bc:∀i u txt' K' s' w',(Qe G.g v)[i]? =some u->¬Sf s.label u->E i txt' K' s' w'->E (i+1) txt' K' s' w')
  (hround:∀(Y:Nat->Prop) (i u:Nat) (txt':Int->PV) (K':Nat) (s':T8) (w':World),(∀j,X j->Y j)->(∀j,Y j->X j\/w.heap.size<=j)->w.heap.size<=w'.heap.size->(Qe G.g v)[i]? =some u->Sf s.label u->s'.label=s.label->Rg (SU sw ok) G T Q txt' K' Y rr O_ a L s' w'->E i txt' K' s' w'->z3l prog l [I (u:Int)] w' λr w''=>((r= .bool true/\∃txt'' K'' s'',s''.label=s.label/\Rg (SU sw ok) G T Q txt'' K'' Y rr O_ a L s'' w''/\E (i+1) txt'' K'' s'' w'')\/(r= .bool false/\∃txt'' K'' s'',s''.label=s.label/\Rg (SU sw ok) G T Q txt'' K'' Y rr O_ a L s'' w''/\F txt'' K'' s'' w''))/\Kp (λj=>(¬Y j/\j≠T.rb)\/Z j) w' w''):
  Qu prog 139 [.func (.yield l) #[] #[],ptr bk 0,ptr bi 0,ptr br 0] w λr w'=>r= .tuple #[]/\∃(Y:Nat->Prop) (txt':Int->PV) (K':Nat) (s':T8),(∀j,X j->Y j)/\(∀j,Y j->X j\/w.heap.size<=j)/\s'.label=s.label/\Rg (SU sw ok) G T Q txt' K' Y rr O_ a L s' w'/\(E (Qe G.g v).length txt' K' s' w'\/F txt' K' s' w'):=by
 have dE:=h.m.n
 have He:=h.m.g.ok.gr
 obtain⟨n1,n2,n3⟩:=h.ng
 have aQ:∀b,X b->b<w.heap.size:=λb hb=>h.lt b (.inl (.inl hb))
 have hx:=h.xk
 have CH:=h.lt G.rb (.inr O)
 have qh:=h.lt T.rb (.inl (.inr O))
 refine py (e:=[(0,_),(1,_),(2,_),(3,_)]) func139 O ntmps139 O O$ qN O$ PY O O (Se O (cs:=[.func (.yield l) #[] #[]]) O) ?_
 rintro _ w1 ⟨b4,rfl,eM,ad,ai⟩
 have Hf:=ad.PN fH
 have Hg:=ad.PN xE
 have z1:=ad.size
 have l1:=ai.lt
 refine qM O$ qV ((PX YV O O Hf O))$ qV ((PX U3 O O Hg O))$ Qk zjo O (z8u G.k v _) ?_
 rintro _ w6 ⟨bk2,bi2,rfl,xo,GC,NQ,NR,aS⟩
 have z6:=aS.size
 refine PQ$ PS$ SX (ps:=[10,11]) (p:=[]) (q:=[_,_]) O ziX ?_
 rintro l2 wl bR fu cJ hD Rc bM dz
 have zl:=bR.size
 have Be:=aS.trans bR
 have jU:=ad.trans Be
 obtain⟨X1,dt⟩:∃X1:Nat->Prop,(λj=>X j\/j=b4\/j=w6.heap.size\/j=l2)=X1:=⟨_,rfl⟩
 have df:∀j,X j->X1 j:=λj hj=>by rw[<-dt];exact .inl hj
 have eL:∀j,X1 j->X j\/w.heap.size<=j:=λj hj=>by rw[<-dt] at hj;exact hj.imp id λe=>by omega
 have jn:X1 b4/\X1 w6.heap.size/\X1 l2:=by rw[<-dt];exact⟨.inr (.inl O),.inr (.inr (.inl O)),.inr (.inr (.inr O))⟩
 have rV:Rg (SU sw ok) G T Q txt K X1 rr O_ a L s wl:=h.grow jU (λj hj=>by rw[<-dt] at hj;exact hj.imp id λe=>by omega) df
 have JW:∀j,Z j->j<w.heap.size:=λj hj=>aQ j (hZ j hj).1
 have xH:∀j,O_ j->j<w.heap.size:=λj hj=>aQ j (h.xr j hj)
 have cT:∀{j},X j->∀{Y:Nat->Prop},(∀j,(X1 j\/j=T.rb)->Y j)->Y j/\j≠T.rb:=λhj Y hY=>⟨hY _ (.inl (df _ hj)),λe=>n3 (e▸hj)⟩
 have dI:∀j,w.heap.size<=j->j≠G.k/\j≠G.x/\j≠T.k/\j≠T.x/\j≠1/\j≠2/\¬O_ j:=λj hj=>by
  have e1:=aQ _ hx.1;have e2:=aQ _ hx.2.1;have e3:=aQ _ hx.2.2.1;have e4:=aQ _ hx.2.2.2.1;have e5:=aQ _ hx.2.2.2.2.1;have e6:=aQ _ hx.2.2.2.2.2;exact⟨ω,ω,ω,ω,ω,ω,λe=>by have:=xH j e;omega⟩
 refine Qu.mono (z6R ω hv rV.m.g (bR.PN xo) (bR.PN GC) (λj=>j=l2\/Z j) (λj hj=> .inl (hj.elim (λe=>e▸jn.2.2) λe=>df _ (hZ j e).1))
  (λYg i w'=>Rc .ready none w'/\(∃txt' K' s',s'.label=s.label/\Rg (SU sw ok) G T Q txt' K' (λb=>Yg b/\b≠T.rb) rr O_ a L s' w'/\E i txt' K' s' w')/\w'.heap[w6.heap.size]? =some (.deferred (some []))/\Q7 w' b4 [.func (.yield l) #[] #[]] 150/\Q7 w' br [ptr rr 0] 43/\w.heap.size<=w'.heap.size)
  (λw'=>Rc .done (some .ret) w'/\(∃Y txt' K' s',(∀j,X1 j->Y j)/\(∀j,Y j->X j\/w.heap.size<=j)/\s'.label=s.label/\Rg (SU sw ok) G T Q txt' K' Y rr O_ a L s' w'/\F txt' K' s' w')/\w'.heap[w6.heap.size]? =some (.deferred (some []))/\w.heap.size<=w'.heap.size) ?_ ?_) ?_
 ·intro Yg w7 aN lL H6 aA;have z7:=aA.size;have hn:∀j,X1 j->¬¬(X1 j\/j=T.rb):=λj hj e=>e (.inl hj);have cR:Kp (λj=>¬(X1 j\/j=T.rb)) w1 w7:=Be.kp.trans aA;have dV:Kp (λj=>¬(X1 j\/j=T.rb)) w w7:=jU.kp.trans aA
  have Hh:U0 G Q txt K (λb=>(Yg b/\b≠T.rb)\/b=T.rb) w7:=H6.iff λb=>by
   by_cases e:b=T.rb
   ·exact⟨λ_=> .inr e,λ_=>aN _ (.inr e)⟩
   ·exact⟨λhb=> .inl ⟨hb,e⟩,λhb=>hb.elim And.left λe2=>absurd e2 e⟩
  have rg:∀j,X1 j->j≠T.rb:=λj hj e=>by
   rcases eL j hj with e2|e2
   ·exact n3 (e▸e2)
   ·omega
  refine⟨aA.rc bM dz (hn _ jn.2.2),⟨txt,K,s,rfl,?_,h0 w7 ω (dV.PU λb e e2=>e (.inl (df _ e2)))⟩,aA.heap hD (hn _ jn.2.1),cR.PN ai (hn _ jn.1),dV.PN Ca (hn _ (df _ gX)),ω⟩;refine rV.byG (rV.m.list Hh aA λj e=>e.elim (λe=> .inl ⟨aN _ (.inl e),rg j e⟩) .inr) aA (λb e=> .inl ⟨λe2=>e (.inl e2),λe2=>e (.inr e2)⟩) (λj hj=>⟨aN _ (.inl hj),rg j hj⟩) (λj hj=>?_)$ λ_ _=>rfl;rcases lL j hj.1 with(e|e)| e
  ·exact .inl e
  ·exact absurd e hj.2
  ·exact .inr e
 ·rintro Yg i u w7 aN lL hs ⟨pi,⟨txt7,K7,s7,ir,h7,NS⟩,wm,bU,Hi,z7⟩;have jj:u<G.g.length:=Zx He v u (List.mem_of_getElem? hs);obtain⟨Y,hY⟩:∃Y:Nat->Prop,(λb=>Yg b/\b≠T.rb)=Y:=⟨_,rfl⟩;rw[hY] at h7⊢
  have rg:∀j,X1 j->j≠T.rb:=λj hj e=>by
   rcases eL j hj with e2|e2
   ·exact n3 (e▸e2)
   ·omega
  have nu:∀j,X1 j->Y j:=λj hj=>by rw[<-hY];exact⟨aN _ (.inl hj),rg j hj⟩
  have rW:∀j,X j->Y j:=λj hj=>nu j (df j hj)
  have nv:∀j,Y j->X j\/w.heap.size<=j:=λj hj=>by
   rw[<-hY] at hj;rcases lL j hj.1 with(e|e)| e
   ·exact eL j e
   ·exact absurd e hj.2
   ·exact .inr ω
  have PA:∀j,¬Y j->¬Yg j\/j=T.rb:=λj hj=>by
   by_cases e:j=T.rb
   ·exact .inr e
   ·exact .inl λe2=>hj (by rw[<-hY];exact⟨e2,e⟩)
  have PB:∀j,Z j->j≠l2/\j≠w6.heap.size/\j≠b4/\j≠br:=λj hj=>by
   have e1:=JW j hj;exact⟨ω,ω,ω,(hZ j hj).2.1⟩
  refine Tt bM pi O O$ RN O$ PW O$ Qc O$ run_beginRound O bM pi ?_;rintro w8 qe aK;have fQ:Y l2/\Y w6.heap.size/\Y b4:=⟨nu _ jn.2.2,nu _ jn.2.1,nu _ jn.1⟩;have h8:=h7.own aK (λj e=>by subst e;exact⟨fQ.1,dI _ ω⟩);have tD:=aK.heap wm ω;have co:=aK.PN bU ω;have Bf:=aK.PN Hi (λe=>by have:=aQ br gX;omega);have xu:=hE _ _ _ _ _ _ NS z7 (aK.PU λj e e2=>by have:=aQ j e2;omega);have z8:=aK.size;refine PS$ Qx O$ Qk z4L O (Ty _) ?_;rintro _ w8 rfl;refine qM O$ qV (PX Yt O O Bf O)$ Q4 O$ qV (QU O RQ U3 ω)$ Qk zdW O (X9 h8 (by rw[ir,hl];exact jj)) ?_;rintro _ w9 ⟨rfl,h9,ax⟩;rw[ir];have dH:∀j,Y j->¬¬((Y j\/j=T.rb)\/j=G.rb):=λj hj e=>e (.inl (.inl hj));have CJ:=ax.rc bM qe (dH _ fQ.1);have CK:=ax.heap tD (dH _ fQ.2.1);have cF:=ax.PN co (dH _ fQ.2.2);have Bg:=ax.PN Bf (dH _ (rW _ gX));have rq:=hE _ _ _ _ _ _ xu ω (ax.PU λj e e2=>e (.inl (.inl (rW _ e2))));have z9:=ax.size
  have Bh:Kp (λj=>¬Yg j\/(j=l2\/Z j)) w7 w9:=(aK.PU λj e=> .inr (.inl e)).trans (ax.PU λj e=> .inl λe2=>e (by
   by_cases e3:j=T.rb
   ·exact .inl (.inr e3)
   ·exact .inl (.inl (by rw[<-hY];exact⟨e2,e3⟩))))
  by_cases j6:Sf s.label u
  ·rw[decide_eq_true j6];refine Q4 O$ qV (PX zhL O O cF O)$ Q4 O$ qV (QU O RQ U3 ω)$ z47 O O (yy O O) (hround Y i u txt7 K7 s7 w9 rW nv ω hs j6 ir h9 rq) ?_;rintro r wa xI;obtain⟨xI,bF⟩:=xI;have kl:∀j,Y j->w.heap.size<=j->¬((¬Y j/\j≠T.rb)\/Z j):=λj hj hw e=>e.elim (λe=>e.1 hj) (λe=>by have:=JW j e;omega);have tE:=bF.rc bM CJ (kl _ fQ.1 ω);have tF:=bF.heap CK (kl _ fQ.2.1 ω);have xF:=bF.PN cF (kl _ fQ.2.2 ω);have Hj:=bF.PN Bg (λe=>e.elim (λe=>e.1 (rW _ gX)) (λe=>(hZ _ e).2.1 O));have za:=bF.size;have Hk:Kp (λj=>¬Yg j\/(j=l2\/Z j)) w9 wa:=bF.PU λj e=>e.elim (λe=> .inl λe2=>e.1 (by rw[<-hY];exact⟨e2,e.2⟩)) (λe=> .inr (.inr e));rcases xI with⟨rfl,txta,Ka,sa,pj,ha,NT⟩|⟨rfl,txta,Ka,sa,pj,ha,UQ⟩
   ·refine qV ((T7 O))$ Sa O$ PQ$ Qy.qb (e:=[(24,_)]) ?_;refine TT O$ PM$ SQ bM tE ?_;intro wb lz aW;refine .inl ⟨rfl,⟨lz,⟨txta,Ka,sa,pj,ha.own aW (λj e=>by subst e;exact⟨fQ.1,dI _ ω⟩),hE _ _ _ _ _ _ NT ω (aW.PU λj e e2=>by have:=aQ j e2;omega)⟩,aW.heap tF ω,aW.PN xF ω,aW.PN Hj (λe=>by have:=aQ br gX;omega),by have:=aW.size;omega⟩,(Bh.trans Hk).trans (aW.PU λj e=> .inr (.inl e))⟩
   ·refine qV ((T7 O))$ Sa O$ PQ$ Qy.qb (e:=[(24,_)]) ?_;refine Qa O$ UE bM tE ?_;intro wb lz aW;exact .inr ⟨rfl,lz,⟨Y,txta,Ka,sa,nu,nv,pj,ha.own aW (λj e=>by subst e;exact⟨fQ.1,dI _ ω⟩),hF _ _ _ _ _ UQ ω (aW.PU λj e e2=>by have:=aQ j e2;omega)⟩,aW.heap tF ω,by have:=aW.size;omega⟩
  ·rw[decide_eq_false j6];refine Q4 O$ S6$ S6$ qS$ QY O$ PQ$ Qy.qb (e:=[(24,_)]) ?_;refine TT O$ PM$ SQ bM CJ ?_;intro wb lz aW;exact .inl ⟨rfl,⟨lz,⟨txt7,K7,s7,ir,h9.own aW (λj e=>by subst e;exact⟨fQ.1,dI _ ω⟩),hE _ _ _ _ _ _ (Bc _ _ _ _ _ _ hs j6 rq) ω (aW.PU λj e e2=>by have:=aQ j e2;omega)⟩,aW.heap CK ω,aW.PN cF ω,aW.PN Bg (λe=>by have:=aQ br gX;omega),by have:=aW.size;omega⟩,Bh.trans (aW.PU λj e=> .inr (.inl e))⟩
 ·rintro v' wz ⟨rfl,⟨Yg,aN,lL,nw,⟨txtz,Kz,sz,iE,hz,NU⟩,nx,Jq,NV,zz⟩|⟨nw,⟨Y,txtz,Kz,sz,nu,nv,iE,hz,NW⟩,nx,zz⟩⟩
  ·have rg:∀j,X1 j->j≠T.rb:=λj hj e=>by
    rcases eL j hj with e2|e2
    ·exact n3 (e▸e2)
    ·omega
   obtain⟨Y,hY⟩:∃Y:Nat->Prop,(λb=>Yg b/\b≠T.rb)=Y:=⟨_,rfl⟩;rw[hY] at hz;have nu:∀j,X1 j->Y j:=λj hj=>by rw[<-hY];exact⟨aN _ (.inl hj),rg j hj⟩
   have nv:∀j,Y j->X j\/w.heap.size<=j:=λj hj=>by
    rw[<-hY] at hj;rcases lL j hj.1 with(e|e)| e
    ·exact eL j e
    ·exact absurd e hj.2
    ·exact .inr ω
   refine⟨_,_,nw,ξ,λwy de=>?_⟩;have jN:=de.heap nx ω;have dp:Kp (λk=>k=w6.heap.size) wy (Sy [.mk w6.heap.size] wy):=Ri wy w6.heap.size (.deferred none);have bS:Kp (λk=>k=l2\/k=w6.heap.size) wz (Sy [.mk w6.heap.size] wy):=(de.PU λj e=> .inl e).trans (dp.PU λj e=> .inr e);refine PM$ zcW ξ (Uv jN) func139 O ?_;exact⟨_,rfl,rfl,Y,txtz,Kz,sz,λj hj=>nu j (df j hj),nv,iE,hz.own bS (λj e=>⟨by rcases e with rfl|rfl;exact nu _ jn.2.2;exact nu _ jn.2.1,dI j ω⟩),.inl (hE _ _ _ _ _ _ NU zz (bS.PU λj e e2=>by have:=aQ j e2;omega))⟩
  ·refine⟨_,_,nw,ξ,λwy de=>?_⟩;have jN:=de.heap nx ω;have dp:Kp (λk=>k=w6.heap.size) wy (Sy [.mk w6.heap.size] wy):=Ri wy w6.heap.size (.deferred none);have bS:Kp (λk=>k=l2\/k=w6.heap.size) wz (Sy [.mk w6.heap.size] wy):=(de.PU λj e=> .inl e).trans (dp.PU λj e=> .inr e);refine z5d ξ (Uv jN) func139 O ?_;exact⟨_,rfl,rfl,Y,txtz,Kz,sz,λj hj=>nu j (df j hj),nv,iE,hz.own bS (λj e=>⟨by rcases e with rfl|rfl;exact nu _ jn.2.2;exact nu _ jn.2.1,dI j ω⟩),.inr (hF _ _ _ _ _ NW zz (bS.PU λj e e2=>by have:=aQ j e2;omega))⟩
end
section
variable {G T:ZM}{w w':World}{sw:Bool}{Q:Sj}{txt txt':Int->PV}{K K' ok:Nat}{X Y O_:Nat->Prop}{rr a L:Nat}{s s':T8}
def Rg.far (h:Rg (SU sw ok) G T Q txt K X rr O_ a L s w):∀j,w.heap.size<=j->j≠G.k/\j≠G.x/\j≠T.k/\j≠T.x/\j≠1/\j≠2/\¬O_ j:=λj hj=>by
 have aR:∀b,X b->b<w.heap.size:=λb hb=>h.lt b (.inl (.inl hb))
 have hx:=h.xk
 have e1:=aR _ hx.1
 have e2:=aR _ hx.2.1
 have e3:=aR _ hx.2.2.1
 have e4:=aR _ hx.2.2.2.1
 have e5:=aR _ hx.2.2.2.2.1
 have e6:=aR _ hx.2.2.2.2.2
 exact⟨ω,ω,ω,ω,ω,ω,λe=>by have:=aR j (h.xr j e);omega⟩
theorem z1f (h:Rg (SU sw ok) G T Q txt K X rr O_ a L s w){v:Nat}(hv:v<G.g.length)(hl:s.label.length=G.g.length):Qu prog 98 [ptr rr 0,ptr G.k 0,I (v:Int)] w λr w'=>r= .bool (Xx G.g s.label v)/\Rg (SU sw ok) G T Q txt K X rr O_ a L s w'/\Kp (λb=>¬X b) w w':=by
 have aQ:∀b,X b->b<w.heap.size:=λb hb=>h.lt b (.inl (.inl hb))
 have cm:=h.far
 obtain⟨n1,n2,n3⟩:=h.ng
 have qh:=h.lt T.rb (.inl (.inr O))
 refine py (e:=[(0,_),(1,_),(2,_)]) func98 O ntmps98 O O$ qN O$ PY O O (Se O (cs:=[I (v:Int)]) O) ?_
 rintro _ w1 ⟨b5,rfl,gm,ad,ai⟩
 refine PY O O (SE (cs:=[_]) VK O) ?_
 rintro _ w2 ⟨b6,rfl,nV,ae,ak⟩
 have aX:=ae.PN ai
 have z1:=ad.size
 have z2:=ae.size
 have l1:=ai.lt
 have l2:=ak.lt
 refine PQ$ An$ RI O$ qV (PX U3 O O aX O)$ Qk zcX O (Z9 G.k v _) ?_
 rintro _ w3 ⟨c3,c4,c5,rfl,tG,Bi,wn,nK,my,JX,ah⟩
 have z3:=ah.size
 have l3:=tG.lt
 have bZ:=ah.PN aX
 have bG:=ah.PN ak
 replace bG:Q7 w3 b6 [.bool false] 4:=bG
 refine PQ$ PS$ SX (ps:=[12]) (p:=[]) (q:=[_,_,_]) O zdm ?_
 rintro l wl bR fu cJ hD Rc bM dz
 have zl:=bR.size
 have jU:=((ad.trans ae).trans ah).trans bR
 obtain⟨X1,dt⟩:∃X1:Nat->Prop,(λj=>X j\/j=b5\/j=b6\/j=c3\/j=w3.heap.size\/j=l)=X1:=⟨_,rfl⟩
 have df:∀j,X j->X1 j:=λj hj=>by rw[<-dt];exact .inl hj
 have au:X1 b5/\X1 b6/\X1 c3/\X1 w3.heap.size/\X1 l:=by rw[<-dt];exact⟨.inr (.inl O),.inr (.inr (.inl O)),.inr (.inr (.inr (.inl O))),.inr (.inr (.inr (.inr (.inl O)))),.inr (.inr (.inr (.inr (.inr O))))⟩
 have rV:Rg (SU sw ok) G T Q txt K X1 rr O_ a L s wl:=h.grow jU (λj hj=>by rw[<-dt] at hj;exact hj.imp id λe=>by omega) df
 have di:∀j,w.heap.size<=j->¬O_ j:=λj hj=>(cm j hj).2.2.2.2.2.2
 refine Qu.mono (z0D hv hl rV (bR.PN Bi) (bR.PN wn) (bR.PN tG) au.2.2.1 (λj=>j=l\/j=b6) (λj hj=>by
   rcases hj with rfl|rfl
   ·exact⟨au.2.2.2.2,ω,di _ ω⟩
   ·exact⟨au.2.1,ω,di _ ω⟩)
  (λi txt' K' s' w'=>Rc .ready none w'/\txt'=txt/\K'=K/\s'=s/\(∀u,u∈(Qe G.g v).take i->Sf s.label u->u=v)/\w'.heap[w3.heap.size]? =some (.deferred (some []))/\Q7 w' b5 [I (v:Int)] 3/\Q7 w' b6 [.bool false] 4/\Kp (λb=>¬X b) w w')
  (λtxt' K' s' w'=>Rc .done (some .ret) w'/\txt'=txt/\K'=K/\s'=s/\(∃u,u∈Qe G.g v/\Sf s.label u/\u≠v)/\w'.heap[w3.heap.size]? =some (.deferred (some []))/\Q7 w' b6 [.bool false] 4/\Kp (λb=>¬X b) w w')
  ?_ ?_ ?_ ?_ ?_) ?_
 ·rintro i txt' K' s' w7 w8 ⟨e1,e2,e3,e4,e5,e6,e7,e8,e9⟩ hz hk;exact⟨hk.rc bM e1 (λe=>e au.2.2.2.2),e2,e3,e4,e5,hk.heap e6 (λe=>e au.2.2.2.1),hk.PN e7 (λe=>e au.1),hk.PN e8 (λe=>e au.2.1),e9.trans (hk.PU λb e e2=>e (df _ e2))⟩
 ·rintro txt' K' s' w7 w8 ⟨e1,e2,e3,e4,e5,e6,e8,e9⟩ hz hk;exact⟨hk.rc bM e1 (λe=>e au.2.2.2.2),e2,e3,e4,e5,hk.heap e6 (λe=>e au.2.2.2.1),hk.PN e8 (λe=>e au.2.1),e9.trans (hk.PU λb e e2=>e (df _ e2))⟩
 ·intro w7 hz hk;have cR:=bR.kp.trans hk;have dV:Kp (λb=>¬X1 b) w w7:=jU.kp.trans hk;exact⟨hk.rc bM dz (λe=>e au.2.2.2.2),rfl,rfl,rfl,λu hu=>(by cases hu),hk.heap hD (λe=>e au.2.2.2.1),cR.PN bZ (λe=>e au.1),cR.PN bG (λe=>e au.2.1),dV.PU λb e e2=>e (df _ e2)⟩
 ·rintro i u txt' K' s' w7 hs iL ⟨e1,e2,e3,e4,e5,e6,e7,e8,e9⟩;refine⟨e1,e2,e3,e4,λx hx bR=>?_,e6,e7,e8,e9⟩;rw[QR hs,List.mem_append,List.mem_singleton] at hx;rcases hx with hx|rfl
  ·exact e5 x hx bR
  ·exact absurd bR iL
 ·rintro Y i u txt' K' s' w7 aN lL z7 hs j6 ir h7 ⟨pi,rfl,rfl,rfl,cH,wm,ft,ij,dV⟩;have gY:Y l/\Y b6:=⟨aN _ au.2.2.2.2,aN _ au.2.1⟩;refine Tt bM pi O O$ PW O$ Qc O$ run_beginRound O bM pi ?_;rintro w8 qe aK;have h8:=h7.own aK (λj e=>by subst e;exact⟨gY.1,cm _ ω⟩);have i5:=aK.PN ft ω;have ey:=aK.PN ij ω;have tD:=aK.heap wm ω;have z8:=aK.size;have mK:=dV.trans (aK.PU λj e e2=>by have:=aQ j e2;omega);refine PS$ Qx O$ qV (PX U3 O O i5 O) ?_;by_cases DL:u=v
  ·refine RA O$ QW$ Re O$ PM$ SQ bM qe ?_;intro wb lz aW;refine⟨.inl ⟨rfl,txt',K',s',ir,h8.own aW (λj e=>by subst e;exact⟨gY.1,cm _ ω⟩),lz,rfl,rfl,rfl,λx hx bR=>?_,aW.heap tD ω,aW.PN i5 ω,aW.PN ey ω,mK.trans (aW.PU λj e e2=>by have:=aQ j e2;omega)⟩,(aK.PU λj e=> .inr (.inl e)).trans (aW.PU λj e=> .inr (.inl e))⟩;rw[QR hs,List.mem_append,List.mem_singleton] at hx;rcases hx with hx|rfl
   ·exact cH x hx bR
   ·exact DL
  ·refine RA O$ SM$ PQ$ Qa O$ qN O$ Qb O (RV VK O O O ey ξ) ?_;rintro w9 ⟨iX,ax⟩;have CJ:=ax.rc bM qe ω;have CK:=ax.heap tD ω;have z9:=ax.size;have h9:=h8.own ax (λj e=>by subst e;exact⟨gY.2,cm _ ω⟩);refine PQ$ UE bM CJ ?_;intro wb lz aW;exact⟨.inr ⟨rfl,txt',K',s',ir,h9.own aW (λj e=>by subst e;exact⟨gY.1,cm _ ω⟩),lz,rfl,rfl,rfl,⟨u,List.mem_of_getElem? hs,j6,DL⟩,aW.heap CK ω,aW.PN iX ω,(mK.trans (ax.PU λj e e2=>by have:=aQ j e2;omega)).trans (aW.PU λj e e2=>by have:=aQ j e2;omega)⟩,((aK.PU λj e=> .inr (.inl e)).trans (ax.PU λj e=> .inr (.inr e))).trans (aW.PU λj e=> .inr (.inl e))⟩
 ·rintro v' wz ⟨rfl,Y,txtz,Kz,sz,aN,lL,iE,hz,⟨nw,rfl,rfl,rfl,cH,nx,rD,j7,db⟩|⟨nw,rfl,rfl,rfl,xd,nx,j7,db⟩⟩
  ·refine⟨_,_,nw,ξ,λwy de=>?_⟩;have zz:=db.size;have zy:=de.size;have iu:=de.PN j7 ω;have jN:=de.heap nx ω;rw[List.take_length] at cH;have q9:Xx G.g sz.label v=true:=ZI.2 cH;refine PM$ qN O$ Qb O (RV VK O O O iu ξ) ?_;rintro wx ⟨pn,iD⟩;have Bj:=iD.heap jN ω;have dp:Kp (λk=>k=w3.heap.size) wx (Sy [.mk w3.heap.size] wx):=Ri wx w3.heap.size (.deferred none);have j8:=dp.PN pn ω;have bS:Kp (λk=>k=l\/k=b6\/k=w3.heap.size) wz (Sy [.mk w3.heap.size] wx):=((de.PU λj e=> .inl e).trans (iD.PU λj e=> .inr (.inl e))).trans (dp.PU λj e=> .inr (.inr e));refine PQ$ Up ξ (Uv Bj) func98 (.cell1 U4 O O ((j8).cell _) .nil) ?_;rw[q9];exact⟨_,rfl,rfl,(hz.own bS (λj e=>⟨by rcases e with rfl|rfl|rfl;exact aN _ au.2.2.2.2;exact aN _ au.2.1;exact aN _ au.2.2.2.1,cm j ω⟩)).less (λj hj=>aN j (df j hj)) h.xk h.xr,db.trans (bS.PU λj e e2=>by have:=aQ j e2;omega)⟩
  ·refine⟨_,_,nw,ξ,λwy de=>?_⟩;have zz:=db.size;have zy:=de.size;have iu:=de.PN j7 ω;have jN:=de.heap nx ω;obtain⟨u,kT,lS,NX⟩:=xd
   have q9:Xx G.g sz.label v=false:=by
    cases e:Xx G.g sz.label v with
    |false=>rfl
    |true=>exact absurd (ZI.1 e u kT lS) NX
   have dp:Kp (λk=>k=w3.heap.size) wy (Sy [.mk w3.heap.size] wy):=Ri wy w3.heap.size (.deferred none);have j8:=dp.PN iu ω;have bS:Kp (λk=>k=l\/k=b6\/k=w3.heap.size) wz (Sy [.mk w3.heap.size] wy):=(de.PU λj e=> .inl e).trans (dp.PU λj e=> .inr (.inr e));refine Up ξ (Uv jN) func98 (.cell1 U4 O O ((j8).cell _) .nil) ?_;rw[q9];exact⟨_,rfl,rfl,(hz.own bS (λj e=>⟨by rcases e with rfl|rfl|rfl;exact aN _ au.2.2.2.2;exact aN _ au.2.1;exact aN _ au.2.2.2.1,cm j ω⟩)).less (λj hj=>aN j (df j hj)) h.xk h.xr,db.trans (bS.PU λj e e2=>by have:=aQ j e2;omega)⟩
end
def vtS (g t:List (List Nat))(ph:Nat)(s:T8)(v:Nat):T8×Bool:=
 if ph=0 then({s with label:=(trV g t (s.label,false) v).1},(trV g t (s.label,false) v).2)
 else if ph=1 then({s with Q0:=(coV g s.label (s.Q0,false) v).1},(coV g s.label (s.Q0,false) v).2)
 else({s with mark:=(bkV g s.label s.Q0 (s.mark,false) v).1},(bkV g s.label s.Q0 (s.mark,false) v).2)
def rtS (ph:Nat)(s:T8)(v:Nat):T8:=
 if ph=0 then {s with Q0:=s.Q0.set v v}
 else if ph=1 then(if s.Q0.getD v 0=v then {s with mark:=s.mark.set v 1} else s)
 else(if s.mark.getD v 0=1 then {s with label:=s.label.set v (s.Q0.getD v 0)} else s)
section
variable {G T:ZM}{w w':World}{sw:Bool}{Q:Sj}{txt txt':Int->PV}{K K' ok:Nat}{X O_:Nat->Prop}{rr a L vl vc vm bx v:Nat}{s s':T8}{ys:List Nat}
abbrev Vc (G T:ZM)(X:Nat->Prop):Nat->Prop:=λb=>(X b\/b=T.rb)\/b=G.rb
theorem Rg.put (h:Rg (SU sw ok) G T Q txt K X rr O_ a L s w)(hK:K'<1000000000000)(hk:Kp (λb=>¬Vc G T X b) w w')(hP:Sp Q txt' K' (Vc G T X) w')(hy:∀y:Int,y<(a:Int)\/(a:Int)+(L:Int)<=y->txt' y=txt y)(hv:Vk sw Q txt' G.k ok rr O_ a L s' vl vc vm w'):Rg (SU sw ok) G T Q txt' K' X rr O_ a L s' w':=
 h.upd hK hk (λb e=> .inl e) hP hy ⟨vl,vc,vm,hv⟩
def Rg.z7V (h:Rg (SU sw ok) G T Q txt K X rr O_ a L s w)(hV:Vk sw Q txt G.k ok rr O_ a L s vl vc vm w)(hl:ys.length=s.label.length)(hK:K'<1000000000000)(hW:VcW Q txt K' (Vc G T X) vl 4 a ys w w'):∃txt',Rg (SU sw ok) G T Q txt' K' X rr O_ a L {s with label:=ys} w'/\(∀y:Int,y<(a:Int)\/(a:Int)+(L:Int)<=y->txt' y=txt y)/\Kp (λb=>¬Vc G T X b) w w':=by
 obtain⟨txt',hP,hv,hy,hk⟩:=hW
 have iF:=hV.zk1 hk (λb hb e=>e (.inl (.inl (h.xr b hb)))) hv hl hy
 have hL:=hV.L
 have hn:=hV.n
 have jV:∀y:Int,y<(a:Int)\/(a:Int)+(L:Int)<=y->txt' y=txt y:=λy e=>hy y (by rw[Sn ω];omega)
 exact⟨txt',h.put hK hk hP jV iF,jV,hk⟩
def Rg.zdj (h:Rg (SU sw ok) G T Q txt K X rr O_ a L s w)(hV:Vk sw Q txt G.k ok rr O_ a L s vl vc vm w)(hl:ys.length=s.Q0.length)(hK:K'<1000000000000)(hW:VcW Q txt K' (Vc G T X) vc 4 (a+1) ys w w'):∃txt',Rg (SU sw ok) G T Q txt' K' X rr O_ a L {s with Q0:=ys} w'/\(∀y:Int,y<(a:Int)\/(a:Int)+(L:Int)<=y->txt' y=txt y)/\Kp (λb=>¬Vc G T X b) w w':=by
 obtain⟨txt',hP,hv,hy,hk⟩:=hW
 have iF:=hV.zjB hk (λb hb e=>e (.inl (.inl (h.xr b hb)))) hv hl hy
 have hL:=hV.L
 have hn:=hV.n
 have jV:∀y:Int,y<(a:Int)\/(a:Int)+(L:Int)<=y->txt' y=txt y:=λy e=>hy y (by rw[Sn ω];omega)
 exact⟨txt',h.put hK hk hP jV iF,jV,hk⟩
def Rg.z8e (h:Rg (SU sw ok) G T Q txt K X rr O_ a L s w)(hV:Vk sw Q txt G.k ok rr O_ a L s vl vc vm w)(hl:ys.length=s.mark.length)(hK:K'<1000000000000)(hW:VcW Q txt K' (Vc G T X) vm 1 (a+2) ys w w'):∃txt',Rg (SU sw ok) G T Q txt' K' X rr O_ a L {s with mark:=ys} w'/\(∀y:Int,y<(a:Int)\/(a:Int)+(L:Int)<=y->txt' y=txt y)/\Kp (λb=>¬Vc G T X b) w w':=by
 obtain⟨txt',hP,hv,hy,hk⟩:=hW
 have iF:=hV.zk5 hk (λb hb e=>e (.inl (.inl (h.xr b hb)))) hv hl hy
 have hL:=hV.L
 have hn:=hV.n
 have jV:∀y:Int,y<(a:Int)\/(a:Int)+(L:Int)<=y->txt' y=txt y:=λy e=>hy y (by rw[Wm ω];omega)
 exact⟨txt',h.put hK hk hP jV iF,jV,hk⟩
structure ScW (G T:ZM)(Q:Sj)(txt:Int->PV)(K:Nat)(X:Nat->Prop)(rr:Nat)(O_:Nat->Prop)(a L n:Nat)(s:T8)(w w':World):Prop where
 ex:∃txt' K',Rg (SU false T.k) G T Q txt' K' X rr O_ a L s w'/\K'<=K+n/\∀y:Int,y<(a:Int)\/(a:Int)+(L:Int)<=y->txt' y=txt y
 k:Kp (λb=>¬X b) w w'
def ScW.of {n:Nat}(h:Rg (SU false T.k) G T Q txt' K' X rr O_ a L s w')(hK:K'<=K+n)(hy:∀y:Int,y<(a:Int)\/(a:Int)+(L:Int)<=y->txt' y=txt y)(hk:Kp (λb=>¬X b) w w'):ScW G T Q txt K X rr O_ a L n s w w':=⟨⟨txt',K',h,hK,hy⟩,hk⟩
theorem Rg.cells (h:Vk false Q txt G.k ok rr O_ a L s vl vc vm w):Q7 w rr [ptr G.k 0,ptr ok 0,ptr vl 0,ptr vc 0,ptr vm 0,I (s.steps:Int),I (s.phase:Int),.bool s.done,.bool false] 86:=h.run
theorem z8t (h:Rg (SU false T.k) G T Q txt K X rr O_ a L s w)(hI:Ve G.g s)(ht:T.g.length=G.g.length)(hK:K<=900000000000)(hb:Q7 w bx [ptr rr 0] 43)(cT:X bx)(hv:v<G.g.length)(j6:Sf s.label v):Qu prog 97 [I (v:Int),ptr bx 0] w λr w'=>r= .bool (vtS G.g T.g 0 s v).2/\ScW G T Q txt K X rr O_ a L 1 (vtS G.g T.g 0 s v).1 w w':=by
 have dE:=h.m.n
 obtain⟨vl,vc,vm,hV⟩:=h.sc
 have hR:=Rg.cells hV
 have hg:=Ext.Qh w
 have pL:=h.ext hg
 have Hl:=z1f pL hv hI.ln
 have gX:=h.xr _ hV.o.1
 have nI:vtS G.g T.g 0 s v=({s with label:=(trV G.g T.g (s.label,false) v).1},(trV G.g T.g (s.label,false) v).2):=rfl
 have gZ:∀{w1:World} {txt1:Int->PV} {K1:Nat},Rg (SU false T.k) G T Q txt1 K1 X rr O_ a L s w1->K1<=900000000000->(Xx G.g s.label v=true\/Xx T.g s.label v=true)->vtS G.g T.g 0 s v=({s with label:=s.label.set v v},true):=λ_ _ e=>by
  rw[nI];unfold trV;rw[if_pos ⟨j6,e⟩]
 refine py (e:=[(0,_),(1,_)]) func97 O ntmps97 O O$ RN O$ An$ QH (λe' w'=>e'=[(0,I (v:Int)),(1,ptr bx 0)]/\Rg (SU false T.k) G T Q txt K X rr O_ a L s w'/\Kp (λb=>¬X b) w w'/\(Xx G.g s.label v=true\/Xx T.g s.label v=true)) ?bF$ λbF=>?dg
 case bF=>
  rintro e' w2 ⟨rfl,h2,am,q9⟩;obtain⟨vl2,vc2,vm2,jq⟩:=h2.sc;have dc:=Rg.cells jq;have bO:=am.PN hb (λe=>e cT);have zD:=hI.ln;rw[gZ h2 hK q9];refine qN O$ qV ((PX Yt O O bO O))$ QA O$ Qd VN O$ qV ((PX XA O O dc O))$ Qp O$ qV ((Rp O U3 SL ω))$ Qk zbq O (VH h2.sp h2.lt h2.m.g.Wv jq.lab (.inl (.inl (h2.xr _ jq.o.2.1))) (i:=v) (x:=v) ω (by show v<2^32;omega)) ?_;rintro _ w3 ⟨rfl,hW⟩;obtain⟨txt3,h3,mB,av⟩:=h2.z7V jq (List.length_set ..) ω hW;refine Qk z4L O (Ty _) ?_;rintro _ w3 rfl;refine qM O$ Qc O$ PO func97 O ?_;exact⟨_,rfl,rfl,.of h3 (Nat.le_refl _) mB (am.trans (av.PU λb e e2=>e (.inl (.inl e2))))⟩
 case dg=>
  refine An$ S5 (λw'=>Kp (λb=>¬X b) w w') O$ qT 0 O (λ_ hS=>(PX Yt O O (hS.PN hb (λe=>e cT)) O)) (hg.kp)$ qT 1 O (λ_ hS=>(PX Yt O O (hS.PN hb (λe=>e cT)) O)) (hg.kp)$ PT 2 O (R8 O) (hg.kp)$ PT 3 O (Qz XC O) (hg.kp)$ qT 4 O (λ_ hS=>(PX YV O O (hS.PN hR (λe=>e gX)) O)) (hg.kp)$ Qi 5 O O (hg.kp)$ T9 6 O zhP O (Hl) ?_;rintro _ w1 ⟨rfl,h1,ay⟩;refine⟨hg.kp.trans ay,?_⟩;by_cases e1:Xx G.g s.label v=true
  ·rw[e1];refine PT 7 O ((T7 O)) (hg.kp.trans ay) ?_;rw[show(!true)=false from rfl];refine Qi 8 O O (hg.kp.trans ay)$ qJ 9 O (hg.kp.trans ay)$ qJ 10 O (hg.kp.trans ay)$ qJ 11 O (hg.kp.trans ay)$ qJ 12 O (hg.kp.trans ay)$ qJ 13 O (hg.kp.trans ay)$ qJ 14 O (hg.kp.trans ay)$ qJ 15 O (hg.kp.trans ay)$ qJ 16 O (hg.kp.trans ay)$ PT 17 O (Vt O O) (hg.kp.trans ay)$ qE$ TT O ?_;exact(bF _ _ ⟨rfl,h1,hg.kp.trans ay,.inl e1⟩).qb
  ·have e1':Xx G.g s.label v=false:=by simpa using e1
   rw[e1'];have dC:=hg.kp.trans ay;have NY:v<T.g.length:=by omega
   have xA:T.g.length<=40:=by omega
   have Dc:Rg (SU true G.k) T G Q txt K X rr O_ a L s w1:=h1.swap xA;have GR:s.label.length=T.g.length:=by rw[ht];exact hI.ln
   have Hm:=z1f Dc NY GR;refine PT 7 O ((T7 O)) (hg.kp.trans ay) ?_;rw[show(!false)=true from rfl];refine Qi 8 O O (hg.kp.trans ay)$ qT 9 O (λ_ hS=>(PX Yt O O (hS.PN hb (λe=>e cT)) O)) (hg.kp.trans ay)$ qT 10 O (λ_ hS=>(PX Yt O O (hS.PN hb (λe=>e cT)) O)) (hg.kp.trans ay)$ PT 11 O (R8 O) (hg.kp.trans ay)$ PT 12 O (Qz zgE O) (hg.kp.trans ay)$ qT 13 O (λ_ hS=>(PX YV O O (hS.PN hR (λe=>e gX)) O)) (hg.kp.trans ay)$ Qi 14 O O (hg.kp.trans ay)$ T9 15 O zhP O (Hm) ?_;rintro _ w2 ⟨rfl,NZ,am⟩;refine⟨dC.trans am,?_⟩;have h2:Rg (SU false T.k) G T Q txt K X rr O_ a L s w2:=NZ.swap dE;have dM:=dC.trans am;by_cases e2:Xx T.g s.label v=true
   ·rw[e2];refine PT 16 O ((T7 O)) (dC.trans am)$ PT 17 O (W2 O O) (dC.trans am)$ qE ?_;rw[show(!true)=false from rfl];refine TT O ?_;exact(bF _ _ ⟨rfl,h2,dM,.inr e2⟩).qb
   ·have e2':Xx T.g s.label v=false:=by simpa using e2
    rw[e2'];refine PT 16 O ((T7 O)) (dC.trans am)$ PT 17 O (W2 O O) (dC.trans am)$ qE ?_;rw[show(!false)=true from rfl]
    have di:vtS G.g T.g 0 s v=(s,false):=by
     rw[nI];unfold trV;rw[if_neg (λe=>e.2.elim e1 e2)]
    rw[di];refine Qa O$ RN O$ PO func97 O ?_;exact⟨_,rfl,rfl,.of h2 (Nat.le_add_right _ _) (λ_ _=>rfl) dM⟩
theorem z5b (h:Rg (SU false T.k) G T Q txt K X rr O_ a L s w)(hI:Ve G.g s)(hK:K<=900000000000)(hb:Q7 w bx [ptr rr 0] 43)(cT:X bx)(hv:v<G.g.length):Qu prog 100 [I (v:Int),ptr bx 0] w λ_ w'=>ScW G T Q txt K X rr O_ a L 1 (rtS 0 s v) w w':=by
 have dE:=h.m.n
 have Bk:=hI.cn
 obtain⟨vl,vc,vm,hV⟩:=h.sc
 have hR:=Rg.cells hV
 refine py (e:=[(0,_),(1,_)]) func100 O ntmps100 O O$ PW O$ qV ((PX Yt O O hb O))$ QA O$ Qd Vo O$ qV ((PX XA O O hR O))$ Qp O$ qV ((Rp O U3 SL ω))$ Qk zbq O (VH h.sp h.lt h.m.g.Wv hV.col (.inl (.inl (h.xr _ hV.o.2.2.1))) (i:=v) (x:=v) ω (by show v<2^32;omega)) ?_
 rintro _ w3 ⟨rfl,hW⟩
 obtain⟨txt3,h3,mB,av⟩:=h.zdj hV (List.length_set ..) ω hW
 refine Qk z4L O (Ty _) ?_
 rintro _ w3 rfl
 refine PQ$ Rq func100 O ?_
 exact⟨_,rfl,.of h3 (Nat.le_refl _) mB (av.PU λb e e2=>e (.inl (.inl e2)))⟩
theorem z5t (h:Rg (SU false T.k) G T Q txt K X rr O_ a L s w)(hI:Ve G.g s)(hK:K<=900000000000)(hb:Q7 w bx [ptr rr 0] 43)(cT:X bx)(hv:v<G.g.length):Qu prog 104 [I (v:Int),ptr bx 0] w λ_ w'=>ScW G T Q txt K X rr O_ a L 1 (rtS 1 s v) w w':=by
 have dE:=h.m.n
 have Bk:=hI.cn
 have AV:=hI.mn
 obtain⟨vl,vc,vm,hV⟩:=h.sc
 have hR:=Rg.cells hV
 have gX:=h.xr _ hV.o.1
 obtain⟨x,hx⟩:∃x,s.Q0[v]? =some x:=⟨_,List.getElem?_eq_getElem ω⟩
 have zF:rtS 1 s v=if x=v then {s with mark:=s.mark.set v 1} else s:=by
  unfold rtS;rw[if_neg ψ,if_pos O,UC hx]
 rw[zF]
 refine py (e:=[(0,_),(1,_)]) func104 O ntmps104 O O$ qN O$ qV ((PX Yt O O hb O))$ QA O$ Qd Vo O$ qV ((PX XA O O hR O))$ Q4 O$ Qk YT O (Tj h.sp h.lt h.m.g.Wv hV.col (.inl (.inl (h.xr _ hV.o.2.2.1))) hx) ?_
 rintro _ w1 ⟨rfl,ge,ay⟩
 have h1:=h.read ay ge
 have bL:=ay.PN hb (λe=>e (.inl (.inl cT)))
 refine Q4 O$ qV ((Rp O U3 SL ω)) ?_
 by_cases e:x=v
 ·rw[if_pos e];refine Ss O$ SM ?_;obtain⟨vl1,vc1,vm1,nN⟩:=h1.sc;have i3:=Rg.cells nN;refine PQ$ Qa O$ PW O$ qV ((PX Yt O O bL O))$ QA O$ Qd Wu O$ qV ((PX XA O O i3 O))$ Q4 O$ Qk zbq O (VH h1.sp h1.lt h1.m.g.Wv nN.mar (.inl (.inl (h1.xr _ nN.o.2.2.2))) (i:=v) (x:=1) ω ψ) ?_;rintro _ w3 ⟨rfl,hW⟩;obtain⟨txt3,h3,mB,av⟩:=h1.z8e nN (List.length_set ..) ω hW;refine Qk z4L O (Ty _) ?_;rintro _ w3 rfl;refine PQ$ Rq func104 O ?_;exact⟨_,rfl,.of h3 (Nat.le_refl _) mB ((ay.trans av).PU λb e e2=>e (.inl (.inl e2)))⟩
 ·rw[if_neg e];refine Ss O$ QW$ Re O$ Rq func104 O ?_;exact⟨_,rfl,.of h1 (Nat.le_add_right _ _) (λ_ _=>rfl) (ay.PU λb e e2=>e (.inl (.inl e2)))⟩
theorem z5p (h:Rg (SU false T.k) G T Q txt K X rr O_ a L s w)(hI:Ve G.g s)(hK:K<=900000000000)(hb:Q7 w bx [ptr rr 0] 43)(cT:X bx)(hv:v<G.g.length):Qu prog 106 [I (v:Int),ptr bx 0] w λ_ w'=>ScW G T Q txt K X rr O_ a L 1 (rtS 2 s v) w w':=by
 have dE:=h.m.n
 have Bk:=hI.cn
 have AV:=hI.mn
 have zD:=hI.ln
 obtain⟨vl,vc,vm,hV⟩:=h.sc
 have hR:=Rg.cells hV
 have gX:=h.xr _ hV.o.1
 obtain⟨x,hx⟩:∃x,s.Q0[v]? =some x:=⟨_,List.getElem?_eq_getElem ω⟩
 obtain⟨y,hy⟩:∃y,s.mark[v]? =some y:=⟨_,List.getElem?_eq_getElem ω⟩
 have IV:=hI.cb x (List.mem_of_getElem? hx)
 have zF:rtS 2 s v=if y=1 then {s with label:=s.label.set v x} else s:=by
  unfold rtS;rw[if_neg ψ,if_neg ψ,UC hx,UC hy]
 rw[zF]
 refine py (e:=[(0,_),(1,_)]) func106 O ntmps106 O O$ qN O$ qV ((PX Yt O O hb O))$ QA O$ Qd Wu O$ qV ((PX XA O O hR O))$ Q4 O$ Qk YT O (Tj h.sp h.lt h.m.g.Wv hV.mar (.inl (.inl (h.xr _ hV.o.2.2.2))) hy) ?_
 rintro _ w1 ⟨rfl,ge,ay⟩
 have h1:=h.read ay ge
 have bL:=ay.PN hb (λe=>e (.inl (.inl cT)))
 by_cases e:y=1
 ·rw[if_pos e];refine Ss O$ SM ?_;obtain⟨vl1,vc1,vm1,nN⟩:=h1.sc;have i3:=Rg.cells nN;have hg:=Ext.Qh w1;have Bl:=h1.xr _ nN.o.1;have hn:∀j,X j->¬¬Vc G T X j:=λj hj e=>e (.inl (.inl hj));have pL:=h1.ext hg;have jq:Vk false Q txt G.k T.k rr O_ a L s vl1 vc1 vm1 w1.drew:=nN.kp (S:=λ_=>False) hg.kp (λ_ _ e=>e);refine PQ$ Qa O$ S5 (λw'=>Kp (λb=>¬Vc G T X b) w1 w') O$ qT 0 O (λ_ hS=>(PX Yt O O (hS.PN bL (hn _ cT)) O)) (hg.kp)$ PT 1 O (R8 O) (hg.kp)$ PT 2 O (Qz VN O) (hg.kp)$ qT 3 O (λ_ hS=>(PX XA O O (hS.PN i3 (hn _ Bl)) O)) (hg.kp)$ Qi 4 O O (hg.kp)$ qT 5 O (λ_ hS=>(PX Yt O O (hS.PN bL (hn _ cT)) O)) (hg.kp)$ PT 6 O (R8 O) (hg.kp)$ PT 7 O (Qz Vo O) (hg.kp)$ qT 8 O (λ_ hS=>(PX XA O O (hS.PN i3 (hn _ Bl)) O)) (hg.kp)$ Qi 9 O O (hg.kp)$ T9 10 O YT O (Tj pL.sp pL.lt pL.m.g.Wv jq.col (.inl (.inl (pL.xr _ jq.o.2.2.1))) hx) ?_;rintro _ w2 ⟨rfl,ev,am⟩;refine⟨hg.kp.trans am,?_⟩;have h2:=pL.read am ev;have qi:Vk false Q txt G.k T.k rr O_ a L s vl1 vc1 vm1 w2:=jq.kp am (λb e e2=>e2 (.inl (.inl (h.xr b e))));refine T9 11 O zbq O (VH h2.sp h2.lt h2.m.g.Wv qi.lab (.inl (.inl (h2.xr _ qi.o.2.1))) (i:=v) (x:=x) ω (by show x<2^32;omega)) ?_;rintro _ w3 ⟨rfl,hW⟩;refine⟨(hg.kp.trans am).trans (by obtain⟨_,_,_,_,hk⟩:=hW;exact hk),?_⟩;obtain⟨txt3,h3,mB,av⟩:=h2.z7V qi (List.length_set ..) ω hW;refine T9 12 O z4L O (Ty _) ?_;rintro _ w3 rfl;refine⟨(hg.kp.trans am).trans av,?_⟩;refine qE$ Rq func106 O ?_;exact⟨_,rfl,.of h3 (Nat.le_refl _) mB (((ay.trans (hg.kp.trans am)).trans av).PU λb e e2=>e (.inl (.inl e2)))⟩
 ·rw[if_neg e];refine Ss O$ QW$ Re O$ Rq func106 O ?_;exact⟨_,rfl,.of h1 (Nat.le_add_right _ _) (λ_ _=>rfl) (ay.PU λb e e2=>e (.inl (.inl e2)))⟩
end
section
variable {G T:ZM}{w w':World}{Q:Sj}{txt txt':Int->PV}{K K' ok:Nat}{X Y O_:Nat->Prop}{rr a L vl vc vm bx v:Nat}{s s':T8}
def zd4 {g:List (List Nat)}(h:∀{l:List Nat},l∈g->l.length<=g.length){v:Nat}(hv:v<g.length):(Qe g v).length<=g.length:=
 by
 unfold Qe
 rw[List.getElem?_eq_getElem hv]
 exact h (List.getElem_mem hv)
def coA (g:List (List Nat))(s:T8)(v i:Nat):List Nat×Bool:=((Qe g v).take i).foldl (YR s.label v) (s.Q0,false)
theorem z66 {g:List (List Nat)}{u i:Nat}(h:(Qe g v)[i]? =some u):coA g s v (i+1)=YR s.label v (coA g s v i) u:=by
 unfold coA
 rw[QR h,List.foldl_append]
 rfl
def zgG {g:List (List Nat)}{i:Nat}(h:∀x∈s.Q0,x<4294967296):(∀x∈(coA g s v i).1,x<4294967296)/\(coA g s v i).1.length=s.Q0.length:=z1A h
theorem z4y (h:Rg (SU false T.k) G T Q txt K X rr O_ a L s w)(hI:Ve G.g s)(hK:K<=900000000000)(hb:Q7 w bx [ptr rr 0] 43)(cT:X bx/\¬O_ bx)(hv:v<G.g.length)(j6:Sf s.label v):Qu prog 101 [I (v:Int),ptr bx 0] w λr w'=>r= .bool (vtS G.g T.g 1 s v).2/\ScW G T Q txt K X rr O_ a L 40 (vtS G.g T.g 1 s v).1 w w':=by
 have aQ:∀b,X b->b<w.heap.size:=λb hb=>h.lt b (.inl (.inl hb))
 have cm:=h.far
 obtain⟨n1,n2,n3⟩:=h.ng
 have qh:=h.lt T.rb (.inl (.inr O))
 have dE:=h.m.n
 have Bk:=hI.cn
 have fU:=zd4 h.m.g.ok.gr.len hv
 obtain⟨vl,vc,vm,hV⟩:=h.sc
 have hR:=Rg.cells hV
 have gX:=h.xr _ hV.o.1
 have nI:vtS G.g T.g 1 s v=({s with Q0:=(coA G.g s v (Qe G.g v).length).1},(coA G.g s v (Qe G.g v).length).2):=by
  unfold vtS coA coV;rw[if_neg ψ,if_pos O,if_pos j6,List.take_length]
 rw[nI]
 refine py (e:=[(0,_),(1,_)]) func101 O ntmps101 O O$ qN O$ PY O O (Se O (cs:=[I (v:Int)]) O) ?_
 rintro _ w1 ⟨b2,rfl,bO,ad,ai⟩
 refine PY O O (SE (cs:=[_]) VK O) ?_
 rintro _ w2 ⟨b3,rfl,dP,ae,ak⟩
 have aX:=ae.PN ai
 have aG:=ad.trans ae
 have jW:=aG.PN hb
 have dc:=aG.PN hR
 have z1:=ad.size
 have z2:=ae.size
 have l1:=ai.lt
 have l2:=ak.lt
 have hg:=Ext.Qh w2
 refine PQ$ An$ An$ S5 (λw'=>Kp (λ_=>False) w2 w') O$ qT 0 O (λ_ h=>(PX Yt O O (h.PN jW id) O)) (hg.kp)$ qT 1 O (λ_ h=>(PX Yt O O (h.PN jW id) O)) (hg.kp)$ PT 2 O (R8 O) (hg.kp)$ PT 3 O (Qz XC O) (hg.kp)$ qT 4 O (λ_ h=>(PX YV O O (h.PN dc id) O)) (hg.kp)$ qT 5 O (λ_ h=>(PX U3 O O (h.PN aX id) O)) (hg.kp)$ T9 6 O zcX O (Z9 G.k v _) ?_
 rintro _ w3 ⟨c3,c4,c5,rfl,tG,Bi,wn,nK,my,JX,Bm⟩
 refine⟨hg.kp.trans Bm.kp,?_⟩
 have ah:=hg.trans Bm
 have z3:=ah.size
 have l3:=tG.lt
 have O3:=hg.size
 have bZ:=ah.PN aX
 have bG:=ah.PN ak
 replace bG:Q7 w3 b3 [.bool false] 4:=bG
 refine qE$ PS$ SX (ps:=[13]) (p:=[]) (q:=[_,_,_]) O zdm ?_
 rintro l wl bR fu cJ hD Rc bM dz
 have zl:=bR.size
 have jU:=(aG.trans ah).trans bR
 obtain⟨X1,dt⟩:∃X1:Nat->Prop,(λj=>X j\/j=b2\/j=b3\/j=c3\/j=w3.heap.size\/j=l)=X1:=⟨_,rfl⟩
 have df:∀j,X j->X1 j:=λj hj=>by rw[<-dt];exact .inl hj
 have au:X1 b2/\X1 b3/\X1 c3/\X1 w3.heap.size/\X1 l:=by rw[<-dt];exact⟨.inr (.inl O),.inr (.inr (.inl O)),.inr (.inr (.inr (.inl O))),.inr (.inr (.inr (.inr (.inl O)))),.inr (.inr (.inr (.inr (.inr O))))⟩
 have rV:Rg (SU false T.k) G T Q txt K X1 rr O_ a L s wl:=h.grow jU (λj hj=>by rw[<-dt] at hj;exact hj.imp id λe=>by omega) df
 have di:∀j,w.heap.size<=j->¬O_ j:=λj hj=>(cm j hj).2.2.2.2.2.2
 have CS:=aQ _ cT.1
 refine Qu.mono (z0D hv hI.ln rV (bR.PN Bi) (bR.PN wn) (bR.PN tG) au.2.2.1 (λj=>j=l\/j=b3) (λj hj=>by
   rcases hj with rfl|rfl
   ·exact⟨au.2.2.2.2,ω,di _ ω⟩
   ·exact⟨au.2.1,ω,di _ ω⟩)
  (λi txt' K' s' w'=>Rc .ready none w'/\s'={s with Q0:=(coA G.g s v i).1}/\K'<=K+i/\(∀y:Int,y<(a:Int)\/(a:Int)+(L:Int)<=y->txt' y=txt y)/\w'.heap[w3.heap.size]? =some (.deferred (some []))/\Q7 w' b2 [I (v:Int)] 3/\Q7 w' b3 [.bool (coA G.g s v i).2] 4/\Q7 w' bx [ptr rr 0] 43/\Kp (λb=>¬X b) w w')
  (λtxt' K' s' w'=>False)
  ?_ ?_ ?_ ?_ ?_) ?_
 ·rintro i txt' K' s' w7 w8 ⟨e1,e2,e3,e4,e6,e7,e8,e9,e10⟩ hz hk;exact⟨hk.rc bM e1 (λe=>e au.2.2.2.2),e2,e3,e4,hk.heap e6 (λe=>e au.2.2.2.1),hk.PN e7 (λe=>e au.1),hk.PN e8 (λe=>e au.2.1),hk.PN e9 (λe=>e (df _ cT.1)),e10.trans (hk.PU λb e e2=>e (df _ e2))⟩
 ·rintro txt' K' s' w7 w8 e;exact e.elim
 ·intro w7 hz hk;have cR:=bR.kp.trans hk;have dV:Kp (λb=>¬X1 b) w w7:=jU.kp.trans hk;exact⟨hk.rc bM dz (λe=>e au.2.2.2.2),rfl,Nat.le_refl _,λ_ _=>rfl,hk.heap hD (λe=>e au.2.2.2.1),cR.PN bZ (λe=>e au.1),cR.PN bG (λe=>e au.2.1),dV.PN hb (λe=>e (df _ cT.1)),dV.PU λb e e2=>e (df _ e2)⟩
 ·rintro i u txt' K' s' w7 hs iL ⟨e1,e2,e3,e4,e6,e7,e8,e9,e10⟩
  have bT:coA G.g s v (i+1)=coA G.g s v i:=by
   rw[z66 hs];unfold YR;rw[if_neg (λe=>iL e.1)]
  rw[bT];exact⟨e1,e2,ω,e4,e6,e7,e8,e9,e10⟩
 ·rintro Y i u txt' K' s' w7 aN lL z7 hs j6 ir h7 ⟨pi,rfl,PC,Cz,wm,ft,ij,lH,dV⟩;have gY:Y l/\Y b3:=⟨aN _ au.2.2.2.2,aN _ au.2.1⟩;have j9:∀j,X j->Y j:=λj hj=>aN j (df j hj);obtain⟨Cq,fk⟩:=zgG (g:=G.g) (v:=v) (i:=i) hI.cb;obtain⟨dq,-⟩:=List.getElem?_eq_some_iff.1 hs
  have tB:u<G.g.length:=by
   have:=hI.ln;have:=SS j6;omega
  obtain⟨x,hx⟩:∃x,(coA G.g s v i).1[v]? =some x:=⟨_,List.getElem?_eq_getElem ω⟩;obtain⟨y,hy⟩:∃y,(coA G.g s v i).1[u]? =some y:=⟨_,List.getElem?_eq_getElem ω⟩;have IV:=Cq x (List.mem_of_getElem? hx)
  have eT:coA G.g s v (i+1)=if x<y then((coA G.g s v i).1.set u x,true) else coA G.g s v i:=by
   rw[z66 hs];unfold YR;rw[UC hx,UC hy];by_cases e:x<y
   ·rw[if_pos ⟨j6,e⟩,if_pos e]
   ·rw[if_neg (λe2=>e e2.2),if_neg e]
  refine Tt bM pi O O$ PW O$ Qc O$ run_beginRound O bM pi ?_;rintro w8 qe aK;have h8:=h7.own aK (λj e=>by subst e;exact⟨gY.1,cm _ ω⟩);have i5:=aK.PN ft ω;have ey:=aK.PN ij ω;have io:=aK.PN lH ω;have tD:=aK.heap wm ω;have z8:=aK.size;obtain⟨vl8,vc8,vm8,rX⟩:=h8.sc;have lV:=Rg.cells rX;have aP:=Ext.Qh w8;have ny:=h8.ext aP;have lO:Vk false Q txt' G.k T.k rr O_ a L {s with Q0:=(coA G.g s v i).1} vl8 vc8 vm8 w8.drew:=rX.kp (S:=λ_=>False) aP.kp (λ_ _ e=>e);have dH:∀j,Y j->¬¬Vc G T Y j:=λj hj e=>e (.inl (.inl hj));have qj:=j9 _ cT.1;have xJ:=j9 _ (h.xr _ rX.o.1);refine PS$ An$ S5 (λw'=>Kp (λb=>¬Vc G T Y b) w8 w') O$ qT 0 O (λ_ hS=>(PX Yt O O (hS.PN io (dH _ qj)) O)) (aP.kp)$ PT 1 O (R8 O) (aP.kp)$ PT 2 O (Qz Vo O) (aP.kp)$ qT 3 O (λ_ hS=>(PX XA O O (hS.PN lV (dH _ xJ)) O)) (aP.kp)$ qT 4 O (λ_ hS=>(PX U3 O O (hS.PN i5 (dH _ (aN _ au.1))) O)) (aP.kp)$ T9 5 O YT O (Tj ny.sp ny.lt ny.m.g.Wv lO.col (.inl (.inl (ny.xr _ lO.o.2.2.1))) hx) ?_;rintro _ w9 ⟨rfl,qg,ax⟩;refine⟨aP.kp.trans ax,?_⟩;have h9:=ny.read ax qg;have po:Vk false Q txt' G.k T.k rr O_ a L {s with Q0:=(coA G.g s v i).1} vl8 vc8 vm8 w9:=lO.kp ax (λb e e2=>e2 (.inl (.inl (ny.xr b e))));have iq:=aP.kp.trans ax;have pK:=Rg.cells po;have oT:=iq.PN io (dH _ qj);refine PT 6 O (Sv O) (aP.kp.trans ax)$ qE$ qN O$ qV ((PX Yt O O oT O))$ QA O$ Qd Vo O$ qV ((PX XA O O pK O))$ Q4 O$ Qk YT O (Tj h9.sp h9.lt h9.m.g.Wv po.col (.inl (.inl (h9.xr _ po.o.2.2.1))) hy) ?_;rintro _ wa ⟨rfl,O4,bF⟩;have ha:=h9.read bF O4;have nz:Vk false Q txt' G.k T.k rr O_ a L {s with Q0:=(coA G.g s v i).1} vl8 vc8 vm8 wa:=po.kp bF (λb e e2=>e2 (.inl (.inl (h9.xr b e))));have er:=iq.trans bF;have Bn:=Rg.cells nz;have jX:=er.PN io (dH _ qj);have pp:=er.PN ey (dH _ gY.2);have pq:=er.PN i5 (dH _ (aN _ au.1));have tF:=er.heap tD (dH _ (aN _ au.2.2.2.1));have tE:=er.rc bM qe (dH _ gY.1);have za:=er.size;have pu:Kp (λb=>¬X b) w wa:=(dV.trans (aK.PU λj e e2=>by have:=aQ j e2;omega)).trans (er.PU λj e e2=>e (.inl (.inl (j9 j e2))));have pw:Kp (λj=>(¬Y j/\j≠T.rb)\/(j=l\/j=b3)) w7 wa:=(aK.PU λj e=> .inr (.inl e)).trans (er.PU λj e=> .inl ⟨λe2=>e (.inl (.inl e2)),λe2=>e (.inl (.inr e2))⟩);refine Q4 O ?_;by_cases exy:x<y
  ·rw[if_pos exy] at eT;refine RK O$ SM$ PQ$ Qy.qb (e:=[(1,_),(3,_),(4,_),(5,_),(27,_)]) ?_;refine Qa O$ qN O$ qV ((PX Yt O O jX O))$ QA O$ Qd Vo O$ qV ((PX XA O O Bn O))$ Qp O$ Qk zbq O (VH ha.sp ha.lt ha.m.g.Wv nz.col (.inl (.inl (ha.xr _ nz.o.2.2.1))) (i:=u) (x:=x) (by show u<(coA G.g s v i).1.length;omega) (by show x<2^32;omega)) ?_;rintro _ wb ⟨rfl,hW⟩;obtain⟨txtb,i4,Hn,aW⟩:=ha.zdj nz (List.length_set ..) ω hW;refine Qk z4L O (Ty _) ?_;rintro _ wb rfl;have wo:=aW.PN pp (dH _ gY.2);have Ho:=aW.PN pq (dH _ (aN _ au.1));have wq:=aW.PN jX (dH _ qj);have Hp:=aW.heap tF (dH _ (aN _ au.2.2.2.1));have lz:=aW.rc bM tE (dH _ gY.1);have zb:=aW.size;refine PQ$ PW O$ Qb O (RV VK O O O wo ξ) ?_;rintro wc ⟨wu,aq⟩;have Hq:=aq.rc bM lz ω;have Hr:=aq.heap Hp ω;have Hs:=aq.PN Ho ω;have Ht:=aq.PN wq ω;have zc:=aq.size;have hc:=i4.own aq (λj e=>by subst e;exact⟨gY.2,cm _ ω⟩);refine PQ$ PM$ SQ bM Hq ?_;intro wd ly cz;rw[eT];refine⟨.inl ⟨rfl,txtb,K'+1,{s with Q0:=(coA G.g s v i).1.set u x},rfl,hc.own cz (λj e=>by subst e;exact⟨gY.1,cm _ ω⟩),ly,rfl,ω,λy e=>(Hn y e).trans (Cz y e),cz.heap Hr ω,cz.PN Hs ω,cz.PN wu ω,cz.PN Ht ω,((pu.trans (aW.PU λj e e2=>e (.inl (.inl (j9 j e2))))).trans (aq.PU λj e e2=>by have:=aQ j e2;omega)).trans (cz.PU λj e e2=>by have:=aQ j e2;omega)⟩,((pw.trans (aW.PU λj e=> .inl ⟨λe2=>e (.inl (.inl e2)),λe2=>e (.inl (.inr e2))⟩)).trans (aq.PU λj e=> .inr (.inr e))).trans (cz.PU λj e=> .inr (.inl e))⟩
  ·rw[if_neg exy] at eT;refine RK O$ QW$ PQ$ Qy.qb (e:=[(1,_),(3,_),(4,_),(5,_),(27,_)]) ?_;refine TT O$ PM$ SQ bM tE ?_;intro wd ly cz;rw[eT];refine⟨.inl ⟨rfl,txt',_,_,ir,ha.own cz (λj e=>by subst e;exact⟨gY.1,cm _ ω⟩),ly,rfl,ω,Cz,cz.heap tF ω,cz.PN pq ω,cz.PN pp ω,cz.PN jX ω,pu.trans (cz.PU λj e e2=>by have:=aQ j e2;omega)⟩,pw.trans (cz.PU λj e=> .inr (.inl e))⟩
 ·rintro v' wz ⟨rfl,Y,txtz,Kz,sz,aN,lL,iE,hz,⟨nw,rfl,O5,ou,nx,rD,j7,Hu,db⟩|e⟩
  ·refine⟨_,_,nw,ξ,λwy de=>?_⟩;have zz:=db.size;have zy:=de.size;have iu:=de.PN j7 ω;have jN:=de.heap nx ω;refine PM$ qN O$ qV (PX U4 O O iu O)$ Qb O (RV VK O O O iu ξ) ?_;rintro wx ⟨pn,iD⟩;have Bj:=iD.heap jN ω;have dp:Kp (λk=>k=w3.heap.size) wx (Sy [.mk w3.heap.size] wx):=Ri wx w3.heap.size (.deferred none);have j8:=dp.PN pn ω;have bS:Kp (λk=>k=l\/k=b3\/k=w3.heap.size) wz (Sy [.mk w3.heap.size] wx):=((de.PU λj e=> .inl e).trans (iD.PU λj e=> .inr (.inl e))).trans (dp.PU λj e=> .inr (.inr e));refine PQ$ Up ξ (Uv Bj) func101 (.cell1 U4 O O ((j8).cell _) .nil) ?_;exact⟨_,rfl,rfl,.of ((hz.own bS (λj e=>⟨by rcases e with rfl|rfl|rfl;exact aN _ au.2.2.2.2;exact aN _ au.2.1;exact aN _ au.2.2.2.1,cm j ω⟩)).less (λj hj=>aN j (df j hj)) h.xk h.xr) ω ou (db.trans (bS.PU λj e e2=>by have:=aQ j e2;omega))⟩
  ·exact e.elim
end
section
variable {G T:ZM}{w w':World}{Q:Sj}{txt txt':Int->PV}{K K' ok:Nat}{X Y O_:Nat->Prop}{rr a L vl vc vm bx v:Nat}{s s':T8}
theorem z78 (h:Rg (SU false T.k) G T Q txt K X rr O_ a L s w)(hI:Ve G.g s)(hK:K<=900000000000)(hb:Q7 w bx [ptr rr 0] 43)(cT:X bx/\¬O_ bx)(hv:v<G.g.length)(j6:Sf s.label v):Qu prog 105 [I (v:Int),ptr bx 0] w λr w'=>r= .bool (vtS G.g T.g 2 s v).2/\ScW G T Q txt K X rr O_ a L 40 (vtS G.g T.g 2 s v).1 w w':=by
 have aQ:∀b,X b->b<w.heap.size:=λb hb=>h.lt b (.inl (.inl hb))
 have cm:=h.far
 obtain⟨n1,n2,n3⟩:=h.ng
 have qh:=h.lt T.rb (.inl (.inr O))
 have dE:=h.m.n
 have Bk:=hI.cn
 have AV:=hI.mn
 have fU:=zd4 h.m.g.ok.gr.len hv
 obtain⟨vl,vc,vm,hV⟩:=h.sc
 have hR:=Rg.cells hV
 have gX:=h.xr _ hV.o.1
 obtain⟨m,hm⟩:∃m,s.mark[v]? =some m:=⟨_,List.getElem?_eq_getElem ω⟩
 obtain⟨x,hx⟩:∃x,s.Q0[v]? =some x:=⟨_,List.getElem?_eq_getElem ω⟩
 have nI:vtS G.g T.g 2 s v=if m=0/\(Qe G.g v).any (λu=>decide (bkC s.label s.Q0 s.mark v u))=true then({s with mark:=s.mark.set v 1},true) else(s,false):=by
  have h1:vtS G.g T.g 2 s v=({s with mark:=(bkV G.g s.label s.Q0 (s.mark,false) v).1},(bkV G.g s.label s.Q0 (s.mark,false) v).2):=rfl;rw[h1];unfold bkV;rw[UC hm];by_cases e:m=0/\(Qe G.g v).any (λu=>decide (bkC s.label s.Q0 s.mark v u))=true
  ·rw[if_pos ⟨j6,e⟩,if_pos e]
  ·rw[if_neg (λe2=>e e2.2),if_neg e]
 rw[nI]
 refine py (e:=[(0,_),(1,_)]) func105 O ntmps105 O O$ qN O$ PY O O (Se O (cs:=[I (v:Int)]) O) ?_
 rintro _ w1 ⟨b2,rfl,bO,ad,ai⟩
 refine PY O O (SE (cs:=[_]) VK O) ?_
 rintro _ w2 ⟨b3,rfl,dP,ae,ak⟩
 have aX:=ae.PN ai
 have aG:=ad.trans ae
 have jW:=aG.PN hb
 have dc:=aG.PN hR
 replace ak:Q7 w2 b3 [.bool false] 4:=ak
 have z1:=ad.size
 have z2:=ae.size
 have l1:=ai.lt
 have l2:=ak.lt
 have di:∀j,w.heap.size<=j->¬O_ j:=λj hj=>(cm j hj).2.2.2.2.2.2
 obtain⟨X0,wv⟩:∃X0:Nat->Prop,(λj=>X j\/j=b2\/j=b3)=X0:=⟨_,rfl⟩
 have rY:∀j,X j->X0 j:=λj hj=>by rw[<-wv];exact .inl hj
 have gT:X0 b2/\X0 b3:=by rw[<-wv];exact⟨.inr (.inl O),.inr (.inr O)⟩
 have Hv:∀j,X0 j->X j\/(w.heap.size<=j/\j<w2.heap.size):=λj hj=>by rw[<-wv] at hj;exact hj.imp id λe=>by omega
 have O6:Rg (SU false T.k) G T Q txt K X0 rr O_ a L s w2:=h.grow aG Hv rY
 have hg:=Ext.Qh w2
 have h2:=O6.ext hg
 have jq:Vk false Q txt G.k T.k rr O_ a L s vl vc vm w2.drew:=hV.kp (S:=λ_=>False) (aG.kp.trans hg.kp) (λ_ _ e=>e)
 have hn:∀j,X0 j->¬¬Vc G T X0 j:=λj hj e=>e (.inl (.inl hj))
 have Bo:=rY _ cT.1
 refine PQ$ An$ An$ S5 (λw'=>Kp (λb=>¬Vc G T X0 b) w2 w') O$ qT 0 O (λ_ hS=>(PX Yt O O (hS.PN jW (hn _ Bo)) O)) (hg.kp)$ PT 1 O (R8 O) (hg.kp)$ PT 2 O (Qz Wu O) (hg.kp)$ qT 3 O (λ_ hS=>(PX XA O O (hS.PN dc (hn _ (rY _ gX))) O)) (hg.kp)$ qT 4 O (λ_ hS=>(PX U3 O O (hS.PN aX (hn _ gT.1)) O)) (hg.kp)$ T9 5 O YT O (Tj h2.sp h2.lt h2.m.g.Wv jq.mar (.inl (.inl (rY _ (h.xr _ jq.o.2.2.2)))) hm) ?_
 rintro _ w3 ⟨rfl,fL,av⟩
 refine⟨hg.kp.trans av,?_⟩
 have ck:=hg.kp.trans av
 have h3:Rg (SU false T.k) G T Q txt K X0 rr O_ a L s w3:=h2.read av fL
 have j4:=ck.PN jW (hn _ Bo)
 have jo:=ck.PN dc (hn _ (rY _ gX))
 have bZ:=ck.PN aX (hn _ gT.1)
 have bG:=ck.PN ak (hn _ gT.2)
 have z3:=ck.size
 have cA:Kp (λb=>¬Vc G T X0 b) w w3:=aG.kp.trans ck
 by_cases em:m=0
 ·subst em;refine PT 6 O (yne O O) (hg.kp.trans av)$ qE ?_;have ag:=Ext.Qh w3;refine TT O$ An$ An$ S5 (λw'=>Kp (λ_=>False) w3 w') O$ qT 0 O (λ_ h=>(PX Yt O O (h.PN j4 id) O)) (ag.kp)$ qT 1 O (λ_ h=>(PX Yt O O (h.PN j4 id) O)) (ag.kp)$ PT 2 O (R8 O) (ag.kp)$ PT 3 O (Qz XC O) (ag.kp)$ qT 4 O (λ_ h=>(PX YV O O (h.PN jo id) O)) (ag.kp)$ qT 5 O (λ_ h=>(PX U3 O O (h.PN bZ id) O)) (ag.kp)$ T9 6 O zcX O (Z9 G.k v _) ?_;rintro _ w4 ⟨c3,c4,c5,rfl,tG,Bi,wn,nK,my,JX,Bp⟩;refine⟨ag.kp.trans Bp.kp,?_⟩;have aC:=ag.trans Bp;have z4:=aC.size;have l4:=tG.lt;have O3:=ag.size;have cZ:=aC.PN bZ;have fP:=aC.PN bG;have lG:=aC.PN j4;refine qE$ PS$ SX (ps:=[19]) (p:=[]) (q:=[_,_,_]) O zdm ?_;rintro l wl bR fu cJ hD Rc bM dz;have zl:=bR.size;have Bq:=aC.trans bR;obtain⟨X1,dt⟩:∃X1:Nat->Prop,(λj=>X0 j\/j=c3\/j=w4.heap.size\/j=l)=X1:=⟨_,rfl⟩;have df:∀j,X0 j->X1 j:=λj hj=>by rw[<-dt];exact .inl hj
  have au:X1 b2/\X1 b3/\X1 c3/\X1 w4.heap.size/\X1 l:=⟨df _ gT.1,df _ gT.2,by rw[<-dt];exact .inr (.inl O),by rw[<-dt];exact .inr (.inr (.inl O)),by rw[<-dt];exact .inr (.inr (.inr O))⟩;have eK:∀j,X j->X1 j:=λj hj=>df j (rY j hj);have rV:Rg (SU false T.k) G T Q txt K X1 rr O_ a L s wl:=h3.grow Bq (λj hj=>by rw[<-dt] at hj;exact hj.imp id λe=>by omega) df;have CS:=aQ _ cT.1
  refine Qu.mono (z0D hv hI.ln rV (bR.PN Bi) (bR.PN wn) (bR.PN tG) au.2.2.1 (λj=>j=l\/j=b3) (λj hj=>by
    rcases hj with rfl|rfl
    ·exact⟨au.2.2.2.2,ω,di _ ω⟩
    ·exact⟨au.2.1,ω,di _ ω⟩)
   (λi txt' K' s' w'=>Rc .ready none w'/\txt'=txt/\K'=K/\s'=s/\(∀u,u∈(Qe G.g v).take i->¬bkC s.label s.Q0 s.mark v u)/\w'.heap[w4.heap.size]? =some (.deferred (some []))/\Q7 w' b2 [I (v:Int)] 3/\Q7 w' b3 [.bool false] 4/\Q7 w' bx [ptr rr 0] 43/\Kp (λb=>¬X b) w w')
   (λtxt' K' s' w'=>Rc .done (some .ret) w'/\s'={s with mark:=s.mark.set v 1}/\K'<=K+1/\(∀y:Int,y<(a:Int)\/(a:Int)+(L:Int)<=y->txt' y=txt y)/\(∃u,u∈Qe G.g v/\bkC s.label s.Q0 s.mark v u)/\w'.heap[w4.heap.size]? =some (.deferred (some []))/\Q7 w' b3 [.bool true] 4/\Kp (λb=>¬X b) w w')
   ?_ ?_ ?_ ?_ ?_) ?_
  ·rintro i txt' K' s' w7 w8 ⟨e1,e2,e3,e4,e5,e6,e7,e8,e9,e10⟩ hz hk;exact⟨hk.rc bM e1 (λe=>e au.2.2.2.2),e2,e3,e4,e5,hk.heap e6 (λe=>e au.2.2.2.1),hk.PN e7 (λe=>e au.1),hk.PN e8 (λe=>e au.2.1),hk.PN e9 (λe=>e (eK _ cT.1)),e10.trans (hk.PU λb e e2=>e (eK _ e2))⟩
  ·rintro txt' K' s' w7 w8 ⟨e1,e2,e3,e4,e5,e6,e8,e10⟩ hz hk;exact⟨hk.rc bM e1 (λe=>e au.2.2.2.2),e2,e3,e4,e5,hk.heap e6 (λe=>e au.2.2.2.1),hk.PN e8 (λe=>e au.2.1),e10.trans (hk.PU λb e e2=>e (eK _ e2))⟩
  ·intro w7 hz hk;have rZ:=Bq.kp.trans hk;have dV:Kp (λb=>¬X b) w w7:=(cA.PU λb e e2=>e (.inl (.inl (rY _ e2)))).trans (rZ.PU λb e e2=>e (eK _ e2));exact⟨hk.rc bM dz (λe=>e au.2.2.2.2),rfl,rfl,rfl,λu hu=>(by cases hu),hk.heap hD (λe=>e au.2.2.2.1),rZ.PN bZ (λe=>e au.1),rZ.PN bG (λe=>e au.2.1),rZ.PN j4 (λe=>e (eK _ cT.1)),dV⟩
  ·rintro i u txt' K' s' w7 hs iL ⟨e1,e2,e3,e4,e5,e6,e7,e8,e9,e10⟩;refine⟨e1,e2,e3,e4,λx hx=>?_,e6,e7,e8,e9,e10⟩;rw[QR hs,List.mem_append,List.mem_singleton] at hx;rcases hx with hx|rfl
   ·exact e5 x hx
   ·exact λe=>iL e.1
  ·rintro Y i u txt' K' s' w7 aN lL z7 hs Br ir h7 ⟨pi,rfl,rfl,rfl,cH,wm,ft,ij,lH,dV⟩;have gY:Y l/\Y b3:=⟨aN _ au.2.2.2.2,aN _ au.2.1⟩;have j9:∀j,X j->Y j:=λj hj=>aN j (eK j hj)
   have tB:u<G.g.length:=by
    have:=hI.ln;have:=SS Br;omega
   obtain⟨mu,JY⟩:∃mu,s'.mark[u]? =some mu:=⟨_,List.getElem?_eq_getElem ω⟩;obtain⟨y,hy⟩:∃y,s'.Q0[u]? =some y:=⟨_,List.getElem?_eq_getElem ω⟩
   have fH:bkC s'.label s'.Q0 s'.mark v u↔mu=1/\y=x:=by
    unfold bkC;rw[UC JY,UC hx,UC hy];exact⟨λe=>e.2,λe=>⟨Br,e⟩⟩
   refine Tt bM pi O O$ PW O$ Qc O$ run_beginRound O bM pi ?_;rintro w8 qe aK;have h8:=h7.own aK (λj e=>by subst e;exact⟨gY.1,cm _ ω⟩);have i5:=aK.PN ft ω;have ey:=aK.PN ij ω;have io:=aK.PN lH ω;have tD:=aK.heap wm ω;have z8:=aK.size;obtain⟨vl8,vc8,vm8,rX⟩:=h8.sc;have lV:=Rg.cells rX;have aP:=Ext.Qh w8;have ny:=h8.ext aP;have lO:Vk false Q txt' G.k T.k rr O_ a L s' vl8 vc8 vm8 w8.drew:=rX.kp (S:=λ_=>False) aP.kp (λ_ _ e=>e);have dH:∀j,Y j->¬¬Vc G T Y j:=λj hj e=>e (.inl (.inl hj));have qj:=j9 _ cT.1;have xJ:=j9 _ (h.xr _ rX.o.1);refine PS$ An$ QH (λe' w'=>e'=[(41,.bool (decide (bkC s'.label s'.Q0 s'.mark v u))),(3,ptr b3 0),(2,ptr b2 0),(1,ptr bx 0)]/\Rg (SU false T.k) G T Q txt' K' Y rr O_ a L s' w'/\Vk false Q txt' G.k T.k rr O_ a L s' vl8 vc8 vm8 w'/\Kp (λb=>¬Vc G T Y b) w8 w') ?ug$ λug=>?Hx
   case ug=>
    rintro e' wa ⟨rfl,ha,nz,er⟩;have Bn:=Rg.cells nz;have jX:=er.PN io (dH _ qj);have pp:=er.PN ey (dH _ gY.2);have pq:=er.PN i5 (dH _ (aN _ au.1));have tF:=er.heap tD (dH _ (aN _ au.2.2.2.1));have tE:=er.rc bM qe (dH _ gY.1);have za:=er.size;have pu:Kp (λb=>¬X b) w wa:=(dV.trans (aK.PU λj e e2=>by have:=aQ j e2;omega)).trans (er.PU λj e e2=>e (.inl (.inl (j9 j e2))));have pw:Kp (λj=>(¬Y j/\j≠T.rb)\/(j=l\/j=b3)) w7 wa:=(aK.PU λj e=> .inr (.inl e)).trans (er.PU λj e=> .inl ⟨λe2=>e (.inl (.inl e2)),λe2=>e (.inl (.inr e2))⟩);by_cases ebk:bkC s'.label s'.Q0 s'.mark v u
    ·rw[decide_eq_true ebk];have jY:=Ext.Qh wa;have Bs:=ha.ext jY;have ww:Vk false Q txt' G.k T.k rr O_ a L s' vl8 vc8 vm8 wa.drew:=nz.kp (S:=λ_=>False) jY.kp (λ_ _ e=>e);refine Qa O$ An$ S5 (λw'=>Kp (λb=>¬Vc G T Y b) wa w') O$ qT 0 O (λ_ hS=>(PX Yt O O (hS.PN jX (dH _ qj)) O)) (jY.kp)$ PT 1 O (R8 O) (jY.kp)$ PT 2 O (Qz Wu O) (jY.kp)$ qT 3 O (λ_ hS=>(PX XA O O (hS.PN Bn (dH _ xJ)) O)) (jY.kp)$ qT 4 O (λ_ hS=>(PX U3 O O (hS.PN pq (dH _ (aN _ au.1))) O)) (jY.kp)$ T9 5 O zbq O (VH Bs.sp Bs.lt Bs.m.g.Wv ww.mar (.inl (.inl (Bs.xr _ ww.o.2.2.2))) (i:=v) (x:=1) ω ψ) ?_;rintro _ wb ⟨rfl,hW⟩;refine⟨jY.kp.trans (by obtain⟨_,_,_,_,hk⟩:=hW;exact hk),?_⟩;obtain⟨txtb,i4,Hn,Hw⟩:=Bs.z8e ww (List.length_set ..) ω hW;have aW:=jY.kp.trans Hw;refine T9 6 O z4L O (Ty _) ?_;rintro _ wb rfl;refine⟨aW,?_⟩;have wo:=aW.PN pp (dH _ gY.2);have Hp:=aW.heap tF (dH _ (aN _ au.2.2.2.1));have lz:=aW.rc bM tE (dH _ gY.1);have zb:=aW.size;refine qE$ qN O$ Qb O (RV VK O O O wo ξ) ?_;rintro wc ⟨wu,aq⟩;have Hq:=aq.rc bM lz ω;have Hr:=aq.heap Hp ω;have zc:=aq.size;have hc:=i4.own aq (λj e=>by subst e;exact⟨gY.2,cm _ ω⟩);refine PQ$ UE bM Hq ?_;intro wd ly cz;exact⟨.inr ⟨rfl,txtb,K'+1,{s' with mark:=s'.mark.set v 1},rfl,hc.own cz (λj e=>by subst e;exact⟨gY.1,cm _ ω⟩),ly,rfl,Nat.le_refl _,Hn,⟨u,List.mem_of_getElem? hs,ebk⟩,cz.heap Hr ω,cz.PN wu ω,((pu.trans (aW.PU λj e e2=>e (.inl (.inl (j9 j e2))))).trans (aq.PU λj e e2=>by have:=aQ j e2;omega)).trans (cz.PU λj e e2=>by have:=aQ j e2;omega)⟩,((pw.trans (aW.PU λj e=> .inl ⟨λe2=>e (.inl (.inl e2)),λe2=>e (.inl (.inr e2))⟩)).trans (aq.PU λj e=> .inr (.inr e))).trans (cz.PU λj e=> .inr (.inl e))⟩
    ·rw[decide_eq_false ebk];refine TT O$ PM$ SQ bM tE ?_;intro wd ly cz;refine⟨.inl ⟨rfl,txt',K',s',rfl,ha.own cz (λj e=>by subst e;exact⟨gY.1,cm _ ω⟩),ly,rfl,rfl,rfl,λx hx=>?_,cz.heap tF ω,cz.PN pq ω,cz.PN pp ω,cz.PN jX ω,pu.trans (cz.PU λj e e2=>by have:=aQ j e2;omega)⟩,pw.trans (cz.PU λj e=> .inr (.inl e))⟩;rw[QR hs,List.mem_append,List.mem_singleton] at hx;rcases hx with hx|rfl
     ·exact cH x hx
     ·exact ebk
   case Hx=>
    refine S5 (λw'=>Kp (λb=>¬Vc G T Y b) w8 w') O$ qT 0 O (λ_ hS=>(PX Yt O O (hS.PN io (dH _ qj)) O)) (aP.kp)$ PT 1 O (R8 O) (aP.kp)$ PT 2 O (Qz Wu O) (aP.kp)$ qT 3 O (λ_ hS=>(PX XA O O (hS.PN lV (dH _ xJ)) O)) (aP.kp)$ Qi 4 O O (aP.kp)$ T9 5 O YT O (Tj ny.sp ny.lt ny.m.g.Wv lO.mar (.inl (.inl (ny.xr _ lO.o.2.2.2))) JY) ?_;rintro _ w9 ⟨rfl,qg,ax⟩;refine⟨aP.kp.trans ax,?_⟩;have h9:=ny.read ax qg;have po:Vk false Q txt' G.k T.k rr O_ a L s' vl8 vc8 vm8 w9:=lO.kp ax (λb e e2=>e2 (.inl (.inl (ny.xr b e))));have iq:=aP.kp.trans ax;by_cases e1:mu=1
    ·refine PT 6 O (yeq O O) (aP.kp.trans ax)$ Vd$ Qi 7 O O (aP.kp.trans ax)$ qT 8 O (λ_ hS=>(PX Yt O O (hS.PN io (dH _ qj)) O)) (aP.kp.trans ax)$ PT 9 O (R8 O) (aP.kp.trans ax)$ PT 10 O (Qz Vo O) (aP.kp.trans ax)$ qT 11 O (λ_ hS=>(PX XA O O (hS.PN lV (dH _ xJ)) O)) (aP.kp.trans ax)$ Qi 12 O O (aP.kp.trans ax)$ qT 14 O (λ_ hS=>(PX Yt O O (hS.PN io (dH _ qj)) O)) (aP.kp.trans ax)$ PT 15 O (R8 O) (aP.kp.trans ax)$ PT 16 O (Qz Vo O) (aP.kp.trans ax)$ qT 17 O (λ_ hS=>(PX XA O O (hS.PN lV (dH _ xJ)) O)) (aP.kp.trans ax)$ qT 18 O (λ_ hS=>(PX U3 O O (hS.PN i5 (dH _ (aN _ au.1))) O)) (aP.kp.trans ax)$ T9 13 O YT O (Tj h9.sp h9.lt h9.m.g.Wv po.col (.inl (.inl (h9.xr _ po.o.2.2.1))) hy) ?_;rintro _ wb ⟨rfl,Cu,aW⟩;refine⟨iq.trans aW,?_⟩;have jg:=h9.read aW Cu;have xW:Vk false Q txt' G.k T.k rr O_ a L s' vl8 vc8 vm8 wb:=po.kp aW (λb e e2=>e2 (.inl (.inl (h9.xr b e))));have nA:=iq.trans aW;refine T9 19 O YT O (Tj jg.sp jg.lt jg.m.g.Wv xW.col (.inl (.inl (jg.xr _ xW.o.2.2.1))) hx) ?_;rintro _ wc ⟨rfl,O7,aq⟩;refine⟨nA.trans aq,?_⟩;have JZ:=jg.read aq O7;have K0:Vk false Q txt' G.k T.k rr O_ a L s' vl8 vc8 vm8 wc:=xW.kp aq (λb e e2=>e2 (.inl (.inl (jg.xr b e))));have Bt:=nA.trans aq;by_cases e2:y=x
     ·have px:=ug [(41,.bool true),(3,ptr b3 0),(2,ptr b2 0),(1,ptr bx 0)] wc ⟨by rw[decide_eq_true (fH.2 ⟨e1,e2⟩)],JZ,K0,Bt⟩;refine PT 20 O (yeq O O) (nA.trans aq)$ Vd$ PT 21 O (W2 O O) (nA.trans aq)$ qE$ Qy.qb (e:=[(1,_),(2,_),(3,_),(41,_)]) ?_;exact px.qb
     ·have px:=ug [(41,.bool false),(3,ptr b3 0),(2,ptr b2 0),(1,ptr bx 0)] wc ⟨by rw[decide_eq_false (λe=>e2 (fH.1 e).2)],JZ,K0,Bt⟩;refine PT 20 O (yeq O O) (nA.trans aq)$ UQ$ PT 21 O (W2 O O) (nA.trans aq)$ qE$ Qy.qb (e:=[(1,_),(2,_),(3,_),(41,_)]) ?_;exact px.qb
    ·have px:=ug [(41,.bool false),(3,ptr b3 0),(2,ptr b2 0),(1,ptr bx 0)] w9 ⟨by rw[decide_eq_false (λe=>e1 (fH.1 e).1)],h9,po,iq⟩;refine PT 6 O (yeq O O) (aP.kp.trans ax)$ UQ$ Qi 7 O O (aP.kp.trans ax)$ qJ 8 O (aP.kp.trans ax)$ qJ 9 O (aP.kp.trans ax)$ qJ 10 O (aP.kp.trans ax)$ qJ 11 O (aP.kp.trans ax)$ qJ 12 O (aP.kp.trans ax)$ qJ 13 O (aP.kp.trans ax)$ qJ 14 O (aP.kp.trans ax)$ qJ 15 O (aP.kp.trans ax)$ qJ 16 O (aP.kp.trans ax)$ qJ 17 O (aP.kp.trans ax)$ qJ 18 O (aP.kp.trans ax) ?_;refine qJ 19 O (aP.kp.trans ax)$ qJ 20 O (aP.kp.trans ax)$ PT 21 O (Vt O O) (aP.kp.trans ax)$ qE$ Qy.qb (e:=[(1,_),(2,_),(3,_),(41,_)]) ?_;exact px.qb
  ·rintro v' wz ⟨rfl,Y,txtz,Kz,sz,aN,lL,iE,hz,⟨nw,rfl,rfl,rfl,cH,nx,rD,j7,Hu,db⟩|⟨nw,rfl,O5,ou,xd,nx,j7,db⟩⟩
   ·refine⟨_,_,nw,ξ,λwy de=>?_⟩;have zz:=db.size;have zy:=de.size;have iu:=de.PN j7 ω;have jN:=de.heap nx ω;rw[List.take_length] at cH
    rw[if_neg (λe=>by
     obtain⟨u,hu,hb⟩:=List.any_eq_true.1 e.2
     exact cH u hu (of_decide_eq_true hb))]
    refine PM$ qN O$ Qb O (RV VK O O O iu ξ) ?_;rintro wx ⟨pn,iD⟩;have Bj:=iD.heap jN ω;have dp:Kp (λk=>k=w4.heap.size) wx (Sy [.mk w4.heap.size] wx):=Ri wx w4.heap.size (.deferred none);have j8:=dp.PN pn ω;have bS:Kp (λk=>k=l\/k=b3\/k=w4.heap.size) wz (Sy [.mk w4.heap.size] wx):=((de.PU λj e=> .inl e).trans (iD.PU λj e=> .inr (.inl e))).trans (dp.PU λj e=> .inr (.inr e));refine PQ$ Up ξ (Uv Bj) func105 (.cell1 U4 O O ((j8).cell _) .nil) ?_;exact⟨_,rfl,rfl,.of ((hz.own bS (λj e=>⟨by rcases e with rfl|rfl|rfl;exact aN _ au.2.2.2.2;exact aN _ au.2.1;exact aN _ au.2.2.2.1,cm j ω⟩)).less (λj hj=>aN j (eK j hj)) h.xk h.xr) (Nat.le_add_right _ _) (λ_ _=>rfl) (db.trans (bS.PU λj e e2=>by have:=aQ j e2;omega))⟩
   ·refine⟨_,_,nw,ξ,λwy de=>?_⟩;have zz:=db.size;have zy:=de.size;have iu:=de.PN j7 ω;have jN:=de.heap nx ω;have dp:Kp (λk=>k=w4.heap.size) wy (Sy [.mk w4.heap.size] wy):=Ri wy w4.heap.size (.deferred none);have j8:=dp.PN iu ω;have bS:Kp (λk=>k=l\/k=b3\/k=w4.heap.size) wz (Sy [.mk w4.heap.size] wy):=(de.PU λj e=> .inl e).trans (dp.PU λj e=> .inr (.inr e))
    rw[if_pos ⟨rfl,by
     obtain⟨u,hu,hb⟩:=xd
     exact List.any_eq_true.2 ⟨u,hu,decide_eq_true hb⟩⟩]
    refine Up ξ (Uv jN) func105 (.cell1 U4 O O ((j8).cell _) .nil) ?_;exact⟨_,rfl,rfl,.of ((hz.own bS (λj e=>⟨by rcases e with rfl|rfl|rfl;exact aN _ au.2.2.2.2;exact aN _ au.2.1;exact aN _ au.2.2.2.1,cm j ω⟩)).less (λj hj=>aN j (eK j hj)) h.xk h.xr) ω ou (db.trans (bS.PU λj e e2=>by have:=aQ j e2;omega))⟩
 ·rw[if_neg (λe=>em e.1)];refine PT 6 O (yne O O) (hg.kp.trans av)$ Vd$ qE$ Qa O$ qN O$ Qb O (RV VK O O O bG ξ) ?_;rintro w4 ⟨fP,ar⟩;refine PQ$ Qt func105 (.cell1 U4 O O ((fP).cell _) .nil) ?_;exact⟨_,rfl,rfl,.of ((h3.own ar (λj e=>by subst e;exact⟨gT.2,cm _ ω⟩)).less rY h.xk h.xr) (Nat.le_add_right _ _) (λ_ _=>rfl) ((cA.PU λj e e2=>e (.inl (.inl (rY _ e2)))).trans (ar.PU λj e e2=>by have:=aQ j e2;omega))⟩
end
section
variable {g t:List (List Nat)}{s:T8}{k v:Nat}
def vtF (g t:List (List Nat))(ph:Nat)(a:T8×Bool)(v:Nat):T8×Bool:=if Sf a.1.label v then((vtS g t ph a.1 v).1,(vtS g t ph a.1 v).2 ||a.2) else a
def vtL (g t:List (List Nat))(ph:Nat)(s:T8)(k:Nat):T8×Bool:=(List.range k).foldl (vtF g t ph) (s,false)
def rtF (ph:Nat)(s:T8)(v:Nat):T8:=if Sf s.label v then rtS ph s v else s
def rtL (ph:Nat)(s:T8)(k:Nat):T8:=(List.range k).foldl (rtF ph) s
theorem XJ (ph:Nat):vtL g t ph s (k+1)=vtF g t ph (vtL g t ph s k) k:=by
 unfold vtL
 rw[List.range_succ,List.foldl_append]
 rfl
theorem XZ (ph:Nat):rtL ph s (k+1)=rtF ph (rtL ph s k) k:=by
 unfold rtL
 rw[List.range_succ,List.foldl_append]
 rfl
theorem zbT {l c:List Nat}{b:Bool}{u:Nat}:YR l v (c,b) u=((YR l v (c,false) u).1,(YR l v (c,false) u).2 ||b):=by
 unfold YR
 by_cases e:Sf l u/\c.getD v 0<c.getD u 0
 ·rw[if_pos e,if_pos e];rfl
 ·rw[if_neg e,if_neg e];simp
theorem z0O {l:List Nat}:∀{us:List Nat} {c:List Nat} {b:Bool},us.foldl (YR l v) (c,b)=((us.foldl (YR l v) (c,false)).1,(us.foldl (YR l v) (c,false)).2 ||b)
 |[],c,b=>by simp
 | u :: us, c, b => by
   rw[List.foldl_cons,List.foldl_cons,zbT (b:=b)];rw[z0O (us:=us) (c:=(YR l v (c,false) u).1) (b:=(YR l v (c,false) u).2 ||b)];have h:=z0O (l:=l) (us:=us) (c:=(YR l v (c,false) u).1) (b:=(YR l v (c,false) u).2);rw[show((YR l v (c,false) u).1,(YR l v (c,false) u).2)=YR l v (c,false) u from rfl] at h;rw[h,Bool.or_assoc]
theorem zgR:∀k,vtL g t 0 s k=({s with label:=(trS g t s.label k).1},(trS g t s.label k).2)
 |0=>rfl
 | k + 1 => by
   rw[XJ,zgR k,show trS g t s.label (k+1)=trV g t (trS g t s.label k) k by unfold trS;rw[List.range_succ,List.foldl_append];rfl];unfold vtF vtS trV;dsimp only;by_cases e:Sf (trS g t s.label k).1 k
   ·rw[if_pos e,if_pos O];by_cases e2:Xx g (trS g t s.label k).1 k=true\/Xx t (trS g t s.label k).1 k=true
    ·rw[if_pos ⟨e,e2⟩,if_pos ⟨e,e2⟩];rfl
    ·rw[if_neg (λh=>e2 h.2),if_neg (λh=>e2 h.2)];simp
   ·rw[if_neg e,if_neg (λh=>e h.1)]
theorem zg1:∀k,vtL g t 1 s k=({s with Q0:=(Zg g s.label s.Q0 k).1},(Zg g s.label s.Q0 k).2)
 |0=>rfl
 | k + 1 => by
   rw[XJ,zg1 k,show Zg g s.label s.Q0 (k+1)=coV g s.label (Zg g s.label s.Q0 k) k by unfold Zg;rw[List.range_succ,List.foldl_append];rfl];unfold vtF vtS coV;dsimp only;by_cases e:Sf s.label k
   ·rw[if_pos e,if_neg ψ,if_pos O,if_pos e];have h:=z0O (l:=s.label) (v:=k) (us:=Qe g k) (c:=(Zg g s.label s.Q0 k).1) (b:=(Zg g s.label s.Q0 k).2);rw[show((Zg g s.label s.Q0 k).1,(Zg g s.label s.Q0 k).2)=Zg g s.label s.Q0 k from rfl] at h;rw[if_pos e,h]
   ·rw[if_neg e,if_neg e]
theorem zg0:∀k,vtL g t 2 s k=({s with mark:=(bkS g s.label s.Q0 s.mark k).1},(bkS g s.label s.Q0 s.mark k).2)
 |0=>rfl
 | k + 1 => by
   rw[XJ,zg0 k,show bkS g s.label s.Q0 s.mark (k+1)=bkV g s.label s.Q0 (bkS g s.label s.Q0 s.mark k) k by unfold bkS;rw[List.range_succ,List.foldl_append];rfl];unfold vtF vtS bkV;dsimp only;by_cases e:Sf s.label k
   ·rw[if_pos e,if_neg ψ,if_neg ψ];by_cases e2:(bkS g s.label s.Q0 s.mark k).1.getD k 0=0/\(Qe g k).any (λu=>decide (bkC s.label s.Q0 (bkS g s.label s.Q0 s.mark k).1 k u))=true
    ·rw[if_pos ⟨e,e2⟩,if_pos ⟨e,e2⟩];rfl
    ·rw[if_neg (λh=>e2 h.2),if_neg (λh=>e2 h.2)];simp
   ·rw[if_neg e,if_neg (λh=>e h.1)]
theorem zcq:∀k {l:List Nat},(trS g t l k).2=false->(trS g t l k).1=l
 |0,_,_=>rfl
 | k + 1, l, h => by
   rw[show trS g t l (k+1)=trV g t (trS g t l k) k by unfold trS;rw[List.range_succ,List.foldl_append];rfl] at h⊢;unfold trV at h⊢;split at h
   ·cases h
   ·rename_i e
    rw[if_neg e];exact zcq k h
def zgw {l:List Nat}{a:List Nat×Bool}{u:Nat}(h:(YR l v a u).2=false):YR l v a u=a:=by
 unfold YR at h⊢
 split at h
 ·cases h
 ·rename_i e
  rw[if_neg e]
def z8S {l:List Nat}:∀{us:List Nat} {a:List Nat×Bool},(us.foldl (YR l v) a).2=false->us.foldl (YR l v) a=a
 |[],_,_=>rfl
 | u :: us, a, h => by
   rw[List.foldl_cons] at h⊢;have h1:=z8S h;rw[h1] at h⊢;exact zgw h
theorem z7o:∀k {l c:List Nat},(Zg g l c k).2=false->(Zg g l c k).1=c
 |0,_,_,_=>rfl
 | k + 1, l, c, h => by
   rw[show Zg g l c (k+1)=coV g l (Zg g l c k) k by unfold Zg;rw[List.range_succ,List.foldl_append];rfl] at h⊢;unfold coV at h⊢;split at h
   ·rename_i e
    rw[if_pos e];have h1:=z8S h;rw[h1] at h⊢;exact z7o k h
   ·rename_i e
    rw[if_neg e];exact z7o k h
theorem zbV:∀k {l c m:List Nat},(bkS g l c m k).2=false->(bkS g l c m k).1=m
 |0,_,_,_,_=>rfl
 | k + 1, l, c, m, h => by
   rw[show bkS g l c m (k+1)=bkV g l c (bkS g l c m k) k by unfold bkS;rw[List.range_succ,List.foldl_append];rfl] at h⊢;unfold bkV at h⊢;split at h
   ·cases h
   ·rename_i e
    rw[if_neg e];exact zbV k h
theorem zgg {ph:Nat}(hp:ph<=2)(h:(vtL g t ph s k).2=false):(vtL g t ph s k).1=s:=by
 match ph,hp with
 |0,_=>rw[zgR] at h⊢;show {s with label:=(trS g t s.label k).1}=s;rw[zcq k h]
 |1,_=>rw[zg1] at h⊢;show {s with Q0:=(Zg g s.label s.Q0 k).1}=s;rw[z7o k h]
 |2,_=>rw[zg0] at h⊢;show {s with mark:=(bkS g s.label s.Q0 s.mark k).1}=s;rw[zbV k h]
theorem zjr:∀k,rtL 0 s k={s with Q0:=rsC s.label s.Q0 k}
 |0=>rfl
 | k + 1 => by
   rw[XZ,zjr k,show rsC s.label s.Q0 (k+1)=if Sf s.label k then(rsC s.label s.Q0 k).set k k else rsC s.label s.Q0 k by unfold rsC;rw[List.range_succ,List.foldl_append];rfl];unfold rtF rtS;dsimp only;by_cases e:Sf s.label k
   ·rw[if_pos e,if_pos e,if_pos O]
   ·rw[if_neg e,if_neg e]
theorem zho:∀k,rtL 1 s k={s with mark:=rsM s.label s.Q0 s.mark k}
 |0=>rfl
 | k + 1 => by
   rw[XZ,zho k,show rsM s.label s.Q0 s.mark (k+1)=if Sf s.label k/\s.Q0.getD k 0=k then(rsM s.label s.Q0 s.mark k).set k 1 else rsM s.label s.Q0 s.mark k by unfold rsM;rw[List.range_succ,List.foldl_append];rfl];unfold rtF rtS;dsimp only;by_cases e:Sf s.label k
   ·rw[if_pos e,if_neg ψ,if_pos O];by_cases e2:s.Q0.getD k 0=k
    ·rw[if_pos e2,if_pos ⟨e,e2⟩]
    ·rw[if_neg e2,if_neg (λh=>e2 h.2)]
   ·rw[if_neg e,if_neg (λh=>e h.1)]
theorem zhX:∀k,rtL 2 s k={s with label:=rsL s.label s.Q0 s.mark k}
 |0=>rfl
 | k + 1 => by
   rw[XZ,zhX k,show rsL s.label s.Q0 s.mark (k+1)=if Sf (rsL s.label s.Q0 s.mark k) k/\s.mark.getD k 0=1 then(rsL s.label s.Q0 s.mark k).set k (s.Q0.getD k 0) else rsL s.label s.Q0 s.mark k by unfold rsL;rw[List.range_succ,List.foldl_append];rfl];unfold rtF rtS;dsimp only;by_cases e:Sf (rsL s.label s.Q0 s.mark k) k
   ·rw[if_pos e,if_neg ψ,if_neg ψ];by_cases e2:s.mark.getD k 0=1
    ·rw[if_pos e2,if_pos ⟨e,e2⟩]
    ·rw[if_neg e2,if_neg (λh=>e2 h.2)]
   ·rw[if_neg e,if_neg (λh=>e h.1)]
def zdC (ph:Nat):Nat:=if ph=2 then 0 else ph+1
def WQ (ph:Nat)(s:T8):T8:=if ph=1 then {s with mark:=List.replicate s.mark.length 0} else s
def zgN (hp:s.phase<=2)(hm:s.mark.length=g.length):s.go g t=if(vtL g t s.phase s g.length).2 then(vtL g t s.phase s g.length).1 else {rtL s.phase (WQ s.phase s) g.length with phase:=zdC s.phase}:=by
 obtain⟨a,ph,d,l,c,m⟩:=s
 dsimp only at hp hm⊢
 match ph,hp with
 |0,_=>rw[zgR,show WQ 0 _=_ from rfl,zjr];rfl
 |1,_=>rw[zg1,show WQ 1 _=T8.mk a 1 d l c (List.replicate m.length 0) from rfl,zho,hm];rfl
 |2,_=>rw[zg0,show WQ 2 _=_ from rfl,zhX];rfl
end
def Ve.vt {g t:List (List Nat)}{s:T8}{ph v:Nat}(h:Ve g s)(hp:ph<=2)(hv:v<g.length)(hn:g.length<=60):Ve g (vtS g t ph s v).1:=by
 match ph,hp with
 | 0, _ =>
   show Ve g {s with label:=(trV g t (s.label,false) v).1};unfold trV;dsimp only;split
   ·exact⟨h.ph,by show(s.label.set v v).length=_;rw[List.length_set];exact h.ln,h.cn,h.mn,Uw h.lb ω,h.cb,h.mb⟩
   ·exact h
 | 1, _ =>
   show Ve g {s with Q0:=(coV g s.label (s.Q0,false) v).1};unfold coV;split
   ·have h1:=z1A (l:=s.label) (v:=v) (us:=Qe g v) (a:=(s.Q0,false)) h.cb;exact⟨h.ph,h.ln,h1.2.trans h.cn,h.mn,h.lb,h1.1,h.mb⟩
   ·exact h
 | 2, _ =>
   show Ve g {s with mark:=(bkV g s.label s.Q0 (s.mark,false) v).1};unfold bkV;dsimp only;split
   ·exact⟨h.ph,h.ln,h.cn,by show(s.mark.set v 1).length=_;rw[List.length_set];exact h.mn,h.lb,h.cb,Uw h.mb ψ⟩
   ·exact h
def Ve.rt {g:List (List Nat)}{s:T8}{ph v:Nat}(h:Ve g s)(hv:v<g.length)(hn:g.length<=60):Ve g (rtS ph s v):=by
 unfold rtS
 split
 ·exact⟨h.ph,h.ln,by show(s.Q0.set v v).length=_;rw[List.length_set];exact h.cn,h.mn,h.lb,Uw h.cb ω,h.mb⟩
 ·split
  ·split
   ·exact⟨h.ph,h.ln,h.cn,by show(s.mark.set v 1).length=_;rw[List.length_set];exact h.mn,h.lb,h.cb,Uw h.mb ψ⟩
   ·exact h
  ·split
   ·exact⟨h.ph,by show(s.label.set v _).length=_;rw[List.length_set];exact h.ln,h.cn,h.mn,Uw h.lb (z1Y (P:=λx=>x<4294967296) h.cb ψ),h.cb,h.mb⟩
   ·exact h
def Ve.vts {g t:List (List Nat)}{s:T8}{ph:Nat}(h:Ve g s)(hp:ph<=2)(hn:g.length<=60):∀k,k<=g.length->Ve g (vtL g t ph s k).1
 |0,_=>h
 | k + 1, hk => by
   have ih:=Ve.vts (t:=t) h hp hn k ω;rw[XJ];unfold vtF;split
   ·exact ih.vt hp ω hn
   ·exact ih
def Ve.rts {g:List (List Nat)}{s:T8}{ph:Nat}(h:Ve g s)(hn:g.length<=60):∀k,k<=g.length->Ve g (rtL ph s k)
 |0,_=>h
 | k + 1, hk => by
   have ih:=Ve.rts (ph:=ph) h hn k ω;rw[XZ];unfold rtF;split
   ·exact ih.rt ω hn
   ·exact ih
def Ve.fil {g:List (List Nat)}{s:T8}{ph:Nat}(h:Ve g s):Ve g (WQ ph s):=by
 unfold WQ
 split
 ·exact⟨h.ph,h.ln,h.cn,by show(List.replicate _ _).length=_;rw[List.length_replicate];exact h.mn,h.lb,h.cb,λx hx=>by rw[(List.mem_replicate.1 hx).2];decide⟩
 ·exact h
section
variable {G T:ZM}{w w':World}{sw:Bool}{Q:Sj}{txt txt':Int->PV}{K K' ok:Nat}{X O_:Nat->Prop}{rr a L vl vc vm bx v:Nat}{s s':T8}
def z3m (ph:Nat):FuncId:=if ph=0 then 97 else if ph=1 then 101 else 105
def z3d (ph:Nat):FuncId:=if ph=0 then 100 else if ph=1 then 104 else 106
def YB (f:FuncId)(b:Nat):Value:= .func (.func f) #[] #[ptr b 0]
def z08 (w:World):Qu prog 65 [ptr rr 0] w λr w'=>∃b,r= .agg #[YB (z3m 0) b,YB (z3d 0) b,I 1,YB (z3m 1) b,YB (z3d 1) b,I 2,YB (z3m 2) b,YB (z3d 2) b,I 0]/\Q7 w' b [ptr rr 0] 43/\w.heap.size<=b/\Kp (λj=>w.heap.size<=j) w w':=by
 refine py (e:=[(0,_)]) func65 O ntmps65 O O$ qN O$ PY O O (Se O (cs:=[ptr rr 0]) O) ?_
 rintro _ w1 ⟨b1,rfl,bL,ad,ai⟩
 refine PY O O (SE (cs:=[_,_,_,_,_,_,_,_,_]) z8G O) ?_
 rintro _ w2 ⟨b2,rfl,bO,ae,ak⟩
 have z1:=ad.size
 have l1:=ai.lt
 refine qM O$ qV (ymf (first:=[]) (caps:=[.tmp 1]) O O)$ qV (ymf (first:=[]) (caps:=[.tmp 1]) O O)$ qV (Tq (cs:=[_,_,_]) YL O zds O O)$ qV (ymf (first:=[]) (caps:=[.tmp 1]) O O)$ qV (ymf (first:=[]) (caps:=[.tmp 1]) O O)$ qV (Tq (cs:=[_,_,_]) YL O zds O O)$ qV (ymf (first:=[]) (caps:=[.tmp 1]) O O)$ qV (ymf (first:=[]) (caps:=[.tmp 1]) O O)$ qV (Tq (cs:=[_,_,_]) YL O zds O O)$ qV (zbt (parts:=[(0,.tmp 5),(1,.tmp 8),(2,.tmp 11)]) (cs:=[_,_,_,_,_,_,_,_,_]) z8G O zdP YL O O)$ Qb O (QT z8G O O O O ak ξ) ?_
 rintro w3 ⟨aw,av⟩
 refine PQ$ Qt func65 (.cell zdP O z8G O (Q7.cells (n:=9) aw (news:=[_,_,_,_,_,_,_,_,_]) O) O .nil) ?_
 exact⟨_,rfl,b1,rfl,av.PN (ae.PN ai) ω,ω,(ad.trans ae).kp.trans (av.PU λj e=>by omega)⟩
theorem ScW.more {n n':Nat}(h:ScW G T Q txt K X rr O_ a L n s w w')(hn:n<=n'):ScW G T Q txt K X rr O_ a L n' s w w':=by
 obtain⟨⟨txt',K',h1,h2,h3⟩,hk⟩:=h
 exact⟨⟨txt',K',h1,ω,h3⟩,hk⟩
def zbY (h:Rg (SU false T.k) G T Q txt K X rr O_ a L s w)(hI:Ve G.g s)(ht:T.g.length=G.g.length)(hK:K<=900000000000)(hb:Q7 w bx [ptr rr 0] 43)(cT:X bx/\¬O_ bx)(hv:v<G.g.length)(j6:Sf s.label v){ph:Nat}(hp:ph<=2):Qu prog (z3m ph) [I (v:Int),ptr bx 0] w λr w'=>r= .bool (vtS G.g T.g ph s v).2/\ScW G T Q txt K X rr O_ a L 40 (vtS G.g T.g ph s v).1 w w':=by
 match ph,hp with
 |0,_=>exact(z8t h hI ht hK hb cT.1 hv j6).mono λr w' ⟨e1,e2⟩=>⟨e1,e2.more ψ⟩
 |1,_=>exact z4y h hI hK hb cT hv j6
 |2,_=>exact z78 h hI hK hb cT hv j6
def zdi (h:Rg (SU false T.k) G T Q txt K X rr O_ a L s w)(hI:Ve G.g s)(hK:K<=900000000000)(hb:Q7 w bx [ptr rr 0] 43)(cT:X bx/\¬O_ bx)(hv:v<G.g.length){ph:Nat}(hp:ph<=2):Qu prog (z3d ph) [I (v:Int),ptr bx 0] w λ_ w'=>ScW G T Q txt K X rr O_ a L 1 (rtS ph s v) w w':=by
 match ph,hp with
 |0,_=>exact z5b h hI hK hb cT.1 hv
 |1,_=>exact z5t h hI hK hb cT.1 hv
 |2,_=>exact z5p h hI hK hb cT.1 hv
def zlI {ph:Nat}(hp:ph<=2):CF prog (z3m ph):=by
 match ph,hp with
 |0,_=>exact zmh
 |1,_=>exact ziZ
 |2,_=>exact ziJ
def zli {ph:Nat}(hp:ph<=2):CF prog (z3d ph):=by
 match ph,hp with
 |0,_=>exact zhj
 |1,_=>exact zhu
 |2,_=>exact zim
theorem zf9 {b ph:Nat}(h:ph<=2):Value.agg ((#[YB (z3m 0) b,YB (z3d 0) b,I 1,YB (z3m 1) b,YB (z3d 1) b,I 2,YB (z3m 2) b,YB (z3d 2) b,I 0]:Array Value).extract (ph*3) (ph*3+3))= .agg #[YB (z3m ph) b,YB (z3d ph) b,I (zdC ph:Int)]:=by
 match ph,h with
 |0,_=>rfl
 |1,_=>rfl
 |2,_=>rfl
def Rg.z6L (h:Rg (SU false T.k) G T Q txt K X rr O_ a L s w):Qu prog 30 [ptr G.k 0] w λv w'=>v=I (G.g.length:Int)/\w'=w:=z1N h.m.g
theorem Vk.put (h:Vk sw Q txt G.k ok rr O_ a L s vl vc vm w)(hk:Kp (λb=>b=rr) w w')(hr:Q7 w' rr (scC s' (if sw then ok else G.k) (if sw then G.k else ok) vl vc vm) 86)(hl:s'.label=s.label)(hc:s'.Q0=s.Q0)(hm:s'.mark=s.mark):Vk sw Q txt G.k ok rr O_ a L s' vl vc vm w':=by
 refine⟨h.o,h.ne,hr,?_,?_,?_,?_,h.L⟩
 ·rw[hl];exact h.lab.kp hk (λe=>h.ne.1 e.symm)
 ·rw[hc];exact h.col.kp hk (λe=>h.ne.2.1 e.symm)
 ·rw[hm];exact h.mar.kp hk (λe=>h.ne.2.2.1 e.symm)
 ·rw[hl,hc,hm];exact h.n
theorem z7h (h:Rg (SU false T.k) G T Q txt K X rr O_ a L s w)(hI:Ve G.g s)(ht:T.g.length=G.g.length)(hK:K<=800000000000):Qu prog 37 [ptr rr 0] w λr w'=>r= .bool (z2r (s.go G.g T.g).label G.g.length)/\(∃txt' K',Rg (SU false T.k) G T Q txt' K' X rr O_ a L (s.go G.g T.g) w'/\K'<=K+9000/\∀y:Int,y<(a:Int)\/(a:Int)+(L:Int)<=y->txt' y=txt y)/\Kp (λb=>¬X b\/O_ b) w w':=by
 have dE:=h.m.n
 obtain⟨vl,vc,vm,hV⟩:=h.sc
 have hR:=Rg.cells hV
 have gX:=h.xr _ hV.o.1
 have pz:=hI.ph
 have aQ:∀b,X b->b<w.heap.size:=λb hb=>h.lt b (.inl (.inl hb))
 have xZ:=aQ _ gX
 refine py (e:=[(0,_)]) func37 O ntmps37 O O$ RN O$ An$ QH (λe' w'=>∃b3 bx,e'=[(3,ptr b3 0),(2,.bool false),(0,ptr rr 0)]/\Q7 w' b3 [YB (z3m s.phase) bx,YB (z3d s.phase) bx,I (zdC s.phase:Int)] 153/\Q7 w' bx [ptr rr 0] 43/\w.heap.size<=b3/\w.heap.size<=bx/\b3≠bx/\Kp (λj=>w.heap.size<=j) w w') ?Hy$ λHy=>?HC
 case Hy =>
  rintro e' w1 ⟨b3,bx,rfl,ai,oQ,dP,fg,u7,ay⟩;have ad:Ext w w1:=Kp.mono ay (λk hl hs=>by omega);have z1:=ad.size;have lb3:=ai.lt;have lbx:=oQ.lt;obtain⟨X1,dt⟩:∃X1:Nat->Prop,(λj=>X j\/j=b3\/j=bx)=X1:=⟨_,rfl⟩;have df:∀j,X j->X1 j:=λj hj=>by rw[<-dt];exact .inl hj
  have au:X1 b3/\X1 bx:=by rw[<-dt];exact⟨.inr (.inl O),.inr (.inr O)⟩
  have h1:Rg (SU false T.k) G T Q txt K X1 rr O_ a L s w1:=h.grow ad (λj hj=>by rw[<-dt] at hj;exact hj.imp id λe=>by omega) df;have Kb:¬O_ bx:=λe=>by have:=aQ _ (h.xr _ e);omega
  have gQ:G.g.length<=60:=by omega
  have i3:=ad.PN hR;refine RN O$ QS O$ QA O$ Qd XC O$ qV (PX YV O O i3 O)$ Qk z6K O (h1.z6L) ?_;rintro _ w1 ⟨rfl,rfl⟩;refine Q4 O$ PQ$ PS$ SK (α:=Nat) (0) (λk=>[(0,ptr rr 0),(2,.bool false),(3,ptr b3 0),(4,.bool (vtL G.g T.g s.phase s k).2),(19,I (G.g.length:Int)),(20,I (k:Int))]) (λk w'=>k<=G.g.length/\(∃txt' K',Rg (SU false T.k) G T Q txt' K' X1 rr O_ a L (vtL G.g T.g s.phase s k).1 w'/\K'<=K+40*k/\∀y:Int,y<(a:Int)\/(a:Int)+(L:Int)<=y->txt' y=txt y)/\Kp (λb=>¬X1 b) w1 w') (λk=>G.g.length-k) ?hI ?hround
  case hI=>exact⟨Nat.zero_le _,⟨txt,K,h1,Nat.le_refl _,λ_ _=>rfl⟩,Kp.refl _ _⟩
  case hround =>
   rintro k w4 ⟨hk,⟨txt4,K4,h4,Hz,lP⟩,ar⟩ ih;dsimp only at ih⊢;have aM:=ar.PN ai (λe=>e au.1);have lG:=ar.PN oQ (λe=>e au.2);have jJ:=hI.vts (t:=T.g) pz gQ k hk;have Bu:=XJ (g:=G.g) (t:=T.g) (s:=s) (k:=k) s.phase
   try dsimp only
   refine qN O$ RT O$ PQ$ An$ Q8 O (λh0=>?_)$ λh0=>?_
   ·have kz:k<G.g.length:=by omega
    refine PR$ RP$ Qx O$ Qc O$ PW O$ Qp O$ Qk zdW O (X9 h4 (by rw[jJ.ln];exact kz)) ?_;rintro _ w5 ⟨rfl,h5,aj⟩;have ja:Kp (λb=>¬X1 b) w4 w5:=aj.PU λb e e2=>e (.inl (.inl e2));have aJ:=ja.PN aM (λe=>e au.1);have nr:=ja.PN lG (λe=>e au.2);by_cases el:Sf (vtL G.g T.g s.phase s k).1.label k
    ·rw[decide_eq_true el];refine Q4 O$ Qd ze7 O$ qV (PX zhL O O aJ O)$ Q4 O$ RB O O (T6 (zlI pz) O O) (zbY h5 jJ ht ω nr ⟨au.2,Kb⟩ kz el pz) ?_;rintro _ w6 ⟨rfl,hW⟩;obtain⟨⟨txt6,K6,h6,PD,JT⟩,aL⟩:=hW
     have jb:vtL G.g T.g s.phase s (k+1)=((vtS G.g T.g s.phase (vtL G.g T.g s.phase s k).1 k).1,(vtS G.g T.g s.phase (vtL G.g T.g s.phase s k).1 k).2 ||(vtL G.g T.g s.phase s k).2):=by
      rw[Bu];unfold vtF;rw[if_pos el]
     rw[show(vtS G.g T.g s.phase (vtL G.g T.g s.phase s k).1 k).1=(vtL G.g T.g s.phase s (k+1)).1 by rw[jb]] at h6;have iN:(vtL G.g T.g s.phase s (k+1)).2=((vtS G.g T.g s.phase (vtL G.g T.g s.phase s k).1 k).2 ||(vtL G.g T.g s.phase s k).2):=by rw[jb]
     have mw:=ih (k+1) w6 ⟨ω,⟨txt6,K6,h6,ω,λy e=>(JT y e).trans (lP y e)⟩,(ar.trans ja).trans aL⟩ ω;rw[iN] at mw
     generalize (vtS G.g T.g s.phase (vtL G.g T.g s.phase s k).1 k).2=o at mw
     cases o with
     | true =>
       refine Sa O$ Q4 O$ qS$ Sa O$ Qc O$ PM$ PW O$ R7 O$ Q4 O$ PQ ?_
       exact mw.qb
     | false =>
       refine Sa O$ Qp O$ QY O$ Qc O$ PM$ PW O$ R7 O$ Q4 O$ PQ ?_;exact mw.qb
    ·rw[decide_eq_false el];refine Q4 O$ S6$ S6$ QY O$ Qp O$ QY O$ Qc O$ PM$ PW O$ R7 O$ Q4 O$ PQ ?_
     have jb:vtL G.g T.g s.phase s (k+1)=vtL G.g T.g s.phase s k:=by
      rw[Bu];unfold vtF;rw[if_neg el]
     have mw:=ih (k+1) w5 ⟨ω,⟨txt4,K4,by rw[jb];exact h5,ω,lP⟩,ar.trans ja⟩ ω;rw[jb] at mw;exact mw.qb
   ·have kz : k = G.g.length := by omega
    refine Q5 O$ An$ QH (λe' w'=>e'=[(0,ptr rr 0),(2,.bool false)]/\(∃txt' K',Rg (SU false T.k) G T Q txt' K' X1 rr O_ a L (s.go G.g T.g) w'/\K'<=K+9000/\∀y:Int,y<(a:Int)\/(a:Int)+(L:Int)<=y->txt' y=txt y)/\Kp (λb=>¬X1 b\/O_ b) w1 w') ?db$ λdb=>?j3
    case db =>
     rintro e' w9 ⟨rfl,⟨txt9,K9,h9,HA,CG⟩,ax⟩;have ia:Ve G.g (s.go G.g T.g):=hI.go gQ;obtain⟨vl9,vc9,vm9,po⟩:=h9.sc;have pK:=Rg.cells po;have pa:Kp (λb=>¬X b\/O_ b) w w9:=(ad.kp.trans ax).PU λb e=>e.imp (λe e2=>e (df _ e2)) id;refine QS O$ QA O$ Qd XC O$ qV (PX YV O O pK O)$ Qk z6K O (h9.z6L) ?_;rintro _ w9 ⟨rfl,rfl⟩;refine Q4 O$ PQ$ PS$ SK (α:=Nat) (0) (λk=>[(0,ptr rr 0),(2,.bool false),(74,I (G.g.length:Int)),(75,I (k:Int))]) (λk w'=>k<=G.g.length/\(∀v,v<k->¬Sf (s.go G.g T.g).label v)/\Rg (SU false T.k) G T Q txt9 K9 X1 rr O_ a L (s.go G.g T.g) w'/\Kp (λb=>¬X b\/O_ b) w w') (λk=>G.g.length-k) ?hI ?hround
     case hI=>exact⟨Nat.zero_le _,λv hv=>absurd hv (Nat.not_lt_zero _),h9,pa⟩
     case hround =>
      rintro k wa ⟨hk,cH,ha,bF⟩ ih;dsimp only at ih⊢
      try dsimp only
      refine qN O$ RT O$ PQ$ An$ Q8 O (λh1=>?_)$ λh1=>?_
      ·have kz:k<G.g.length:=by omega
       refine PR$ RP$ Qx O$ S7 O$ Qp O$ Qk zdW O (X9 ha (by rw[ia.ln];exact kz)) ?_;rintro _ wb ⟨rfl,i4,aW⟩;have lQ:Kp (λb=>¬X b\/O_ b) wa wb:=aW.PU λb e=> .inl λe2=>e (.inl (.inl (df _ e2)));by_cases el:Sf (s.go G.g T.g).label k
       ·rw[decide_eq_true el];refine PQ$ Qa O$ RN O$ PO func37 O ?_;exact⟨_,rfl,by rw[(z2D ia.ln).2 ⟨k,el⟩];rfl,⟨txt9,K9,i4.less df h.xk h.xr,HA,CG⟩,bF.trans lQ⟩
       ·rw[decide_eq_false el];refine Re O$ PM$ PW O$ R7 O$ Q4 O$ PQ ?_
        exact(ih (k+1) wb ⟨ω,λv hv=>by
         by_cases e:v=k
         ·rw[e];exact el
         ·exact cH v ω,i4,bF.trans lQ⟩ ω).qb
      ·have kz:k=G.g.length:=by omega
       refine Q5 O$ RN O$ PO func37 O ?_
       have ho:z2r (s.go G.g T.g).label G.g.length=true:=by
        cases e:z2r (s.go G.g T.g).label G.g.length with
        |true=>rfl
        | false =>
          obtain⟨v,hv⟩:=(z2D ia.ln).1 e;have h1:=SS hv;rw[ia.ln] at h1;exact absurd hv (cH v ω)
       rw[ho];exact⟨_,rfl,rfl,⟨txt9,K9,ha.less df h.xk h.xr,HA,CG⟩,bF⟩
    case j3 =>
     subst kz;have xK:=zgN (t:=T.g) pz hI.mn
     cases iN:(vtL G.g T.g s.phase s G.g.length).2 with
     | true =>
       rw[iN] at xK;rw[if_pos O] at xK;refine Qx O$ qV ((T7 O))$ Re O ?_
       exact(db _ _ ⟨rfl,⟨txt4,K4,by rw[xK];exact h4,ω,lP⟩,ar.PU λb e=> .inl e⟩).qb
     | false =>
       rw[iN] at xK;rw[if_neg ψ] at xK;rw[zgg pz iN] at h4;obtain⟨vl4,vc4,vm4,fY⟩:=h4.sc;have ez:=Rg.cells fY;refine Qx O$ qV ((T7 O))$ PQ$ Qa O$ QS O$ QA O$ Qd z2N O$ qV (PX U84 O O ez O)$ Ss O$ PQ$ QH (λe' w'=>e'=[(0,ptr rr 0),(2,.bool false),(3,ptr b3 0)]/\(∃txt' K',Rg (SU false T.k) G T Q txt' K' X1 rr O_ a L (WQ s.phase s) w'/\K'<=K+2000/\∀y:Int,y<(a:Int)\/(a:Int)+(L:Int)<=y->txt' y=txt y)/\Kp (λb=>¬X1 b) w1 w') ?bS$ λbS=>?uG
       case bS =>
        rintro e' w5 ⟨rfl,⟨txt5,K5,h5,O8,rQ⟩,aj⟩;have kX:Ve G.g (WQ s.phase s):=hI.fil;obtain⟨vl5,vc5,vm5,qk⟩:=h5.sc;have kG:=Rg.cells qk;refine QS O$ QA O$ Qd XC O$ qV (PX YV O O kG O)$ Qk z6K O (h5.z6L) ?_;rintro _ w5 ⟨rfl,rfl⟩;refine Q4 O$ PQ$ PS$ SK (α:=Nat) (0) (λk=>[(0,ptr rr 0),(2,.bool false),(3,ptr b3 0),(53,I (G.g.length:Int)),(54,I (k:Int))]) (λk w'=>k<=G.g.length/\(∃txt' K',Rg (SU false T.k) G T Q txt' K' X1 rr O_ a L (rtL s.phase (WQ s.phase s) k) w'/\K'<=K5+k/\∀y:Int,y<(a:Int)\/(a:Int)+(L:Int)<=y->txt' y=txt y)/\Kp (λb=>¬X1 b) w1 w') (λk=>G.g.length-k) ?hI ?hround
        case hI=>exact⟨Nat.zero_le _,⟨txt5,K5,h5,Nat.le_refl _,rQ⟩,aj⟩
        case hround=>
         rintro k wa ⟨hk,⟨txta,Ka,ha,PE,HB⟩,bF⟩ ih;dsimp only at ih⊢;have xF:=bF.PN ai (λe=>e au.1);have jX:=bF.PN oQ (λe=>e au.2);have Kd:=kX.rts (ph:=s.phase) gQ k hk;have Bu:=XZ (s:=WQ s.phase s) (k:=k) s.phase
         try dsimp only
         refine qN O$ RT O$ PQ$ An$ Q8 O (λh1=>?_)$ λh1=>?_
         ·have kz:k<G.g.length:=by omega
          refine PR$ RP$ Qx O$ S7 O$ Qp O$ Qk zdW O (X9 ha (by rw[Kd.ln];exact kz)) ?_;rintro _ wb ⟨rfl,i4,aW⟩;have lQ:Kp (λb=>¬X1 b) wa wb:=aW.PU λb e e2=>e (.inl (.inl e2));have tc:=lQ.PN xF (λe=>e au.1);have wq:=lQ.PN jX (λe=>e au.2);by_cases el:Sf (rtL s.phase (WQ s.phase s) k).label k
          ·rw[decide_eq_true el];refine PQ$ Qa O$ PW O$ Qd zej O$ qV (PX zlf O O tc O)$ Q4 O$ RB O O (T6 (zli pz) O O) (zdi i4 Kd ω wq ⟨au.2,Kb⟩ kz pz) ?_;rintro _ wc hW;obtain⟨⟨txtc,Kc,hc,PF,O9⟩,aq⟩:=hW
           have jb:rtL s.phase (WQ s.phase s) (k+1)=rtS s.phase (rtL s.phase (WQ s.phase s) k) k:=by
            rw[Bu];unfold rtF;rw[if_pos el]
           rw[<-jb] at hc;have mw:=ih (k+1) wc ⟨ω,⟨txtc,Kc,hc,ω,λy e=>(O9 y e).trans (HB y e)⟩,(bF.trans lQ).trans aq⟩ ω;refine PQ$ PM$ PW O$ R7 O$ Q4 O$ PQ ?_;exact mw.qb
          ·rw[decide_eq_false el];refine Re O$ PM$ PW O$ R7 O$ Q4 O$ PQ ?_
           have jb:rtL s.phase (WQ s.phase s) (k+1)=rtL s.phase (WQ s.phase s) k:=by
            rw[Bu];unfold rtF;rw[if_neg el]
           have mw:=ih (k+1) wb ⟨ω,⟨txta,Ka,by rw[jb];exact i4,ω,HB⟩,bF.trans lQ⟩ ω;exact mw.qb
         ·have kz:k=G.g.length:=by omega
          obtain⟨vla,vca,vma,nz⟩:=ha.sc;have Bn:=Rg.cells nz;refine Q5 O$ St O$ Qd zdX O$ qV ((PX U84 O O xF O))$ QA O$ Qd z2N O$ Qb O (RV zaK O O O Bn ξ) ?_;rintro wb ⟨BT,aW⟩;have i4:Rg (SU false T.k) G T Q txta Ka X1 rr O_ a L {rtL s.phase (WQ s.phase s) k with phase:=zdC s.phase} wb:=ha.set aW (λb e=>by rw[e];exact nz.o.1) ⟨vla,vca,vma,nz.put aW BT O O O⟩;rw[kz] at i4;rw[<-xK] at i4;refine PQ ?_;exact(db _ _ ⟨rfl,⟨txta,Ka,i4,ω,HB⟩,(bF.PU λb e=> .inl e).trans (aW.PU λb e=> .inr (by rw[e];exact nz.o.1))⟩).qb
       case uG=>
        by_cases ep:s.phase=1
        ·rw[show decide ((s.phase:Int)=1)=true from decide_eq_true ω];refine Qa O$ St O$ QA O$ Qd Wu O$ qV (PX XA O O ez O)$ Qk zgA O (Zm h4.sp h4.lt ω fY.mar (.inl (.inl (h4.xr _ fY.o.2.2.2))) (x:=0) ψ) ?_;rintro _ w5 ⟨rfl,hW⟩;rw[Wm fY.n.2.2] at hW;obtain⟨txt5,h5,rQ,aj⟩:=h4.z8e fY (List.length_replicate ..) ω hW;refine Qk z4L O (Ty _) ?_;rintro _ w5 rfl;refine PQ ?_
         have hf:WQ s.phase s={s with mark:=List.replicate s.mark.length 0}:=by
          unfold WQ;rw[if_pos ep]
         exact(bS _ _ ⟨rfl,⟨txt5,K4+1,by rw[hf];exact h5,ω,λy e=>(rQ y e).trans (lP y e)⟩,ar.trans (aj.PU λb e e2=>e (.inl (.inl e2)))⟩).qb
        ·rw[show decide ((s.phase:Int)=1)=false from decide_eq_false ω];refine TT O ?_
         have hf:WQ s.phase s=s:=by
          unfold WQ;rw[if_neg ep]
         exact(bS _ _ ⟨rfl,⟨txt4,K4,by rw[hf];exact h4,ω,lP⟩,ar⟩).qb
 case HC=>
  have hg:=Ext.Qh w;have PG:=hg.size;refine S5 (λw'=>Kp (λj=>w.heap.size<=j) w w') O$ Qi 0 O O (hg.kp)$ Qi 2 O O (hg.kp)$ PT 3 O (R8 O) (hg.kp)$ PT 4 O (Qz z2N O) (hg.kp)$ qT 5 O (λ_ h=>PX U84 O O (h.PN hR ω) O) (hg.kp)$ zl2 (i:=1) (j:=7) (by kernel_rfl) ?_ ?_
  ·refine Xr (i:=1) O O O (yc zk6 O) (z08 _) ?_;rintro _ w2 ⟨bx,rfl,jW,eP,am⟩;refine⟨hg.kp.trans (am.PU λj e=>by omega),?_⟩;have nE:=am.size;have iG:=jW.lt;refine PT 6 O (zet (n:=s.phase) (len:=3) zdP YL zhQ O O O ω) (hg.kp.trans (am.PU λj e=>by omega)) ?_;rw[zf9 pz];refine qO 7$ YZ (i:=7) O O O (SE (cs:=[_,_,_]) YL O) ?_;rintro _ w3 ⟨b3,rfl,dP,ah,aw⟩;refine⟨(hg.kp.trans (am.PU λj e=>by omega)).trans ah.kp,?_⟩;refine qO 8$ QO (i:=8) O O (QT YL O O O O aw ξ) ?_;rintro w4 ⟨aM,ar⟩;refine⟨((hg.kp.trans (am.PU λj e=>by omega)).trans ah.kp).trans (ar.PU λj e=>by omega),?_⟩;refine qE ?_;exact(Hy _ _ ⟨b3,bx,rfl,aM,ar.PN (ah.PN jW) ω,ω,ω,ω,((hg.kp.trans (am.PU λj e=>by omega)).trans ah.kp).trans (ar.PU λj e=>by omega)⟩).qb
  ·refine YZ (i:=7) O O O (SE (cs:=[_,_,_]) YL O) ?_;rintro _ w2 ⟨b3,rfl,dP,ae,ak⟩;refine⟨hg.kp.trans ae.kp,?_⟩;have nE:=ae.size;have iG:=ak.lt;refine T9 1 O zk6 O (z08 _) ?_;rintro _ w3 ⟨bx,rfl,j4,eP,av⟩;refine⟨(hg.kp.trans ae.kp).trans (av.PU λj e=>by omega),?_⟩;have aw:=av.PN ak ω;refine PT 6 O (zet (n:=s.phase) (len:=3) zdP YL zhQ O O O ω) ((hg.kp.trans ae.kp).trans (av.PU λj e=>by omega)) ?_;rw[zf9 pz];refine qO 8$ QO (i:=8) O O (QT YL O O O O aw ξ) ?_;rintro w4 ⟨aM,ar⟩;refine⟨((hg.kp.trans ae.kp).trans (av.PU λj e=>by omega)).trans (ar.PU λj e=>by omega),?_⟩;refine qE ?_;exact(Hy _ _ ⟨b3,bx,rfl,aM,ar.PN j4 ω,ω,ω,ω,((hg.kp.trans ae.kp).trans (av.PU λj e=>by omega)).trans (ar.PU λj e=>by omega)⟩).qb
end
end Go.Proofs.YtffbidffdbpcoaaGreatDoor
