/- Merged by program. -/
import Derived.RecoverIn
import Derived.Test.YtffbidffdbpcoaaGreatDoorZk8
import Derived.SizedLaws
import Derived.Carry
import Derived.ProofKit
import Derived.OpenShut
import Derived.ShutString
import Derived.ChangeOld
import Derived.Below
import Derived.Deep.SlicePairs
import Derived.LaidLaws
import Derived.MakeChecks
import Derived.Handed
set_option linter.all false
set_option maxRecDepth 1000000
set_option maxHeartbeats 16000000
namespace Go.Proofs.YtffbidffdbpcoaaGreatDoor
open Go Go.RowKit
theorem z6p {P:Program}{ρ:Operand->Value}{o:Oper}{c:Call}{w:World}(ho:o.op= .call c)(hc:c.callee= .builtin .recover)(ha:c.args.toList=[]):(execOp ρ o).run P w= .ok .recover w:=by
 obtain⟨callee,args,tys⟩:=c
 simp only at hc ha
 subst hc
 have:args=#[]:=Array.toList_inj.1 ha
 subst this
 simp[execOp,ho,go_sem]
def z4q {P:Program}{f:FuncId}{fn:Func}{id:Nat}{ops:Array Oper}{c2:Code}{args:List Value}{e:Env}{w:World}{S:Value->World->Prop}{n d:Nat}{o:Oper}{rest:List Oper}{c:Call}
  (hf:P.funcs[f]? =some fn) (hb:fn.body=some (.seq (.region id ops false) c2)) (hnt:fn.ntmps=n) (hn:Nat.ble args.length n=true) (he:envOf 0 args=e)
  (hops:ops.toList=o::rest) (hg:o.guard=none) (hop:o.op= .call c) (hcal:c.callee= .builtin .recover) (hca:c.args.toList=[]) (hdst:o.dst=some d) (hd:Nat.blt d n=true) (ho:T5 n ops.toList=true)
  (h:RL ⟨⟨P,f,S,n,none,[],true⟩,ops.toList,[.code c2],ho⟩ rest ((d,.nilIface)::e) w):zb5 P f args w S:=by
 subst hnt
 refine⟨trivial,λc0 cs hm _=>?_⟩
 let b:Frame:={(default:Frame) with fn:=f,kind:= .deferred,roundOf:=none}
 have hn':args.length<=fn.ntmps:=by simpa using hn
 let a:Act:={tmps:=args.toArray++Array.replicate (fn.ntmps-args.toArray.size) undef,defers:=[]}
 have henter:Frame.enter P f args.toArray .deferred=b.atR a [.code (.seq (.region id ops false) c2)]:=by
  simp[Frame.enter,Frame.atR,hf,hb,b,a]
 have hok:Y5 fn.ntmps [] e a:=by
  refine⟨by simp[a];omega,rfl,λi v hi=>?_⟩;subst he;obtain⟨-,h2⟩:=Yi args 0 i v hi;simp at h2
  have hlt:i<args.length:=by
   rcases Nat.lt_or_ge i args.length with h| h
   ·exact h
   ·simp[List.getElem?_eq_none h] at h2
  have h3:args[i]=v:=by simpa[List.getElem?_eq_getElem hlt] using h2
  simp only[a,Array.getD];rw[dif_pos (by simp;omega)];simp[hlt,h3]
 have hok':=hok.put hd .nilIface
 have h0:ops[0]? =some o:=by
  rw[<-Array.getElem?_toList,hops];rfl
 have hrange:List.range ops.size=0::List.range' 1 rest.length:=by
  have:ops.size=rest.length+1:=by rw[<-Array.length_toList,hops];rfl
  rw[this,List.range_eq_range',List.range'_succ]
 -- recover
 have hgs:=stepGR_op (P:=P) (b:=b) (a:=a) (k:=[.code c2]) (cs:=c0::cs) (w:=w) (ops:=ops) (i:=0) (rest:=List.range' 1 rest.length) h0 (by simp[Region.wanted,hg])
 rw[show b.roundOf=none from rfl,Oper.semAt_none] at hgs
 have hfin:(b.atR a (.inRegion ops (0::List.range' 1 rest.length)::[.code c2])).finish .nilIface=b.atR (a.put o.dst .nilIface) (.inRegion ops (List.range' 1 rest.length)::[.code c2]):=by
  rw[Frame.finish_atR,h0];rfl
 have htr:=tryRecover_deferred (show(b.atR a (.inRegion ops (0::List.range' 1 rest.length)::[.code c2])).kind= .deferred from rfl) (c0::cs)
 have hrec:recoverD (c0::cs)=none:=by simp[recoverD,hm]
 have hstep:step P (lone (b.atR a (.inRegion ops (0::List.range' 1 rest.length)::[.code c2])) (c0::cs) w)= .next (lone (b.atR (a.put (some d) .nilIface) (.inRegion ops (List.range' 1 rest.length)::[.code c2])) (c0::cs) w):=by
  refine step_lone_go ?_;rw[<-hdst,hgs,<-hfin];simp only[Frame.atR,show b.roundOf=none from rfl] at htr⊢;simp[stepG.apply,z6p hop hcal hca,htr,hrec]
 -- the rest
 have hl:=h _ hok'
 have hl':wpOpsIn (WF none) 0 P ops (QK ⟨P,f,S,fn.ntmps,none,[],true⟩ [.code c2]) (List.range' 1 rest.length) (a.put (some d) .nilIface) w:=by
  rw[wpOpsIn_eq_wpListIn rest 1 (λj=>by
   rw[<-Array.getElem?_toList,hops,Nat.add_comm];rfl)]
  simpa using hl
 obtain⟨x,a',w',q,harr⟩:=wp_opsIn _ _ _ hl' b [.code c2] (c0::cs) O trivial (z8Q _ _)
 have hland:z11 P f none true (XY S) (lone (b.atR (a.put (some d) .nilIface) (.inRegion ops (List.range' 1 rest.length)::[.code c2])) (c0::cs) w) (c0::cs):=by
  cases x with
  |normal=>exact(q b O O O (c0::cs)).of_steps (StepsIn.steps harr)
  |outgrown=>exact q.elim
  |exit id=>exact q.elim
  |goto l=>exact q.elim
  |ret=>exact q.elim
  |panic ch=>exact q.elim
 have s1:step P (lone (b.atR a [.code (.seq (.region id ops false) c2)]) (c0::cs) w)= .next (lone (b.atR a (.code (.region id ops false)::[.code c2])) (c0::cs) w):=stepR_seq
 have s2:step P (lone (b.atR a (.code (.region id ops false)::[.code c2])) (c0::cs) w)= .next (lone (b.atR a (.inRegion ops (0::List.range' 1 rest.length)::[.code c2])) (c0::cs) w):=by
  rw[<-hrange];exact stepR_region
 have hall:=hland.of_steps (.head s1 (.head s2 (.one hstep)))
 obtain⟨x,w',fr,hR,hc,hfn,hk,hg⟩:=hall
 have hcc:({c0 with mode:= .returning}:Frame)=c0:=by cases c0;simp_all
 rw[henter]
 exact⟨x,.returning,w',fr,⟨rfl,hR⟩,by rw[hcc];exact comesIn_wide.2 hc,hk,hfn,hg⟩
open Go.Proofs.Tryz
section
variable {P:Program}{e:Env}{w:World}{t t' ty:TypeId}{d:Option Tmp}{x:Operand}{pos:String}{aft:Array Edge}{g:Option (Nat×Bool)}
def zkq {ms:Array (String×TypeId)}(ht:P.underlying t=some (.interface ms))(hx:look e x=some .nilIface):Y P e ⟨d,.binOp .eql t x (.const .nilIface) t',ty,pos,aft,g⟩ (.bool true) w w:=fun ρ hρ=>by
 have h1:(Op.equal t .nilIface .nilIface).run P w= .ok true w:=by
  have hA:∀n,(Op.equalIn (n+1) t .nilIface .nilIface).run P w= .ok true w:=λn=>by simp[Op.equalIn,run_underlying ht]
  exact hA 9999
 have h2:eqGuard .eql t x (.const .nilIface) .nilIface .nilIface=pure ():=by cases x<;>rfl
 have h3:binOp .eql t .nilIface .nilIface=(do pure (.bool (<-Op.equal t .nilIface .nilIface))):=rfl
 have h4:ρ (.const .nilIface)= .nilIface:=hρ _ _ O
 simp only[execOp,hρ _ _ hx,h4,h2,h3,pure_bind,Sem.run_bind,h1,Result.andThen,Sem.run_pure]
end
section
variable {G T:ZM}{w w':World}{sw:Bool}{Q:Sj}{txt txt':Int->PV}{K K' ok:Nat}{X O_:Nat->Prop}{rr a L vl vc vm:Nat}{s:T8}
theorem zda {g t:List (List Nat)}:(s.go g t).steps=s.steps:=by
 unfold T8.go
 dsimp only
 split
 ·split<;>rfl
 ·split
  ·split<;>rfl
  ·split<;>rfl
def Rg.zjT (h:Rg (SU sw ok) G T Q txt K X rr O_ a L s w)(di:∀j,w.heap.size<=j->¬O_ j){j:Nat}(hj:w.heap.size<=j):j≠G.k/\j≠G.x/\j≠T.k/\j≠T.x/\j≠1/\j≠2/\¬O_ j:=h.far j hj
theorem Wi (h:Rg (SU false T.k) G T Q txt K X rr O_ a L s w):Qu prog 35 [ptr rr 0] w λr w'=>r=I 0/\w'=w:=by
 obtain⟨vl,vc,vm,hV⟩:=h.sc
 have hR:=Rg.cells hV
 refine py (e:=[(0,_)]) func35 O ntmps35 O O$ RN O$ RP$ Qx O$ qV (R9 Yt O O)$ Qc O$ PZ O$ Qx O$ QA O$ Qd zcg O$ qV (PX U4 O O hR O)$ Qc O$ TT O$ PM ?_
 refine RN O$ PO func35 O ?_
 exact⟨_,rfl,rfl,rfl⟩
def z4U {b1 b2 b3:Nat}:zb5 prog 36 [ptr b1 0,ptr b2 0,ptr b3 0] w λu w'=>w'=w:=by
 refine z4q (e:=[(0,_),(1,_),(2,_)]) func36 O ntmps36 O O O O O O O O O O$ PQ$ PS$ qN O$ qV (zkq U20 O)$ PQ$ Qa O$ PW O$ Qc O$ PM$ z69 O O O func36$ λa ha=>⟨_,Uj ha _ _ _ _ O,?_⟩
 exact⟨_,rfl,rfl⟩
theorem z1g (h:Rg (SU false T.k) G T Q txt K X rr O_ a L s w)(hI:Ve G.g s)(ht:T.g.length=G.g.length)(hK:K<=800000000000)(hd:s.done=false)(fJ:s.steps<=1000000000000):Qu prog 14 [ptr rr 0] w λr w'=>r= .tuple #[.bool (s.step G.g T.g).done,I 0]/\(∃txt' K',Rg (SU false T.k) G T Q txt' K' X rr O_ a L (s.step G.g T.g) w'/\K'<=K+9000/\∀y:Int,y<(a:Int)\/(a:Int)+(L:Int)<=y->txt' y=txt y)/\Kp (λb=>¬X b\/O_ b) w w':=by
 obtain⟨vl,vc,vm,hV⟩:=h.sc
 have hR:=Rg.cells hV
 have gX:=h.xr _ hV.o.1
 have aQ:∀b,X b->b<w.heap.size:=λb hb=>h.lt b (.inl (.inl hb))
 have xZ:=aQ _ gX
 refine py (e:=[(0,_)]) func14 O ntmps14 O O$ qN O$ PY O O (Se O (cs:=[ptr rr 0]) O) ?_
 rintro _ w1 ⟨b1,rfl,bL,ad,ai⟩
 refine PY O O (SE (cs:=[_]) VK O) ?_
 rintro _ w2 ⟨b2,rfl,bO,ae,ak⟩
 refine PY O O (SE (cs:=[_]) z4D O) ?_
 rintro _ w3 ⟨b3,rfl,dP,ah,aw⟩
 replace ak:Q7 w2 b2 [.bool false] 4:=ak
 replace aw:Q7 w3 b3 [I 0] 44:=aw
 have ct:=(ad.trans ae).trans ah
 have z1:=ad.size
 have z2:=ae.size
 have z3:=ah.size
 have l1:=ai.lt
 have l2:=ak.lt
 have l3:=aw.lt
 have bZ:=ah.PN (ae.PN ai)
 have bG:=ah.PN ak
 obtain⟨X1,dt⟩:∃X1:Nat->Prop,(λj=>X j\/j=b1\/j=b2\/j=b3)=X1:=⟨_,rfl⟩
 have df:∀j,X j->X1 j:=λj hj=>by rw[<-dt];exact .inl hj
 have au:X1 b1/\X1 b2/\X1 b3:=by rw[<-dt];exact⟨.inr (.inl O),.inr (.inr (.inl O)),.inr (.inr (.inr O))⟩
 have di:∀j,w.heap.size<=j->¬O_ j:=λj hj e=>by have:=aQ _ (h.xr _ e);omega
 have h3:Rg (SU false T.k) G T Q txt K X1 rr O_ a L s w3:=h.grow ct (λj hj=>by rw[<-dt] at hj;exact hj.imp id λe=>by omega) df
 have jo:=ct.PN hR
 refine PQ$ An$ qN O$ qV ((PX Yt O O bZ O))$ Qk zem O (Wi h3) ?_
 rintro _ w3 ⟨rfl,rfl⟩
 refine RZ O$ RA O$ PQ$ Q8 O (λc0=>?_)$ λc0=>?_
 ·exact absurd O c0
 ·refine PR$ An$ qN O$ qV ((PX Yt O O bZ O))$ QA O$ Qd z0y O$ qV ((PX U4 O O jo O))$ PQ ?_;rw[hd];refine TT O$ qN O$ qV (ymf (first:=[]) (caps:=[.tmp 1,.tmp 2,.tmp 3]) O O)$ zcL O O (ydf O)$ PQ$ An ?_;have hg:=Ext.Qh w3;have Oa:=h3.ext hg;refine S5 (λw'=>Kp (λb=>¬X1 b\/O_ b) w3 w') O$ qT 0 O (λ_ hS=>PX Yt O O (hS.PN bZ (λe=>e.elim (λe=>e au.1) (di _ ω))) O) (hg.kp)$ qT 1 O (λ_ hS=>PX Yt O O (hS.PN bZ (λe=>e.elim (λe=>e au.1) (di _ ω))) O) (hg.kp)$ T9 2 O zlN O (z7h Oa hI ht hK) ?_;rintro _ w4 ⟨rfl,⟨txt4,K4,h4,Hz,lP⟩,s6⟩;refine⟨hg.kp.trans s6,?_⟩;have ar:Kp (λb=>¬X1 b\/O_ b) w3 w4:=hg.kp.trans s6;obtain⟨vl4,vc4,vm4,fY⟩:=h4.sc;have ez:=Rg.cells fY;refine PT 3 O (R8 O) (hg.kp.trans s6)$ PT 4 O (Qz z0y O) (hg.kp.trans s6)$ qO 5$ QO (i:=5) O O (RV VK O O O ez ξ) ?_;rintro w5 ⟨kG,aj⟩;refine⟨ar.trans (aj.PU λb e=> .inr (by rw[e];exact fY.o.1)),?_⟩;have h5:Rg (SU false T.k) G T Q txt4 K4 X1 rr O_ a L {s.go G.g T.g with done:=z2r (s.go G.g T.g).label G.g.length} w5:=h4.set aj (λb e=>by rw[e];exact fY.o.1) ⟨vl4,vc4,vm4,fY.put aj kG O O O⟩;have fE:Kp (λb=>¬X1 b\/O_ b) w3 w5:=ar.trans (aj.PU λb e=> .inr (by rw[e];exact fY.o.1));obtain⟨vl5,vc5,vm5,qk⟩:=h5.sc
  have Bv:Q7 w5 rr [ptr G.k 0,ptr T.k 0,ptr vl5 0,ptr vc5 0,ptr vm5 0,I (s.steps:Int),I ((s.go G.g T.g).phase:Int),.bool (z2r (s.go G.g T.g).label G.g.length),.bool false] 86:=by
   have:=Rg.cells qk;rw[<-zda (s:=s) (g:=G.g) (t:=T.g)];exact this
  have eW:=fE.PN bZ (λe=>e.elim (λe=>e au.1) (di _ ω));have dL:=fE.PN bG (λe=>e.elim (λe=>e au.2.1) (di _ ω));have cY:=fE.PN aw (λe=>e.elim (λe=>e au.2.2) (di _ ω));have Ob:rr≠b1/\rr≠b2/\rr≠b3:=by omega
  refine qE$ qN O$ qV ((PX Yt O O eW O))$ QA O$ Qd z2L O$ qV ((PX U3 O O Bv O))$ R7 O$ QA O$ Qd z2L O$ Qb O (RV Rl O O O Bv ξ) ?_;rintro w6 ⟨gU,aL⟩;have h6:Rg (SU false T.k) G T Q txt4 K4 X1 rr O_ a L (s.step G.g T.g) w6:=h5.set aL (λb e=>by rw[e];exact fY.o.1) ⟨vl5,vc5,vm5,qk.put aL gU O O O⟩;have lM:=aL.PN eW ω;have cL:=aL.PN dL ω;have jx:=aL.PN cY ω;replace gU:Q7 w6 rr [ptr G.k 0,ptr T.k 0,ptr vl5 0,ptr vc5 0,ptr vm5 0,I ((s.steps:Int)+1),I ((s.go G.g T.g).phase:Int),.bool (z2r (s.go G.g T.g).label G.g.length),.bool false] 86:=gU;refine PQ$ Qy.qb (e:=[(1,_),(2,_),(3,_)]) ?_;refine qN O$ qV ((PX Yt O O lM O))$ QA O$ Qd z0y O$ qV ((PX U4 O O gU O))$ Qb O (RV VK O O O cL ξ) ?_;rintro w7 ⟨HD,aA⟩;have kI:=aA.PN jx ω;refine Qb O (RV z4D O O O kI ξ) ?_;rintro w8 ⟨nZ,aK⟩;have yT:=aK.PN HD ω;refine PQ$ z41 func14 zlz (z4U (b1:=b1) (b2:=b2) (b3:=b3)) ?_;rintro u w' rfl;refine⟨_,.cell1 U4 O O ((yT).cell _) (.cell1 U44 O O ((nZ).cell _) .nil),_,rfl,rfl,⟨txt4,K4,?_,Hz,lP⟩,?_⟩
  ·exact((h6.own aA (λj e=>by subst e;exact⟨au.2.1,h.zjT di ω⟩)).own aK (λj e=>by subst e;exact⟨au.2.2,h.zjT di ω⟩)).less df h.xk h.xr
  ·have HE:Kp (λb=>¬X1 b\/O_ b) w3 w6:=fE.trans (aL.PU λb e=> .inr (by rw[e];exact fY.o.1));exact(((ct.kp.trans (HE.PU λb e=>e.imp (λe e2=>e (df _ e2)) id)).trans (aA.PU λb e=> .inl λe2=>by have:=aQ _ e2;omega)).trans (aK.PU λb e=> .inl λe2=>by have:=aQ _ e2;omega))
end
theorem z3K {p q:Nat->Bool}:∀{l:List Nat},(∀x∈l,p x=true->q x=false)->l.countP (λx=>p x ||q x)=l.countP p+l.countP q
 |[],_=>rfl
 | x :: l, h => by
   have ih:=z3K (p:=p) (q:=q) (l:=l) λy hy=>h y (List.mem_cons_of_mem _ hy);have h1:=h x List.mem_cons_self;rw[List.countP_cons,List.countP_cons,List.countP_cons,ih]
   cases hp:p x with
   |false=>cases q x<;>simp<;>omega
   |true=>rw[h1 hp];simp;omega
theorem z3R {a:Nat}:∀n,a<n->(List.range n).countP (λx=>decide (x=a))=1
 |0,h=>absurd h (Nat.not_lt_zero _)
 | n + 1, h => by
   rw[List.range_succ,List.countP_append,List.countP_singleton];by_cases e:a=n
   ·subst e
    have:(List.range a).countP (λx=>decide (x=a))=0:=by
     rw[List.countP_eq_zero];intro x hx hd;have:=List.mem_range.1 hx;have:=of_decide_eq_true hd;omega
    rw[this];simp
   ·rw[z3R n ω,if_neg (by simpa using λe2=>e e2.symm)]
def z25 {n:Nat}:∀{l:List Nat},l.Nodup->(∀x∈l,x<n)->l.length=(List.range n).countP (λx=>decide (x∈l))
 |[],_,_=>by rw[List.length_nil,eq_comm,List.countP_eq_zero];simp
 | a :: l, hn, h => by
   rw[List.nodup_cons] at hn;have ih:=z25 (l:=l) hn.2 λx hx=>h x (List.mem_cons_of_mem _ hx)
   have e:(λx=>decide (x∈a::l))=λx=>decide (x=a) ||decide (x∈l):=by
    funext x
    rw[<-Bool.decide_or,decide_eq_decide,List.mem_cons]
   rw[e,z3K,z3R n (h a List.mem_cons_self),List.length_cons,ih,Nat.add_comm];intro x hx hp;rw[of_decide_eq_true hp];exact decide_eq_false hn.1
theorem z22 {p:Nat->Nat->Bool}{m:Nat}:∀n,((List.range n).map λx=>(List.range m).countP (p x)).sum=((List.range m).map λu=>(List.range n).countP (λx=>p x u)).sum
 | 0 => by
   rw[List.range_zero,List.map_nil,List.sum_nil,eq_comm]
   have:∀l:List Nat,(l.map λu=>([]:List Nat).countP (λx=>p x u)).sum=0:=λl=>by
    induction l with
    |nil=>rfl
    |cons a l ih=>rw[List.map_cons,List.sum_cons,ih];rfl
   exact this _
 | n + 1 => by
   rw[List.range_succ,List.map_append,List.sum_append,z22 n]
   have:∀l:List Nat,(l.map λu=>(List.range n).countP (λx=>p x u)).sum+l.countP (p n)=(l.map λu=>(List.range n++[n]).countP (λx=>p x u)).sum:=λl=>by
    induction l with
    |nil=>rfl
    | cons a l ih =>
      rw[List.map_cons,List.sum_cons,List.map_cons,List.sum_cons,List.countP_cons,<-ih,List.countP_append,List.countP_singleton];omega
   rw[<-this];simp
theorem z1k (g:List (List Nat)):R6 g=((List.range g.length).map λx=>(Qe g x).length).sum:=by
 unfold R6
 congr 1
 refine List.ext_getElem? λi=>?_
 rw[List.getElem?_map,List.getElem?_map]
 by_cases h:i<g.length
 ·rw[List.getElem?_range h];unfold Qe;simp[List.getElem?_eq_getElem h]
 ·rw[List.getElem?_eq_none ω,List.getElem?_eq_none (by rw[List.length_range];omega)]
  rfl
def z7R {g:List (List Nat)}(h:Tl g)(hnd:∀x,(Qe g x).Nodup)(hlt:∀x y,y∈Qe g x->y<g.length):R6 (R0 g)=R6 g:=by
 rw[z1k,z1k,Te]
 have e1:((List.range g.length).map λx=>(Qe g x).length)=(List.range g.length).map λx=>(List.range g.length).countP (λu=>decide (u∈Qe g x)):=
  List.map_congr_left λx _=>z25 (hnd x) (hlt x)
 have e2:((List.range g.length).map λu=>(Qe (R0 g) u).length)=(List.range g.length).map λu=>(List.range g.length).countP (λx=>decide (u∈Qe g x)):=
  List.map_congr_left λu hu=>by
   unfold Qe;rw[z0w g (List.mem_range.1 hu),List.countP_eq_length_filter]
   rfl
 rw[e1,e2,z22]
def z5x {g:List (List Nat)}(h:Tl g):R6 (R0 g)=R6 g:=by
 have hm:∀x,Qe g x∈g\/Qe g x=[]:=λx=>by
  unfold Qe;by_cases e:x<g.length
  ·rw[List.getElem?_eq_getElem e];exact .inl (List.getElem_mem e)
  ·rw[List.getElem?_eq_none ω];exact .inr O
 refine z7R h (λx=>?_) λx y hy=>?_
 ·rcases hm x with e| e
  ·exact List.Pairwise.imp (λh e=>by omega) (h.ok _ e).ris
  ·rw[e];exact .nil
 ·rcases hm x with e| e
  ·exact h.lt _ e y hy
  ·rw[e] at hy;cases hy
structure Wc (G T:ZM)(Q:Sj)(txt:Int->PV)(K:Nat)(X:Nat->Prop)(w:World):Prop where
 g:U0 G Q txt K (λb=>X b\/b=T.rb) w
 t:U0 T Q txt K (λb=>X b\/b=G.rb) w
 xk:X G.k/\X G.x/\X T.k/\X T.x/\X 1/\X 2
section
variable {G T:ZM}{w w':World}{Q Q':Sj}{txt txt':Int->PV}{K K':Nat}{X Y S' O_:Nat->Prop}{rr a L:Nat}{s:T8}
def Wc.ng (h:Wc G T Q txt K X w):¬X G.rb/\G.rb≠T.rb/\¬X T.rb:=by
 have h1:=h.g.rbX
 have h2:=h.t.rbX
 exact⟨λe=>h1 (.inl e),λe=>h1 (.inr e),λe=>h2 (.inl e)⟩
def Wc.sp (h:Wc G T Q txt K X w):Sp Q txt K (Vc G T X) w:=h.g.sp
def Wc.lt (h:Wc G T Q txt K X w):∀b,Vc G T X b->b<w.heap.size:=h.g.lt1
theorem Wc.upd (h:Wc G T Q txt K X w)(hk:Kp S' w w')(hS:∀b,S' b->¬Vc G T X b\/(X b/\b≠G.k/\b≠G.x/\b≠T.k/\b≠T.x/\b≠1/\b≠2))(aN:∀j,X j->Y j)(hY:∀j,Y j->X j\/w.heap.size<=j)(aR:∀j,Y j->j<w'.heap.size)(hP:Sp Q' txt' K' (Vc G T Y) w')(hs:Q'.s=Q.s)(hl:Q'.L.length=Q.L.length)(hK:K'<1000000000000)(AQ:∀y:Int,((G.st:Int)<=y/\y<(G.st:Int)+(G.len:Int))\/((T.st:Int)<=y/\y<(T.st:Int)+(T.len:Int))->txt' y=txt y):Wc G T Q' txt' K' Y w':=by
 obtain⟨n1,n2,n3⟩:=h.ng
 have hx:=h.xk
 have Bw:=h.lt
 have qh:=Bw T.rb (.inl (.inr O))
 have CH:=Bw G.rb (.inr O)
 have hz:=hk.size
 have Oc:¬Y G.rb:=λe=>(hY _ e).elim n1 ω
 have Od:¬Y T.rb:=λe=>(hY _ e).elim n3 ω
 have hn:∀{b},X b->((b=G.k\/b=G.x\/b=T.k)\/b=T.x\/b=1\/b=2)->¬S' b:=λhb he e=>by
  rcases hS _ e with e|⟨-,m1,m2,m3,m4,m5,m6⟩
  ·exact e (.inl (.inl hb))
  ·rcases he with(e|e|e)|e|e| e
   ·exact m1 e
   ·exact m2 e
   ·exact m3 e
   ·exact m4 e
   ·exact m5 e
   ·exact m6 e
 have dm:¬S' G.rb:=λe=>(hS _ e).elim (λe=>e (.inr O)) λe=>n1 e.1
 have dv:¬S' T.rb:=λe=>(hS _ e).elim (λe=>e (.inl (.inr O))) λe=>n3 e.1
 refine⟨h.g.at_ hk ⟨hn hx.1 (.inl (.inl O)),hn hx.2.1 (.inl (.inr (.inl O))),hn hx.2.2.2.2.1 (.inr (.inr (.inl O))),hn hx.2.2.2.2.2 (.inr (.inr (.inr O))),dm⟩ ⟨.inl (aN _ hx.1),.inl (aN _ hx.2.1),.inl (aN _ hx.2.2.2.2.1),.inl (aN _ hx.2.2.2.2.2)⟩ (λj e=>e.elim (aR j) λe=>by omega) (λe=>e.elim Oc n2) hP hs hl hK (λy e1 e2=>AQ y (.inl ⟨e1,e2⟩)),
  h.t.at_ hk ⟨hn hx.2.2.1 (.inl (.inr (.inr O))),hn hx.2.2.2.1 (.inr (.inl O)),hn hx.2.2.2.2.1 (.inr (.inr (.inl O))),hn hx.2.2.2.2.2 (.inr (.inr (.inr O))),dv⟩ ⟨.inl (aN _ hx.2.2.1),.inl (aN _ hx.2.2.2.1),.inl (aN _ hx.2.2.2.2.1),.inl (aN _ hx.2.2.2.2.2)⟩ (λj e=>e.elim (aR j) λe=>by omega) (λe=>e.elim Od λe=>n2 e.symm) (hP.iff λb=>?_) hs hl hK (λy e1 e2=>AQ y (.inr ⟨e1,e2⟩)),⟨aN _ hx.1,aN _ hx.2.1,aN _ hx.2.2.1,aN _ hx.2.2.2.1,aN _ hx.2.2.2.2.1,aN _ hx.2.2.2.2.2⟩⟩
 constructor
 ·rintro((e|e)|e)
  ·exact .inl (.inl e)
  ·exact .inr e
  ·exact .inl (.inr e)
 ·rintro((e|e)|e)
  ·exact .inl (.inl e)
  ·exact .inr e
  ·exact .inl (.inr e)
def Wc.own (h:Wc G T Q txt K X w)(hk:Kp S' w w')(hS:∀b,S' b->X b/\b≠G.k/\b≠G.x/\b≠T.k/\b≠T.x/\b≠1/\b≠2):Wc G T Q txt K X w':=
 ⟨h.g.own hk λj e=>⟨.inl (hS j e).1,(hS j e).2.1,(hS j e).2.2.1,(hS j e).2.2.2.2.2.1,(hS j e).2.2.2.2.2.2⟩,h.t.own hk λj e=>⟨.inl (hS j e).1,(hS j e).2.2.2.1,(hS j e).2.2.2.2.1,(hS j e).2.2.2.2.2.1,(hS j e).2.2.2.2.2.2⟩,h.xk⟩
def Wc.grow (h:Wc G T Q txt K X w)(hx:Ext w w')(hY:∀j,Y j->X j\/(w.heap.size<=j/\j<w'.heap.size))(aN:∀j,X j->Y j):Wc G T Q txt K Y w':=by
 have hk:=h.xk
 exact⟨h.g.grow hx (λj e=>e.elim (λe=>(hY j e).imp .inl id) (λe=> .inl (.inr e))) (λj e=>e.imp (aN j) id),h.t.grow hx (λj e=>e.elim (λe=>(hY j e).imp .inl id) (λe=> .inl (.inr e))) (λj e=>e.imp (aN j) id),⟨aN _ hk.1,aN _ hk.2.1,aN _ hk.2.2.1,aN _ hk.2.2.2.1,aN _ hk.2.2.2.2.1,aN _ hk.2.2.2.2.2⟩⟩
def Wc.less (h:Wc G T Q txt K Y w)(aN:∀j,X j->Y j)(hx:X G.k/\X G.x/\X T.k/\X T.x/\X 1/\X 2):Wc G T Q txt K X w:=
 ⟨h.g.less (λj e=>e.imp (aN j) id) ⟨.inl hx.1,.inl hx.2.1,.inl hx.2.2.2.2.1,.inl hx.2.2.2.2.2⟩,h.t.less (λj e=>e.imp (aN j) id) ⟨.inl hx.2.2.1,.inl hx.2.2.2.1,.inl hx.2.2.2.2.1,.inl hx.2.2.2.2.2⟩,hx⟩
def Wc.far (h:Wc G T Q txt K X w):∀j,w.heap.size<=j->j≠G.k/\j≠G.x/\j≠T.k/\j≠T.x/\j≠1/\j≠2:=λj hj=>by
 have aR:∀b,X b->b<w.heap.size:=λb hb=>h.lt b (.inl (.inl hb))
 have hx:=h.xk
 have e1:=aR _ hx.1
 have e2:=aR _ hx.2.1
 have e3:=aR _ hx.2.2.1
 have e4:=aR _ hx.2.2.2.1
 have e5:=aR _ hx.2.2.2.2.1
 have e6:=aR _ hx.2.2.2.2.2
 exact⟨ω,ω,ω,ω,ω,ω⟩
def z8X (h:U0 G Q txt K X w):Qu prog 31 [ptr G.k 0] w λv w'=>v=I (R6 G.g:Int)/\w'=w:=by
 obtain⟨o,h⟩:=h
 have hB:=h.cells
 refine py (e:=[(0,_)]) func31 O ntmps31 O O$ RN O$ QS O$ qV (R9 YV O O)$ Re O$ Qx O$ QA O$ Qd X8 O$ Qd z1D O$ qV (PX U3 O O hB O)$ Qc O$ PO func31 O ?_
 exact⟨_,rfl,rfl,rfl⟩
def z0H {be bs bg n width:Nat}(h:Wc G T Q txt K X w)(hn:G.g.length=n)(dS:n<=100)(hK:K<=800000000000)(dJ:Pre Q.L a)(kw:width=1\/width=4)(cd:a+1<=Q.L.length)(eG:Q7 w be [I 0] 44)(j0:Q7 w bs [ptr Q.s 0] 27)(vg:Q7 w bg [ptr G.k 0] 28)(HF:X be/\X bs/\X bg):Qu prog 32 ([I (width:Int)]++[ptr be 0,ptr bs 0,ptr bg 0]) w λv w'=>∃vb txt' w1,v=ptr vb 0/\w.heap.size<=vb/\Sp (Q.Rx (Rn Q.L a 1 true)) txt' (K+1) (λb=>Vc G T X b\/b=vb) w1/\Vn (Q.Rx (Rn Q.L a 1 true)) txt' vb width a (List.replicate n 0) w1/\(∀y:Int,y<(a:Int)\/(a:Int)+1<=y->txt' y=txt y)/\Kp (λb=>¬Vc G T X b) w w1/\Kp (λb=>b=be) w1 w'/\Q7 w' be [I 0] 44:=by
 have fO:WA n (512 / width)=1:=by
  rcases kw with e|e<;>subst e
  ·exact Wm dS
  ·exact Sn dS
 have hg:=Ext.Qh w
 have hd:=h.grow hg (λj e=> .inl e) (λj e=>e)
 have Ke:=za8 hd.sp hd.lt hK dJ n width ω ω (by rw[fO];exact cd)
 rw[fO] at Ke
 have sW:=z1N hd.g
 rw[hn] at sW
 have HG:∀{b},X b->¬¬Vc G T X b:=λhb e=>e (.inl (.inl hb))
 refine py (e:=[(0,_),(1,_),(2,_),(3,_)]) func32 O ntmps32 O O$ RN O$ An$ qN O$ qV (PX U44 O O eG O)$ RA O$ Re O$ An$ S5 (λw'=>Kp (λb=>¬Vc G T X b) w w') O$ qT 0 O (λ_ hS=>(PX Y1 O O (hS.PN j0 (HG HF.2.1)) O)) (hg.kp)$ qT 1 O (λ_ hS=>(PX YV O O (hS.PN vg (HG HF.2.2)) O)) (hg.kp)$ Qi 3 O O (hg.kp)$ T9 2 O z6K O (sW) ?_
 rintro _ w0 ⟨rfl,rfl⟩
 refine⟨hg.kp,?_⟩
 refine T9 4 O zl6 O (Ke) ?_
 rintro _ w1 ⟨vb,txt1,rfl,dF,ge,HH,zj,ay⟩
 refine⟨hg.kp.trans ay,?_⟩
 have dC:=hg.kp.trans ay
 have HI:=dC.PN eG (HG HF.1)
 refine Qi 5 O O (hg.kp.trans ay)$ PT 6 O (Sz O O) (hg.kp.trans ay)$ PT 7 O (Sz O O) (hg.kp.trans ay)$ PT 8 O (Sv O) (hg.kp.trans ay)$ PT 9 O (Sv O) (hg.kp.trans ay)$ qE$ Qx O$ Qb O (RV z4D O O O HI ξ) ?_
 rintro w2 ⟨HJ,am⟩
 refine qM O$ Q4 O$ Qc O$ PO func32 O ?_
 exact⟨_,rfl,vb,txt1,w1,rfl,dF,ge,HH,zj,dC,am,HJ⟩
theorem Wc.vec {Q1:Sj}{txt1:Int->PV}{v be K1:Nat}{w5 w6:World}(h:Wc G T Q txt K X w)(hk:Kp (λb=>¬Vc G T X b) w w5)(hP:Sp Q1 txt1 K1 (λb=>Vc G T X b\/b=v) w5)(hv:w.heap.size<=v)(rx:v<w5.heap.size)(hs:Q1.s=Q.s)(hl:Q1.L.length=Q.L.length)(hK:K1<1000000000000)(jY:G.st+G.len<=a)(wG:T.st+T.len<=a)(hy:∀y:Int,y<(a:Int)->txt1 y=txt y)(aL:Kp (λb=>b=be) w5 w6)(hb:X be/\be≠G.k/\be≠G.x/\be≠T.k/\be≠T.x/\be≠1/\be≠2):Wc G T Q1 txt1 K1 (λj=>X j\/j=v) w6:=by
 have aR:=h.lt
 have hz:=hk.size
 refine(h.upd (Y:=λj=>X j\/j=v) hk (λb e=> .inl e) (λj e=> .inl e) (λj hj=>hj.imp id λe=>by omega) (λj hj=>by
   rcases hj with e| e
   ·have:=aR j (.inl (.inl e));omega
   ·omega) (hP.iff λb=>?_) hs hl hK (λy e=>hy y ω)).own aL λj e=>by rw[e];exact⟨.inl hb.1,hb.2⟩
 constructor
 ·rintro(((e|e)|e)|e)
  ·exact .inl (.inl (.inl e))
  ·exact .inl (.inr e)
  ·exact .inr e
  ·exact .inl (.inl (.inr e))
 ·rintro(((e|e)|e)|e)
  ·exact .inl (.inl (.inl e))
  ·exact .inr e
  ·exact .inl (.inl (.inr e))
  ·exact .inl (.inr e)
def z7E {l:List Bool}{a:Nat}(h:a+3<=l.length):Rn (Rn (Rn l a 1 true) (a+1) 1 true) (a+2) 1 true=Rn l a 3 true:=by
 have g1:(Rn l a 1 true).length=l.length:=R5 ω
 have g2:(Rn (Rn l a 1 true) (a+1) 1 true).length=l.length:=by rw[R5 (by rw[g1];omega),g1]
 refine List.ext_getElem? λi=>?_
 rw[Su (by rw[g2];omega),Su (by rw[g1];omega),Su ω,Su h]
 by_cases c1:a+2<=i/\i<a+2+1
 ·rw[if_pos c1,if_pos ω]
 ·rw[if_neg c1];by_cases c2:a+1<=i/\i<a+1+1
  ·rw[if_pos c2,if_pos ω]
  ·rw[if_neg c2];by_cases c3:a<=i/\i<a+1
   ·rw[if_pos c3,if_pos ω]
   ·rw[if_neg c3,if_neg ω]
def z0E (h:Wc G T Q txt K X w)(hK:K<=600000000000)(dE:G.g.length<=40)(az:Tl G.g)(ht:T.g=R0 G.g)(dJ:Pre Q.L a)(jY:G.st+G.len<=a)(wG:T.st+T.len<=a)(cd:a+3<=Q.L.length):Qu prog 13 [ptr Q.s 0,ptr G.k 0,ptr T.k 0] w λv w'=>∃(rr:Nat) (O_:Nat->Prop) (txt':Int->PV),v= .tuple #[ptr rr 0,I 0]/\(∀b,O_ b->w.heap.size<=b)/\Rg (SU false T.k) G T (Q.Rx (Rn Q.L a 3 true)) txt' (K+4) (λb=>X b\/O_ b) rr O_ a 3 (T8.new G.g.length) w'/\(∀y:Int,y<(a:Int)\/(a:Int)+3<=y->txt' y=txt y)/\Kp (λb=>¬X b) w w':=by
 have kM:T.g.length=G.g.length:=by rw[ht];exact Te _
 have Oe:R6 T.g=R6 G.g:=by rw[ht];exact z5x az
 have aQ:=h.lt
 have nB:=h.xk
 have cm:=h.far
 refine py (e:=[(0,_),(1,_),(2,_)]) func13 O ntmps13 O O$ qN O$ PY O O (Se O (cs:=[ptr Q.s 0]) O) ?_
 rintro _ w1 ⟨bs,rfl,xv,ad,lJ⟩
 refine PY O O (Se O (cs:=[ptr G.k 0]) O) ?_
 rintro _ w2 ⟨bg,rfl,JE,ae,il⟩
 have ip:=ae.PN lJ
 have aG:=ad.trans ae
 have z1:=ad.size
 have z2:=ae.size
 have q1:=lJ.lt
 have q2:=il.lt
 have h2:=h.grow aG (λj e=> .inl e) (λj e=>e)
 have Kf:=z1N h2.t
 rw[kM] at Kf
 have iY:=z8X h2.t
 rw[Oe] at iY
 refine Rt O$ RP$ qN O$ qV ((PX Y1 O O ip O))$ qV (R9 Y1 O O)$ Q4 O$ qV ((PX YV O O il O))$ qV (R9 YV O O)$ QY O$ Qp O$ qV (R9 YV O O)$ QY O$ Qc O$ PZ O ?_
 refine qN O$ qV ((PX YV O O il O))$ Qk z6K O (z1N h2.g) ?_
 rintro _ w2 ⟨rfl,rfl⟩
 refine Q4 O$ Qk z6K O (Kf) ?_
 rintro _ w2 ⟨rfl,rfl⟩
 refine RA O$ QW$ Q4 O$ qV ((PX YV O O il O))$ Qk zkK O (z8X h2.g) ?_
 rintro _ w2 ⟨rfl,rfl⟩
 refine Q4 O$ Qk zkK O (iY) ?_
 rintro _ w2 ⟨rfl,rfl⟩
 refine RA O$ QW$ QY O$ Qc O$ Qy.qb (e:=[(2,_),(3,_),(4,_),(6,_),(7,_),(22,_)]) ?_
 refine TT O$ PM$ qN O$ qV ((PX YV O O il O))$ Q4 O$ qV (Tq (cs:=[_,_,_,_,_,_,_,_,_]) zlm O zm2 O O)$ PY O O (Se O (cs:=[ptr G.k 0,ptr T.k 0,.pointer none,.pointer none,.pointer none,I 0,I 0,.bool false,.bool false]) O) ?_
 rintro _ w3 ⟨rr,rfl,ob,ah,Bx⟩
 refine S7 O$ PY O O (SE (cs:=[_]) z4D O) ?_
 rintro _ w4 ⟨be,rfl,Fv,aC,s8⟩
 replace s8:Q7 w4 be [I 0] 44:=s8
 have z3:=ah.size
 have z4:=aC.size
 have q3:=Bx.lt
 have q4:=s8.lt
 have ce:Ext w w4:=(aG.trans ah).trans aC
 have fX:=aC.PN (ah.PN ip)
 have rB:=aC.PN (ah.PN il)
 have HK:=aC.PN Bx
 obtain⟨X0,wv⟩:∃X0:Nat->Prop,(λj=>X j\/j=rr\/j=be\/j=bs\/j=bg)=X0:=⟨_,rfl⟩
 have eK:∀j,X j->X0 j:=λj hj=>by rw[<-wv];exact .inl hj
 have au:X0 rr/\X0 be/\X0 bs/\X0 bg:=by rw[<-wv];exact⟨.inr (.inl O),.inr (.inr (.inl O)),.inr (.inr (.inr (.inl O))),.inr (.inr (.inr (.inr O)))⟩
 have h4:Wc G T Q txt K X0 w4:=h.grow ce (λj hj=>by rw[<-wv] at hj;exact hj.imp id λe=>by omega) eK
 refine qM O$ qV (ymf (first:=[]) (caps:=[.tmp 9,.tmp 3,.tmp 4]) O O)$ S7 O$ Qp O$ Qp O$ RB O O (T6 zgx O O) (z0H h4 O ω ω dJ (width:=4) (.inr O) ω s8 fX rB au.2) ?_
 rintro _ w5 ⟨v1,txt1,w5',rfl,HM,fT,nN,zj,aj,s9,lN⟩
 obtain⟨Q1,yp⟩:∃Q1,Q.Rx (Rn Q.L a 1 true)=Q1:=⟨_,rfl⟩
 rw[yp] at fT nN
 have wH:Q1.s=Q.s:=by rw[<-yp];rfl
 have wI:Q1.L=Rn Q.L a 1 true:=by rw[<-yp];rfl
 have HN:Q1.L.length=Q.L.length:=by rw[wI];exact R5 ω
 have tH:Pre Q1.L (a+1):=by rw[wI];exact z0e dJ ω
 have zz5:=aj.size
 have zz5':=s9.size
 have lv1:=nN.lt
 have sd:=cm be ω
 have h5:=h4.vec aj fT HM lv1 wH HN ω jY wG (λy e=>zj y (.inl e)) s9 ⟨au.2.1,sd⟩
 have HO:=nN.kp s9 (λe=>by omega)
 have ja:Kp (λb=>¬Vc G T X0 b\/b=be) w4 w5:=(aj.PU λb e=> .inl e).trans (s9.PU λb e=> .inr e)
 have sQ:∀{b},X0 b->b≠be->¬(¬Vc G T X0 b\/b=be):=λhb bE e=>e.elim (λe=>e (.inl (.inl hb))) bE
 have jQ:=ja.PN fX (sQ au.2.2.1 ω)
 have Bz:=ja.PN rB (sQ au.2.2.2 ω)
 have HP:=ja.PN HK (sQ au.1 ω)
 obtain⟨X5,B6⟩:∃X5:Nat->Prop,(λj=>X0 j\/j=v1)=X5:=⟨_,rfl⟩
 rw[B6] at h5
 have jc:∀j,X0 j->X5 j:=λj hj=>by rw[<-B6];exact .inl hj
 have wJ:X5 v1:=by rw[<-B6];exact .inr O
 have HQ:=z0H (bs:=bs) (bg:=bg) h5 O ω ω tH (width:=4) (.inr O) ω lN (by rw[wH];exact jQ) Bz ⟨jc _ au.2.1,jc _ au.2.2.1,jc _ au.2.2.2⟩
 refine Q4 O$ RB O O (T6 zgx O O) (HQ) ?_
 rintro _ w6 ⟨v2,txt2,w6',rfl,HR,nM,jq,pY,aL,se,HS⟩
 obtain⟨Q2,pV⟩:∃Q2,Q1.Rx (Rn Q1.L (a+1) 1 true)=Q2:=⟨_,rfl⟩
 rw[pV] at nM jq
 have sg:Q2.s=Q1.s:=by rw[<-pV];rfl
 have sh:Q2.L=Rn Q1.L (a+1) 1 true:=by rw[<-pV];rfl
 have BA:Q2.L.length=Q1.L.length:=by rw[sh];exact R5 ω
 have BB:Pre Q2.L (a+1+1):=by rw[sh];exact z0e tH ω
 have zz6:=aL.size
 have zz6':=se.size
 have lv2:=jq.lt
 have h6:=h5.vec aL nM HR lv2 sg BA ω jY wG (λy e=>pY y (.inl ω)) se ⟨jc _ au.2.1,sd⟩
 have HT:=jq.kp se (λe=>by omega)
 have pA:Kp (λb=>¬Vc G T X5 b\/b=be) w5 w6:=(aL.PU λb e=> .inl e).trans (se.PU λb e=> .inr e)
 have CL:∀{b},X5 b->b≠be->¬(¬Vc G T X5 b\/b=be):=λhb bE e=>e.elim (λe=>e (.inl (.inl hb))) bE
 have jP:=pA.PN jQ (CL (jc _ au.2.2.1) ω)
 have HU:=pA.PN Bz (CL (jc _ au.2.2.2) ω)
 have HV:=pA.PN HP (CL (jc _ au.1) ω)
 have si:G.g.length<=100:=by omega
 have HW:Vn Q2 txt2 v1 4 a (List.replicate G.g.length 0) w6:=((HO.kp pA (CL wJ ω)).Vr (λy e1 e2=>by
  rw[List.length_replicate,Sn si] at e2
  exact pY y (.inl ω))).q sg BA
 obtain⟨X6,lK⟩:∃X6:Nat->Prop,(λj=>X5 j\/j=v2)=X6:=⟨_,rfl⟩
 rw[lK] at h6
 have wK:∀j,X5 j->X6 j:=λj hj=>by rw[<-lK];exact .inl hj
 have lR:∀j,X0 j->X6 j:=λj hj=>wK j (jc j hj)
 have BC:X6 v2:=by rw[<-lK];exact .inr O
 have HX:=z0H (bs:=bs) (bg:=bg) h6 O ω ω BB (width:=1) (.inl O) ω HS (by rw[sg,wH];exact jP) HU ⟨lR _ au.2.1,lR _ au.2.2.1,lR _ au.2.2.2⟩
 refine Q4 O$ RB O O (T6 zgx O O) (HX) ?_
 rintro _ w7 ⟨v3,txt3,w7',rfl,HY,tw,qi,mB,aA,eZ,HZ⟩
 obtain⟨Q3,rT⟩:∃Q3,Q2.Rx (Rn Q2.L (a+1+1) 1 true)=Q3:=⟨_,rfl⟩
 rw[rT] at tw qi
 have wL:Q3.s=Q2.s:=by rw[<-rT];rfl
 have BD:Q3.L=Rn Q2.L (a+1+1) 1 true:=by rw[<-rT];rfl
 have wM:Q3.L.length=Q2.L.length:=by rw[BD];exact R5 ω
 have I0:Q3=Q.Rx (Rn Q.L a 3 true):=by
  have e:Q3.L=Rn Q.L a 3 true:=by
   rw[BD,sh,wI];exact z7E cd
  rw[<-e,<-rT,<-pV,<-yp];rfl
 have zz7:=aA.size
 have zz7':=eZ.size
 have lv3:=qi.lt
 have h7:=h6.vec aA tw HY lv3 wL wM ω jY wG (λy e=>mB y (.inl ω)) eZ ⟨lR _ au.2.1,sd⟩
 have I1:=qi.kp eZ (λe=>by omega)
 have eS:Kp (λb=>¬Vc G T X6 b\/b=be) w6 w7:=(aA.PU λb e=> .inl e).trans (eZ.PU λb e=> .inr e)
 have qa:∀{b},X6 b->b≠be->¬(¬Vc G T X6 b\/b=be):=λhb bE e=>e.elim (λe=>e (.inl (.inl hb))) bE
 have wO:=eS.PN HV (qa (lR _ au.1) ω)
 have I2:Vn Q3 txt3 v1 4 a (List.replicate G.g.length 0) w7:=((HW.kp eS (qa (wK _ wJ) ω)).Vr (λy e1 e2=>by
  rw[List.length_replicate,Sn si] at e2
  exact mB y (.inl ω))).q wL wM
 have I3:Vn Q3 txt3 v2 4 (a+1) (List.replicate G.g.length 0) w7:=((HT.kp eS (qa BC ω)).Vr (λy e1 e2=>by
  rw[List.length_replicate,Sn si] at e2
  exact mB y (.inl ω))).q wL wM
 obtain⟨X7,I4⟩:∃X7:Nat->Prop,(λj=>X6 j\/j=v3)=X7:=⟨_,rfl⟩
 rw[I4] at h7
 have wP:∀j,X6 j->X7 j:=λj hj=>by rw[<-I4];exact .inl hj
 have nC:∀j,X0 j->X7 j:=λj hj=>wP j (lR j hj)
 have I5:X7 v3:=by rw[<-I4];exact .inr O
 replace wO:Q7 w7 rr [ptr G.k 0,ptr T.k 0,.pointer none,.pointer none,.pointer none,I 0,I 0,.bool false,.bool false] 86:=wO
 refine QA O$ Qd VN O$ Qb O (RV ZU O O O wO ξ) ?_
 rintro w8 ⟨I6,aK⟩
 refine QA O$ Qd Vo O$ Qb O (RV ZU O O O I6 ξ) ?_
 rintro w9 ⟨I7,ax⟩
 refine QA O$ Qd Wu O$ Qb O (RV ZU O O O I7 ξ) ?_
 rintro w10 ⟨mC,aB⟩
 replace mC:Q7 w10 rr [ptr G.k 0,ptr T.k 0,ptr v1 0,ptr v2 0,ptr v3 0,I 0,I 0,.bool false,.bool false] 86:=mC
 have gR:Kp (λj=>j=rr) w7 w10:=(aK.trans ax).trans aB
 have zz10:=gR.size
 have tI:=gR.PN HZ ω
 obtain⟨O_,hO⟩:∃O_:Nat->Prop,(λb=>b=rr\/b=v1\/b=v2\/b=v3)=O_:=⟨_,rfl⟩
 have I8:O_ rr/\O_ v1/\O_ v2/\O_ v3:=by rw[<-hO];exact⟨.inl O,.inr (.inl O),.inr (.inr (.inl O)),.inr (.inr (.inr O))⟩
 have sj:∀b,O_ b->w.heap.size<=b/\b≠be:=λb hb=>by rw[<-hO] at hb;omega
 have xH:∀b,O_ b->X7 b:=λb hb=>by
  rw[<-hO] at hb;rcases hb with e|e|e| e
  ·rw[e];exact nC _ au.1
  ·rw[e];exact wP _ (wK _ wJ)
  ·rw[e];exact wP _ BC
  ·rw[e];exact I5
 have jl:=cm rr ω
 have eL:Wc G T Q3 txt3 (K+1+1+1) X7 w10:=h7.own gR (λj e=>by rw[e];exact⟨nC _ au.1,jl⟩)
 obtain⟨s0,AM⟩:∃s0:T8,(⟨0,0,false,List.replicate G.g.length 0,List.replicate G.g.length 0,List.replicate G.g.length 0⟩:T8)=s0:=⟨_,rfl⟩
 have V10:Vk false Q3 txt3 G.k T.k rr O_ a 3 s0 v1 v2 v3 w10:=by
  rw[<-AM];exact⟨I8,⟨ω,ω,ω,ω,ω,ω⟩,mC,I2.kp gR (λe=>by omega),I3.kp gR (λe=>by omega),I1.kp gR (λe=>by omega),by simp only[List.length_replicate];omega,rfl⟩
 have I9:=eL.xk
 have mY:Rg (SU false T.k) G T Q3 txt3 (K+1+1+1) X7 rr O_ a 3 s0 w10:=
  ⟨⟨eL.g,⟨v1,v2,v3,V10⟩,λb hb=> .inl (xH b hb),I8.1,λb hb=>by
   have:=cm b (sj b hb).1
   exact⟨this.1,this.2.1,this.2.2.2.2.1,this.2.2.2.2.2⟩,jY,dE⟩,eL.t,xH,I9,λb hb=>by
   have:=cm b (sj b hb).1
   exact⟨this.2.2.1,this.2.2.2.1⟩,wG⟩
 refine PQ$ Qy.qb (e:=[(6,_),(7,_),(8,_),(9,_)]) ?_
 refine An$ qN O$ qV (PX U44 O O tI O)$ Ss O$ PQ$ Qa O$ St O$ QA O$ Qd VN O$ qV (PX XA O O mC O) ?_
 have fU:s0.label.length=G.g.length:=by rw[<-AM];exact List.length_replicate
 refine Qk zgA O (Zm mY.sp mY.lt ω V10.lab (.inl (.inl (xH _ I8.2.1))) (x:=4294967295) ψ) ?_
 rintro _ w11 ⟨rfl,hW⟩
 rw[fU,Sn si] at hW
 obtain⟨txt11,qm,Ia,bz⟩:=mY.z7V V10 (by rw[List.length_replicate,fU]) ω hW
 have BE:=bz.PN tI (λe=>e (.inl (.inl (nC _ au.2.1))))
 refine Qb O (RV z4D O O O BE ξ) ?_
 rintro w12 ⟨pB,bA⟩
 replace pB:Q7 w12 be [I 0] 44:=pB
 refine PQ$ An$ qN O$ qV (PX U44 O O pB O)$ RA O$ Re O$ Qx O$ Rt O$ PO func13 O ?_
 have E5:=qm.own bA (λj e=>by
  rw[e]
  exact⟨nC _ au.2.1,sd.1,sd.2.1,sd.2.2.1,sd.2.2.2.1,sd.2.2.2.2.1,sd.2.2.2.2.2,λe2=>(sj be e2).2 O⟩)
 have xz:=E5.less (X:=λb=>X b\/O_ b) (λb e=>e.elim (λe=>nC b (eK b e)) (xH b)) ⟨.inl nB.1,.inl nB.2.1,.inl nB.2.2.1,.inl nB.2.2.2.1,.inl nB.2.2.2.2.1,.inl nB.2.2.2.2.2⟩ (λb e=> .inr e)
 have cG:({s0 with label:=List.replicate G.g.length 4294967295}:T8)=T8.new G.g.length:=by rw[<-AM];rfl
 rw[cG] at xz
 have Ib:∀b,X b->b<w.heap.size:=λb hb=>aQ b (.inl (.inl hb))
 have fZ:∀{b},X b->∀{Z:Nat->Prop},(∀j,X j->Z j)->¬(¬Vc G T Z b\/b=be):=λhb _ hZ e=>e.elim (λe=>e (.inl (.inl (hZ _ hb)))) (λe=>by have:=Ib _ hb;omega)
 have ka:Kp (λb=>¬X b) w w5:=ce.kp.trans (ja.PU λb e e2=>fZ e2 (λj hj=>eK j hj) e)
 have kb:Kp (λb=>¬X b) w w6:=ka.trans (pA.PU λb e e2=>fZ e2 (λj hj=>jc j (eK j hj)) e)
 have kc:Kp (λb=>¬X b) w w7:=kb.trans (eS.PU λb e e2=>fZ e2 (λj hj=>lR j (eK j hj)) e)
 have kd:Kp (λb=>¬X b) w w10:=kc.trans (gR.PU λb e e2=>by have:=Ib _ e2;omega)
 have ke:Kp (λb=>¬X b) w w11:=kd.trans (bz.PU λb e e2=>e (.inl (.inl (nC b (eK b e2)))))
 have kf:Kp (λb=>¬X b) w w12:=ke.trans (bA.PU λb e e2=>by have:=Ib _ e2;omega)
 refine⟨_,rfl,rr,O_,txt11,rfl,λb hb=>(sj b hb).1,?_,λy hy=>?_,kf⟩
 ·rw[<-I0];exact xz
 ·rw[Ia y ω,mB y ω,pY y ω,zj y ω]
end
structure Vc1 where
 vb:Nat
 width:Nat
 st:Nat
 xs:List Nat
def Vc1.len (v:Vc1):Nat:=WA v.xs.length (512 / v.width)
def XI (L:List Bool)(T:List Vc1):List Bool:=T.foldl (λL v=>Rn L v.st v.len false) L
theorem z3v (L:List Bool)(T:List Vc1)(v:Vc1):XI L (T++[v])=Rn (XI L T) v.st v.len false:=by
 unfold XI
 rw[List.foldl_append];rfl
def z5P:∀(T:List Vc1) (L:List Bool),(∀v∈T,v.st+v.len<=L.length)->(XI L T).length=L.length
 |[],L,_=>rfl
 | v :: T, L, h => by
   have h1:=R5 (b:=false) (h v List.mem_cons_self);have:=z5P T (Rn L v.st v.len false) λu hu=>by rw[h1];exact h u (List.mem_cons_of_mem _ hu)
   exact this.trans h1
theorem z2b:∀(T:List Vc1) (L:List Bool) (i:Nat),(∀v∈T,v.st+v.len<=L.length)->(∀v∈T,i<v.st\/v.st+v.len<=i)->(XI L T)[i]? =L[i]?
 |[],L,i,_,_=>rfl
 | v :: T, L, i, h, h' => by
   have h1:=R5 (b:=false) (h v List.mem_cons_self);have:=z2b T (Rn L v.st v.len false) i (λu hu=>by rw[h1];exact h u (List.mem_cons_of_mem _ hu)) λu hu=>h' u (List.mem_cons_of_mem _ hu);refine Eq.trans this ?_;have h2:=h' v List.mem_cons_self;rw[Su (h v List.mem_cons_self),if_neg ω]
def zbQ (T:List Vc1):Prop:=∀(i j:Nat) (u v:Vc1),T[i]? =some u->T[j]? =some v->i≠j->u.vb≠v.vb/\(u.st+u.len<=v.st\/v.st+v.len<=u.st)
structure zaV (Q:Sj)(txt:Int->PV)(K:Nat)(X:Nat->Prop)(T:List Vc1)(a L:Nat)(w:World)(i:Nat)(w':World):Prop where
 ex:∃txt',Sp (Q.Rx (XI Q.L (T.take i))) txt' K X w'/\(∀(j:Nat) (v:Vc1),i<=j->T[j]? =some v->Vn (Q.Rx (XI Q.L (T.take i))) txt' v.vb v.width v.st v.xs w')/\(∀y:Int,y<(a:Int)\/(a:Int)+(L:Int)<=y->txt' y=txt y)
 k:Kp (λb=>¬X b\/∃v∈T,b=v.vb) w w'
section
variable {w w' w1:World}{Q:Sj}{txt:Int->PV}{K a L i:Nat}{X:Nat->Prop}{T:List Vc1}{v:Vc1}
theorem zaV.zero (hP:Sp Q txt K X w)(hT:∀(j:Nat) (v:Vc1),T[j]? =some v->Vn Q txt v.vb v.width v.st v.xs w):zaV Q txt K X T a L w 0 w:=
 ⟨⟨txt,hP,λj v _ h=>hT j v h,λ_ _=>rfl⟩,Kp.refl _ _⟩
def zaV.next (h:zaV Q txt K X T a L w i w1)(hX:∀b,X b->b<w.heap.size)(hv:T[i]? =some v)(hin:∀v∈T,X v.vb/\a<=v.st/\v.st+v.len<=a+L)(hap:zbQ T)(ha2:2<=a)(hfit:a+L<=Q.L.length)(hown:∀i,a<=i->i<a+L->Q.L[i]? =some true):
  Qu prog 40 [ptr v.vb 0] w1 λr w'=>r=I 0/\zaV Q txt K X T a L w (i+1) w':=by
 obtain⟨⟨txt1,hP1,hV1,hy1⟩,hk1⟩:=h
 have hvm:=List.mem_of_getElem? hv
 obtain⟨hvX,hva,hvL⟩:=hin v hvm
 have hfitT:∀u∈T.take i,u.st+u.len<=Q.L.length:=λu hu=>by have:=(hin u (List.mem_of_mem_take hu)).2.2;omega
 have hcl:(XI Q.L (T.take i)).length=Q.L.length:=z5P _ _ hfitT
 have hil:i<T.length:=by
  rcases Nat.lt_or_ge i T.length with h| h
  ·exact h
  ·rw[List.getElem?_eq_none h] at hv;cases hv
 have htk:T.take (i+1)=T.take i++[v]:=by rw[List.take_add_one,hv];rfl
 have z1:=hk1.size
 refine(z6l hP1 (λb hb=>by have:=hX b hb;omega) (hV1 i v (Nat.le_refl _) hv) hvX ω ?_).mono ?_
 ·intro k e1 e2;show(XI Q.L (T.take i))[k]? =some true;have e2:k<v.st+v.len:=e2;rw[z2b _ _ _ hfitT]
  ·exact hown k ω ω
  ·intro u hu;obtain⟨j,hj⟩:=List.getElem?_of_mem hu
   have hji:j<i:=by
    rcases Nat.lt_or_ge j i with h| h
    ·exact h
    ·rw[List.getElem?_eq_none (by rw[List.length_take];omega)] at hj;cases hj
   rw[List.getElem?_take_of_lt hji] at hj;have:=(hap j i u v hj hv ω).2;omega
 ·rintro r w' ⟨rfl,txt',hP',hy',hk'⟩
  have hq:(Q.Rx (XI Q.L (T.take i))).Rx (Rn (Q.Rx (XI Q.L (T.take i))).L v.st v.len false)=Q.Rx (XI Q.L (T.take (i+1))):=by
   rw[htk,z3v];rfl
  have hP':Sp ((Q.Rx (XI Q.L (T.take i))).Rx (Rn (Q.Rx (XI Q.L (T.take i))).L v.st v.len false)) txt' K X w':=hP';rw[hq] at hP';refine⟨rfl,⟨txt',hP',λj u hj hu=>?_,λy hy=>?_⟩,hk1.trans (hk'.PU λb e=>e.imp id λe=>⟨v,hvm,e⟩)⟩
  ·obtain⟨n1,n2⟩:=hap i j v u hv hu ω;have huX:=(hin u (List.mem_of_getElem? hu)).1;have hl2:(XI Q.L (T.take (i+1))).length=(XI Q.L (T.take i)).length:=by rw[htk,z3v,R5 (by rw[hcl];omega)]
   refine(((hV1 j u ω hu).kp hk' λe=>e.elim (λe=>e huX) λe=>n1 e.symm).Vr λy e1 e2=>hy' y ?_).q O hl2;have e2:y<(u.st:Int)+(u.len:Int):=e2;show y<(v.st:Int)\/(v.st:Int)+(v.len:Int)<=y;omega
  ·rw[hy' y (by show y<(v.st:Int)\/(v.st:Int)+(v.len:Int)<=y;omega)];exact hy1 y hy
end
section
variable {G T:ZM}{w w':World}{Q:Sj}{txt txt':Int->PV}{K:Nat}{X O_:Nat->Prop}{rr a L vl vc vm v:Nat}{s:T8}
theorem z50 (h:Rg (SU false T.k) G T Q txt K X rr O_ a L s w):Qu prog 26 [ptr rr 0] w λv w'=>v=I (G.g.length:Int)/\w'=w:=by
 obtain⟨vl,vc,vm,hV⟩:=h.sc
 have hR:=Rg.cells hV
 refine py (e:=[(0,_)]) func26 O ntmps26 O O$ RN O$ QS O$ qV (R9 Yt O O)$ Re O$ Qx O$ QA O$ Qd XC O$ qV (PX YV O O hR O)$ Qk z6K O (h.z6L) ?_
 rintro _ w ⟨rfl,rfl⟩
 refine Qc O$ PO func26 O ?_
 exact⟨_,rfl,rfl,rfl⟩
theorem z6A (h:Rg (SU false T.k) G T Q txt K X rr O_ a L s w):Qu prog 19 [ptr rr 0] w λv w'=>v=I (s.steps:Int)/\w'=w:=by
 obtain⟨vl,vc,vm,hV⟩:=h.sc
 have hR:=Rg.cells hV
 refine py (e:=[(0,_)]) func19 O ntmps19 O O$ RN O$ QS O$ qV (R9 Yt O O)$ Re O$ Qx O$ QA O$ Qd z2L O$ qV (PX U3 O O hR O)$ Qc O$ PO func19 O ?_
 exact⟨_,rfl,rfl,rfl⟩
theorem z3p (h:Rg (SU false T.k) G T Q txt K X rr O_ a L s w)(hd:s.done=true){v x:Nat}(hx:s.label[v]? =some x):Qu prog 18 [ptr rr 0,I (v:Int)] w λr w'=>r= .tuple #[Qg x,I 0]/\Rg (SU false T.k) G T Q txt K X rr O_ a L s w'/\Kp (λb=>¬Vc G T X b) w w':=by
 obtain⟨vl,vc,vm,hV⟩:=h.sc
 have hR:=Rg.cells hV
 rw[hd] at hR
 refine py (e:=[(0,_),(1,_)]) func18 O ntmps18 O O$ qN O$ Rt O$ QS O$ Qk zem O (Wi h) ?_
 rintro _ w ⟨rfl,rfl⟩
 refine RZ O$ RA O$ Re O$ QS O$ QA O$ Qd z0y O$ qV (PX U4 O O hR O)$ qV ((T7 O))$ Re O$ Qx O$ QA O$ Qd VN O$ qV (PX XA O O hR O)$ Q4 O ?_
 refine Qk ziH O (z43 h.sp h.lt h.m.g.Wv hV.lab (.inl (.inl (h.xr _ hV.o.2.1))) hx) ?_
 rintro _ w1 ⟨rfl,ge,ay⟩
 refine TK O$ Rt O$ PO func18 O ?_
 exact⟨_,rfl,rfl,h.read ay ge,ay⟩
def z8r {α:Type}{P:Nat->α->Prop}{x y z:α}(h0:P 0 x)(h1:P 1 y)(h2:P 2 z):∀(j:Nat) (v:α),[x,y,z][j]? =some v->P j v
 |0,v,h=>by cases h;exact h0
 |1,v,h=>by cases h;exact h1
 |2,v,h=>by cases h;exact h2
 |j+3,v,h=>by cases h
theorem z1m (h:Rg (SU false T.k) G T Q txt K X rr O_ a L s w)(Of:2<=a)(cd:a+3<=Q.L.length)(Ic:∀i,a<=i->i<a+3->Q.L[i]? =some true):Qu prog 16 [ptr rr 0] w λr w'=>r=I 0/\∃txt',Wc G T (Q.Rx (Rn Q.L a 3 false)) txt' K X w'/\(∀y:Int,y<(a:Int)\/(a:Int)+3<=y->txt' y=txt y)/\Kp (λb=>¬X b\/O_ b) w w':=by
 have dE:=h.m.n
 have GO:=h.WB
 have Og:=h.m.WB
 obtain⟨vl,vc,vm,hV⟩:=h.sc
 have hR:=Rg.cells hV
 have gX:=h.xr _ hV.o.1
 have aQ:∀b,Vc G T X b->b<w.heap.size:=h.lt
 have BF:∀b,O_ b->b≠G.k/\b≠G.x/\b≠T.k/\b≠T.x/\b≠1/\b≠2:=λb hb=>by
  have m1:=h.m.ne b hb;have m2:=h.nk b hb;exact⟨m1.1,m1.2.1,m2.1,m2.2,m1.2.2.1,m1.2.2.2⟩
 obtain⟨n1,n2,n3,n4,n5,n6⟩:=hV.ne
 obtain⟨l1,l2,l3⟩:=hV.n
 obtain⟨A,hA⟩:∃A:List Vc1,[(⟨vl,4,a,s.label⟩:Vc1),⟨vc,4,a+1,s.Q0⟩,⟨vm,1,a+2,s.mark⟩]=A:=⟨_,rfl⟩
 have e1:(⟨vl,4,a,s.label⟩:Vc1).len=1:=Sn l1
 have e2:(⟨vc,4,a+1,s.Q0⟩:Vc1).len=1:=Sn l2
 have e3:(⟨vm,1,a+2,s.mark⟩:Vc1).len=1:=Wm l3
 have Lf:A.length=3:=by rw[<-hA];rfl
 have tJ:∀{P:Vc1->Prop},P ⟨vl,4,a,s.label⟩->P ⟨vc,4,a+1,s.Q0⟩->P ⟨vm,1,a+2,s.mark⟩->∀v∈A,P v:=fun {P} p1 p2 p3 v hv=>by
  obtain⟨j,hj⟩:=List.getElem?_of_mem hv;rw[<-hA] at hj;exact z8r (P:=λ_ v=>P v) p1 p2 p3 j v hj
 have au:∀v∈A,Vc G T X v.vb/\a<=v.st/\v.st+v.len<=a+3:=tJ ⟨.inl (.inl (h.xr _ hV.o.2.1)),by show a<=a;omega,by rw[e1];show a+1<=a+3;omega⟩ ⟨.inl (.inl (h.xr _ hV.o.2.2.1)),by show a<=a+1;omega,by rw[e2];show a+1+1<=a+3;omega⟩ ⟨.inl (.inl (h.xr _ hV.o.2.2.2)),by show a<=a+2;omega,by rw[e3];show a+2+1<=a+3;omega⟩
 have Id:∀v∈A,O_ v.vb/\v.vb≠rr:=tJ ⟨hV.o.2.1,λe=>n1 e.symm⟩ ⟨hV.o.2.2.1,λe=>n2 e.symm⟩ ⟨hV.o.2.2.2,λe=>n3 e.symm⟩
 have Dl:zbQ A:=λi j u v hu hv hH=>by
  rw[<-hA] at hu hv
  have lZ:i<3:=by
   rcases Nat.lt_or_ge i 3 with h| h
   ·exact h
   ·rw[List.getElem?_eq_none (by simpa using h)] at hu;cases hu
  have PH:j<3:=by
   rcases Nat.lt_or_ge j 3 with h| h
   ·exact h
   ·rw[List.getElem?_eq_none (by simpa using h)] at hv;cases hv
  obtain rfl|rfl|rfl:i=0\/i=1\/i=2:=by omega
  all_goals obtain rfl|rfl|rfl:j=0\/j=1\/j=2:=by omega
  all_goals first
   |exact absurd O hH
   |(cases hu;cases hv;rw[e1,e2];exact⟨n4,by show a+1<=a+1\/a+1+1<=a;omega⟩)
   |(cases hu;cases hv;rw[e1,e3];exact⟨n5,by show a+1<=a+2\/a+2+1<=a;omega⟩)
   |(cases hu;cases hv;rw[e2,e1];exact⟨n4.symm,by show a+1+1<=a\/a+1<=a+1;omega⟩)
   |(cases hu;cases hv;rw[e2,e3];exact⟨n6,by show a+1+1<=a+2\/a+2+1<=a+1;omega⟩)
   |(cases hu;cases hv;rw[e3,e1];exact⟨n5.symm,by show a+2+1<=a\/a+1<=a+2;omega⟩)
   |(cases hu;cases hv;rw[e3,e2];exact⟨n6.symm,by show a+2+1<=a+1\/a+1+1<=a+2;omega⟩)
 have BG:∀v∈A,v.st+v.len<=Q.L.length:=λv hv=>by have:=(au v hv).2.2;omega
 have cH:XI Q.L A=Rn Q.L a 3 false:=by
  refine List.ext_getElem? λi=>?_;rw[Su cd];by_cases hi:a<=i/\i<a+3
  ·rw[if_pos hi,<-hA];show(Rn (Rn (Rn Q.L a _ false) (a+1) _ false) (a+2) _ false)[i]? =_;rw[e1,e2,e3];have g1:(Rn Q.L a 1 false).length=Q.L.length:=R5 ω;have g2:(Rn (Rn Q.L a 1 false) (a+1) 1 false).length=Q.L.length:=by rw[R5 (by rw[g1];omega),g1]
   rw[Su (by rw[g2];omega),Su (by rw[g1];omega),Su ω];by_cases c1:a+2<=i/\i<a+2+1
   ·rw[if_pos c1]
   ·rw[if_neg c1];by_cases c2:a+1<=i/\i<a+1+1
    ·rw[if_pos c2]
    ·rw[if_neg c2,if_pos ω]
  ·rw[if_neg hi];exact z2b A Q.L i BG λv hv=>by have:=au v hv;omega
 refine py (e:=[(0,_)]) func16 O ntmps16 O O$ RN O$ RP$ Qx O$ qV (R9 Yt O O)$ Qc O$ PZ O$ Qx O$ QA O$ Qd VN O$ qV (PX XA O O hR O)$ qV (R9 XA O O) ?_
 have hg:=Ext.Qh w
 have Ct:Sp Q txt K (Vc G T X) w.drew:=h.sp.ext' hg
 have Oh:∀(j:Nat) (v:Vc1),A[j]? =some v->Vn Q txt v.vb v.width v.st v.xs w.drew:=λj v hj=>by
  rw[<-hA] at hj;exact z8r (P:=λ_ v=>Vn Q txt v.vb v.width v.st v.xs w.drew) (hV.lab.ext hg) (hV.col.ext hg) (hV.mar.ext hg) j v hj
 have PI:w.drew.heap.size=w.heap.size:=rfl
 refine Qc O$ TT O$ PM$ An$ An$ S5 (λw'=>Ext w w') O$ Qi 0 O O (hg)$ PT 1 O (R8 O) hg$ PT 2 O (Qz VN O) hg$ qT 3 O (λ_ h=>PX XA O O (h.PN hR) O) hg$ Qi 4 O O (hg)$ PT 5 O (R8 O) hg$ PT 6 O (Qz Vo O) hg$ qT 7 O (λ_ h=>PX XA O O (h.PN hR) O) hg ?_
 refine Qi 8 O O (hg)$ PT 9 O (R8 O) hg$ PT 10 O (Qz Wu O) hg$ qT 11 O (λ_ h=>PX XA O O (h.PN hR) O) hg$ PT 12 O (zbt (parts:=[(0,.tmp 18),(1,.tmp 22),(2,.tmp 26)]) (cs:=[_,_,_]) zgr O U95 ZU O O) hg$ Qi 13 O O (hg)$ qE$ Qy.qb (e:=[(0,_),(2,_),(27,_),(28,_)]) ?_
 refine PS$ SK (α:=Nat) (0) (λi=>[(0,ptr rr 0),(27,.agg #[ptr vl 0,ptr vc 0,ptr vm 0]),(28,I (i:Int))]) (λi w'=>i<=3/\zaV Q txt K (Vc G T X) A a 3 w.drew i w') (λi=>3-i) ?hI ?hround
 case hI=>exact⟨Nat.zero_le _,.zero Ct Oh⟩
 case hround=>
  rintro i w4 ⟨hi,hC⟩ ih
  try dsimp only
  refine qN O$ RT O$ PQ$ An$ Q8 O (λh0=>?_)$ λh0=>?_
  ·have lZ:i<3:=by omega
   obtain⟨v,hv⟩:∃v,A[i]? =some v:=⟨_,List.getElem?_eq_getElem ω⟩
   have BH:(#[ptr vl 0,ptr vc 0,ptr vm 0]:Array Value)[i]? =some (ptr v.vb 0):=by
    rw[<-hA] at hv;exact z8r (P:=λi v=>(#[ptr vl 0,ptr vc 0,ptr vm 0]:Array Value)[i]? =some (ptr v.vb 0)) O O O i v hv
   refine PR$ RP$ qN O$ qV (yxa U95 ZU XA O O O lZ (v:=ptr v.vb 0) BH)$ Qc O$ QS O$ qV (R9 XA O O)$ Re O$ Qx O$ Qk zm1 O (hC.next aQ hv au Dl Of cd Ic) ?_;rintro _ w5 ⟨rfl,wn⟩;refine RZ O$ RA O$ Re O$ PM$ PW O$ R7 O$ Q4 O$ PQ ?_;exact(ih (i+1) _ ⟨ω,wn⟩ ω).qb
  ·have lZ:i=3:=by omega
   subst lZ;obtain⟨⟨txt4,ji,-,lP⟩,ar⟩:=hC;rw[List.take_of_length_le ω,cH] at ji;have fW:Kp (λb=>¬Vc G T X b\/(O_ b/\b≠rr)) w w4:=hg.kp.trans (ar.PU λb e=>e.imp id λ⟨v,hv,e⟩=>by rw[e];exact Id v hv);have h0:Wc G T Q txt K X w:=⟨h.m.g,h.t,h.xk⟩;have z4:=fW.size;have h4:Wc G T (Q.Rx (Rn Q.L a 3 false)) txt4 K X w4:=h0.upd fW (λb e=>e.imp id λe=>⟨h.xr _ e.1,BF b e.1⟩) (λ_ e=>e) (λ_ e=> .inl e) (λj e=>by have:=aQ j (.inl (.inl e));omega) ji O (R5 cd) h.m.g.Wv (λy e=>lP y (.inl ω));have ez:=fW.PN hR (λe=>e.elim (λe=>e (.inl (.inl gX))) λe=>e.2 O);refine Q5 O$ RI O$ QA O$ Qd VN O$ Qb O (RV ZU O O O ez ξ) ?_;rintro w5 ⟨kG,aj⟩;refine QA O$ Qd zcg O$ Qb O (RV VK O O O kG ξ) ?_;rintro w6 ⟨gU,aL⟩;refine qM O$ Qc O$ PO func16 O ?_;have BI:Kp (λj=>j=rr) w4 w6:=aj.trans aL;exact⟨_,rfl,rfl,txt4,h4.own BI (λj e=>by rw[e];exact⟨gX,BF rr hV.o.1⟩),lP,(fW.PU λb e=>e.imp (λe e2=>e (.inl (.inl e2))) And.left).trans (BI.PU λb e=> .inr (by rw[e];exact hV.o.1))⟩
end
def TO (g t:List (List Nat)):Nat->T8
 |0=>T8.new g.length
 |k+1=>(TO g t k).step g t
structure zaG (g t:List (List Nat))(k:Nat):Prop where
 d:(TO g t k).done=true
 f:∀j,j<k->(TO g t j).done=false
theorem zaG.eq {g t:List (List Nat)}{k k':Nat}(h:zaG g t k)(h':zaG g t k'):k=k':=by
 rcases Nat.lt_trichotomy k k' with e|e| e
 ·have:=h'.f k e;rw[h.d] at this;cases this
 ·exact e
 ·have:=h.f k' e;rw[h'.d] at this;cases this
section
variable {g t:List (List Nat)}
theorem W7:∀k,(TO g t k).steps=k
 |0=>rfl
 | k + 1 => by
   show(TO g t k).steps+1=k+1;rw[W7 k]
def z0t (hn:g.length<=60):∀k,Ve g (TO g t k)
 |0=> .new hn
 |k+1=>(z0t hn k).step hn
def z7p (hg:Tl g)(h1:1<=g.length)(ht:∀u v,u∈Qe t v↔v∈Qe g u):∀k,(∀j,j<k->(TO g t j).done=false)->∃b,b+k<=g.length*g.length+3*g.length/\ScJ g (TO g t k) b
 |0,_=>⟨_,Nat.le_refl _,.new hg h1⟩
 | k + 1, h => by
   obtain⟨b,hb,hj⟩:=z7p hg h1 ht k λj hj=>h j ω;obtain⟨b',i4,BJ⟩:=hj.step hg ht (h k ω);exact⟨b',ω,BJ⟩
def z3t {u v:Nat}(h:Tl g):u∈Qe (R0 g) v↔v∈Qe g u:=by
 have hm:∀x y,y∈Qe g x->x<g.length/\y<g.length:=λx y hy=>by
  unfold Qe at hy;by_cases e:x<g.length
  ·rw[List.getElem?_eq_getElem e] at hy;exact⟨e,h.lt _ (List.getElem_mem e) y hy⟩
  ·rw[List.getElem?_eq_none ω] at hy;cases hy
 by_cases hv:v<g.length
 ·have e:Qe (R0 g) v=(List.range g.length).filter λx=>decide (v∈Qe g x):=by
   show((R0 g)[v]?.getD [])=_;rw[z0w g hv];rfl
  rw[e,List.mem_filter,List.mem_range];exact⟨λe=>of_decide_eq_true e.2,λe=>⟨(hm u v e).1,decide_eq_true e⟩⟩
 ·have e:Qe (R0 g) v=[]:=by
   show((R0 g)[v]?.getD [])=_;rw[List.getElem?_eq_none (by rw[Te];omega)];rfl
  rw[e];exact⟨λe=>(by cases e),λe=>absurd (hm u v e).2 hv⟩
end
def Rg.append {σ:Type}{R:RuK σ}{G T:ZM}{w w1 w2:World}{Q:Sj}{txt:Int->PV}{K:Nat}{X O_:Nat->Prop}{rr a L:Nat}{s:σ}(h:Rg R G T Q txt K X rr O_ a L s w){u v:Value}(hu:∀b,u.ownBlock=some b->X b)(hn:∀b,u.ownBlock=some b->b≠G.k/\b≠G.x/\b≠T.k/\b≠T.x/\b≠1/\b≠2/\¬O_ b)(hx:Ext w w1)(hk:Kp (λk=>u.ownBlock=some k) w1 w2)(hf:∀g,v.ownBlock=some g->u.ownBlock=some g\/w1.heap.size<=g)(hl:∀b,v.ownBlock=some b->b<w2.heap.size):Rg R G T Q txt K (λb=>X b\/v.ownBlock=some b) rr O_ a L s w2:=by
 refine(h.ext hx).step hk (λj e=>⟨hu j e,hn j e⟩) (λj e=> .inl e) λj e=>?_
 rcases e with e| e
 ·exact .inl e
 ·rcases hf j e with e2|e2
  ·exact .inl (hu j e2)
  ·exact .inr ⟨e2,hl j e⟩
section
variable {G T:ZM}{w w':World}{Q:Sj}{txt:Int->PV}{K:Nat}{X:Nat->Prop}{a d:Nat}
def z8d (h:Wc G T Q txt K X w)(hK:K<=500000000000)(h1:1<=G.g.length)(dE:G.g.length<=40)(az:Tl G.g)(ht:T.g=R0 G.g)(dJ:Pre Q.L a)(jY:G.st+G.len<=a)(wG:T.st+T.len<=a)(ha:a<=146)(hL:Q.L.length=200):
  Qu prog 10 [.agg #[ptr d 0,ptr Q.s 0,ptr G.k 0,ptr T.k 0,I ((200-a:Nat):Int)]] w λv w'=>∃(k b c:Nat) (txt':Int->PV) (K':Nat),v= .tuple #[.slice (some ⟨b,0,none⟩) G.g.length c,I (k:Int)]/\1<=k/\zaG G.g (R0 G.g) k/\Sl w' (.slice (some ⟨b,0,none⟩) G.g.length c) 39 1 G.g.length ((TO G.g (R0 G.g) k).label.map Qg)/\Wc G T Q txt' K' (λj=>X j\/j=b) w'/\K'<=K+20000000/\w.heap.size<=b/\(∀y:Int,y<(a:Int)->txt' y=txt y)/\Kp (λb=>¬X b) w w':=by
 have kM:T.g.length=G.g.length:=by rw[ht];exact Te _
 have nQ:∀u v,u∈Qe (R0 G.g) v↔v∈Qe G.g u:=λu v=>z3t az
 have aQ:=h.lt
 have nB:=h.xk
 have cm:=h.far
 have gQ:G.g.length<=60:=by omega
 have fF:maxLen=9223372036854775807:=rfl
 refine py (e:=[(0,_)]) func10 O ntmps10 O O$ qN O$ PY O O (Se O (cs:=[ptr d 0,ptr Q.s 0,ptr G.k 0,ptr T.k 0,I ((200-a:Nat):Int)]) O) ?_
 rintro _ w1 ⟨b1,rfl,bL,ad,ai⟩
 have z1:=ad.size
 have q1:=ai.lt
 obtain⟨X1,dt⟩:∃X1:Nat->Prop,(λj=>X j\/j=b1)=X1:=⟨_,rfl⟩
 have df:∀j,X j->X1 j:=λj hj=>by rw[<-dt];exact .inl hj
 have ud:X1 b1:=by rw[<-dt];exact .inr O
 have aT:Wc G T Q txt K X1 w1:=h.grow ad (λj hj=>by rw[<-dt] at hj;exact hj.imp id λe=>by omega) df
 refine TN O$ S7 O$ Qd z2P O$ qV (PX Y1 O O ai O)$ Qd z82 O$ qV (PX YV O O ai O)$ Qd z7m O$ qV (PX YV O O ai O)$ Qk zgL O (z0E aT ω dE az ht dJ jY wG ω) ?_
 rintro _ w2 ⟨rr,O_,txt2,rfl,Kg,dv,pY,am⟩
 obtain⟨Q2,pV⟩:∃Q2,Q.Rx (Rn Q.L a 3 true)=Q2:=⟨_,rfl⟩
 rw[pV] at dv
 have wQ:Q2.L=Rn Q.L a 3 true:=by rw[<-pV];rfl
 have sh:Q2.L.length=200:=by rw[wQ,R5 ω,hL]
 have sg:Q2.s=Q.s/\Q2.m=Q.m:=by rw[<-pV];exact⟨rfl,rfl⟩
 obtain⟨Y,hY⟩:∃Y:Nat->Prop,(λb=>X1 b\/O_ b)=Y:=⟨_,rfl⟩
 rw[hY] at dv
 have aN:∀j,X1 j->Y j:=λj hj=>by rw[<-hY];exact .inl hj
 have z2:=am.size
 refine Q4 O$ TK O$ Rt O$ QS O$ RA O$ Re O$ Qx O$ Qk zlg O (z50 dv) ?_
 rintro _ w2 ⟨rfl,rfl⟩
 have hM:∃M:Nat,((G.g.length:Int)+2)*((G.g.length:Int)+2)=(M:Int)/\G.g.length*G.g.length+3*G.g.length<M/\M<=2000:=by
  refine⟨(G.g.length+2)*(G.g.length+2),by push_cast;rfl,?_,?_⟩
  ·rw[Nat.add_mul,Nat.mul_add];omega
  ·have:=Nat.mul_le_mul (show G.g.length+2<=42 by omega) (show G.g.length+2<=42 by omega);omega
 obtain⟨M,du,iY,rH⟩:=hM
 have tK:Y b1/\¬O_ b1:=⟨aN _ ud,λe=>by have:=Kg _ e;omega⟩
 have ak:=am.PN ai (λe=>e ud)
 have Kh:∀{b},X b->¬O_ b:=λhb e=>by have:=aQ _ (.inl (.inl hb));have:=Kg _ e;omega
 refine Qc O$ An$ RN O$ PS$ SK (α:=Nat) (0) (λk=>[(1,ptr b1 0),(4,ptr rr 0),(6,I (G.g.length:Int)),(7,I (k:Int))]) (λk w'=>(∃txt' K',Rg (SU false T.k) G T Q2 txt' K' Y rr O_ a 3 (TO G.g (R0 G.g) k) w'/\K'<=K+4+9000*k/\∀y:Int,y<(a:Int)->txt' y=txt y)/\(∀j,j<=k->(TO G.g (R0 G.g) j).done=false)/\Kp (λb=>¬Y b\/O_ b) w2 w') (λk=>2000-k) ?hI ?hround
 case hI=>exact⟨⟨txt2,_,dv,ω,λy e=>pY y (.inl e)⟩,λj hj=>by rw[Nat.le_zero.1 hj];rfl,Kp.refl _ _⟩
 case hround =>
  rintro k w4 ⟨⟨txt4,K4,bH,Hz,lP⟩,eY,ar⟩ ih;dsimp only at ih⊢;obtain⟨bd,xm,-⟩:=z7p az h1 nQ k λj hj=>eY j ω;have aM:=ar.PN ak (λe=>e.elim (λe=>e tK.1) tK.2);have jJ:=z0t (g:=G.g) (t:=R0 G.g) gQ k;have fJ:=W7 (g:=G.g) (t:=R0 G.g) k;have gh:=z1g bH jJ kM ω (eY k (Nat.le_refl _)) ω;rw[ht,show(TO G.g (R0 G.g) k).step G.g (R0 G.g)=TO G.g (R0 G.g) (k+1) from rfl] at gh
  try dsimp only
  refine An$ RI O$ R7 O$ Q4 O$ R7 O$ qV (Xq O O (by rw[du];omega)) ?_;rw[du];refine RT O$ SM$ PQ$ Qa O$ PR$ RP$ Qx O$ Qk zko O (gh) ?_;rintro _ w5 ⟨rfl,⟨txt5,K5,bP,O8,rQ⟩,aj⟩;have mF:Kp (λb=>¬Y b\/O_ b) w2 w5:=ar.trans aj;have BK:∀y:Int,y<(a:Int)->txt5 y=txt y:=λy e=>(rQ y (.inl e)).trans (lP y e);refine Q4 O$ TK O$ Rt O$ QS O$ RA O ?_;by_cases hd:(TO G.g (R0 G.g) (k+1)).done=true
  ·rw [hd]; obtain ⟨s, hs⟩ : ∃ s, TO G.g (R0 G.g) (k + 1) = s := ⟨_, rfl⟩; rw [hs] at bP hd; have Ki : Ve G.g s := hs ▸ z0t (g := G.g) (t := R0 G.g) gQ (k + 1); have Oi : ∀ b, Y b -> b < w5.heap.size := λb hb => bP.lt b (.inl (.inl hb)); have pC := bP.far; refine Re O (QS O (qV ((T7 O)) (Re O (RN O (An (RN O (PS (SK (α := Nat × Value) ((0, .slice none 0 0)) (λy => [(1, ptr b1 0), (4, ptr rr 0), (6, I (G.g.length : Int)), (7, I (k : Int)), (10, y.2), (11, I (y.1 : Int))]) (λy w' => y.1 <= G.g.length /\ Sl w' y.2 39 1 y.1 ((s.label.take y.1).map Qg) /\ (∀ b, y.2.ownBlock = some b -> w5.heap.size <= b) /\ (∃ Z : Nat -> Prop, (∀ b, Y b -> Z b) /\ (∀ b, y.2.ownBlock = some b -> Z b) /\ Rg (SU false T.k) G T Q2 txt5 K5 Z rr O_ a 3 s w') /\ Kp (λb => ¬ Y b) w5 w') (λy => G.g.length - y.1) ?hI ?hround))))))))
   case hI=>exact⟨Nat.zero_le _,by simpa using Sl.nil _ _ _,λb hb=>(by cases hb),⟨Y,λ_ e=>e,λb hb=>(by cases hb),bP⟩,Kp.refl _ _⟩
   case hround=>
    rintro⟨v,u⟩ w6 ⟨hv,g8,wR,⟨Z,CM,BL,h6⟩,aL⟩ ih2;dsimp only at hv g8 wR BL ih2⊢;have z6:=aL.size;have aY:=(mF.trans (aL.PU λb e=> .inl e)).PN ak (λe=>e.elim (λe=>e tK.1) tK.2)
    try dsimp only
    refine An$ RI O$ RT O$ PQ$ Q8 O (λh0=>?_)$ λh0=>?_
    ·have gW:v<G.g.length:=by omega
     obtain⟨x,hx⟩:∃x,s.label[v]? =some x:=⟨_,List.getElem?_eq_getElem (by rw[Ki.ln];exact gW)⟩;refine PR$ RP$ RI O$ Qk zkk O (z3p h6 hd hx) ?_;rintro _ w7 ⟨rfl,h7,aA⟩;have i6:=g8.kp aA (λb hb e=>e (.inl (.inl (BL b hb))));have z7:=aA.size;refine Q4 O$ TK O$ Rt O$ QS O$ RA O$ Re O$ PW O$ Qp O$ PY O O (Zh (cs:=[_]) (zs:=[Value.int .u64 0]) U34 UK O (by kernel_rfl) O O O ψ) ?_;rintro _ w8 ⟨b8,rfl,⟨jf,cV,co⟩,dQ⟩;refine PY O O (pap U34 UK O ψ O O (i6.ext cV) dQ.rd (by intro c hc;simp at hc;subst hc;rfl) ω ω) ?_;rintro u9 w9 ⟨kl,ax,Kj,-⟩;have z8:=cV.size;have vx:∀b,u.ownBlock=some b->b≠G.k/\b≠G.x/\b≠T.k/\b≠T.x/\b≠1/\b≠2/\¬O_ b:=λb hb=>pC b (wR b hb);have h9:=h7.append BL vx cV ax Kj (λb hb=>kl.lt hb);have ul:Kp (λb=>¬Y b) w6 w9:=((aA.PU λb e e2=>e (.inl (.inl (CM b e2)))).trans cV.kp).trans (ax.PU λb e e2=>by have:=wR b e;have:=Oi b e2;omega);refine Qc O$ PM$ St O$ R7 O$ Qc O ?_
     refine(ih2 (v+1,u9) _ ⟨by show v+1<=G.g.length;omega,?_,λb hb=>by
      rcases Kj b hb with e| e
      ·exact wR b e
      ·omega,⟨_,λb e=> .inl (CM b e),λb e=> .inr e,h9⟩,aL.trans ul⟩ (by show G.g.length-(v+1)<G.g.length-v;omega)).qb
     show Sl w9 u9 _ 1 (v+1) ((s.label.take (v+1)).map Qg);rw[QR hx,List.map_append];exact kl
    ·have gW:v=G.g.length:=by omega
     subst gW;rw[List.take_of_length_le (by rw[Ki.ln];exact Nat.le_refl _)] at g8
     obtain⟨gb,gc,rfl⟩:∃b c,u= .slice (some ⟨b,0,none⟩) G.g.length c:=by
      rcases g8.shape with⟨-,e⟩|⟨b,c,e,-⟩
      ·omega
      ·exact⟨b,c,e⟩
     have hg:=Ext.Qh w6;have fk:=z1m (h6.ext hg) dJ.a2 ω (λi e1 e2=>by rw[wQ,Su ω,if_pos ⟨e1,e2⟩]);rw[show Q2.Rx (Rn Q2.L a 3 false)=Q by rw[wQ,zaW dJ ω,<-pV];rfl] at fk;have sk:∀{b},Z b->¬O_ b->¬(¬Z b\/O_ b):=λh1 h2 e=>e.elim (λe=>e h1) h2;have ID:¬O_ gb:=(pC gb (wR gb O)).2.2.2.2.2.2;have wS:=CM _ tK.1;have jd:∀{w14:World},Kp (λb=>¬Z b\/O_ b) w6.drew w14->Kp (λb=>¬Z b\/O_ b) w6 w14:=λhk=>hg.kp.trans hk;have cB:∀{w14 w16:World},Kp (λb=>¬Z b\/O_ b) w6.drew w14->Ext w14 w16->Kp (λb=>¬Z b\/O_ b) w6 w16:=λhk hx=>(jd hk).trans hx.kp;refine Q5 O$ An$ An$ S5 (λw'=>Kp (λb=>¬Z b\/O_ b) w6 w') O$ Qi 0 O O (hg.kp)$ T9 1 O zi9 O (fk) ?_;rintro _ w14 ⟨rfl,txt14,sn,Ie,cM⟩;refine⟨jd cM,?_⟩;refine PT 2 O (yne O O) (jd cM)$ UQ$ Qi 3 O O (jd cM)$ PT 4 O (Qz z2P O) (jd cM)$ qT 5 O (λ_ h=>PX Y1 O O (h.PN aY (sk wS tK.2)) O) (jd cM)$ PT 8 O (Qz zg4 O) (jd cM)$ qT 9 O (λ_ h=>PX U3 O O (h.PN aY (sk wS tK.2)) O) (jd cM)$ T9 6 O zmj O (sn.sp.map) ?_;rintro _ w15 ⟨rfl,rfl⟩;refine⟨jd cM,?_⟩;have fd:=sn.sp.room dJ ω;rw[hL] at fd;refine T9 7 O zi6 O (fd) ?_;rintro _ w16 ⟨rfl,bB⟩;refine⟨cB cM bB,?_⟩;refine PT 10 O (yne O O) (cB cM bB)$ UQ$ PT 11 O (Vt O O) (cB cM bB)$ Qi 12 O O (cB cM bB)$ PT 13 O (Qz z2P O) (cB cM bB)$ qT 14 O (λ_ h=>PX Y1 O O (h.PN aY (sk wS tK.2)) O) (cB cM bB) ?_;have fJ:=z6r (sn.sp.ext' bB);refine T9 15 O zlo O (fJ) ?_;rintro _ w17 ⟨c1,c2,c3,c4,c5,rfl,dr⟩;refine⟨cB cM (bB.trans dr),?_⟩;refine PT 16 O (yfd zgU O O) (cB cM (bB.trans dr))$ PT 17 O (Zr O O) (cB cM (bB.trans dr))$ UQ$ PT 18 O (Vt O O) (cB cM (bB.trans dr))$ qE$ TT O$ RI O$ R7 O$ Rt O$ PO func10 O ?_;have eX:=bB.trans dr;have tL:=cB cM eX;have Kk:∀j,X j->Z j:=λj e=>CM j (aN j (df j e));have If:Wc G T Q txt14 K5 (λj=>X j\/j=gb) w17:=(sn.grow eX (λj e=> .inl e) (λ_ e=>e)).less (λj e=>e.elim (Kk j) λe=>by rw[e];exact BL gb O) ⟨.inl nB.1,.inl nB.2.1,.inl nB.2.2.1,.inl nB.2.2.2.1,.inl nB.2.2.2.2.1,.inl nB.2.2.2.2.2⟩;rw[<-hs] at g8 hd;refine⟨_,rfl,k+1,gb,gc,txt14,K5,rfl,ω,⟨hd,λj hj=>eY j ω⟩,g8.kp tL (λb hb=>sk (BL b hb) ((pC b (wR b hb)).2.2.2.2.2.2)),If,ω,by have:=wR gb O;have:=mF.size;omega,λy e=>(Ie y (.inl e)).trans (BK y e),?_⟩;refine(((ad.kp.trans (am.PU λb e e2=>e (df b e2))).trans (mF.PU λb e e2=>?_)).trans (aL.PU λb e e2=>e (aN b (df b e2)))).trans (tL.PU λb e e2=>?_)
     ·exact e.elim (λe=>e (aN b (df b e2))) (Kh e2)
     ·exact e.elim (λe=>e (Kk b e2)) (Kh e2)
  ·have nX:(TO G.g (R0 G.g) (k+1)).done=false:=by simpa using hd
   rw[nX];refine Re O$ QS O$ qV ((T7 O))$ PQ$ Qa O$ Q5 O$ St O$ R7 O$ Qc O ?_
   exact(ih (k+1) w5 ⟨⟨txt5,K5,bP,ω,BK⟩,λj hj=>by
    by_cases e:j=k+1
    ·rw[e];exact nX
    ·exact eY j ω,mF⟩ ω).qb
end
section
end
abbrev Wd.x (W:Wd)(XX:Nat->Prop):Nat->Prop:=λb=>XX b/\b≠W.G.rb/\b≠W.T.rb
def WdM.gw2 {W:Wd}{g:List (List Nat)}{XX:Nat->Prop}{w:World}(h:WdM W g XX w):Wc W.G W.T W.Q W.txt W.K (W.x XX) w:=by
 obtain⟨r1,r2,r3,r4,r5,r6,r7⟩:=h.rb
 obtain⟨⟨a1,a2⟩,⟨a3,a4⟩,⟨a5,a6⟩,a7,a8⟩:=h.hg.xk
 obtain⟨⟨c1,c2⟩,⟨c3,c4⟩,⟨c5,c6⟩,c7,c8⟩:=h.ht.xk
 refine⟨h.hg.less (λb e=>?_) ⟨.inl ⟨a1,a2,r4.symm⟩,.inl ⟨a3,a4,r5.symm⟩,.inl ⟨a5,a6,c6⟩,.inl ⟨a7,a8,c8⟩⟩,h.ht.less (λb e=>?_) ⟨.inl ⟨c1,r6.symm,c2⟩,.inl ⟨c3,r7.symm,c4⟩,.inl ⟨a5,a6,c6⟩,.inl ⟨a7,a8,c8⟩⟩,⟨a1,a2,r4.symm⟩,⟨a3,a4,r5.symm⟩,⟨c1,r6.symm,c2⟩,⟨c3,r7.symm,c4⟩,⟨a5,a6,c6⟩,⟨a7,a8,c8⟩⟩
 ·rcases e with e| e
  ·exact⟨e.1,e.2.1⟩
  ·rw[e];exact⟨r2,λe=>r3 e.symm⟩
 ·rcases e with e| e
  ·exact⟨e.1,e.2.2⟩
  ·rw[e];exact⟨r1,r3⟩
def z1a {W:Wd}{g:List (List Nat)}{txt:Int->PV}{K:Nat}{X:Nat->Prop}{w:World}(h:Wc W.G W.T W.Q txt K X w)(hK:K<=500000000000)(ao:W.G.g=g)(vJ:W.T.g=R0 g)(dJ:Pre W.Q.L W.a)(ha:W.a<=146)(hL:W.Q.L.length=200)(Kl:W.G.st+W.G.len<=W.T.st)(nQ:W.T.st+W.T.len<=W.a)(az:Tl g)(h1:1<=g.length)(dE:g.length<=40):
  Qu prog 10 [.agg #[ptr W.d 0,ptr W.Q.s 0,ptr W.G.k 0,ptr W.T.k 0,I ((200-W.a:Nat):Int)]] w λv w'=>∃(k b c:Nat) (txt':Int->PV) (K':Nat),v= .tuple #[.slice (some ⟨b,0,none⟩) g.length c,I (k:Int)]/\1<=k/\zaG g (R0 g) k/\Sl w' (.slice (some ⟨b,0,none⟩) g.length c) 39 1 g.length ((TO g (R0 g) k).label.map Qg)/\Wc W.G W.T W.Q txt' K' (λj=>X j\/j=b) w'/\K'<=K+20000000/\w.heap.size<=b/\(∀y:Int,y<(W.a:Int)->txt' y=txt y)/\Kp (λb=>¬X b) w w':=by
 subst ao
 have:=z8d (d:=W.d) h hK h1 dE az vJ dJ ω nQ ha hL
 exact this
abbrev g3:List (List Nat):=[[1],[0],[0]]
def zf1:Tl g3:=⟨λl hl=>by
 simp only[List.mem_cons,List.not_mem_nil,or_false] at hl
 rcases hl with rfl|rfl|rfl<;>exact⟨ψ,ψ⟩,ψ,ψ⟩
def zg7:zaG g3 (R0 g3) 6:=⟨ψ,ψ⟩
theorem zh3:(TO g3 (R0 g3) 6).label=[0,0,2]:=by decide
def z5g {w:World}(hG:Q7 w 1 (Ts .gamma) 294)(hU:Q7 w 2 (Ts .unary) 294):Qu prog 9 [] w λv w'=>v= .bool true/\Ext w w':=by
 refine py (e:=[]) func9 O ntmps9 O O$ qN O$ S7 O$ PY O O (Zh (cs:=[_]) (zs:=[Value.int .u32 0]) QE Ql O (by kernel_rfl) O O O ψ) ?_
 rintro _ w1 ⟨b1,rfl,⟨bL,ad,ai⟩,ky⟩
 refine PY O O (Zh (cs:=[_]) (zs:=[Value.int .u32 0]) QE Ql O (by kernel_rfl) O O O ψ) ?_
 rintro _ w2 ⟨b2,rfl,⟨bO,ae,ak⟩,cS⟩
 refine PY O O (Zh (cs:=[_]) (zs:=[Value.int .u32 0]) QE Ql O (by kernel_rfl) O O O ψ) ?_
 rintro _ w3 ⟨b3,rfl,⟨dP,ah,aw⟩,dj⟩
 refine PY O O (Zh (cs:=[_,_,_]) (zs:=[Value.slice none 0 0,Value.slice none 0 0,Value.slice none 0 0]) U23 Vz O (by kernel_rfl) O O O ψ) ?_
 rintro _ w4 ⟨b4,rfl,⟨eM,aC,aM⟩,eH⟩
 have kr:GrM w4 (.slice (some ⟨b4,0,none⟩) 3 3) g3:=by
  refine⟨⟨_,eH.rd,λi l hl=>?_⟩⟩
  match i,hl with
  | 0, hl =>
    cases hl
    exact⟨_,_,rfl,Nat.le_refl _,((ky.rd.ext ae).ext ah).ext aC⟩
  | 1, hl =>
    cases hl
    exact⟨_,_,rfl,Nat.le_refl _,(cS.rd.ext ah).ext aC⟩
  | 2, hl =>
    cases hl
    exact⟨_,_,rfl,Nat.le_refl _,dj.rd.ext aC⟩
  |i+3,hl=>cases hl
 have ce:=((ad.trans ae).trans ah).trans aC
 have z4:=ce.size
 refine Qk cf8 O (z9r (g:=g3) zf1 ψ ψ kr (ce.PN hG) (ce.PN hU) 1 0 ψ ψ) ?_
 rintro _ w5 ⟨W,XX,rfl,hW,aU,eK⟩
 have bV:=ce.trans aU
 have z5:=aU.size
 refine Q4 O$ TK O$ PY O O (SE (cs:=[_,_,_,_,_]) z0f O) ?_
 rintro _ w6 ⟨b6,rfl,nV,aS,aY⟩
 have z6:=aS.size
 refine Qb O (QT (news:=W.v) z0f O O O O aY ξ) ?_
 rintro w7 ⟨bU,aA⟩
 have js:Q7 w7 b6 [ptr W.d 0,ptr W.Q.s 0,ptr W.G.k 0,ptr W.T.k 0,I ((200-W.a:Nat):Int)] 30:=bU
 have ig:Ext w5 w7:=aS.It aA λb e=>by omega
 have h7:=hW.gw2.grow ig (λj e=> .inl e) (λ_ e=>e)
 have Oj:=hW.K
 refine Qc O$ QS O$ qV ((T7 O)) ?_
 rw[show(!true)=false from rfl]
 refine Re O$ qN O$ qV (QB U30 O z0f O (Q7.cells (n:=5) js (news:=[_,_,_,_,_]) O) O)$ Qk zke O (z1a h7 ω hW.gg hW.tg hW.pre hW.a hW.L hW.gs hW.ts zf1 ψ ψ) ?_
 rintro _ w8 ⟨k,b,c,txt8,K8,rfl,ay,hE,dQ,-,-,jf,-,aK⟩
 have aL:k=6:=hE.eq zg7
 subst aL
 rw[zh3] at dQ
 have mx:g3.length=3:=rfl
 rw[mx] at dQ⊢
 have c0:=Rf dQ.rd (i:=0) (v:=Qg 0) O
 have c1:=Rf dQ.rd (i:=1) (v:=Qg 0) O
 have c2:=Rf dQ.rd (i:=2) (v:=Qg 2) O
 refine Q4 O$ TK O$ TN O$ RZ O$ RK O$ SM$ Qp O$ SR U34 O$ Ss O$ SM$ Sa O$ Qp O$ qV (Rh U34 UK O O ω)$ qV (QF SL O O c0) ?_
 refine Ss O$ SM$ Sa O$ Qp O$ qV (Rh U34 UK O O ω)$ qV (QF SL O O c1)$ Ss O$ SM$ Sa O$ Qp O$ qV (Rh U34 UK O O ω)$ qV (QF SL O O c2)$ Ss O$ SM ?_
 refine Sa O$ Qc O$ Qy.qb (e:=[(0,_)]) ?_
 refine PO func9 O (⟨_,rfl,rfl,(bV.trans ig).It aK λb e=>?_⟩)
 rcases Nat.lt_or_ge b w.heap.size with h| h
 ·exact absurd (eK b ω) e
 ·exact h
def z5u (n:Nat)(hn:n<4294967296)(w:World):Qu prog 38 [QJ n] w λv w'=>v=S (Vg 4 n)/\Ext w w':=by
 have hb:(Vg 4 n).map U8=[Value.int .u8 ((n / 16777216%256:Nat):Int),Value.int .u8 ((n / 65536%256:Nat):Int),Value.int .u8 ((n / 256%256:Nat):Int),Value.int .u8 ((n%256:Nat):Int)]:=by
  simp[Vg,U8,List.range_succ]
 refine py (e:=[(0,_)]) func38 O ntmps38 O O$ qN O$ RZ O$ qV (Vm 24 16777216 O O ψ O)$ qV (z4m O RQ U5)$ Q4 O$ qV (Vm 16 65536 O O ψ O)$ qV (z4m O RQ U5)$ Q4 O$ qV (Vm 8 256 O O ψ O)$ qV (z4m O RQ U5)$ Q4 O$ qV (z4m O RQ U5)$ PY O O (Zh (cs:=[_,_,_,_]) (zs:=[Value.int .u8 0,Value.int .u8 0,Value.int .u8 0,Value.int .u8 0]) Tr Y7 O (by kernel_rfl) O O O ψ) ?_
 rintro _ w1 ⟨b1,rfl,⟨bL,ad,ai⟩,-⟩
 have gq:Q7 w1 b1 ((Vg 4 n).map U8) 5:=by
  rw[hb];exact ai
 refine qV (z8j (l:=Vg 4 n) Tr U5 U9 O gq (by rw[List.drop_zero];exact List.take_of_length_le (by rw[List.length_map,QQ];omega)) (QQ _ _)) ?_
 refine Qc O$ PO func38 O ?_
 exact⟨_,rfl,rfl,ad⟩
def zaT (l:List UInt8)(w:World)(h:4<=l.length):Qu prog 43 [S l] w λv w'=>v=U (Sums.num l)/\Ext w w':=by
 have h0:=(l.getD 0 0).toNat_lt
 have h1:=(l.getD 1 0).toNat_lt
 have h2:=(l.getD 2 0).toNat_lt
 have h3:=(l.getD 3 0).toNat_lt
 obtain⟨e1,e2,e3⟩:=or3 _ _ _ _ h0 h1 h2 h3
 refine py (e:=[(0,_)]) func43 O ntmps43 O O ?_
 rw[e1] at e2 e3
 rw[e2] at e3
 refine RN O$ An$ S5 (λ_=>True) O$ Qi 0 O O (trivial)$ PT 1 O (z3j U9 O O ω) trivial$ PT 2 O ((z4x O U5 RQ ψ)) trivial$ PT 3 O (zbC 24 16777216 O O ψ O) trivial$ Qi 4 O O (trivial)$ PT 5 O (z3j U9 O O ω) trivial$ PT 6 O ((z4x O U5 RQ ψ)) trivial$ PT 7 O (zbC 16 65536 O O ψ O) trivial$ Qi 9 O O (trivial)$ PT 10 O (z3j U9 O O ω) trivial$ PT 11 O ((z4x O U5 RQ ψ)) trivial ?_
 refine PT 12 O (zbC 8 256 O O ψ O) trivial$ Qi 14 O O (trivial)$ PT 15 O (z3j U9 O O ω) trivial$ PT 16 O ((z4x O U5 RQ ψ)) trivial ?_
 rw[Nat.mod_eq_of_lt (show(l.getD 0 0).toNat*16777216<4294967296 by omega),Nat.mod_eq_of_lt (show(l.getD 1 0).toNat*65536<4294967296 by omega),Nat.mod_eq_of_lt (show(l.getD 2 0).toNat*256<4294967296 by omega)]
 refine PT 8 O (zdo O O ω ω) trivial ?_
 rw[e1]
 refine PT 13 O (zdo O O ω ω) trivial ?_
 rw[e2]
 refine PT 17 O (zdo O O ω ω) trivial ?_
 rw[e3]
 refine PT 18 O (Sv O) trivial$ qE$ PO func43 O ?_
 exact⟨_,rfl,rfl,Ext.Qh w⟩
def z9N {t:Nat}(ht:t<4294967296)(s:PV):Sums.num (Vg 4 t++s)=t:=by
 have h:Vg 4 t=[UInt8.ofNat (t / 16777216),UInt8.ofNat (t / 65536),UInt8.ofNat (t / 256),UInt8.ofNat t]:=by simp[Vg,List.range_succ]
 rw[h]
 simp[Sums.num]
 omega
def scH (s:T8):PV:=Vg 4 s.steps++[UInt8.ofNat s.phase,if s.done then 1 else 0]
def scT (s:T8):PV:=((scH s++SF 4 s.label)++SF 4 s.Q0)++SF 1 s.mark
section
variable {G T:ZM}{w w':World}{sw:Bool}{Q:Sj}{txt txt':Int->PV}{K K' ok:Nat}{X O_:Nat->Prop}{rr a L vl vc vm v:Nat}{s:T8}{ys:List Nat}
def scP (s:T8):Nat->PV
 |0=>scH s
 |1=>scH s++SF 4 s.label
 |2=>(scH s++SF 4 s.label)++SF 4 s.Q0
 |_=>scT s
theorem z8o (h:Rg (SU false T.k) G T Q txt K X rr O_ a L s w)(hI:Ve G.g s)(fJ:s.steps<4294967296):Qu prog 15 [ptr rr 0] w λv w'=>v= .tuple #[S (scT s),I 0]/\Rg (SU false T.k) G T Q txt K X rr O_ a L s w'/\Kp (λb=>¬Vc G T X b) w w':=by
 have dE:=h.m.n
 have pz:=hI.ph
 have zD:=hI.ln
 have Bk:=hI.cn
 have AV:=hI.mn
 obtain⟨vl,vc,vm,hV⟩:=h.sc
 have hR:=Rg.cells hV
 refine py (e:=[(0,_)]) func15 O ntmps15 O O$ qN O$ Rt O$ QS O$ Qk zem O (Wi h) ?_
 rintro _ w ⟨rfl,rfl⟩
 refine RZ O$ RA O$ Re O$ Qx O$ QA O$ Qd z2N O$ qV (PX U84 O O hR O)$ qV (z4m O U84 U5)$ PY O O (Zh (cs:=[_,_]) (zs:=[Value.int .u8 0,Value.int .u8 0]) Tr Y7 O (by kernel_rfl) O O O ψ) ?_
 rintro _ w1 ⟨b5,rfl,⟨gm,ad,aJ⟩,fG⟩
 have i3:=ad.PN hR
 have tM:s.phase%256=s.phase:=Nat.mod_eq_of_lt ω
 rw[tM] at fG
 have Ig:(Value.int .u8 (s.phase:Int))=U8 (UInt8.ofNat s.phase):=by
  unfold U8;rw[UInt8.toNat_ofNat',tM]
 rw[Ig] at fG
 have z1:=ad.size
 refine Qc O$ QS O$ QA O$ Qd z0y O$ qV (PX U4 O O i3 O)$ PQ$ QH (λe' w'=>e'=[(0,ptr rr 0),(5,.slice (some ⟨b5,0,none⟩) 2 2)]/\Sl w' (.slice (some ⟨b5,0,none⟩) 2 2) 5 1 2 (([UInt8.ofNat s.phase,if s.done then 1 else 0]:PV).map U8)/\Ext w w') ?cz$ λcz=>?iM
 case cz=>
  rintro e' w2 ⟨rfl,cS,ae⟩;have h2:=h.ext ae;have jq:=hV.kp (S:=λ_=>False) ae (λ_ _ e=>e);have dc:=Rg.cells jq;have hg:=Ext.Qh w2;refine An$ S5 (λw'=>Ext w2 w') O$ Qi 0 O O (hg)$ PT 1 O (R8 O) hg$ PT 2 O (Qz z2L O) hg$ qT 3 O (λ_ h=>PX U3 O O (h.PN dc) O) hg$ PT 4 O (z3H O U3 RQ) hg$ Qi 6 O O (hg) ?_;rw[Nat.mod_eq_of_lt fJ];refine qT 7 O (λ_ h=>zfT (l:=([UInt8.ofNat s.phase,if s.done then 1 else 0]:PV)) Tr U5 U9 O (cS.ext h)) hg$ T9 5 O zmg O (z5u s.steps fJ _) ?_;rintro _ w3 ⟨rfl,ah⟩;refine⟨hg.trans ah,?_⟩;have ag:=hg.trans ah;have eM:=QQ 4 s.steps;refine PT 8 O (XW O O (by rw[eM];exact(by decide:4+2<=9223372036854775807))) (hg.trans ah) ?_;have h3:=h2.ext ag;have qi:=jq.kp (S:=λ_=>False) ag (λ_ _ e=>e);have jo:=Rg.cells qi;have af:=Ext.Qh w3;refine PT 9 O (Sv O) (hg.trans ah)$ qE$ An$ An$ S5 (λw'=>Ext w3 w') O$ Qi 0 O O (af)$ PT 1 O (R8 O) af$ PT 2 O (Qz VN O) af$ qT 3 O (λ_ h=>PX XA O O (h.PN jo) O) af$ Qi 4 O O (af)$ PT 5 O (R8 O) af$ PT 6 O (Qz Vo O) af$ qT 7 O (λ_ h=>PX XA O O (h.PN jo) O) af$ Qi 8 O O (af) ?_;refine PT 9 O (R8 O) af$ PT 10 O (Qz Wu O) af$ qT 11 O (λ_ h=>PX XA O O (h.PN jo) O) af$ PT 12 O (zbt (parts:=[(0,.tmp 40),(1,.tmp 44),(2,.tmp 48)]) (cs:=[_,_,_]) zgr O U95 ZU O O) af$ Qi 13 O O (af)$ qE$ Qy.qb (e:=[(6,_),(49,_),(50,_)]) ?_;refine PS$ SK (α:=Nat) (0) (λi=>[(6,S (scP s i)),(49,.agg #[ptr vl 0,ptr vc 0,ptr vm 0]),(50,I (i:Int))]) (λi w'=>i<=3/\Rg (SU false T.k) G T Q txt K X rr O_ a L s w'/\Vk false Q txt G.k T.k rr O_ a L s vl vc vm w'/\Kp (λb=>¬Vc G T X b) w w') (λi=>3-i) ?hI ?hround
  case hI=>exact⟨Nat.zero_le _,h3.ext af,qi.kp (S:=λ_=>False) af (λ_ _ e=>e),((ae.trans ag).trans af).kp⟩
  case hround=>
   rintro i w4 ⟨hi,h4,fY,ar⟩ ih
   try dsimp only
   refine qN O$ RT O$ PQ$ An$ Q8 O (λh0=>?_)$ λh0=>?_
   ·have lZ:i<3:=by omega
    obtain⟨v,wd,xs,st,BH,yV,Ol,bR,kw,Om⟩:∃(v wd:Nat) (xs:List Nat) (st:Nat),(#[ptr vl 0,ptr vc 0,ptr vm 0]:Array Value)[i]? =some (ptr v 0)/\Vn Q txt v wd st xs w4/\X v/\xs.length<=40/\wd<=4/\scP s (i+1)=scP s i++SF wd xs:=by
     obtain rfl|rfl|rfl:i=0\/i=1\/i=2:=by omega
     ·exact⟨vl,4,_,_,rfl,fY.lab,h4.xr _ fY.o.2.1,ω,ψ,rfl⟩
     ·exact⟨vc,4,_,_,rfl,fY.col,h4.xr _ fY.o.2.2.1,ω,ψ,rfl⟩
     ·exact⟨vm,1,_,_,rfl,fY.mar,h4.xr _ fY.o.2.2.2,ω,ψ,rfl⟩
    have gj:(scP s i).length<=1000:=by
     have q1:=RD 4 s.label;have q2:=RD 4 s.Q0;have q3:(scH s).length=6:=by unfold scH;rw[List.length_append,eM];rfl
     obtain rfl|rfl|rfl:i=0\/i=1\/i=2:=by omega
     ·show(scH s).length<=1000;omega
     ·show(scH s++SF 4 s.label).length<=1000;rw[List.length_append];omega
     ·show((scH s++SF 4 s.label)++SF 4 s.Q0).length<=1000;rw[List.length_append,List.length_append];omega
    have rx:=RD wd xs;have On:xs.length*wd<=40*4:=Nat.mul_le_mul bR kw;refine PR$ RP$ qN O$ qV (yxa U95 ZU XA O O O lZ (v:=ptr v 0) BH)$ RZ O$ Qk zml O (z8c h4.sp h4.lt h4.m.g.Wv yV (.inl (.inl Ol))) ?_;rintro _ w5 ⟨rfl,fT,aj⟩;have h5:=h4.read aj fT;have qk:Vk false Q txt G.k T.k rr O_ a L s vl vc vm w5:=fY.kp aj (λb e e2=>e2 (.inl (.inl (h4.xr b e))));refine Q4 O$ TK O$ Rt O$ QS O$ RA O$ Re O$ PW O$ Qp O$ qV (XW O O ω) ?_;rw[<-Om];refine Qc O$ PM$ PW O$ R7 O$ Q4 O$ PQ ?_;exact(ih (i+1) _ ⟨ω,h5,qk,ar.trans aj⟩ ω).qb
   ·have lZ:i=3:=by omega
    subst lZ;refine Q5 O$ Qx O$ Rt O$ PO func15 O ?_;exact⟨_,rfl,rfl,h4,ar⟩
 case iM=>
  cases hd:s.done with
  | true =>
    refine Qa O$ St O$ qV (Rh Tr Y7 O O ω)$ Qb O (SY Y7 O O O fG ξ) ?_;rintro w2 ⟨cS,am⟩;refine PQ ((cz _ _ ⟨rfl,?_,ad.It am λb e=>by omega⟩).qb);rw[hd]
    exact cS
  | false =>
    refine TT O ((cz _ _ ⟨rfl,?_,ad⟩).qb);rw[hd];exact fG
def XH {vb width st:Nat}{xs:List Nat}(hv:Vn Q txt vb width st xs w):Qu prog 41 [ptr vb 0] w λv w'=>v=I (width:Int)/\w'=w:=by
 have hB:=hv.cells
 refine py (e:=[(0,_)]) func41 O ntmps41 O O$ RN O$ QS O$ qV (R9 XA O O)$ Re O$ Qx O$ QA O$ Qd S8 O$ Qd UG O$ qV (PX U3 O O hB O)$ Qc O$ PO func41 O ?_
 exact⟨_,rfl,rfl,rfl⟩
def Rg.zdO {ok:Nat}(h:Rg (SU sw ok) G T Q txt K X rr O_ a L s w)(hV:Vk sw Q txt G.k ok rr O_ a L s vl vc vm w)(hl:ys.length=s.label.length)(hK:K'<1000000000000)(hW:VcW Q txt K' (Vc G T X) vl 4 a ys w w'):∃txt',Rg (SU sw ok) G T Q txt' K' X rr O_ a L {s with label:=ys} w'/\Vk sw Q txt' G.k ok rr O_ a L {s with label:=ys} vl vc vm w'/\(∀y:Int,y<(a:Int)\/(a:Int)+(L:Int)<=y->txt' y=txt y)/\Kp (λb=>¬Vc G T X b) w w':=by
 obtain⟨txt',hP,hv,hy,hk⟩:=hW
 have iF:=hV.zk1 hk (λb hb e=>e (.inl (.inl (h.xr b hb)))) hv hl hy
 have hL:=hV.L
 have hn:=hV.n
 have jV:∀y:Int,y<(a:Int)\/(a:Int)+(L:Int)<=y->txt' y=txt y:=λy e=>hy y (by rw[Sn ω];omega)
 exact⟨txt',h.put hK hk hP jV iF,iF,jV,hk⟩
def Rg.zeP {ok:Nat}(h:Rg (SU sw ok) G T Q txt K X rr O_ a L s w)(hV:Vk sw Q txt G.k ok rr O_ a L s vl vc vm w)(hl:ys.length=s.Q0.length)(hK:K'<1000000000000)(hW:VcW Q txt K' (Vc G T X) vc 4 (a+1) ys w w'):∃txt',Rg (SU sw ok) G T Q txt' K' X rr O_ a L {s with Q0:=ys} w'/\Vk sw Q txt' G.k ok rr O_ a L {s with Q0:=ys} vl vc vm w'/\(∀y:Int,y<(a:Int)\/(a:Int)+(L:Int)<=y->txt' y=txt y)/\Kp (λb=>¬Vc G T X b) w w':=by
 obtain⟨txt',hP,hv,hy,hk⟩:=hW
 have iF:=hV.zjB hk (λb hb e=>e (.inl (.inl (h.xr b hb)))) hv hl hy
 have hL:=hV.L
 have hn:=hV.n
 have jV:∀y:Int,y<(a:Int)\/(a:Int)+(L:Int)<=y->txt' y=txt y:=λy e=>hy y (by rw[Sn ω];omega)
 exact⟨txt',h.put hK hk hP jV iF,iF,jV,hk⟩
def Rg.zeM {ok:Nat}(h:Rg (SU sw ok) G T Q txt K X rr O_ a L s w)(hV:Vk sw Q txt G.k ok rr O_ a L s vl vc vm w)(hl:ys.length=s.mark.length)(hK:K'<1000000000000)(hW:VcW Q txt K' (Vc G T X) vm 1 (a+2) ys w w'):∃txt',Rg (SU sw ok) G T Q txt' K' X rr O_ a L {s with mark:=ys} w'/\Vk sw Q txt' G.k ok rr O_ a L {s with mark:=ys} vl vc vm w'/\(∀y:Int,y<(a:Int)\/(a:Int)+(L:Int)<=y->txt' y=txt y)/\Kp (λb=>¬Vc G T X b) w w':=by
 obtain⟨txt',hP,hv,hy,hk⟩:=hW
 have iF:=hV.zk5 hk (λb hb e=>e (.inl (.inl (h.xr b hb)))) hv hl hy
 have hL:=hV.L
 have hn:=hV.n
 have jV:∀y:Int,y<(a:Int)\/(a:Int)+(L:Int)<=y->txt' y=txt y:=λy e=>hy y (by rw[Wm ω];omega)
 exact⟨txt',h.put hK hk hP jV iF,iF,jV,hk⟩
def Xu (s0 s:T8):Nat->T8
 |0=>s0
 |1=>{s0 with label:=s.label}
 |2=>{s0 with label:=s.label,Q0:=s.Q0}
 |_=>{s0 with label:=s.label,Q0:=s.Q0,mark:=s.mark}
def scL (s:T8):Nat->PV
 |0=>SF 4 s.label++(SF 4 s.Q0++SF 1 s.mark)
 |1=>SF 4 s.Q0++SF 1 s.mark
 |2=>SF 1 s.mark
 |_=>[]
theorem z2w:scT s=scH s++scL s 0:=by
 show((scH s++SF 4 s.label)++SF 4 s.Q0)++SF 1 s.mark=scH s++(SF 4 s.label++(SF 4 s.Q0++SF 1 s.mark))
 rw[List.append_assoc,List.append_assoc]
theorem z9o:(scH s).length=6:=by
 unfold scH
 rw[List.length_append,QQ];rfl
def Ve.four {g:List (List Nat)}(h:Ve g s):(∀x∈s.label,x<2^(8*4))/\(∀x∈s.Q0,x<2^(8*4))/\∀x∈s.mark,x<2^(8*1):=⟨h.lb,h.cb,h.mb⟩
def zl4 {s0:T8}{w4:World}{i:Nat}(hi:i<3)(h:Rg (SU false T.k) G T Q txt K X rr O_ a L (Xu s0 s i) w4)(hV:Vk false Q txt G.k T.k rr O_ a L (Xu s0 s i) vl vc vm w4)(uh:Ve G.g s0)(hI:Ve G.g s)(hK:K<=800000000000):
  ∃ (v wd : Nat) (b : PV), (#[ptr vl 0, ptr vc 0, ptr vm 0] : Array Value)[i]? = some (ptr v 0) /\ wd <= 4 /\ b.length = G.g.length * wd /\ scL s i = b ++ scL s (i + 1) /\ Qu prog 41 [ptr v 0] w4 (λr w' => r = I (wd : Int) /\ w' = w4) /\
    Qu prog 42 [ptr v 0,S b] w4 (λr w'=>r=I 0/\∃txt',Rg (SU false T.k) G T Q txt' (K+1) X rr O_ a L (Xu s0 s (i+1)) w'/\Vk false Q txt' G.k T.k rr O_ a L (Xu s0 s (i+1)) vl vc vm w'/\(∀y:Int,y<(a:Int)\/(a:Int)+(L:Int)<=y->txt' y=txt y)/\Kp (λb=>¬Vc G T X b) w4 w'):=by
 obtain⟨f1,f2,f3⟩:=hI.four
 have a1:=hI.ln
 have a2:=hI.cn
 have a3:=hI.mn
 have b1:=uh.ln
 have b2:=uh.cn
 have b3:=uh.mn
 have dE:=h.m.n
 have hL:=hV.L
 obtain⟨n1,n2,n3⟩:=hV.n
 have hO:∀b,O_ b->¬¬Vc G T X b:=λb hb e=>e (.inl (.inl (h.xr b hb)))
 obtain rfl|rfl|rfl:i=0\/i=1\/i=2:=by omega
 ·have iK:(Xu s0 s 0).label.length=s.label.length:=by show s0.label.length=_;omega
  have hu:YY 4 (Xu s0 s 0).label.length (SF 4 s.label)=s.label:=by rw[iK];exact Xh f1
  refine⟨vl,4,SF 4 s.label,rfl,ψ,by rw[RD,a1],rfl,XH hV.lab,?_⟩;refine(Zc h.sp h.lt ω hV.lab (.inl (.inl (h.xr _ hV.o.2.1))) (s:=SF 4 s.label) (by rw[RD,iK])).mono ?_;rintro r w' ⟨rfl,hW⟩;rw[hu,Sn n1] at hW;obtain⟨txt',h',iF,hy,hk⟩:=h.zdO hV iK.symm ω hW;exact⟨rfl,txt',h',iF,hy,hk⟩
 ·have iK:(Xu s0 s 1).Q0.length=s.Q0.length:=by show s0.Q0.length=_;omega
  have hu:YY 4 (Xu s0 s 1).Q0.length (SF 4 s.Q0)=s.Q0:=by rw[iK];exact Xh f2
  refine⟨vc,4,SF 4 s.Q0,rfl,ψ,by rw[RD,a2],rfl,XH hV.col,?_⟩;refine(Zc h.sp h.lt ω hV.col (.inl (.inl (h.xr _ hV.o.2.2.1))) (s:=SF 4 s.Q0) (by rw[RD,iK])).mono ?_;rintro r w' ⟨rfl,hW⟩;rw[hu,Sn n2] at hW;obtain⟨txt',h',iF,hy,hk⟩:=h.zeP hV iK.symm ω hW;exact⟨rfl,txt',h',iF,hy,hk⟩
 ·have iK:(Xu s0 s 2).mark.length=s.mark.length:=by show s0.mark.length=_;omega
  have hu:YY 1 (Xu s0 s 2).mark.length (SF 1 s.mark)=s.mark:=by rw[iK];exact Xh f3
  refine⟨vm,1,SF 1 s.mark,rfl,ψ,by rw[RD,a3],(List.append_nil _).symm,XH hV.mar,?_⟩;refine(Zc h.sp h.lt ω hV.mar (.inl (.inl (h.xr _ hV.o.2.2.2))) (s:=SF 1 s.mark) (by rw[RD,iK])).mono ?_;rintro r w' ⟨rfl,hW⟩;rw[hu,Wm n3] at hW;obtain⟨txt',h',iF,hy,hk⟩:=h.zeM hV iK.symm ω hW;exact⟨rfl,txt',h',iF,hy,hk⟩
theorem z6M {s0:T8}(h:Rg (SU false T.k) G T Q txt K X rr O_ a L s0 w)(uh:Ve G.g s0)(hI:Ve G.g s)(fJ:s.steps<4294967296)(hK:K<=700000000000):Qu prog 17 [ptr rr 0,S (scT s)] w λv w'=>v=I 0/\(∃txt',Rg (SU false T.k) G T Q txt' (K+3) X rr O_ a L s w'/\∀y:Int,y<(a:Int)\/(a:Int)+(L:Int)<=y->txt' y=txt y)/\Kp (λb=>¬X b\/O_ b) w w':=by
 have dE:=h.m.n
 have pz:=hI.ph
 obtain⟨vl,vc,vm,hV⟩:=h.sc
 have hR:=Rg.cells hV
 have q1:=RD 4 s.label
 have q2:=RD 4 s.Q0
 have q3:=RD 1 s.mark
 have a1:=hI.ln
 have a2:=hI.cn
 have a3:=hI.mn
 have Oo:(scL s 0).length=9*G.g.length:=by
  show(SF 4 s.label++(SF 4 s.Q0++SF 1 s.mark)).length=_;rw[List.length_append,List.length_append];omega
 have aH:(scT s).length=6+9*G.g.length:=by rw[z2w,List.length_append,z9o,Oo]
 have tN:(scT s).drop 6=scL s 0:=by rw[z2w,List.drop_left' z9o]
 have jD:Sums.num (scT s)=s.steps:=by
  rw[z2w];unfold scH;rw[List.append_assoc];exact z9N fJ _
 have eM:=QQ 4 s.steps
 have aC:((scT s).getD 4 0).toNat=s.phase:=by
  rw[z2w];unfold scH;rw[List.append_assoc,List.getD_eq_getElem?_getD,List.getElem?_append_right ω,eM];show(UInt8.ofNat s.phase).toNat=_;rw[UInt8.toNat_ofNat'];exact Nat.mod_eq_of_lt ω
 have aU:((scT s).getD 5 0).toNat=if s.done then 1 else 0:=by
  rw[z2w];unfold scH;rw[List.append_assoc,List.getD_eq_getElem?_getD,List.getElem?_append_right ω,eM];show(if s.done then(1:UInt8) else 0).toNat=_;cases s.done<;>rfl
 obtain⟨d5,Oq,Ot,Ih⟩:∃d5:Nat,(if s.done then 1 else 0:Nat)=d5/\d5<=1/\decide ((d5:Int)=1)=s.done:=by
  cases s.done
  ·exact⟨0,rfl,ψ,rfl⟩
  ·exact⟨1,rfl,ψ,rfl⟩
 rw[Oq] at aU
 generalize scT s=tx at aH tN jD aC aU
 refine py (e:=[(0,_),(1,_)]) func17 O ntmps17 O O$ RN O$ QS O$ Qk zem O (Wi h) ?_
 rintro _ w ⟨rfl,rfl⟩
 refine RZ O$ RA O$ Re O$ Qx O$ QA O$ Qd XC O$ qV (PX YV O O hR O)$ Qk z6K O (h.z6L) ?_
 rintro _ w ⟨rfl,rfl⟩
 refine Qc O$ QS O$ qV (Wf U9 O)$ Q4 O$ qV (Xq O O ω)$ R7 O$ RA O$ QW$ Qp O$ qV (z3j U9 O O ω) ?_
 rw[aC]
 refine UZ O$ QW$ QY O$ Qp O$ qV (z3j U9 O O ω) ?_
 rw[aU]
 refine RK O$ QW$ QY O$ PQ$ Qy.qb (e:=[(0,_),(1,_),(4,_),(6,_),(37,_)]) ?_
 refine TT O$ Qx O$ qV (ZJ U9 O O ω) ?_
 rw[tN]
 have hg:=Ext.Qh w
 refine Qc O$ An$ An$ S5 (λw'=>Ext w w') O$ Qi 0 O O (hg)$ PT 1 O (R8 O) hg$ PT 2 O (Qz VN O) hg$ qT 3 O (λ_ h=>PX XA O O (h.PN hR) O) hg$ Qi 4 O O (hg)$ PT 5 O (R8 O) hg$ PT 6 O (Qz Vo O) hg$ qT 7 O (λ_ h=>PX XA O O (h.PN hR) O) hg$ Qi 8 O O (hg)$ PT 9 O (R8 O) hg ?_
 refine PT 10 O (Qz Wu O) hg$ qT 11 O (λ_ h=>PX XA O O (h.PN hR) O) hg$ PT 12 O (zbt (parts:=[(0,.tmp 43),(1,.tmp 47),(2,.tmp 51)]) (cs:=[_,_,_]) zgr O U95 ZU O O) hg$ Qi 13 O O (hg)$ qE$ PS$ SK (α:=Nat) (0) (λi=>[(0,ptr rr 0),(1,S tx),(6,I (G.g.length:Int)),(7,S (scL s i)),(52,.agg #[ptr vl 0,ptr vc 0,ptr vm 0]),(53,I (i:Int))]) (λi w'=>i<=3/\(∃txt',Rg (SU false T.k) G T Q txt' (K+i) X rr O_ a L (Xu s0 s i) w'/\Vk false Q txt' G.k T.k rr O_ a L (Xu s0 s i) vl vc vm w'/\∀y:Int,y<(a:Int)\/(a:Int)+(L:Int)<=y->txt' y=txt y)/\Kp (λb=>¬Vc G T X b) w w') (λi=>3-i) ?hI ?hround
 case hI=>exact⟨Nat.zero_le _,⟨txt,h.ext hg,hV.kp (S:=λ_=>False) hg (λ_ _ e=>e),λ_ _=>rfl⟩,hg.kp⟩
 case hround=>
  rintro i w4 ⟨hi,⟨txt4,h4,fY,lP⟩,ar⟩ ih;dsimp only
  try dsimp only
  refine qN O$ RT O$ PQ$ An$ Q8 O (λh0=>?_)$ λh0=>?_
  ·have lZ:i<3:=by omega
   obtain⟨v,wd,b,BH,kw,eP,jL,Ii,BM⟩:=zl4 lZ h4 fY uh hI ω;have Cw:G.g.length*wd<=40*4:=Nat.mul_le_mul dE kw;have oY:(G.g.length:Int)*(wd:Int)=(b.length:Int):=by rw[eP];push_cast;rfl
   rw[jL];refine PR$ RP$ qN O$ qV (yxa U95 ZU XA O O O lZ (v:=ptr v 0) BH)$ S7 O$ Qp O$ Qk zmb O (Ii) ?_;rintro _ w4 ⟨rfl,rfl⟩;refine qV (Xq O O (by rw[oY];omega)) ?_;rw[oY];refine Qc O$ An$ RI O$ Q4 O$ qV (z2c U9 O O (by rw[List.length_append];omega)) ?_;rw[List.take_left];refine Qk zm4 O (BM) ?_;rintro _ w5 ⟨rfl,txt5,h5,qk,rQ,aj⟩;refine RZ O$ RA O$ Re O$ PW O$ Qp O$ qV (ZJ U9 O O (by rw[List.length_append];omega)) ?_;rw[List.drop_left];refine Qc O$ PM$ PW O$ R7 O$ Q4 O$ PQ ?_;exact(ih (i+1) _ ⟨ω,⟨txt5,h5,qk,λy e=>(rQ y e).trans (lP y e)⟩,ar.trans aj⟩ ω).qb
  ·have lZ:i=3:=by omega
   subst lZ;have ez:=Rg.cells fY;replace ez:Q7 w4 rr [ptr G.k 0,ptr T.k 0,ptr vl 0,ptr vc 0,ptr vm 0,I (s0.steps:Int),I (s0.phase:Int),.bool s0.done,.bool false] 86:=ez;refine Q5 O$ RI O$ Qk zm0 O (zaT tx _ ω) ?_;rintro _ w5 ⟨rfl,sq⟩;rw[jD];have kG:=sq.PN ez;have qk:=fY.kp (S:=λ_=>False) sq (λ_ _ e=>e);refine qV (QU O RQ U3 ω)$ QA O$ Qd z2L O$ Qb O (RV Rl O O O kG ξ) ?_;rintro w6 ⟨gU,aL⟩;refine qM O$ Qp O$ qV (z3j U9 O O ω) ?_;rw[aC];refine qV ((QU O U5 U84 ω))$ QA O$ Qd z2N O$ Qb O (RV zaK O O O gU ξ) ?_;rintro w7 ⟨FA,aA⟩;refine qM O$ Qp O$ qV (z3j U9 O O ω) ?_;rw[aU];refine Ss O$ QA O ?_;rw[Ih];refine Qd z0y O$ Qb O (RV VK O O O FA ξ) ?_;rintro w8 ⟨lV,aK⟩;refine PQ$ Qy.qb (e:=[]) ?_;refine RN O$ PO func17 O ?_;have wT:Kp (λj=>j=rr) w5 w8:=(aL.trans aA).trans aK;have rX:Vk false Q txt4 G.k T.k rr O_ a L s vl vc vm w8:=qk.put wT lV O O O;have h8:Rg (SU false T.k) G T Q txt4 (K+3) X rr O_ a L s w8:=(h4.ext sq).set wT (λb e=>by rw[e];exact hV.o.1) ⟨vl,vc,vm,rX⟩;exact⟨_,rfl,rfl,⟨txt4,h8,lP⟩,((ar.trans sq.kp).PU λb e=> .inl λe2=>e (.inl (.inl e2))).trans (wT.PU λb e=> .inr (by rw[e];exact hV.o.1))⟩
end
def z5f (w:World)(la:Option Addr)(ls:List (Int×Int×Int)):Prop:=∀(i:Nat) (e:Int×Int×Int),ls[i]? =some e->JIq e.1/\JIq e.2.1/\JIq e.2.2/\∃lb lo,la=some ⟨lb,lo,none⟩/\w.cell? ⟨lb,lo+i*3+0,none⟩=some (I e.1)/\w.cell? ⟨lb,lo+i*3+1,none⟩=some (I e.2.1)/\w.cell? ⟨lb,lo+i*3+2,none⟩=some (I e.2.2)
def z5f.ext {w w':World}{la:Option Addr}{ls:List (Int×Int×Int)}(h:z5f w la ls)(hx:Ext w w'):z5f w' la ls:=λi e he=>by
 obtain⟨h1,h2,h3,lb,lo,h4,h5,h6,h7⟩:=h i e he
 exact⟨h1,h2,h3,lb,lo,h4,Rw hx h5,Rw hx h6,Rw hx h7⟩
structure SrM (P:Nat->Prop)(g:List (List Nat))(rr:Nat)(s:T8)(w:World):Prop where
 ex:∃(G T:ZM) (Q:Sj) (txt:Int->PV) (K:Nat) (X O_:Nat->Prop) (a:Nat),Rg (SU false T.k) G T Q txt K X rr O_ a 3 s w/\G.g=g/\T.g=R0 g/\(∀b,P b->X b/\¬O_ b)/\2<=a/\a+3<=Q.L.length/\(∀i,a<=i->i<a+3->Q.L[i]? =some true)/\K<=30000000+9000*s.steps
section
variable {P:Nat->Prop}{g:List (List Nat)}{rr:Nat}{s:T8}{w w':World}
def z6V (h:SrM P g rr s w)(hI:Ve g s)(hd:s.done=false)(fJ:s.steps<=3000):Qu prog 14 [ptr rr 0] w λv w'=>v= .tuple #[.bool (s.step g (R0 g)).done,I 0]/\SrM P g rr (s.step g (R0 g)) w'/\Kp (λb=>¬P b) w w':=by
 obtain⟨G,T,Q,txt,K,X,O_,a,h1,rfl,ht,hP,ha,hf,ho,hK⟩:=h
 have hl:T.g.length=G.g.length:=by rw[ht];exact Te _
 refine(z1g h1 hI hl ω hd ω).mono ?_
 rintro v w' ⟨rfl,⟨txt',K',h',JM,-⟩,hk⟩
 rw[ht] at h'⊢
 have fJ:(s.step G.g (R0 G.g)).steps=s.steps+1:=rfl
 exact⟨rfl,⟨G,T,Q,txt',K',X,O_,a,h',rfl,ht,hP,ha,hf,ho,ω⟩,hk.PU λb e e2=>e.elim (λe=>e (hP b e2).1) (hP b e2).2⟩
def za9 (h:SrM P g rr s w)(hd:s.done=true){v x:Nat}(hx:s.label[v]? =some x):Qu prog 18 [ptr rr 0,I (v:Int)] w λr w'=>r= .tuple #[Qg x,I 0]/\SrM P g rr s w'/\Kp (λb=>¬P b) w w':=by
 obtain⟨G,T,Q,txt,K,X,O_,a,h1,h2⟩:=h
 refine(z3p h1 hd hx).mono ?_
 rintro v w' ⟨rfl,h',hk⟩
 exact⟨rfl,⟨G,T,Q,txt,K,X,O_,a,h',h2⟩,hk.PU λb e e2=>e (.inl (.inl (h2.2.2.1 b e2).1))⟩
def z5e (h:SrM P g rr s w):Qu prog 19 [ptr rr 0] w λv w'=>v=I (s.steps:Int)/\w'=w:=by
 obtain⟨G,T,Q,txt,K,X,O_,a,h1,h2⟩:=h
 exact z6A h1
def z7L (h:SrM P g rr s w)(hI:Ve g s)(fJ:s.steps<=3000):Qu prog 15 [ptr rr 0] w λv w'=>v= .tuple #[S (scT s),I 0]/\SrM P g rr s w'/\Kp (λb=>¬P b) w w':=by
 obtain⟨G,T,Q,txt,K,X,O_,a,h1,rfl,h2⟩:=h
 refine(z8o h1 hI ω).mono ?_
 rintro v w' ⟨rfl,h',hk⟩
 exact⟨rfl,⟨G,T,Q,txt,K,X,O_,a,h',rfl,h2⟩,hk.PU λb e e2=>e (.inl (.inl (h2.2.1 b e2).1))⟩
def z55 {w0:World}{V T2:ZM}{Q2:Sj}{txt2:Int->PV}{K2:Nat}{X2:Nat->Prop}(h:SrM P g rr s w0)(hx:Ext w0 w)(hV:Wc V T2 Q2 txt2 K2 X2 w)(fx:∀b,b<w0.heap.size->X2 b)(hk:w0.heap.size<=V.k/\w0.heap.size<=V.x/\w0.heap.size<=T2.k/\w0.heap.size<=T2.x)(Km:P 1/\P 2):Qu prog 16 [ptr rr 0] w λv w'=>v=I 0/\Wc V T2 Q2 txt2 K2 X2 w'/\Kp (λb=>¬P b/\b<w0.heap.size) w w':=by
 obtain⟨G,T,Q,txt,K,X,O_,a,h1,rfl,ht,hP,ha,hf,ho,hK⟩:=h
 have aR:∀b,Vc G T X b->b<w0.heap.size:=h1.lt
 have z:=hx.size
 have h2:Rg (SU false T.k) G T Q txt K (λb=>X b\/(w0.heap.size<=b/\b<w.heap.size)) rr O_ a 3 s w:=h1.grow hx (λj e=>e) (λj e=> .inl e)
 refine(z1m h2 ha hf ho).mono ?_
 rintro v w' ⟨rfl,txt',-,-,Ou⟩
 have kN:Kp (λb=>b<w0.heap.size/\¬P b) w w':=Ou.mono λb hb e=>by
  rcases e with e| e
  ·refine⟨?_,λe2=>e (.inl (hP b e2).1)⟩;rcases Nat.lt_or_ge b w0.heap.size with h| h
   ·exact h
   ·exact absurd (.inr ⟨h,hb⟩) e
  ·exact⟨aR b (.inl (.inl (h1.xr b e))),λe2=>(hP b e2).2 e⟩
 refine⟨rfl,hV.own kN λb e=>⟨fx b e.1,ω,ω,ω,ω,λe2=>e.2 (e2▸Km.1),λe2=>e.2 (e2▸Km.2)⟩,kN.PU λb e=>⟨e.2,e.1⟩⟩
end
def sctaken_ret {w:World}(hG:Q7 w 1 (Ts .gamma) 294)(hU:Q7 w 2 (Ts .unary) 294)(n:Int)(hn:JIq n){ea:Option Addr}{ec:Nat}{es:List (Nat×Nat)}(uX:es.length<=9000000000000000000)(hE:EdR w ea es){la:Option Addr}{lc:Nat}{ls:List (Int×Int×Int)}(iz:ls.length<=9000000000000000000)(hL:z5f w la ls):Qu prog 5 [I n,.slice ea es.length ec,.slice la ls.length lc] w λv w'=>v= .bool true/\Ext w w':=by
 refine py (e:=[(0,_),(1,_),(2,_)]) func5 O ntmps5 O O$ qN O$ RZ O$ Qk cf7 O (z4g n hn _) ?_
 rintro _ w ⟨m,rfl,pZ,dZ,rfl⟩
 refine Q4 O$ Qk cf6 O (zaS pZ dZ uX hE) ?_
 rintro _ w1 ⟨g,bg,rfl,kk,az,i3,ad⟩
 have wU:=i3.gr
 have aT:1<=g.length:=by omega
 have ff:g.length<=40:=by omega
 have gQ:g.length<=60:=by omega
 have xL:=ad.PN hG
 have xM:=ad.PN hU
 have lG1:=xL.lt
 have lU1:=xM.lt
 have ub:=hL.ext ad
 refine RZ O$ Qk cf8 O (z9r az aT ff wU xL xM 3 0 ψ ψ) ?_
 rintro _ w5 ⟨W,XX,rfl,hW,aU,eK⟩
 have z5:=aU.size
 refine Q4 O$ TK O$ PY O O (SE (cs:=[_,_,_,_,_]) z0f O) ?_
 rintro _ w6 ⟨b6,rfl,nV,aS,aY⟩
 have z6:=aS.size
 refine Qb O (QT (news:=W.v) z0f O O O O aY ξ) ?_
 rintro w7 ⟨bU,aA⟩
 have js:Q7 w7 b6 [ptr W.d 0,ptr W.Q.s 0,ptr W.G.k 0,ptr W.T.k 0,I ((200-W.a:Nat):Int)] 30:=bU
 have l7:=bU.lt
 have z7:=aA.size
 have ig:Ext w5 w7:=aS.It aA λb e=>by omega
 have dr:=aU.trans ig
 have Oj:=hW.K
 have Ov:=hW.a
 have Ow:=hW.L
 have pD:=hW.pre
 refine Qc O$ QS O$ qV ((T7 O)) ?_
 rw[show(!true)=false from rfl]
 refine Q4 O$ Qk cf9 O (z5g (dr.PN xL) (dr.PN xM)) ?_
 rintro _ w8 ⟨rfl,cV⟩
 refine qV ((T7 O)) ?_
 rw[show(!true)=false from rfl]
 have co:=cV.PN js
 obtain⟨X,hX⟩:∃X:Nat->Prop,(λb=>W.x XX b\/b=b6)=X:=⟨_,rfl⟩
 have Ij:∀b,b<w1.heap.size->X b:=λb hb=>by rw[<-hX];exact .inl (eK b hb)
 have lK:X b6:=by rw[<-hX];exact .inr O
 have z8:=cV.size
 have h8:Wc W.G W.T W.Q W.txt W.K X w8:=hW.gw2.grow (ig.trans cV) (λj e=>by rw[<-hX] at e;exact e.imp id λe=>by omega) (λj e=>by rw[<-hX];exact .inl e)
 have Kl:=hW.gs
 have nQ:=hW.ts
 have ao:=hW.gg
 have vJ:=hW.tg
 refine QY O$ Re O$ qN O$ qV (QB U30 O z0f O (Q7.cells (n:=5) co (news:=[_,_,_,_,_]) O) O)$ Qk zke O (z1a h8 ω ao vJ pD Ov Ow Kl nQ az aT ff) ?_
 rintro _ w9 ⟨k,gb,gc,txt9,K9,rfl,ay,rq,kl,ik,HA,jg,-,ax⟩
 have z9:=ax.size
 have lgb:=kl.lt (g:=gb) O
 have ie:Ext w1 w9:=(dr.trans cV).It ax λb e=>by
  rcases Nat.lt_or_ge b w1.heap.size with h| h
  ·exact absurd (Ij b h) e
  ·exact h
 have cF:=ax.PN co (λe=>e lK)
 obtain⟨bnd,Ox,-⟩:=z7p az aT (λu v=>z3t az) k rq.f
 have sW:g.length*g.length<=40*40:=Nat.mul_le_mul ff ff
 have am:k<=2000:=by omega
 have hM:∃M:Nat,((g.length:Int)+2)*((g.length:Int)+2)=(M:Int)/\g.length*g.length+3*g.length<M/\M<=2000:=by
  refine⟨(g.length+2)*(g.length+2),by push_cast;rfl,?_,?_⟩
  ·rw[Nat.add_mul,Nat.mul_add];omega
  ·have:=Nat.mul_le_mul (show g.length+2<=42 by omega) (show g.length+2<=42 by omega);omega
 obtain⟨M,du,iY,rH⟩:=hM
 obtain⟨P,hP⟩:∃P:Nat->Prop,(λb=>b<w1.heap.size\/b=gb)=P:=⟨_,rfl⟩
 have ge:∀b,b<w1.heap.size->P b:=λb hb=>by rw[<-hP];exact .inl hb
 have Oy:P gb:=by rw[<-hP];exact .inr O
 have H2:∀b,P b->b<w9.heap.size:=λb hb=>by rw[<-hP] at hb;omega
 have pE:∀j,j<=k->(TO g (R0 g) j).done=true->j=k:=λj hj hd=>by
  rcases Nat.lt_or_ge j k with h| h
  ·have:=rq.f j h;rw[hd] at this;cases this
  ·omega
 refine Q4 O$ TK O$ Rt O$ Qy.qb (e:=[(2,_),(6,_),(7,_),(8,_),(10,_),(11,_)]) ?_
 refine qN O$ Qd z2P O$ qV (PX Y1 O O cF O)$ Qd z82 O$ qV (PX YV O O cF O)$ Qd z7m O$ qV (PX YV O O cF O)$ Qk zgL O (z0E ik ω (by rw[ao];omega) (by rw[ao];exact az) (by rw[ao];exact vJ) pD ω nQ ω) ?_
 rintro _ wa ⟨rr0,O0,txta,rfl,Oz,xI,-,bF⟩
 have za:=bF.size
 have Ik:SrM P g rr0 (TO g (R0 g) 0) wa:=⟨W.G,W.T,_,txta,_,_,O0,W.a,by rw[ao] at xI;exact xI,ao,vJ,λb hb=>by
   rw[<-hP] at hb;refine⟨.inl (hb.elim (λe=> .inl (Ij b e)) .inr),λe=>?_⟩;have:=Oz b e
   omega,pD.a2,by show W.a+3<=(Rn W.Q.L W.a 3 true).length;rw[R5 ω];omega,λi e1 e2=>by
   show(Rn W.Q.L W.a 3 true)[i]? =some true
   rw[Su ω,if_pos ⟨e1,e2⟩],ω⟩
 have Il:Kp (λb=>¬P b) w9 wa:=bF.PU λb e e2=>by
  rw[<-hP] at e2;exact e (e2.elim (λh=> .inl (Ij b h)) .inr)
 have ma:∀{w':World},Kp (λb=>¬P b) w9 w'->Ext w1 w':=λhk=>ie.It hk λb e=>by
  rcases Nat.lt_or_ge b w1.heap.size with h| h
  ·exact absurd (ge b h) e
  ·exact h
 refine Q4 O$ TK O$ Rt O$ QS O$ Ss O$ QW$ Qp O$ RA O$ QY O$ Re O$ RN O$ Qy.qb (e:=[(2,_),(6,_),(7,_),(10,_),(11,_),(12,_),(14,_)]) ?_
 refine An$ RN O$ PS$ Tf (λe' w'=>∃rr,e'=[(7,.slice (some ⟨bg,0,none⟩) g.length g.length),(10,.slice (some ⟨gb,0,none⟩) g.length gc),(11,I (k:Int)),(12,ptr rr 0),(14,.bool true)]/\SrM P g rr (TO g (R0 g) k) w'/\Kp (λb=>¬P b) w9 w') ?md$ λmd=>?oa
 case md=>
  rintro e' wb ⟨rr,rfl,qv,aW⟩;have fJ:=W7 (g:=g) (t:=R0 g) k;have Kn:=z0t (g:=g) (t:=R0 g) gQ k;obtain⟨s,hs⟩:∃s,TO g (R0 g) k=s:=⟨_,rfl⟩;have hd:s.done=true:=hs▸rq.d;rw[hs] at kl qv fJ Kn;refine An$ RN O$ PS$ SK (α:=Nat) (0) (λv=>[(7,.slice (some ⟨bg,0,none⟩) g.length g.length),(10,.slice (some ⟨gb,0,none⟩) g.length gc),(11,I (k:Int)),(12,ptr rr 0),(14,.bool true),(24,I (v:Int))]) (λv w'=>v<=g.length/\SrM P g rr s w'/\Kp (λb=>¬P b) w9 w') (λv=>g.length-v) ?hI ?hround
  case hI=>exact⟨Nat.zero_le _,qv,aW⟩
  case hround=>
   rintro v wc ⟨hv,tA,aq⟩ ih
   try dsimp only
   refine An$ RI O$ SR U23 O$ RT O$ PQ$ Q8 O (λh0=>?_)$ λh0=>?_
   ·have gW:v<g.length:=by omega
    obtain⟨x,hx⟩:∃x,s.label[v]? =some x:=⟨_,List.getElem?_eq_getElem (by rw[Kn.ln];exact gW)⟩;refine PR$ RP$ RI O$ Qk zkk O (za9 tA hd hx) ?_;rintro _ wd ⟨rfl,dh,cz⟩;have BN:=aq.trans cz;have OA:=kl.kp BN (λb hb e=>by cases hb;exact e Oy);have cx:=Rf OA.rd (i:=v) (v:=Qg x) (by rw[List.getElem?_map,hx];rfl);refine Q4 O$ TK O$ TN O$ RZ O$ RA O$ Qp O$ Qp O$ qV (Rh U34 UK O O ω)$ qV (QF SL O O cx)$ RA O$ QW$ QY O$ Re O$ PM ?_;refine St O$ R7 O$ Qc O ?_;exact(ih (v+1) _ ⟨ω,dh,BN⟩ ω).qb
   ·refine Q5 O$ RI O$ Q4 O$ Qk zlM O (z5e tA) ?_;rintro _ wc ⟨rfl,rfl⟩;rw[fJ];refine Q4 O$ Ss O$ SM$ Sa O$ Qc O$ PO func5 O ?_;exact⟨_,rfl,rfl,ad.trans (ma aq)⟩
 case oa =>
  refine SK (α:=(Nat×Nat)×Nat) (((0,rr0),0)) (λy=>[(2,.slice la ls.length lc),(7,.slice (some ⟨bg,0,none⟩) g.length g.length),(10,.slice (some ⟨gb,0,none⟩) g.length gc),(11,I (k:Int)),(12,ptr y.1.2 0),(14,.bool (TO g (R0 g) y.1.1).done),(15,I (y.2:Int))]) (λy w'=>y.1.1<=k/\SrM P g y.1.2 (TO g (R0 g) y.1.1) w'/\Kp (λb=>¬P b) w9 w'/\y.2<=10/\y.2<=ls.length) (λy=>12-y.2) ?hI ?hround
  case hI=>exact⟨Nat.zero_le _,Ik,Il,Nat.zero_le _,Nat.zero_le _⟩
  case hround =>
   rintro⟨⟨j,rr⟩,i⟩ wb ⟨hj,qv,aW,Im,dq⟩ ih;dsimp only at hj qv Im dq ih⊢
   try dsimp only
   cases hd:(TO g (R0 g) j).done with
   | true =>
     refine QS O$ qV ((T7 O)) ?_;have ry:=pE j hj hd;refine PQ$ PZ O$ Q5 O ?_
     exact(md _ _ ⟨rr,rfl,ry▸qv,aW⟩).qb
   | false =>
     refine QS O$ qV ((T7 O))$ PQ$ Qa O$ PR$ RP$ Qx O$ SR U23 O$ R7 O$ Q4 O$ SR U23 O$ R7 O$ qV (Xq O O (by rw[du];omega)) ?_;rw[du];refine Qc O$ An$ QH (λe' w'=>∃q:Nat,e'=[(2,.slice la ls.length lc),(7,.slice (some ⟨bg,0,none⟩) g.length g.length),(10,.slice (some ⟨gb,0,none⟩) g.length gc),(11,I (k:Int)),(12,ptr rr 0),(14,.bool false),(15,I (i:Int)),(16,I (q:Int))]/\q<=2000/\((i<ls.length/\i<10)\/g.length*g.length+3*g.length<q)/\w'=wb) ?aq$ λaq=>?dU
     case aq =>
      rintro e' w' ⟨q,rfl,hq,mA,rfl⟩;refine An$ RN O$ PS$ Tf (λe' w'=>∃j':Nat,e'=[(2,.slice la ls.length lc),(7,.slice (some ⟨bg,0,none⟩) g.length g.length),(10,.slice (some ⟨gb,0,none⟩) g.length gc),(11,I (k:Int)),(12,ptr rr 0),(14,.bool (TO g (R0 g) j').done),(15,I (i:Int))]/\j'<=k/\SrM P g rr (TO g (R0 g) j') w'/\Kp (λb=>¬P b) w9 w'/\((TO g (R0 g) j').done=true\/(i<ls.length/\i<10))) ?cz$ λcz=>?iM
      case cz =>
       rintro e' wd ⟨j',rfl,BJ,dh,cz,Ko⟩;have OB:=W7 (g:=g) (t:=R0 g) j';have tt:=z0t (g:=g) (t:=R0 g) gQ j';refine An$ RI O$ SR U42 O ?_;by_cases h1:ls.length<=i
       ·have nL:=Ko.resolve_right (λh=>by omega);have ry:=pE j' BJ nL;rw[nL];refine UZ O$ SM$ Q4 O$ S6$ Sa O$ PQ$ Qa O$ Q5 O ?_;exact(md _ _ ⟨rr,rfl,ry▸dh,cz⟩).qb
       ·refine UZ O$ QW$ Qp O ?_;by_cases h2:10<=i
        ·have nL:=Ko.resolve_right (λh=>by omega);have ry:=pE j' BJ nL;rw[nL];refine UZ O$ SM$ QY O$ PQ$ Qa O$ Q5 O ?_;exact(md _ _ ⟨rr,rfl,ry▸dh,cz⟩).qb
        ·refine UZ O$ QW ?_;obtain⟨e,he⟩:∃e,ls[i]? =some e:=⟨_,List.getElem?_eq_getElem ω⟩;refine QY O$ Re O$ Qx O$ Qk zlv O (z7L dh tt ω) ?_;rintro _ we ⟨rfl,AG,wV⟩;have wW:=cz.trans wV;have iv:=ma wW;obtain⟨-,b2,b3,lb,lo,rfl,-,gS,g7⟩:=(ub.ext iv) i e he;have l1:=(iv.PN xL).lt;have l2:=(iv.PN xM).lt;have ze:=iv.size;have OC:=wW.size;refine Q4 O$ TK O$ Rt O$ An$ QH (λe' w'=>∃(V:Wd) (XV:Nat->Prop) (b22:Nat),e'=[(2,.slice (some ⟨lb,lo,none⟩) ls.length lc),(7,.slice (some ⟨bg,0,none⟩) g.length g.length),(10,.slice (some ⟨gb,0,none⟩) g.length gc),(11,I (k:Int)),(12,ptr rr 0),(14,.bool (TO g (R0 g) j').done),(15,I (i:Int)),(20,S (scT (TO g (R0 g) j'))),(21,I 0),(22,ptr b22 0),(23,.bool true)]/\Ext we w'/\Wc V.G V.T V.Q V.txt V.K (λb=>V.x XV b\/b=b22) w'/\(∀b,b<we.heap.size->V.x XV b)/\(we.heap.size<=V.G.k/\we.heap.size<=V.G.x/\we.heap.size<=V.T.k/\we.heap.size<=V.T.x)/\V.G.g=g/\V.T.g=R0 g/\Pre V.Q.L V.a/\V.a<=146/\V.Q.L.length=200/\V.K<=400/\V.G.st+V.G.len<=V.T.st/\V.T.st+V.T.len<=V.a/\Q7 w' b22 [ptr V.d 0,ptr V.Q.s 0,ptr V.G.k 0,ptr V.T.k 0,I ((200-V.a:Nat):Int)] 30/\we.heap.size<=b22) ?ko$ λko=>?Ir
         case ko=>
          rintro e' wf ⟨V,XV,b22,rfl,rM,iw,tO,OD,wX,Kq,Kr,nz,PJ,PK,PL,In,gF,OE⟩;have fk:=z55 AG rM iw (λb hb=> .inl (tO b hb)) OD ⟨ge _ lG1,ge _ lU1⟩;have zf:=rM.size;refine QS O$ RA O$ Qp O$ qV ((T7 O)) ?_;rw[show(!true)=false from rfl];refine QY O$ Qp O$ Qk zi9 O (fk) ?_;rintro _ wg ⟨rfl,Io,Ip⟩;refine RA O ?_;have pF:=Ip.PN gF (λe=>by omega);have zg:=Ip.size;refine QY O$ Re O$ qN O$ Qd z2P O$ qV (PX Y1 O O pF O)$ Qd z82 O$ qV (PX YV O O pF O)$ Qd z7m O$ qV (PX YV O O pF O)$ Qk zgL O (z0E Io ω (by rw[wX];omega) (by rw[wX];exact az) (by rw[wX];exact Kq) Kr ω In ω) ?_;rintro _ wh ⟨r',O',txth,rfl,OF,Ks,-,kq⟩;have zh:=kq.size;rw[wX] at Ks;have sy:=z6M Ks (by rw[wX];exact .new gQ) (by rw[wX];exact tt) ω ω;refine Q4 O$ TK O$ TN O$ RZ O$ RA O$ Qp O$ Q4 O$ Qk zmc O (sy) ?_;rintro _ wi ⟨rfl,⟨txti,lw,-⟩,qp⟩;refine RA O$ QY O$ Re O$ PM$ St O$ R7 O$ Qc O ?_;have Iq:∀b,P b->V.x XV b:=λb hb=>tO b (by have:=H2 b hb;omega);have Kt:∀b,P b->¬O' b:=λb hb e=>by have:=H2 b hb;have:=OF b e;omega
          have BV:SrM P g r' (TO g (R0 g) j') wi:=⟨V.G,V.T,_,txti,_,_,O',V.a,lw,wX,Kq,λb hb=>⟨.inl (.inl (Iq b hb)),Kt b hb⟩,Kr.a2,by show V.a+3<=(Rn V.Q.L V.a 3 true).length;rw[R5 ω];omega,λi e1 e2=>by
           show(Rn V.Q.L V.a 3 true)[i]? =some true
           rw[Su ω,if_pos ⟨e1,e2⟩],ω⟩
          have BO:Kp (λb=>¬P b) w9 wi:=(((wW.trans rM.kp).trans (Ip.PU λb e=>e.1)).trans (kq.PU λb e e2=>e (.inl (Iq b e2)))).trans (qp.PU λb e e2=>e.elim (λe=>e (.inl (.inl (Iq b e2)))) (Kt b e2));exact(ih ((j',r'),i+1) _ ⟨BJ,BV,BO,by show i+1<=10;omega,by show i+1<=ls.length;omega⟩ (by show 12-(i+1)<12-i;omega)).qb
         case Ir=>
          have ao:=Ext.Qh we;have bJ:=ao.size;refine Qn [16] (λw'=>Ext we w') (by kernel_rfl) O$ R1 0 O O (ao)$ R1 1 O O (ao)$ R1 2 O O (ao)$ Qs 3 O (Rh U42 zga O O ω) ao$ Qs 4 O (Qz zg9 O) ao$ R1 6 O O (ao)$ R1 7 O O (ao)$ Qs 8 O (Rh U42 zga O O ω) ao$ Qs 9 O (Qz zgc O) ao$ qL 5 O (λ_ h=>QF U3 O O (Rw h gS)) ao$ qL 10 O (λ_ h=>QF U3 O O (Rw h g7)) ao$ XN (i:=11) (j:=15) (by kernel_rfl) ?_ ?_
          ·refine SW (i:=11) O O O (yc cf8 O) (z2p az aT ff ((wU.ext iv).ext ao) (ao.PN (iv.PN xL)) (ao.PN (iv.PN xM)) e.2.1 e.2.2 b2 b3) ?_;rintro _ wl ⟨V,XV,rfl,hV,bR,tO,Is,Iu,Iv,Iw⟩;refine⟨ao.trans bR,?_⟩;have iw:=hV.gw2;have Ix:we.heap.size<=V.G.k/\we.heap.size<=V.G.x/\we.heap.size<=V.T.k/\we.heap.size<=V.T.x:=⟨ω,ω,ω,ω⟩;have wY:∀b,b<we.heap.size->V.x XV b:=λb hb=>tO b ω
           try have BP:Wc V.G V.T V.Q V.txt V.K (λb=>V.x XV b\/b=b26) wl:=iw.less (λj e=>e.elim id λe=>by subst e;exact tO _ cL.lt) ⟨.inl iw.xk.1,.inl iw.xk.2.1,.inl iw.xk.2.2.1,.inl iw.xk.2.2.2.1,.inl iw.xk.2.2.2.2.1,.inl iw.xk.2.2.2.2.2⟩
           try have et:b26≠V.G.k/\b26≠V.G.x/\b26≠V.T.k/\b26≠V.T.x:=by have:=cL.lt;exact⟨ω,ω,ω,ω⟩
           have ao:=ao.trans bR;have bJ:=Nat.le_trans bJ bR.size
           try have cL:=bR.PN cL
           refine R1 12 O O ao$ Qs 13 O (Sz O O) ao$ Rm (i:=14) O (by kernel_rfl) O O (λ_=>Sz O O) ao$ Sc (i:=15) (by kernel_rfl)$ Ru (i:=15) O O O (SE (cs:=[_,_,_,_,_]) z0f O) ?_;rintro _ wa2 ⟨b26,rfl,Iy,sr,cL⟩;refine⟨ao.trans sr,?_⟩;have wZ:we.heap.size<=b26:=by omega
           try have BP:Wc V.G V.T V.Q V.txt V.K (λb=>V.x XV b\/b=b26) wa2:=iw.grow sr (λj e=>e.imp id λe=>by have:=cL.lt;omega) (λj e=> .inl e)
           try have et:b26≠V.G.k/\b26≠V.G.x/\b26≠V.T.k/\b26≠V.T.x:=by have:=iw.far b26 ω;exact⟨this.1,this.2.1,this.2.2.1,this.2.2.2.1⟩
           have ao:=ao.trans sr;have bJ:=Nat.le_trans bJ sr.size;refine Ut [16]$ qO 16$ QO (i:=16) O O (QT (news:=V.v) z0f O O O O cL ξ) ?_;rintro ws ⟨j0,dp⟩;refine⟨trivial,?_⟩;refine PT 17 O (Sv O) trivial$ qE ?_;have x7:=BP.own dp (λj e=>by subst e;exact⟨.inr O,et.1,et.2.1,et.2.2.1,et.2.2.2,ω,ω⟩);exact(ko _ _ ⟨V,XV,b26,rfl,ao.It dp (λj e=>by omega),x7,wY,Ix,hV.gg,hV.tg,hV.pre,hV.a,hV.L,hV.K,hV.gs,hV.ts,j0,wZ⟩).qb
          ·refine Ru (i:=15) O O O (SE (cs:=[_,_,_,_,_]) z0f O) ?_;rintro _ wa2 ⟨b26,rfl,Iy,sr,cL⟩;refine⟨ao.trans sr,?_⟩;have wZ:we.heap.size<=b26:=by omega
           try have BP:Wc V.G V.T V.Q V.txt V.K (λb=>V.x XV b\/b=b26) wa2:=iw.grow sr (λj e=>e.imp id λe=>by have:=cL.lt;omega) (λj e=> .inl e)
           try have et:b26≠V.G.k/\b26≠V.G.x/\b26≠V.T.k/\b26≠V.T.x:=by have:=iw.far b26 ω;exact⟨this.1,this.2.1,this.2.2.1,this.2.2.2.1⟩
           have ao:=ao.trans sr;have bJ:=Nat.le_trans bJ sr.size;refine Sc (i:=11) (by kernel_rfl)$ SW (i:=11) O O O (yc cf8 O) (z2p az aT ff ((wU.ext iv).ext ao) (ao.PN (iv.PN xL)) (ao.PN (iv.PN xM)) e.2.1 e.2.2 b2 b3) ?_;rintro _ wl ⟨V,XV,rfl,hV,bR,tO,Is,Iu,Iv,Iw⟩;refine⟨ao.trans bR,?_⟩;have iw:=hV.gw2;have Ix:we.heap.size<=V.G.k/\we.heap.size<=V.G.x/\we.heap.size<=V.T.k/\we.heap.size<=V.T.x:=⟨ω,ω,ω,ω⟩;have wY:∀b,b<we.heap.size->V.x XV b:=λb hb=>tO b ω
           try have BP:Wc V.G V.T V.Q V.txt V.K (λb=>V.x XV b\/b=b26) wl:=iw.less (λj e=>e.elim id λe=>by subst e;exact tO _ cL.lt) ⟨.inl iw.xk.1,.inl iw.xk.2.1,.inl iw.xk.2.2.1,.inl iw.xk.2.2.2.1,.inl iw.xk.2.2.2.2.1,.inl iw.xk.2.2.2.2.2⟩
           try have et:b26≠V.G.k/\b26≠V.G.x/\b26≠V.T.k/\b26≠V.T.x:=by have:=cL.lt;exact⟨ω,ω,ω,ω⟩
           have ao:=ao.trans bR;have bJ:=Nat.le_trans bJ bR.size
           try have cL:=bR.PN cL
           refine R1 12 O O ao$ Qs 13 O (Sz O O) ao$ Rm (i:=14) O (by kernel_rfl) O O (λ_=>Sz O O) ao$ Ut [16]$ qO 16$ QO (i:=16) O O (QT (news:=V.v) z0f O O O O cL ξ) ?_;rintro ws ⟨j0,dp⟩;refine⟨trivial,?_⟩;refine PT 17 O (Sv O) trivial$ qE ?_;have x7:=BP.own dp (λj e=>by subst e;exact⟨.inr O,et.1,et.2.1,et.2.2.1,et.2.2.2,ω,ω⟩);exact(ko _ _ ⟨V,XV,b26,rfl,ao.It dp (λj e=>by omega),x7,wY,Ix,hV.gg,hV.tg,hV.pre,hV.a,hV.L,hV.K,hV.gs,hV.ts,j0,wZ⟩).qb
      case iM =>
       refine SK (α:=Nat×Bool) ((0,false)) (λy=>[(2,.slice la ls.length lc),(7,.slice (some ⟨bg,0,none⟩) g.length g.length),(10,.slice (some ⟨gb,0,none⟩) g.length gc),(11,I (k:Int)),(12,ptr rr 0),(14,.bool y.2),(15,I (i:Int)),(16,I (q:Int)),(17,I (y.1:Int))]) (λy w'=>j+y.1<=k/\y.1<=q/\(TO g (R0 g) (j+y.1)).done=y.2/\SrM P g rr (TO g (R0 g) (j+y.1)) w'/\Kp (λb=>¬P b) w9 w') (λy=>q-y.1) ?hI ?hround
       case hI=>exact⟨hj,Nat.zero_le _,hd,qv,aW⟩
       case hround =>
        rintro⟨p,bf⟩ wd ⟨Iz,EX,x8,dh,x9⟩ ih2;dsimp only at Iz EX x8 dh ih2⊢
        try dsimp only
        refine An$ RI O ?_;by_cases h1:p<q
        ·refine RT O$ SM$ Qp O ?_
         cases bf with
         | true =>
           refine qV ((T7 O))$ Sa O$ PQ$ PZ O$ Q5 O ?_
           exact(cz _ _ ⟨j+p,by rw[x8],Iz,dh,x9,.inl x8⟩).qb
         | false =>
           refine qV ((T7 O)) ?_;have fJ:=W7 (g:=g) (t:=R0 g) (j+p);refine Sa O$ PQ$ Qa O$ PR$ RP$ Qx O$ Qk zko O (z6V dh (z0t gQ _) x8 ω) ?_;rintro _ we ⟨rfl,AG,wV⟩;refine Q4 O$ TK O$ Rt O$ QS O$ RA O$ Re O$ St O$ Qc O$ PM$ St O$ R7 O$ Qc O ?_
           have aR:j+p<k:=by
            rcases Nat.lt_or_ge (j+p) k with h| h
            ·exact h
            ·have:j+p=k:=by omega
             rw[this,rq.d] at x8;cases x8
           exact(ih2 (p+1,_) _ ⟨by show j+(p+1)<=k;omega,by show p+1<=q;omega,rfl,AG,x9.trans wV⟩ (by show q-(p+1)<q-p;omega)).qb
        ·refine RT O$ QW$ Q4 O$ S6$ QY O$ PQ$ PZ O$ Q5 O ?_;exact(cz _ _ ⟨j+p,by rw[x8],Iz,dh,x9,mA.elim .inr λh=>by omega⟩).qb
     case dU=>
      refine RI O$ SR U42 O ?_;by_cases h1:i<ls.length
      ·refine RT O$ SM$ Qp O ?_;by_cases h2:i<10
       ·refine RT O$ SM ?_;obtain⟨e,he⟩:∃e,ls[i]? =some e:=⟨_,List.getElem?_eq_getElem h1⟩;obtain⟨b1,-,-,lb,lo,rfl,sA,-,-⟩:=(ub.ext (ma aW)) i e he;have r1:=VP e.1 4 ψ;have r2:=Yn e.1 4 ψ;refine Sa O$ PQ$ Qa O$ PW O$ Qp O$ qV (Rh U42 zga O O ω)$ Qd zgd O$ qV (QF U3 O O sA)$ qV (yrt O O ψ)$ R7 O$ qV (yrt O O ψ) ?_;rw[show(e.1.tmod 4+4).tmod 4=nrm e.1 4 from rfl];obtain⟨q,hq,cK⟩:∃q:Nat,nrm e.1 4=(q:Int)/\q<4:=⟨(nrm e.1 4).toNat,ω,ω⟩;rw[hq];refine Qc O ?_;exact(aq _ _ ⟨q,rfl,ω,.inl ⟨h1,h2⟩,rfl⟩).qb
       ·refine RT O$ QW$ Sa O$ Re O ?_;exact(aq _ _ ⟨M,rfl,rH,.inr iY,rfl⟩).qb
      ·refine RT O$ QW$ Q4 O$ S6$ QY O$ Re O ?_;exact(aq _ _ ⟨M,rfl,rH,.inr iY,rfl⟩).qb
end Go.Proofs.YtffbidffdbpcoaaGreatDoor
namespace Go.Proofs.YtffbidffdbpcoaaGreatDoor
open Go Go.ChangeShapes Go.WideShapes Go.ChangeAt Go.RowKit Go.Proofs.Tryz
def z0Q (P:Program)(ts:List TypeId):Bool:=ts.all λt=>P.readableRec t&&decide (t<P.types.size)
def YP {H:Type}{enc:TypeId×Value->H}{P:Program}(hl:laidOutB P=true){W W':World}(hb:Below W.heap.size W W'):
  ∀ {ts : List TypeId} {vs : List Value} {ds : List (DataW H)} {ps : List MemPlace}, z0Q P ts = true -> DataW.TrodAll enc P W 0 (λ_ => true) true ts vs ds ps ->
    DataW.TrodAll enc P W' 0 (λb=>decide (b<W.heap.size)) true ts vs ds ps
 |[],[],[],_,_,h=>h
 | t :: ts, v :: vs, d :: ds, _, hr, h => by
   obtain⟨p,q,h1,h2,rfl⟩:=h;simp only[z0Q,List.all_cons,Bool.and_eq_true,decide_eq_true_eq] at hr
   exact⟨p,q,Below.trod hl hr.1.1 hr.1.2 h1 hb (by obtain⟨m,hm⟩:=h1;exact DataW.trod_lt m _ _ _ hm),YP hl hb hr.2 h2,rfl⟩
 |[],[],_::_,_,_,h=>h.elim
 |[],_::_,_,_,_,h=>h.elim
 |_::_,[],_,_,_,h=>h.elim
 |_::_,_::_,[],_,_,h=>h.elim
def z0Y {H:Type}{enc:TypeId×Value->H}{P:Program}{W:World}{base:Nat}{spare:Nat->Bool}{held:Bool}:
  ∀{ts:List TypeId} {vs:List Value} {ds:List (DataW H)} {ps:List MemPlace},DataW.TrodAll enc P W base spare held ts vs ds ps->ds.length=ts.length
 |[],[],[],_,_=>rfl
 | t :: ts, v :: vs, d :: ds, _, h => by
   obtain⟨p,q,h1,h2,rfl⟩:=h
   simpa using z0Y h2
 |[],[],_::_,_,h=>h.elim
 |[],_::_,_,_,h=>h.elim
 |_::_,[],_,_,h=>h.elim
 |_::_,_::_,[],_,h=>h.elim
def own:ownKnob prog.godebug=none:=by kernel_rfl
def laidOut:laidOutB prog=true:=by kernel_rfl
open Go.Deep
section
variable {H:Type}{enc:TypeId×Value->H}{W:World}{sp:Nat->Bool}
def zcw (n:Int)(h:(Lit.int .u32 n).wf=true):Value.int .u32 n=QJ n.toNat/\n.toNat<4294967296:=by
 simp[Lit.wf,IntKind.min,IntKind.max,IntKind.signed,IntKind.bits] at h
 exact⟨by unfold QJ;congr;omega,ω⟩
def i64_in (n:Int)(h:(Lit.int .i64 n).wf=true):JIq n:=by
 simp[Lit.wf,IntKind.min,IntKind.max,IntKind.signed,IntKind.bits] at h;omega
def z3D {w:World}{b off:Nat}{spot:Option Nat}{v:Value}(h:w.cell? ⟨b,off,spot⟩=some v):spot=none:=by
 unfold World.cell? at h
 split at h
 ·cases spot with
  |none=>rfl
  |some s=>simp at h
 ·cases h
def open_edges {fuel:Nat}{v:Value}{x:DataW H×List MemPlace}(h:DataW.trod enc prog W 0 sp true fuel 22 [v]=some x)(hw:∀n∈x.1.weights prog 22,n<=reachBytes):∃(ea:Option Addr) (ec:Nat) (es:List (Nat×Nat)),v= .slice ea es.length ec/\EdR W ea es/\es.length<=9000000000000000000:=by
 rcases open_slice_pairs U22 U61 (by kernel_rfl) O O (by kernel_rfl) (by kernel_rfl) h with⟨hv,hx⟩|⟨a,len,cap,m,n,V0,V1,D0,D1,P0,P1,hv,-,hl,hm,Ci,hx,pG⟩
 ·cases hv;exact⟨none,0,[],rfl,λi e he=>by simp at he,ξ⟩
 ·cases hv;have fF:maxLen=9223372036854775807:=rfl;have i7:len<=m:=by rw[Ci];split<;>omega
  have hk:∀i,i<len->∃e:Nat×Nat,e.1<4294967296/\e.2<4294967296/\W.cell? (a.add (i*2))=some (QJ e.1)/\W.cell? (a.add (i*2+1))=some (QJ e.2):=λi hi=>by
   obtain⟨c0,c1,h0,h1⟩:=pG i ω;obtain⟨n0,e0,-,f0⟩:=DataW.trod_int RQ h0;obtain⟨n1,e1,-,f1⟩:=DataW.trod_int RQ h1;have e0:V0 i= .int .u32 n0:=by simpa using e0
   have e1:V1 i= .int .u32 n1:=by simpa using e1
   obtain⟨q0,b0⟩:=zcw n0 f0;obtain⟨q1,b1⟩:=zcw n1 f1;exact⟨(n0.toNat,n1.toNat),b0,b1,by rw[c0,e0,q0],by rw[c1,e1,q1]⟩
  obtain⟨E,hE⟩:∃E:Nat->Nat×Nat,∀i,i<len->(E i).1<4294967296/\(E i).2<4294967296/\W.cell? (a.add (i*2))=some (QJ (E i).1)/\W.cell? (a.add (i*2+1))=some (QJ (E i).2):=
   choose_lt (α:=Nat×Nat) (n:=len) (p:=λi e=>e.1<4294967296/\e.2<4294967296/\W.cell? (a.add (i*2))=some (QJ e.1)/\W.cell? (a.add (i*2+1))=some (QJ e.2)) hk
  refine⟨some a,cap,(List.range len).map E,ξ,λi e he=>?_,?_⟩
  ·rw[List.getElem?_map] at he;rcases Nat.lt_or_ge i len with hi|hi
   ·rw[List.getElem?_range hi] at he;obtain rfl:=SH he;obtain⟨g1,g2,g3,g4⟩:=hE i hi;obtain⟨b,off,spot⟩:=a;have h3:=(hE 0 ω).2.2.1;rw[Nat.zero_mul] at h3;simp only[Addr.add,if_true] at h3;obtain rfl:=z3D h3;rw[Sh] at g3 g4;exact⟨g1,g2,b,off,rfl,g3,by rw[Nat.add_assoc];exact g4⟩
   ·rw[List.getElem?_eq_none (by simpa using hi)] at he;cases he
  ·have qf:=hw ((len+(m-len))*8) (by rw[hx];simp[DataW.weights,U22,show prog.bytesOf 61=8 by kernel_rfl]);simp[reachBytes] at qf;simp;omega
end
section
variable {H:Type}{enc:TypeId×Value->H}{W:World}{sp:Nat->Bool}
def zac {fuel:Nat}{cs:List Value}{x:DataW H×List MemPlace}(h:DataW.trod enc prog W 0 sp true fuel 48 cs=some x):∃e:Int×Int×Int,cs=[I e.1,I e.2.1,I e.2.2]/\JIq e.1/\JIq e.2.1/\(JIq e.2.2):=by
 obtain⟨xs,n,-,hx,hl,hlen,hf⟩:=DataW.trod_struct underlying48 h
 rw[show prog.cellsOf 48=3 by kernel_rfl] at hl
 match xs,hlen with
 |[y0,y1,y2],_=>
 match cs,hl with
 | [c0, c1, c2], _ =>
   have hc:prog.cellsOf 3=1:=by kernel_rfl
   have t0:=hf 0 _ O;have t1:=hf 1 _ O;have t2:=hf 2 _ O;obtain⟨n0,e0,-,w0⟩:=DataW.trod_int underlying3 t0;obtain⟨n1,e1,-,w1⟩:=DataW.trod_int underlying3 t1;obtain⟨n2,e2,-,w2⟩:=DataW.trod_int underlying3 t2;obtain rfl:c0=I n0:=by simpa[hc] using e0
   obtain rfl:c1=I n1:=by simpa[hc] using e1
   obtain rfl:c2=I n2:=by simpa[hc] using e2
   exact⟨(n0,n1,n2),rfl,i64_in _ w0,i64_in _ w1,i64_in _ w2⟩
def open_stops {fuel:Nat}{v:Value}{x:DataW H×List MemPlace}(h:DataW.trod enc prog W 0 sp true fuel 42 [v]=some x)(hw:∀n∈x.1.weights prog 42,n<=reachBytes):∃(la:Option Addr) (lc:Nat) (ls:List (Int×Int×Int)),v= .slice la ls.length lc/\z5f W la ls/\ls.length<=9000000000000000000:=by
 rcases open_slice underlying42 h with⟨hv,hx⟩|⟨a,len,cap,m,n,D,Pl,hv,-,hl,hm,hmm,hx,hel⟩
 ·cases hv;exact⟨none,0,[],rfl,λi e he=>by simp at he,ξ⟩
 ·cases hv;rw[show prog.cellsOf 48=3 by kernel_rfl] at hel;have hlm:len<=m:=by rw[hmm];split<;>omega
  have hk:∀i,i<len->∃e:Int×Int×Int,JIq e.1/\JIq e.2.1/\JIq e.2.2/\W.cells? 0 (a.add (i*3)) 3=some [I e.1,I e.2.1,I e.2.2]:=λi hi=>by
   obtain⟨cs',c1,c2⟩:=hel i ω;obtain⟨e,rfl,b1,b2,b3⟩:=zac c2;exact⟨e,b1,b2,b3,c1⟩
  obtain⟨E,hE⟩:=choose_lt (α:=Int×Int×Int) (n:=len) (p:=λi e=>JIq e.1/\JIq e.2.1/\JIq e.2.2/\W.cells? 0 (a.add (i*3)) 3=some [I e.1,I e.2.1,I e.2.2]) hk;refine⟨some a,cap,(List.range len).map E,ξ,λi e he=>?_,?_⟩
  ·rw[List.getElem?_map] at he;rcases Nat.lt_or_ge i len with hi|hi
   ·rw[List.getElem?_range hi] at he;obtain rfl:=Option.some.inj he;obtain⟨g1,g2,g3,g4⟩:=hE i hi;obtain⟨b,off,spot⟩:=a;have h0:=(hE 0 ω).2.2.2;obtain⟨-,-,h3⟩:=World.cells?_some h0;have h3:=h3 0 ψ;rw[Nat.zero_mul] at h3;simp only[Addr.add,if_true] at h3;obtain rfl:=z3D h3;obtain⟨-,-,h4⟩:=World.cells?_some g4;have k0:=h4 0 ψ;have k1:=h4 1 ψ;have k2:=h4 2 ψ;rw[Sh,Sh] at k0 k1 k2;exact⟨g1,g2,g3,b,off,rfl,k0,k1,k2⟩
   ·rw[List.getElem?_eq_none (by simpa using hi)] at he;cases he
  ·have hwt:=hw ((len+(m-len))*24) (by rw[hx];simp[DataW.weights,underlying42,show prog.bytesOf 48=24 by kernel_rfl]);simp[reachBytes] at hwt;simp;omega
end
def law_lifted_tied {H:Type}{enc:TypeId×Value->H}{C:Checked}{os:Os}{f:FuncId}{fn:Func}{s:ChangeSpec}{t:TypeId}{ts:List TypeId}{laid:List (String×DataW Unit)}
  (own:ownKnob C.prog.godebug=none) (started:os.Started) (hl:laidOutB C.prog=true) (noInit:C.prog.inits.idxOf? f=none) (hfn:C.prog.funcs[f]? =some fn)
  (hts:fn.params.toList=ts) (hrd:z0Q C.prog ts=true) (hrt:fn.resultTypes=#[t]) (hb:C.prog.underlying t=some .bool) (hsv:s.vars=[])
  (hpl:(laid.all λx=>x.2.handleName?.isNone)=true)
  (hspec:∀ds:List (DataW H),ds.length=ts.length->s.fn H ds={results:=[.lit (.bool true)],args:=ds})
  (witness:∃(w:World) (tape:Tape) (i:Input),w.os=os/\(w.forCall tape i).Shaped C.prog/\i.vars=[]/\Input.okWide C.prog (w.forCall tape i) .any w.heap.size f i/\
   ((s.pre enc C.prog fn [] false (w.forCall tape i).memory i.args/\laidMetH C.prog laid (w.forCall tape i).memory)/\sizedMet enc C.prog fn (OpenSpec.ofChange s) false (w.forCall tape i).memory i.args)/\({}:Assume).holds C.prog (lone (Frame.enter C.prog f i.args .normal) [] (w.forCall tape i)))
  (hret:∀(W:World) (base:Nat) (args:List Value) (ds:List (DataW H)) (ps:List MemPlace),W.ShapedOpen C.prog->laidMet C.prog laid W->
   (∀(j:Nat) t v,ts[j]? =some t->args[j]? =some v->Value.okWide C.prog W .any base t v)->
   DataW.TrodAll enc C.prog W 0 (λ_=>true) true ts args ds ps->W.noneFrozen ps->
   (DataW.weightsEach C.prog ts ds).all (·<=reachBytes)=true->
   Qu C.prog f args W λv w'=>v= .bool true/\Ext W w'):
  ReturnsInHanded {} C os f .any (λw args=>(s.pre enc C.prog fn [] false w args/\laidMetH C.prog laid w)/\sizedMet enc C.prog fn (OpenSpec.ofChange s) false w args) (s.post enc C.prog fn false true false false):=by
 refine returnsInHanded_of_calls own started noInit witness ?_
 intro w tape i _ hsh _ hok hpre hholds
 obtain⟨_,_,_,fn',hfn',_,_,_,_,hval⟩:=hok
 have e:fn'=fn:=Option.some.inj (hfn'.symm.trans hfn)
 subst e
 obtain⟨⟨⟨ds,gs,before,hw,hc⟩,hx⟩,hz⟩:=hpre
 have hW:=DataW.Whole.of_heap (w':=w.forCall tape i) (by rfl) hw
 have hW':=hW
 have hsz0:(DataW.weightsEach C.prog (fn'.params.toList++s.plain.varTypes C.prog) (ds++gs)).all (·<=reachBytes)=true:=hz.weights hw
 obtain⟨p,q,hA,hV,rfl,hfz,_⟩:=hW
 rw[hsv] at hV
 obtain⟨rfl,rfl⟩:=trodVars_none hV
 rw[hts] at hA
 have hlen:=z0Y hA
 have hsz:(DataW.weightsEach C.prog ts ds).all (·<=reachBytes)=true:=by
  have hv:s.plain.varTypes C.prog=[]:=by simp[ChangeSpec.plain,DataSpec.varTypes,hsv]
  rw[hts,hv,List.append_nil,List.append_nil] at hsz0;exact hsz0
 have hL:laidMet C.prog laid (w.forCall tape i):=by
  rw[MakeChecks.laidMetH_plain _ _ _ hpl] at hx;exact hx.of_heap (by rfl)
 have hr:=hret _ w.heap.size i.args.toList ds p hsh hL (λj t v h1 h2=>hval j t v (by rw[<-hts] at h1;simpa using h1) (by simpa using h2)) hA (by rw[List.append_nil] at hfz;exact hfz) hsz
 unfold Qu at hr;rw[Array.toArray_toList] at hr
 refine Calls.mono hr λx W' ⟨v,hx,hv,hext⟩=>?_
 subst hx;subst hv
 have bel:=hext.below
 refine ChangeSpec.post_blind ⟨ds,[],p++[],[],p,[],hW',?_,?_,?_,bel.frame _,λh=>by cases h⟩
 ·rw[List.append_nil,hspec ds hlen,hrt];exact trodAll_mk1 (shut_bool hb _)
 ·rw[List.append_nil,hspec ds hlen,hts];exact YP hl bel hrd hA
 ·rw[hsv,List.append_nil,hspec ds hlen]
  rfl
def pair_cells {P:Program}{W:World}{t fuel:Nat}{cs:Array Value}{f0 f1:Field}{ka kb:IntKind}{a b:Int}{p:List MemPlace}(hs:P.underlying t=some (.struct #[f0,f1]))(hc:P.cellsOf t=2)(o0:f0.offset=0)(o1:f1.offset=1)
  (c0:P.cellsOf f0.type=1) (c1:P.cellsOf f1.type=1) (u0:P.underlying f0.type=some (.int ka)) (u1:P.underlying f1.type=some (.int kb))
  (hd:DataW.trod (λ_=>()) P W 0 (λ_=>true) false fuel t cs.toList=some (.agg [.lit (.int ka a),.lit (.int kb b)],p)):cs.toList=[.int ka a,.int kb b]:=by
 obtain⟨y0,y1,n,hx,hl,h0,h1⟩:=trod_struct2 hs hd
 obtain⟨v0,e0,rfl,-⟩:=DataW.trod_int u0 h0
 obtain⟨v1,e1,rfl,-⟩:=DataW.trod_int u1 h1
 rw[hc] at hl
 rw[o0,c0] at e0
 rw[o1,c1] at e1
 simp at hx
 obtain⟨⟨rfl,rfl⟩,-⟩:=hx
 match hcs:cs.toList,hl with
 | [x, y], _ =>
   rw[hcs] at e0 e1;simp at e0 e1;rw[e0,e1]
def z8F {P:Program}{W:World}{n:String}{g T:Nat}{cs:Array Value}{l:List Value}(hW:W.ShapedOpen P)(hgs:g<P.globals.size)(hz:(((begin P (λ_ _=>0) default).world.heap[g]?).bind Obj.row?).map (·.2)=some T)(hg:P.globalNamed n=some g)(hv:W.var? P n=some cs)(hcs:cs.toList=l):Q7 W g l T:=by
 cases hr:((begin P (λ_ _=>0) default).world.heap[g]?).bind Obj.row? with
 |none=>rw[hr] at hz;cases hz
 | some x =>
   obtain⟨z,t⟩:=x;rw[hr] at hz;obtain rfl:t=T:=Option.some.inj hz;obtain⟨c,hh,-,-⟩:=hW.1 g z t hgs hr;simp only[World.var?,hg,Option.bind_some,hh] at hv;have hc:c=cs:=by simpa using hv
   subst hc;refine⟨(0,0),by rw[hh,<-hcs],λi _ e=>by simp at e⟩
def laid_two {W:World}{laid:List (String×DataW Unit)}(hlaid:laid=[("wattle/list.gamma",.agg [.lit (.int .u8 1),.lit (.int .u64 0)]),("wattle/list.unary",.agg [.lit (.int .u8 0),.lit (.int .u64 0)])])(hW:W.ShapedOpen prog)(h:laidMet prog laid W):Q7 W 1 [.int .u8 1,.int .u64 0] 294/\Q7 W 2 [.int .u8 0,.int .u64 0] 294:=by
 subst hlaid
 obtain⟨ps,hL,-,hB⟩:=h
 obtain⟨g0,t0,cs0,fuel0,p0,q0,hg0,ht0,hv0,hd0,hL,hps⟩:=hL
 obtain⟨g1,t1,cs1,fuel1,p1,q1,hg1,ht1,hv1,hd1,hL,hqs⟩:=hL
 obtain rfl:=Option.some.inj ((show prog.globalNamed "wattle/list.gamma"=some 1 by kernel_rfl).symm.trans hg0)
 obtain rfl:=Option.some.inj ((show prog.globalNamed "wattle/list.unary"=some 2 by kernel_rfl).symm.trans hg1)
 obtain rfl:=Option.some.inj ((show(prog.globals[1]?).map (·.type)=some 294 by kernel_rfl).symm.trans ht0)
 obtain rfl:=Option.some.inj ((show(prog.globals[2]?).map (·.type)=some 294 by kernel_rfl).symm.trans ht1)
 have e0:=pair_cells underlying294 (by kernel_rfl) O O (by kernel_rfl) (by kernel_rfl) underlying5 underlying39 hd0
 have e1:=pair_cells underlying294 (by kernel_rfl) O O (by kernel_rfl) (by kernel_rfl) underlying5 underlying39 hd1
 exact⟨z8F hW (show 1<prog.globals.size from of_decide_eq_true (by kernel_rfl)) (by kernel_rfl) hg0 hv0 e0,z8F hW (show 2<prog.globals.size from of_decide_eq_true (by kernel_rfl)) (by kernel_rfl) hg1 hv1 e1⟩
noncomputable def limWorld (os:Os):World:=
 let w0:=World.holding prog os ⟨#[],#[],[]⟩
 { w0 with heap := w0.heap.modify 1 fun
   | .cells _ t frozen=> .cells #[.int .u8 1,.int .u64 0] t frozen
   |o=>o}
end Go.Proofs.YtffbidffdbpcoaaGreatDoor
