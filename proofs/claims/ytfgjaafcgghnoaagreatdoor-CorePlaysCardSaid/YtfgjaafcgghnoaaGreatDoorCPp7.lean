/- Merged by program. -/
import Derived.Test.YtfgjaafcgghnoaaGreatDoorCPp6
import Derived.Shelf.Strings.Repeat
import Derived.Test.YtfgjaafcgghnoaaGreatDoorProg
import Derived.Room.AppendFits
import Derived.Lib.UnsafeStr
set_option linter.all false
set_option maxRecDepth 1000000
set_option maxHeartbeats 16000000
namespace Go.Proofs.YtfgjaafcgghnoaaGreatDoor
open Go Go.RowKit Go.Proofs.Tryz
section
variable {w w' w0:World}{P P0 P':Qn}{S':Nat->Prop}{txt:Int->NH}{K:Nat}
theorem z7V {b x:Nat}{t:NH}{d:Bool}{x0:Value}(eX:b≠x)(hb:NM w b (pgC t d) 219)(hx:NM w x [x0] 9):Oa prog 111 [ptr b 0,ptr x 0] w λv w2=>v= .tuple #[]/\NM w2 b (pgC t d) 219/\NM w2 x [S t] 9/\Kp (λj=>j=x) w w2:=by
 replace hb:NM w b [S t,.bool d,I 0] 219:=hb
 refine Nu (e:=[(0,_),(1,_)]) func111 O ntmps111 O O$ NC O$ Nz O$ O8 O$ NO Ut O$ NO z1S O$ qV (NJ U9 O O hb O)$ NP O (PA ti9 O O O hx (by simp)) ?_
 rintro w1 ⟨ad,aM⟩
 refine NB$ Pq func111 O ?_
 exact⟨_,rfl,rfl,aM.ND hb eX,ad,aM⟩
theorem z4w {b x:Nat}{t s:NH}{d:Bool}(eX:b≠x)(hb:NM w b (pgC t d) 219)(hx:NM w x [S s] 9):Oa prog 112 [ptr b 0,ptr x 0] w λv w2=>v= .tuple #[]/\NM w2 b (pgC s true) 219/\NM w2 x [S s] 9/\Kp (λj=>j=b) w w2:=by
 replace hb:NM w b [S t,.bool d,I 0] 219:=hb
 refine Nu (e:=[(0,_),(1,_)]) func112 O ntmps112 O O$ NC O$ Nz O$ qV (NJ U9 O O hx O)$ qV (QP (cs:=[_,_]) z6u O zgq O O)$ O8 O$ NO Ut O$ NP O (OA (news:=[S s,.bool true]) z6u O O O O hb (by simp)) ?_
 rintro w1 ⟨bN,aM⟩
 refine NB$ Pq func112 O ?_
 exact⟨_,rfl,rfl,bN,aM.ND hx (λe=>eX e.symm),aM⟩
theorem z4N (hm:T2 w P)(hI:UB P txt K)(hK:K<1000000000000){no:Int}(h0:0<=no)(h1:no<(P.L.length:Int)):Oa prog 71 [ptr P.s 0,I no] w λv w'=>v= .tuple #[S (txt no),I 0]/\∃P',SY w P w' P'/\UB P' txt K/\P.Same P':=by
 refine Nu (e:=[(0,_),(1,_)]) func71 O ntmps71 O O$ qN O$ NK O O (Qk (cs:=[_]) ti9 O) ?_
 rintro _ w1 ⟨x,rfl,hx,ad,hB⟩
 have df:=hm.r ad
 have eK:∀i,¬P.cp i x:=hm.new (by omega)
 refine NF O$ py$ qN O$ Nz O$ NZ zce O (Yt df.m hI.down) ?_
 rintro _ w1 ⟨rfl,rfl⟩
 refine NQ O$ qM O$ Nz O$ P3 O O$ NB$ It O$ An$ qN O$ NT O O$ qV (ymf (first:=[]) (caps:=[.tmp 4]) O O)$ NZ zc5 O (Ym df hI hK h0 h1 none (λt e=>by cases e) (by omega) eK hB zfl (λw1 b t d eX hb hx=>z7V eX hb hx)) ?_
 rintro _ w2 ⟨rfl,am,P',dV,cR,dc,zN⟩
 rw[XK] at cR
 replace am:NM w2 x [S (txt no)] 9:=am
 refine NQ O$ qM O$ qV (NJ U9 O O am O)$ Nz O$ NP O (PA ti9 O O O am (by simp)) ?_
 rintro w3 ⟨ar,aw⟩
 replace ar:NM w3 x [S (txt no)] 9:=ar
 refine NF O$ O9 func71 (.cell1 U9 O O ((ar).cell _) (.tmp O .nil)) ?_
 exact⟨_,rfl,rfl,P',dV.loc aw (λj e=>by rw[show j=x from e];exact⟨.inr (by omega),zN⟩),cR,dc⟩
theorem z8f (hm:T2 w P)(hI:UB P txt K)(hK:K<1000000000000){no:Int}(h0:0<=no)(h1:no<(P.L.length:Int))(t:NH)(ht:t.length=512):Oa prog 72 [ptr P.s 0,I no,S t] w λv w'=>v=I 0/\∃P',SY w P w' P'/\UB P' (Xx txt no (some t)) (K+1)/\P.Same P':=by
 refine Nu (e:=[(0,_),(1,_),(2,_)]) func72 O ntmps72 O O$ qN O$ NK O O (PW O (cs:=[S t]) O) ?_
 rintro _ w1 ⟨x,rfl,hx,ad,hB⟩
 have df:=hm.r ad
 have eK:∀i,¬P.cp i x:=hm.new (by omega)
 refine NF O$ py$ qN O$ Nz O$ NZ zce O (Yt df.m hI.down) ?_
 rintro _ w1 ⟨rfl,rfl⟩
 refine NQ O$ qM O$ Nz O$ P3 O O ?_
 have hg:=Ext.NY w1
 refine NB$ It O$ An$ py$ py$ PK (λw'=>Ext w1 w') O$ qT 0 O (λ_ h=>NJ U9 O O (h.ND hB) O) hg$ NG 1 O (SG U9 O) hg$ NX 2 O O (hg)$ Qv 3 O z2s O (ZX (df.m.ext' hg) hI.N) ?_
 rintro _ w2 ⟨rfl,rfl⟩
 refine⟨hg,?_⟩
 refine NG 4 O (yne O O) hg$ S4$ qE$ It O$ An$ qN O$ NT O O$ qV (ymf (first:=[]) (caps:=[.tmp 5]) O O)$ NZ zc5 O (Ym (df.ext hg) hI hK h0 h1 (some t) (λs e=>by cases e;exact ht) (by omega) eK (hg.ND hB) zfq (λw1 b t2 d eX hb hx=>z4w eX hb hx)) ?_
 rintro _ w2 ⟨rfl,am,P',dV,cR,dc,zN⟩
 refine NF O$ NA func72 O ?_
 exact⟨_,rfl,rfl,P',dV,cR,dc⟩
theorem z4c (hm:T2 w P){a n:Nat}(hp:Pre P.L a)(cY:1<=n)(pD:a+n<=P.L.length):Oa prog 57 [ptr P.s 0,I (n:Int)] w λv w'=>v= .tuple #[.agg #[I (a:Int),I (n:Int)],I 0]/\SY w P w' {P with L:=Pf P.L a n true}:=by
 refine Nu (e:=[(0,_),(1,_)]) func57 O ntmps57 O O$ qN O$ NK O O (Qk (cs:=[_,_]) PN O) ?_
 rintro _ w1 ⟨x,rfl,hx,ad,hB⟩
 have df:=hm.r ad
 have eK:∀i,¬P.cp i x:=hm.new (by omega)
 have mA:=df.m.cells
 refine NF O$ py$ qN O$ Nz O$ qV (OP UM O O)$ NB$ It O$ An$ qN O$ Nz O$ O8 O$ NO z2a O$ qV (NJ U48 O O mA O)$ Nz O ?_
 refine NZ zj8 O (z2U df.m.ext hp cY pD) ?_
 rintro _ w2 ⟨rfl,dJ,aq⟩
 have dV:=df.exM dJ aq
 have am:=aq.ND hB (λe=>eK 2 (.inr e))
 refine qV (Q8 (v:= .agg #[I (a:Int),I (n:Int)]) O O)$ qV (Q8 (v:=I 0) O O)$ NP O (OA (news:=[I (a:Int),I (n:Int)]) PN O O O O am (by simp)) ?_
 rintro w3 ⟨ar,aw⟩
 replace ar:NM w3 x [I (a:Int),I (n:Int)] 108:=ar
 refine NF O$ O9 func57 (.cell VQ O PN O (NM.cells (n:=2) ar (news:=[_,_]) O) O (.tmp O .nil)) ?_
 refine⟨_,rfl,rfl,dV.loc aw (λj e=>by
  rw[show j=x from e];refine⟨.inr (by omega),λi e2=>?_⟩
  match i,e2 with
  |0,e2=>exact eK 0 e2
  |1,e2=>exact eK 1 e2
  |2,e2=>exact eK 2 e2
  |3,e2=>exact eK 3 e2
  |4,e2=>exact eK 4 e2
  |5,e2=>exact eK 5 e2)⟩
theorem UB.P5 (h:UB P txt K){L':List Bool}(hl:L'.length=P.L.length):UB {P with L:=L'} txt K:=
 ⟨h.aok,h.asz,h.keys,h.nd,λg hg=>by rw[hl];exact h.rng g hg,h.tx,h.cl,λx h0 h1=>by rw[hl] at h1;exact h.out x h0 h1,λx h0 h1=>by rw[hl] at h1;exact h.len x h0 h1,h.down,h.due,h.B.trans hl.symm,h.N,h.ca,h.cc,h.Rb⟩
theorem z8j {d m gi:Nat}{L:List Bool}{Fd:Nat->Prop}(hd:UJ w d (Dev.fresh L.length 1) Fd)(he:Wb w m gi L)(Bf:¬Fd m/\¬Fd gi)(n:Nat)(cY:1<=n)(jF:n<=1000):Oa prog 29 [ptr d 0,I (n:Int),ptr m 0] w λv w'=>∃P,v= .tuple #[ptr P.s 0,I 0]/\T2 w' P/\UB P (λ_=>zeros 512) 0/\P.m=m/\P.gi=gi/\P.L=L/\(∀b,P.fp b->Fd b\/b=m\/b=gi\/w.heap.size<=b)/\Ext w w':=by
 refine Nu (e:=[(0,_),(1,_),(2,_)]) func29 O ntmps29 O O$ qN O$ NQ O$ NF O$ py$ Nw$ qN O$ Nz O$ qV (OP U27 O O)$ NT O O$ qV (OP U48 O O)$ OC O O$ NF O$ It O ?_
 refine qN O$ Nz O$ Pb O O$ Ox$ NT O O$ P9 O O$ Ox$ OC O O$ NF O$ It O$ An$ Ny$ qN O$ Nz O ?_
 refine NZ zhW O (z9l n cY (by omega) w) ?_
 rintro _ w1 ⟨c,V,p,rfl,kV,iY,ad⟩
 refine Nz O$ qV (Q8 (v:=ptr c 0) O O)$ qV (Q8 (v:=I 0) O O)$ NQ O$ NF O$ Of.qb (e:=[(0,_),(1,_),(2,_),(6,_),(7,_),(8,_),(9,_)]) ?_
 refine py$ qN O$ Nz O$ P3 O O$ NB$ It O$ An$ qN O$ NT O O$ Nz O$ NK O O (pmm) ?_
 rintro _ w2 ⟨pm,rfl,KC,ag,cM⟩
 have mU:Rg KI w2 pm []:=Rg.new cM
 have lpm:=mU.lt
 refine Nz O$ qV (QP (cs:=[_,_,_,_,_,_,_]) z0s O zie O O)$ qV (QP (cs:=[_,_,_,_,_,_,_,_,_,_,_,_]) zhA O zg7 O O)$ NK O O (PW O (cs:=plC ⟨0,d,m,gi,c,pm,p,n,V,Dev.fresh L.length 1,z4h n,[],L,Fd,0,0,0⟩) O) ?_
 rintro _ w3 ⟨s,rfl,hs,ah,ar⟩
 refine NQ O$ NF O$ NA func29 O ?_
 have z1:=ad.size
 have z2:=ag.size
 have cD:=ag.trans ah
 have cI:=ad.trans cD
 have vH:=kV.ext cD
 have EK:∀{b:Nat},Rf c V p b->b<w1.heap.size:=kV.lt
 have EL:=hd.lt
 have ltm:=he.ltm
 have ltg:=he.ltg
 refine⟨_,rfl,⟨s,d,m,gi,c,pm,p,n,V,Dev.fresh L.length 1,z4h n,[],L,Fd,0,0,0⟩,rfl,⟨ar,hd.ext cI,he.ext cI,vH,mU.ext ah,(λg hg=>by cases hg),List.nodup_nil,?_⟩,⟨zbq cY,jF,λx=>?_,List.nodup_nil,(λg hg=>by cases hg),(λg hg=>by cases hg),(λg hg=>by cases hg),λx _ _ _=>rfl,λx _ _=>by simp[zeros],rfl,rfl,rfl,rfl,Int.le_refl _,Nat.le_refl _,Nat.zero_le _⟩,rfl,rfl,rfl,λb ⟨i,hb⟩=>?_,cI⟩
 ·intro i j ne b hb bQ
  have cls:∀i,Qn.cp ⟨s,d,m,gi,c,pm,p,n,V,Dev.fresh L.length 1,z4h n,[],L,Fd,0,0,0⟩ i b->(i=0/\b=s)\/(i=1/\Fd b/\b<w.heap.size)\/(i=2/\(b=m\/b=gi)/\b<w.heap.size)\/(i=3/\w.heap.size<=b/\b<w1.heap.size)\/(i=4/\b=pm):=λi hb=>by
   match i,hb with
   |0,e=>exact .inl ⟨rfl,e⟩
   |1,e=>exact .inr (.inl ⟨rfl,e,EL b e⟩)
   |2,e=>exact .inr (.inr (.inl ⟨rfl,e,by have e':b=m\/b=gi:=e;omega⟩))
   |3,e=>exact .inr (.inr (.inr (.inl ⟨rfl,iY b e,EK e⟩)))
   |4,e=>exact .inr (.inr (.inr (.inr ⟨rfl,e⟩)))
   |5,⟨g,hg,e⟩=>cases hg
  have h1:=cls i hb;have h2:=cls j bQ;rcases h1 with⟨e,h1⟩|⟨e,h1,vG⟩|⟨e,h1,vG⟩|⟨e,h1,vG⟩|⟨e,h1⟩<;>rcases h2 with⟨f,h2⟩|⟨f,h2,HI⟩|⟨f,h2,HI⟩|⟨f,h2,HI⟩|⟨f,h2⟩<;>first|omega|skip
  ·rcases h2 with e| e
   ·exact Bf.1 (e▸h1)
   ·exact Bf.2 (e▸h1)
  ·rcases h1 with e| e
   ·exact Bf.1 (e▸h2)
   ·exact Bf.2 (e▸h2)
 ·constructor
  ·intro e;cases e
  ·intro e;rcases e with e|e<;>cases e
 ·match i,hb with
  |0,e=>exact .inr (.inr (.inr (by have:b=s:=e;omega)))
  |1,e=>exact .inl e
  |2,e=>rcases e with e|e;exact .inr (.inl e);exact .inr (.inr (.inl e))
  |3,e=>exact .inr (.inr (.inr (iY b e)))
  |4,e=>exact .inr (.inr (.inr (by have:b=pm:=e;omega)))
  |5,⟨g,hg,e⟩=>cases hg
end
theorem z8i {l:List (Int×NH)}{n:Int}{t:NH}(h:Ve l n=some t):∃x∈l,x.2=t:=by
 unfold Ve at h
 obtain⟨x,hx,e⟩:=Option.map_eq_some_iff.1 h
 exact⟨x,List.mem_reverse.1 (List.mem_of_find?_eq_some hx),e⟩
theorem Dev.Ok.zb1 {D:Dev}(h:D.Ok)(n:Int):(D.now n).length=512*D.N:=by
 unfold Dev.now
 cases hl:Ve D.cache n with
 |none=>exact h.kept n
 | some t =>
   obtain⟨x,hx,rfl⟩:=z8i hl;exact(h.cache x hx).2.2
section
variable {w w' w0:World}{P P0 P':Qn}{S':Nat->Prop}{txt:Int->NH}{K:Nat}
theorem UB.zhI (h:UB P txt K)(ay:P.D.Ok){k:Int}:UB {P with A:=P.A.drop k,l:=Rj P.l k} (λx=>if x=k then P.D.now k else txt x) K:=by
 have hk:=z0k h.nd k
 have dB:=Ry P.l k
 have bH:=Arc.z6Q h.aok k
 have HG:=h.ca
 have Ex:=h.cc
 have zD:Qy (Rj P.l k)<=Qy P.l:=dB.countP_le
 have dZ:∀q∈Rj P.l k,q∈P.l/\q.k≠k:=λq hq=>⟨dB.subset hq,((hk q.k).1 (List.mem_map.2 ⟨q,hq,rfl⟩)).2⟩
 refine⟨h.aok.drop k,h.asz,λx=>by dsimp only;rw[hk,bH,h.keys],(dB.map _).nodup h.nd,λq hq=>h.rng q (dZ q hq).1,λq hq=>?_,λq hq hd=>?_,λx h0 h1 hx=>?_,λx h0 h1=>?_,h.down,h.due,h.B,h.N,by dsimp only;omega,by dsimp only;omega,h.Rb⟩
 ·rw[if_neg (dZ q hq).2];exact h.tx q (dZ q hq).1
 ·rw[if_neg (dZ q hq).2];exact h.cl q (dZ q hq).1 hd
 ·dsimp only at h1 hx⊢;rw[bH,not_and] at hx;by_cases e:x=k
  ·rw[if_pos e,e]
  ·rw[if_neg e];exact h.out x h0 h1 λe2=>hx e2 e
 ·dsimp only at h1⊢;by_cases e:x=k
  ·rw[if_pos e,ay.zb1,h.N]
  ·rw[if_neg e];exact h.len x h0 h1
theorem UB.zbK (h:UB P txt K)(hA:P'.A=P.A)(hl:P'.l=P.l)(hD:P'.D=P.D)(hL:P'.L=P.L):UB P' txt K:=by
 obtain⟨a1,a2,a3,a4,a5,a6,a7,a8,a9,b1,b2,b3,b4,b5,b6,b7⟩:=h
 constructor<;>simp only[hA,hl,hD,hL]<;>assumption
theorem T2.dok (h:T2 w P):P.D.Ok:=by
 obtain⟨m,kp,ca,h1,-⟩:=h.dev
 exact h1.ok
theorem z7F (l:List Pg)(k:Int):(k∉l.map (·.k)/\PX (SD l) k=none)\/∃q∈l,q.k=k/\PX (SD l) k=some (ptr q.b 0):=by
 induction l with
 |nil=>exact .inl ⟨by simp,rfl⟩
 | cons g l ih =>
   show _\/_;by_cases h:k=g.k
   ·exact .inr ⟨g,List.mem_cons_self,h.symm,if_pos h⟩
   ·have e:PX (SD (g::l)) k=PX (SD l) k:=if_neg h;rw[e];rcases ih with⟨a,b⟩|⟨q,a,b,c⟩
    ·exact .inl ⟨by simp[h] at a⊢;exact a,b⟩
    ·exact .inr ⟨q,List.mem_cons_of_mem _ a,b,c⟩
theorem z4t (hm : T2 w P)(hI : UB P txt K){s n : Nat}(cY : 1 <= n)(j3 : s + n <= P.L.length) : Oa prog 103 [ptr P.s 0, .agg #[I (s : Int), I (n : Int)]] w λv w' => v = I 0 /\ ∃ P' txt', SY w P w' P' /\ UB P' txt' K /\ (∀ x : Int, x < (s : Int) \/ (s : Int) + (n : Int) <= x -> txt' x = txt x) /\ P.Same P' := by
 have dY:=hm.ext.n
 have mA:=hm.cells
 refine Nu (e:=[(0,_),(1,_)]) func103 O ntmps103 O O$ qN O$ NK O O (PW O (cs:=[I (s:Int),I (n:Int)]) O) ?_
 rintro _ w1 ⟨b3,rfl,dF,ad,ar⟩
 have df:=hm.r ad
 have qr:∀i,¬P.cp i b3:=hm.new (by omega)
 have rg:=ad.ND mA
 have hg:=Ext.NY w1
 have fL:=US (df.m.dev.ext hg)
 rw[hI.B] at fL
 refine NF O$ py$ Nw$ qN O$ Nz O$ qV (OP UM O O)$ NF O$ It O$ qN O$ Nz O$ O8 O$ NO z6t O$ qV (NJ U4 O O rg O)$ NF O ?_
 refine It O$ py$ PK (λw'=>Ext w1 w') O$ NG 0 O (Og PR O) hg$ qT 1 O (λ_ h=>(NJ U3 O O (h.ND ar) O)) hg$ NG 2 O (ZQ O O) hg$ S4$ NX 3 O O (hg)$ NG 4 O (Og PF O) hg$ qT 5 O (λ_ h=>(NJ U3 O O (h.ND ar) O)) hg$ NG 6 O (ZQ O O) hg$ S4$ NG 7 O (S6 O O) hg$ NX 8 O O (hg) ?_
 refine NG 9 O (Og PF O) hg$ qT 10 O (λ_ h=>(NJ U3 O O (h.ND ar) O)) hg$ NX 11 O O (hg)$ NG 12 O (OQ O) hg$ NG 13 O (Og Tw O) hg$ qT 14 O (λ_ h=>(NJ U27 O O (h.ND rg) O)) hg$ Qv 15 O z3Q O (fL) ?_
 rintro _ w2 ⟨rfl,rfl⟩
 refine⟨hg,?_⟩
 refine NG 16 O (yge O O) hg$ S4$ NG 17 O (S6 O O) hg$ NX 18 O O (hg)$ NG 19 O (Og PR O) hg$ qT 20 O (λ_ h=>(NJ U3 O O (h.ND ar) O)) hg$ NX 21 O O (hg)$ NG 22 O (OQ O) hg$ NG 23 O (Og Tw O) hg$ qT 24 O (λ_ h=>(NJ U27 O O (h.ND rg) O)) hg$ NG 26 O (Og PF O) hg$ qT 27 O (λ_ h=>(NJ U3 O O (h.ND ar) O)) hg$ Qv 25 O z3Q O (fL) ?_
 rintro _ w2 ⟨rfl,rfl⟩
 refine⟨hg,?_⟩
 refine NG 28 O (W5 O O (by omega)) hg$ NG 29 O (VP O O) hg$ S4$ NG 30 O (S6 O O) hg$ NG 31 O (PO O) hg ?_
 obtain⟨w2,lC⟩:∃w2,w1.drew=w2:=⟨_,rfl⟩
 rw[lC] at hg⊢
 have da:=hg.ND ar
 have dV:=df.ext hg
 have kI:=hg.ND rg
 have l3:=da.lt
 refine qE$ Of.qb (e:=[(0,_),(3,_),(4,_),(16,_)]) ?_
 refine It O$ An$ Ny$ py$ qN O$ NO PR O$ qV (NJ U3 O O da O)$ Nz O$ NB$ Nw$ Qb (α:=Nat) (0) (λi=>[(0,ptr P.s 0),(3,ptr b3 0),(49,I (n:Int)),(50,I (i:Int))]) (λi w'=>Ext w2 w'/\i<=n) (λi=>n-i) ?hI ?hround
 case hI=>exact⟨Ext.refl _,Nat.zero_le _⟩
 case hround =>
  rintro i w3 ⟨ah,hi⟩ ih;have cg:=dV.ext ah;have kG:=ah.ND kI;have eP:=ah.ND da;have ae:=Ext.NY w3
  try dsimp only
  refine qN O$ Pb O O$ NB$ py$ NN O (λh0=>?_)$ λh0=>?_
  ·refine An$ py$ Nw$ qN O$ Nz O$ NF O$ py$ PK (λw'=>Ext w3 w') O$ NX 0 O O (ae)$ NG 1 O (OQ O) ae$ NG 2 O (Og TE O) ae$ qT 3 O (λ_ h=>(NJ VN O O (h.ND kG) O)) ae$ NG 4 O (Og PF O) ae$ qT 5 O (λ_ h=>(NJ U3 O O (h.ND eP) O)) ae ?_;refine NX 6 O O (ae)$ NG 7 O (SX O O (by omega)) ae ?_;rw[show(s:Int)+(i:Int)=((s+i:Nat):Int) by omega];refine qT 8 O (λ_ hS=>ylk (k:=((s+i:Nat):Int)) (K:=KI) VN (QG U3) z9k O O (cg.m.ext' hS).mp.l) ae ?_;rcases z7F P.l ((s+i:Nat):Int) with⟨-,dL⟩|⟨q,hq,-,dL⟩
   ·rw[dL];refine NG 9 O (PO O) ae$ qE$ qN O$ Nz O$ qV (z2M zeT O O)$ Nz O$ qS$ qS$ qS$ qS$ qS$ OC O O$ NB$ It O ?_;refine An$ Ny$ NC O$ OI O O$ Nz O$ NB ?_;exact(ih (i+1) _ ⟨ah.trans ae,by omega⟩ (by omega)).qb
   ·rw[dL];have rF:=(ae.ND (cg.m.pg q hq):NM w3.drew q.b [S q.t,.bool q.d,I 0] 219);refine NG 9 O (PO O) ae$ qE$ qN O$ Nz O$ qV (z2M zeT O O)$ NT O O$ O8 O$ NO zaT O$ qV (NJ U3 O O rF O)$ P9 O O$ Ox$ Pc O O$ NB$ It O ?_;refine An$ Ny$ NC O$ OI O O$ Nz O$ NB ?_;exact(ih (i+1) _ ⟨ah.trans ae,by omega⟩ (by omega)).qb
  ·have aY : i = n := by omega
   subst aY;refine NL O$ py$ qN O$ NO PR O$ qV (NJ U3 O O eP O)$ Nz O$ NB$ Nw$ Qb (α:=Nat×Qn×(Int->NH)) ((0,P,txt)) (λy=>[(0,ptr P.s 0),(3,ptr b3 0),(73,I (i:Int)),(74,I (y.1:Int))]) (λy w'=>SY w P w' y.2.1/\UB y.2.1 y.2.2 K/\y.1<=i/\P.Same y.2.1/\(∀x:Int,x<(s:Int)\/(s:Int)+(i:Int)<=x->y.2.2 x=txt x)/\NM w' b3 [I (s:Int),I (i:Int)] 108/\∀j,¬y.2.1.cp j b3) (λy=>i-y.1) ?hI ?hround
   case hI=>exact⟨cg,hI,Nat.zero_le _,⟨rfl,rfl,rfl,rfl,rfl,rfl,rfl,rfl,rfl⟩,λx _=>rfl,eP,qr⟩
   case hround =>
    rintro⟨j,Pj,tj⟩ w4 ⟨bK,ky,hj,ci,iL,eA,oh⟩ ih2;dsimp only at bK ky hj ci iL eA oh ih2⊢;have iT:=bK.m.cells;rw[ci.s] at iT;have af:=Ext.NY w4;have cw:=Ext.NY w4.drew
    try dsimp only
    refine qN O$ Pb O O$ NB$ py$ NN O (λh2=>?_)$ λh2=>?_
    ·refine An$ py$ Nw$ qN O$ Nz O$ NF O$ py$ O3 [8] (λw'=>Ext w4 w') (by kernel_rfl) O$ qL [1,2,3,8] 0 O (λ_ h=>Oq O) af$ qL [2,3,8] 1 O (λ_ h=>OQ O) af$ qL [3,8] 2 O (λ_ h=>Og TE O) af$ qL [8] 3 O (λ_ h=>(NJ VN O O (h.ND iT) O)) af$ qL [5,7,8] 4 O (λ_ h=>Og PF O) af$ qL [7,8] 5 O (λ_ h=>(NJ U3 O O (h.ND eA) O)) af ?_;refine qL [7,8] 6 O (λ_ h=>Oq O) af$ qL [8] 7 O (λ_ h=>SX O O (by omega)) af$ Rs [8] ?_;rw[show(s:Int)+(j:Int)=((s+j:Nat):Int) by omega];refine qO 8$ z9f (i:=8) O O (zdU (k:=((s+j:Nat):Int)) (K:=KI) VN (QG U3) O O (bK.ext af).m.mp O) ?_;rintro _ w5 ⟨vW,ai⟩;refine⟨trivial,?_⟩;rw[z1h] at vW;have cf:=(bK.ext af).del (Ry _ _) vW ai;have db:=ai.ND (af.ND eA) (oh 4);have oA:=cf.m.cells;dsimp only at oA;rw[ci.s] at oA;have dq:=Ext.NY w5;have cG:=cf.ext dq;refine qE$ O3 [8] (λw'=>Ext w5 w') (by kernel_rfl) O$ qL [1,2,3,8] 0 O (λ_ h=>Oq O) dq$ qL [2,3,8] 1 O (λ_ h=>OQ O) dq$ qL [3,8] 2 O (λ_ h=>Og z68 O) dq$ qL [8] 3 O (λ_ h=>(NJ z9p O O (h.ND oA) O)) dq$ qL [5,7,8] 4 O (λ_ h=>Og PF O) dq$ qL [7,8] 5 O (λ_ h=>(NJ U3 O O (h.ND db) O)) dq$ qL [7,8] 6 O (λ_ h=>Oq O) dq$ qL [8] 7 O (λ_ h=>SX O O (by omega)) dq$ Rs [8] ?_;rw[show(s:Int)+(j:Int)=((s+j:Nat):Int) by omega];refine Qv 8 O zh7 O (z86 cG.m.arc (k:=((s+j:Nat):Int))) ?_;rintro _ w6 ⟨⟨z,rfl⟩,V6,sn⟩;refine⟨trivial,?_⟩;have zJ:=cG.arc sn;have lP:=sn.k.ND (dq.ND db) (oh 3);refine qE$ Ny$ NC O$ OI O O$ Nz O$ NB ((ih2 (j+1,_,_) _ ⟨zJ,(ky.zhI bK.m.dok (k:=((s+j:Nat):Int))).zbK O O O O,by dsimp only;omega,⟨ci.s,ci.d,ci.m,ci.gi,ci.c,ci.pm,ci.p,ci.fr,ci.L⟩,λx hx=>?_,lP,λi2 e=>?_⟩ (by dsimp only;omega)).qb)
     ·show(if x=((s+j:Nat):Int) then Pj.D.now ((s+j:Nat):Int) else tj x)=txt x;rw[if_neg (by omega)];exact iL x hx
     ·match i2,e with
      |0,e=>exact oh 0 e
      |1,e=>exact oh 1 e
      |2,e=>exact oh 2 e
      | 3, e =>
        rcases sn.fp b3 e with e| e
        ·exact oh 3 e
        ·have:=(dq.ND db).lt;omega
      |4,e=>exact oh 4 e
      |5,⟨q,hq,e⟩=>exact oh 5 ⟨q,(Ry _ _).subset hq,e⟩
    ·have rU:j=i:=by omega
     subst rU;refine NL O$ qN O$ NF O$ NA func103 O ?_;exact⟨_,rfl,rfl,Pj,tj,bK,ky,iL,ci⟩
theorem z4S (hm:T2 w P)(hI:UB P txt K){s n:Nat}(cY:1<=n)(dc:2<=s)(j3:s+n<=P.L.length)(hc:∀i,s<=i->i<s+n->P.L[i]? =some true):Oa prog 65 [ptr P.s 0,.agg #[I (s:Int),I (n:Int)]] w λv w'=>v=I 0/\∃P' txt',SY w P w' {P' with L:=Pf P.L s n false}/\UB {P' with L:=Pf P.L s n false} txt' K/\(∀x:Int,x<(s:Int)\/(s:Int)+(n:Int)<=x->txt' x=txt x)/\P.Same P':=by
 refine Nu (e:=[(0,_),(1,_)]) func65 O ntmps65 O O$ qN O$ NK O O (PW O (cs:=[I (s:Int),I (n:Int)]) O) ?_
 rintro _ w1 ⟨b3,rfl,dF,ad,ar⟩
 have df:=hm.r ad
 have qr:∀i,¬P.cp i b3:=hm.new (by omega)
 refine NF O$ py$ qN O$ Nz O$ qV (Oh (news:=[I (s:Int),I (n:Int)]) VQ O PN O (NM.cells (n:=2) ar O) O)$ NZ zf3 O (z4t df.m hI cY j3) ?_
 rintro _ w2 ⟨rfl,P',txt',dV,cR,iL,ci⟩
 have l3:=ar.lt
 have da:=dV.k.ND ar (λ⟨i,e⟩=>qr i e)
 have ur:=df.trans dV
 have kI:=ur.m.cells
 rw[ci.s] at kI
 refine NQ O$ qM O$ Nz O$ P3 O O ?_
 have aa:=Ext.NY w2
 have lq:=(ur.ext aa).m.ext
 rw[ci.L] at lq
 refine NB$ It O$ An$ py$ O3 [5,6] (λw'=>Ext w2 w') (by kernel_rfl) O$ qL [1,2,3,5,6] 0 O (λ_ h=>Oq O) aa$ qL [2,3,5,6] 1 O (λ_ h=>OQ O) aa$ qL [3,5,6] 2 O (λ_ h=>Og z2a O) aa$ qL [5,6] 3 O (λ_ h=>NJ U48 O O (h.ND kI) O) aa$ qL [5,6] 4 O (λ_ h=>Oh (news:=[I (s:Int),I (n:Int)]) VQ O PN O (NM.cells (n:=2) (h.ND da) O) O) aa$ Rs [5]$ Qv 5 O zf9 O (z4x lq s n cY dc j3 hc) ?_
 rintro _ w3 ⟨rfl,Hk,ao⟩
 refine⟨trivial,?_⟩
 have cg:=(ur.ext aa).exM Hk ao
 refine NG 6 O (PO O) trivial$ qE$ NA func65 O ?_
 exact⟨_,rfl,rfl,P',txt',cg,cR.P5 (by rw[PU j3,ci.L]),iL,ci⟩
end
def Sp (Q:Qn)(txt:Int->NH)(K:Nat)(X:Nat->Prop)(w:World):Prop:=∃P,T2 w P/\UB P txt K/\Q.Same P/\∀b,P.fp b->¬X b
section
variable {w w' w0:World}{Q Q' P P':Qn}{X Y S':Nat->Prop}{txt txt':Int->NH}{K K':Nat}
theorem Sp.step (h:Sp Q txt K X w)(hk:Kp S' w w')(hS:∀b,S' b->X b)(hY:∀b,Y b->X b\/w.heap.size<=b):Sp Q txt K Y w':=by
 obtain⟨P,hm,hI,hs,hf⟩:=h
 refine⟨P,hm.kp hk λb hb e=>hf b hb (hS b e),hI,hs,λb hb e=>?_⟩
 rcases hY b e with e| e
 ·exact hf b hb e
 ·have:=hm.lt hb;omega
theorem Sp.ext (h:Sp Q txt K X w)(hx:Ext w w')(hY:∀b,Y b->X b\/w.heap.size<=b):Sp Q txt K Y w':=h.step (S':=λ_=>False) hx (λ_ e=>e.elim) hY
theorem Sp.ext' (h:Sp Q txt K X w)(hx:Ext w w'):Sp Q txt K X w':=h.ext hx λ_ e=> .inl e
theorem Sp.own (h:Sp Q txt K X w)(hk:Kp S' w w')(hS:∀b,S' b->X b):Sp Q txt K X w':=h.step hk hS λ_ e=> .inl e
theorem Sp.of (hf:∀b,P.fp b->¬X b)(hX:∀b,X b->b<w.heap.size)(hr:SY w P w' P')(hI:UB P' txt' K')(hs:Q'.Same P'):Sp Q' txt' K' X w'/\Kp (λb=>¬X b) w w':=
 ⟨⟨P',hr.m,hI,hs,λb hb e=>by
  rcases hr.fp b hb with h| h
  ·exact hf b h e
  ·have:=hX b e;omega⟩,hr.k.NR hf⟩
theorem UB.more (h:UB P txt K)(hK:K<=K'):UB P txt K':=by
 obtain⟨a1,a2,a3,a4,a5,a6,a7,a8,a9,b1,b2,b3,b4,b5,b6,b7⟩:=h
 exact⟨a1,a2,a3,a4,a5,a6,a7,a8,a9,b1,b2,b3,b4,by omega,by omega,b7⟩
theorem Sp.more (h:Sp Q txt K X w)(hK:K<=K'):Sp Q txt K' X w:=by
 obtain⟨P,hm,hI,hs,hf⟩:=h
 exact⟨P,hm,hI.more hK,hs,hf⟩
theorem Sp.less (h:Sp Q txt K X w)(hY:∀b,Y b->X b):Sp Q txt K Y w:=by
 obtain⟨P,hm,hI,hs,hf⟩:=h
 exact⟨P,hm,hI,hs,λb hb e=>hf b hb (hY b e)⟩
theorem Sp.size (h:Sp Q txt K X w):Oa prog 56 [ptr Q.s 0] w λv w'=>v=I 512/\w'=w:=by
 obtain⟨P,hm,hI,hs,-⟩:=h
 rw[<-hs.s]
 exact ZX hm hI.N
theorem Sp.dev (h:Sp Q txt K X w):Oa prog 129 [ptr Q.s 0] w λv w'=>v=ptr Q.d 0/\w'=w:=by
 obtain⟨P,hm,hI,hs,-⟩:=h
 rw[<-hs.s,<-hs.d]
 exact z8p hm
theorem Sp.blocks (h:Sp Q txt K X w):Oa prog 130 [ptr Q.d 0] w λv w'=>v=I (Q.L.length:Int)/\w'=w:=by
 obtain⟨P,hm,hI,hs,-⟩:=h
 have hb:=US hm.dev
 rw[hI.B] at hb
 rw[<-hs.d,<-hs.L]
 exact hb
theorem Sp.map (h:Sp Q txt K X w):Oa prog 13 [ptr Q.s 0] w λv w'=>v=ptr Q.m 0/\w'=w:=by
 obtain⟨P,hm,hI,hs,-⟩:=h
 rw[<-hs.s,<-hs.m]
 exact z6Z hm
theorem Sp.room (h:Sp Q txt K X w){a:Nat}(hp:Pre Q.L a)(ha:a<Q.L.length):Oa prog 14 [ptr Q.m 0] w λv w'=>v=I ((Q.L.length-a:Nat):Int)/\Ext w w':=by
 obtain⟨P,hm,hI,hs,-⟩:=h
 rw[<-hs.m]
 rw[<-hs.L] at hp ha⊢
 exact z5l hm.ext hp ha
theorem Sp.Yk (h:Sp Q txt K X w){x:Int}(h0:0<=x)(h1:x<(Q.L.length:Int)):(txt x).length=512:=by
 obtain⟨P,hm,hI,hs,-⟩:=h
 exact hI.len x h0 (by rw[hs.L];exact h1)
theorem Sp.n (h:Sp Q txt K X w):Q.L.length<=4096:=by
 obtain⟨P,hm,hI,hs,-⟩:=h
 rw[<-hs.L]
 exact hm.ext.n
theorem Sp.read (h:Sp Q txt K X w)(hX:∀b,X b->b<w.heap.size)(hK:K<1000000000000){no:Int}(h0:0<=no)(h1:no<(Q.L.length:Int)):Oa prog 71 [ptr Q.s 0,I no] w λv w'=>v= .tuple #[S (txt no),I 0]/\Sp Q txt K X w'/\Kp (λb=>¬X b) w w':=by
 obtain⟨P,hm,hI,hs,hf⟩:=h
 rw[<-hs.s]
 refine(z4N hm hI hK h0 (by rw[hs.L];exact h1)).mono λv w' ⟨hv,P',hr,zO,oo⟩=>⟨hv,Sp.of hf hX hr zO (hs.trans oo)⟩
theorem Sp.write (h:Sp Q txt K X w)(hX:∀b,X b->b<w.heap.size)(hK:K<1000000000000){no:Int}(h0:0<=no)(h1:no<(Q.L.length:Int))(t:NH)(ht:t.length=512):Oa prog 72 [ptr Q.s 0,I no,S t] w λv w'=>v=I 0/\Sp Q (Xx txt no (some t)) (K+1) X w'/\Kp (λb=>¬X b) w w':=by
 obtain⟨P,hm,hI,hs,hf⟩:=h
 rw[<-hs.s]
 refine(z8f hm hI hK h0 (by rw[hs.L];exact h1) t ht).mono λv w' ⟨hv,P',hr,zO,oo⟩=>⟨hv,Sp.of hf hX hr zO (hs.trans oo)⟩
def Qn.P5 (Q:Qn)(L:List Bool):Qn:={Q with L:=L}
theorem Qn.Same.P5 (h:Q.Same P)(L:List Bool):(Q.P5 L).Same {P with L:=L}:=⟨h.s,h.d,h.m,h.gi,h.c,h.pm,h.p,h.fr,rfl⟩
theorem Sp.take (h:Sp Q txt K X w)(hX:∀b,X b->b<w.heap.size){a n:Nat}(hp:Pre Q.L a)(cY:1<=n)(pD:a+n<=Q.L.length):Oa prog 57 [ptr Q.s 0,I (n:Int)] w λv w'=>v= .tuple #[.agg #[I (a:Int),I (n:Int)],I 0]/\Sp (Q.P5 (Pf Q.L a n true)) txt K X w'/\Kp (λb=>¬X b) w w':=by
 obtain⟨P,hm,hI,hs,hf⟩:=h
 rw[<-hs.s]
 rw[<-hs.L] at hp pD
 refine(z4c hm hp cY pD).mono λv w' ⟨hv,hr⟩=>⟨hv,?_⟩
 rw[<-hs.L]
 exact Sp.of hf hX hr (hI.P5 (by rw[PU pD])) (hs.P5 _)
theorem Sp.zj6 (h:Sp Q txt K X w)(hX:∀b,X b->b<w.heap.size){s n:Nat}(cY:1<=n)(dc:2<=s)(j3:s+n<=Q.L.length)(hc:∀i,s<=i->i<s+n->Q.L[i]? =some true):Oa prog 65 [ptr Q.s 0,.agg #[I (s:Int),I (n:Int)]] w λv w'=>v=I 0/\∃txt',Sp (Q.P5 (Pf Q.L s n false)) txt' K X w'/\(∀x:Int,x<(s:Int)\/(s:Int)+(n:Int)<=x->txt' x=txt x)/\Kp (λb=>¬X b) w w':=by
 obtain⟨P,hm,hI,hs,hf⟩:=h
 rw[<-hs.s]
 rw[<-hs.L] at j3 hc
 refine(z4S hm hI cY dc j3 hc).mono λv w' ⟨hv,P',txt',hr,zO,iL,oo⟩=>⟨hv,txt',?_⟩
 obtain⟨h1,h2⟩:=Sp.of hf hX hr zO ((hs.trans oo).P5 _)
 rw[<-hs.L]
 exact⟨h1,iL,h2⟩
end
end Go.Proofs.YtfgjaafcgghnoaaGreatDoor
namespace Go.Proofs.YtfgjaafcgghnoaaGreatDoor
open Go Go.Proofs Go.Shelf Go.Proofs.Tryz
def z2X:Go.Shelf.Ren:=⟨fun|105=>101|212=>136|99=>137|165=>138|166=>78|170=>139|169=>79|263=>171|264=>172|206=>173|240=>115|241=>174|276=>155|277=>207|n=>n,fun|9=>9|3=>3|4=>4|20=>20|0=>0|46=>172|109=>252|5=>5|72=>177|76=>180|51=>46|146=>295|53=>41|148=>297|70=>175|37=>171|75=>179|127=>224|164=>271|80=>182|n=>n,fun|n=>n⟩
theorem zdN:Go.Proofs.Lays.n105 prog z2X:={
 mixed:=by kernel_rfl
 f99:=func137.trans (congrArg some (by kernel_rfl))
 f105:=func101.trans (congrArg some (by kernel_rfl))
 f165:=func138.trans (congrArg some (by kernel_rfl))
 f166:=func78.trans (congrArg some (by kernel_rfl))
 f169:=func79.trans (congrArg some (by kernel_rfl))
 f170:=func139.trans (congrArg some (by kernel_rfl))
 f206:=func173.trans (congrArg some (by kernel_rfl))
 f212:=func136.trans (congrArg some (by kernel_rfl))
 f240:=func115.trans (congrArg some (by kernel_rfl))
 f241:=func174.trans (congrArg some (by kernel_rfl))
 f263:=func171.trans (congrArg some (by kernel_rfl))
 f264:=func172.trans (congrArg some (by kernel_rfl))
 f276:=func155.trans (congrArg some (by kernel_rfl))
 f277:=func207.trans (congrArg some (by kernel_rfl))
 t0:=underlying0
 a0:=isAgg0
 z0:=sizeOf0
 v0:=zeroValue0
 t3:=underlying3
 a3:=isAgg3
 z3:=sizeOf3
 v3:=zeroValue3
 t4:=underlying4
 a4:=isAgg4
 z4:=sizeOf4
 v4:=zeroValue4
 t5:=underlying5
 a5:=isAgg5
 z5:=sizeOf5
 v5:=zeroValue5
 t9:=underlying9
 a9:=isAgg9
 z9:=sizeOf9
 v9:=zeroValue9
 t20:=underlying20
 a20:=isAgg20
 z20:=sizeOf20
 v20:=zeroValue20
 t37:=underlying171
 a37:=isAgg171
 z37:=sizeOf171
 v37:=zeroValue171
 t46:=underlying172
 a46:=isAgg172
 z46:=sizeOf172
 v46:=zeroValue172
 t51:=underlying46
 a51:=isAgg46
 z51:=sizeOf46
 v51:=zeroValue46
 t53:=underlying41
 a53:=isAgg41
 z53:=sizeOf41
 v53:=zeroValue41
 t70:=underlying175
 a70:=isAgg175
 z70:=sizeOf175
 v70:=zeroValue175
 t72:=underlying177
 a72:=isAgg177
 z72:=sizeOf177
 v72:=zeroValue177
 t75:=underlying179
 a75:=isAgg179
 z75:=sizeOf179
 v75:=zeroValue179
 t76:=underlying180
 a76:=isAgg180
 z76:=sizeOf180
 v76:=zeroValue180
 t109:=underlying252
 a109:=isAgg252
 z109:=sizeOf252
 v109:=zeroValue252
 t127:=underlying224
 a127:=isAgg224
 z127:=sizeOf224
 v127:=zeroValue224
 t146:=underlying295
 a146:=isAgg295
 z146:=sizeOf295
 v146:=zeroValue295
 t148:=underlying297
 a148:=isAgg297
 z148:=sizeOf297
 v148:=zeroValue297
 t164:=underlying271
 a164:=isAgg271
 z164:=sizeOf271
 v164:=zeroValue271}
end Go.Proofs.YtfgjaafcgghnoaaGreatDoor
namespace Go.Proofs.YtfgjaafcgghnoaaGreatDoor
open Go Go.RowKit Go.Shelf Go.Proofs.Tryz
/-! ### A builder of strings -/
theorem ze5:Builder.Extra prog z2X where
 sizeBuilder:=by kernel_rfl
 liesBuilder:=by kernel_rfl
 t5:=by kernel_rfl
 a5:=λ_=>by kernel_rfl
 z5:=λ_=>by kernel_rfl
 v5:=λw=>TI.zero (w:=w) VO
 infoByte:=by kernel_rfl
 cellsByte:=by kernel_rfl
 sizeByte:=by kernel_rfl
 neB5:=by decide
section
variable {w:World}
end
theorem z5Y (l:NH):∀n,Lib.repeatL l n=(List.replicate n l).flatten
 |0=>rfl
 |n+1=>by rw[Lib.repeatL,z5Y l n];rfl
theorem XA (l:NH)(n:Nat)(hl:l.length<=100)(hn:n<=1000000)(w:World):Oa prog 101 [S l,I (n:Int)] w λv w'=>v=S (List.replicate n l).flatten/\Ext w w':=by
 have h2:n*l.length<=1000000*100:=Nat.mul_le_mul hn hl
 have:=Any.strings_Repeat zdN ze5 ⟨l.toArray⟩ n w (by omega) (by rw[Rz,Nat.mul_comm];omega)
 refine Calls.mono this λ_ _ ⟨he,hw⟩=>⟨_,he,?_,Ext.za3 hw⟩
 show Value.string ⟨(Lib.repeatL l n).toArray⟩=_
 rw[z5Y]
end Go.Proofs.YtfgjaafcgghnoaaGreatDoor
namespace Go.Proofs.YtfgjaafcgghnoaaGreatDoor
open Go Go.RowKit
def Re (w n:Nat):NH:=(List.range w).map λk=>UInt8.ofNat (n / 2^(8*(w-1-k)))
theorem O4 (w n:Nat):(Re w n).length=w:=by simp[Re]
theorem zax (w n:Nat):Re (w+1) n=UInt8.ofNat (n / 2^(8*w))::Re w n:=by
 unfold Re
 rw[List.range_succ_eq_map,List.map_cons,List.map_map]
 congr 1
 refine List.map_congr_left λk hk=>?_
 show UInt8.ofNat (n / 2^(8*(w+1-1-(k+1))))=_
 rw[show w+1-1-(k+1)=w-1-k by omega]
theorem XR:∀(w n:Nat),O0 (Re w n)=O7 (8*w) n
 |0,n=>rfl
 | w + 1, n => by
   rw[zax,Sf,XR w n,show 8*(w+1)=8+8*w by omega,Qx]
   congr 1
   refine UW ?_;have:(UInt8.ofNat (n / 2^(8*w))).toNat=n / 2^(8*w)%256:=by simp
   rw[this];omega
theorem VF {w n:Nat}(h:n<2^(8*w)):Ol (O0 (Re w n))=n:=by
 rw[XR,OT,Nat.mod_eq_of_lt h]
theorem z5J (s:NH):Re s.length (Ol (O0 s))=s:=by
 have h1:O0 (Re s.length (Ol (O0 s)))=O0 s:=by
  rw[XR];have:=ZB (O0 s);rw[bitsT_length] at this;exact this
 have inj : ∀ a b : NH, a.length = b.length -> O0 a = O0 b -> a = b := λa => by
  induction a with
  | nil => intro b hb _; cases b with
    |nil=>rfl
    |cons=>cases hb
  | cons c a ih =>
    intro b hb he
    cases b with
    |nil=>cases hb
    | cons d b =>
      rw[Sf,Sf] at he;obtain⟨e1,e2⟩:=List.append_inj he (by rw[bitsN_length,bitsN_length]);rw[ih b (by simpa using hb) e2]
      congr 1
      have:=congrArg Ol e1;rw[OT,OT] at this;have h3:=c.toNat_lt;have h4:=d.toNat_lt;exact UInt8.toNat_inj.1 (by omega)
 exact inj _ _ (O4 _ _) h1
def Laid (txt:Int->NH)(a:Nat)(T:NH):Prop:=∀k,512*k<T.length->(txt ((a+k:Nat):Int)).take (T.length-512*k)=(T.drop (512*k)).take 512
section
variable {txt txt':Int->NH}{a n:Nat}{T:NH}
theorem Laid.piece (h:Laid txt a T){off n:Nat}(h1:off+n<=T.length)(h2:n<=512-off%512):((txt ((a+off / 512:Nat):Int)).drop (off%512)).take n=(T.drop off).take n:=by
 by_cases hn:n=0
 ·subst hn;simp
 have hk:=h (off / 512) (by omega)
 have e:=congrArg (λl=>(l.drop (off%512)).take n) hk
 try dsimp only at e
 rw[List.drop_take,List.take_take,Nat.min_eq_left (by omega),List.drop_take,List.take_take,List.drop_drop,Nat.min_eq_left (by omega),show 512*(off / 512)+off%512=off by omega] at e
 exact e
theorem Laid.zbK (h:Laid txt a T)(e:∀k,512*k<T.length->txt' ((a+k:Nat):Int)=txt ((a+k:Nat):Int)):Laid txt' a T:=λk hk=>by rw[e k hk];exact h k hk
theorem Laid.of (h:∀k,512*k<T.length->(txt ((a+k:Nat):Int)).length=512/\∃r,txt ((a+k:Nat):Int)=(T.drop (512*k)).take 512++r):Laid txt a T:=λk hk=>by
 obtain⟨hl,r,e⟩:=h k hk
 have h1:((T.drop (512*k)).take 512).length=min 512 (T.length-512*k):=by simp
 rw[e,List.length_append,h1] at hl
 rw[e]
 by_cases hc:T.length-512*k<=512
 ·exact List.take_left' (by rw[h1];omega)
 ·have:r=[]:=List.eq_nil_of_length_eq_zero (by omega);rw[this,List.append_nil,List.take_of_length_le (by rw[h1];omega)]
end
def VcT (txt:Int->NH)(st width each:Nat)(xs:List Nat):Prop:=∀i x,xs[i]? =some x->((txt ((st+i / each:Nat):Int)).drop (i%each*width)).take width=Re width x/\x<2^(8*width)
theorem z0w (a b c:NH){k n:Nat}(hn:k+n<=a.length):((a++b++c).drop k).take n=(a.drop k).take n:=by
 rw[List.append_assoc,List.drop_append_of_le_length (by omega),List.take_append_of_le_length (by rw[List.length_drop];omega)]
section
variable {txt txt':Int->NH}{st width each:Nat}{xs:List Nat}
theorem VcT.set (h:VcT txt st width each xs)(he:1<=each){i x:Nat}(hx:x<2^(8*width))(hi:i<xs.length){t:NH}(ht:txt ((st+i / each:Nat):Int)=t)(hl:i%each*width+width<=t.length):VcT (Xx txt ((st+i / each:Nat):Int) (some (t.take (i%each*width)++Re width x++t.drop (i%each*width+width)))) st width each (xs.set i x):=λj y hy=>by
 by_cases hb:j / each=i / each
 ·rw[hb,QF];show((t.take (i%each*width)++Re width x++t.drop (i%each*width+width)).drop (j%each*width)).take width=_/\_;have aU:(t.take (i%each*width)).length=i%each*width:=by rw[List.length_take];omega
  by_cases iq:j=i
  ·subst iq;rw[List.getElem?_set_self hi] at hy;cases hy;refine⟨?_,hx⟩;rw[List.append_assoc,List.drop_left' aU,List.take_left' (O4 _ _)]
  ·rw[List.getElem?_set_ne (λe=>iq e.symm)] at hy;obtain⟨h1,h2⟩:=h j y hy;refine⟨?_,h2⟩;rw[hb,ht] at h1;rw[<-h1];have tP:=Nat.div_add_mod i each;have lM:=Nat.div_add_mod j each;rw[hb] at lM;have bD:j%each≠i%each:=λe=>iq (by omega);rcases Nat.lt_or_gt_of_ne bD with lL|N9
   ·have hm:(j%each+1)*width<=i%each*width:=Nat.mul_le_mul_right _ (by omega);rw[Nat.add_mul,Nat.one_mul] at hm;rw[z0w _ _ _ (by omega),List.drop_take,List.take_take,Nat.min_eq_left (by omega)]
   ·have hm:(i%each+1)*width<=j%each*width:=Nat.mul_le_mul_right _ (by omega);rw[Nat.add_mul,Nat.one_mul] at hm;rw[List.drop_append,List.drop_of_length_le (by rw[List.length_append,aU,O4];omega),List.nil_append,List.length_append,aU,O4,List.drop_drop,show i%each*width+width+(j%each*width-(i%each*width+width))=j%each*width by omega]
 ·have iq:j≠i:=λe=>hb (by rw[e]);rw[List.getElem?_set_ne (λe=>iq e.symm)] at hy;rw[Qf _ _ (by omega)];exact h j y hy
theorem ZE {l z:NH}{w:Nat}(hl:l.length=w):∀(e k:Nat),k<e->(((List.replicate e l).flatten++z).drop (k*w)).take w=l
 |0,k,h=>by omega
 | e + 1, 0, h => by
   rw[Nat.zero_mul,List.drop_zero,List.replicate_succ,List.flatten_cons,List.append_assoc]
   exact List.take_left' hl
 | e + 1, k + 1, h => by
   rw[List.replicate_succ,List.flatten_cons,List.append_assoc,List.drop_append,List.drop_of_length_le (by rw[hl,Nat.add_mul];omega),List.nil_append,hl,Nat.add_mul,Nat.one_mul,Nat.add_sub_cancel];exact ZE hl e k (by omega)
theorem VcT.fill {n x:Nat}(hx:x<2^(8*width))(he:1<=each)(h:∀i,i<n->∃z,txt ((st+i / each:Nat):Int)=(List.replicate each (Re width x)).flatten++z):VcT txt st width each (List.replicate n x):=λi y hy=>by
 rw[List.getElem?_replicate] at hy
 split at hy
 ·rename_i hi
  cases hy;obtain⟨z,e⟩:=h i hi;rw[e];exact⟨ZE (O4 _ _) each _ (Nat.mod_lt _ he),hx⟩
 ·cases hy
theorem VcT.block (h:VcT txt st width each xs){b:Nat}(hl:each*width<=(txt ((st+b:Nat):Int)).length):∀m,m<=each->b*each+m<=xs.length->(txt ((st+b:Nat):Int)).take (m*width)=((xs.drop (b*each)).take m).flatMap (Re width)
 |0,_,_=>by simp
 | m + 1, hm, hx => by
   have ih:=h.block hl m (by omega) (by omega);have aU:b*each+m<xs.length:=by omega
   have h1:=(h (b*each+m) xs[b*each+m] (List.getElem?_eq_getElem aU)).1;have dJ:(m+1)*width<=each*width:=Nat.mul_le_mul_right _ hm;rw[Nat.add_mul,Nat.one_mul] at dJ;rw[show(b*each+m) / each=b from by rw[Nat.mul_comm,Nat.mul_add_div (by omega),Nat.div_eq_of_lt (by omega),Nat.add_zero],show(b*each+m)%each=m from by rw[Nat.mul_comm,Nat.mul_add_mod,Nat.mod_eq_of_lt (by omega)]] at h1
   have h2:(xs.drop (b*each)).take (m+1)=(xs.drop (b*each)).take m++[xs[b*each+m]]:=by
    rw[List.take_add_one,List.getElem?_drop,List.getElem?_eq_getElem aU];rfl
   rw[h2,List.flatMap_append,<-ih,Nat.add_mul,Nat.one_mul,List.take_add,h1];simp
def Tt (width:Nat)(xs:List Nat):NH:=xs.flatMap (Re width)
def Ro (width n:Nat)(s:NH):List Nat:=(List.range n).map λi=>Ol (O0 ((s.drop (i*width)).take width))
theorem Ux (width n:Nat)(s:NH):(Ro width n s).length=n:=by simp[Ro]
theorem RM (width:Nat):∀xs:List Nat,(Tt width xs).length=xs.length*width
 |[]=>by simp[Tt]
 | x :: xs => by
   have:=RM width xs;unfold Tt at*;rw[List.flatMap_cons,List.length_append,O4,this,List.length_cons,Nat.add_mul];omega
theorem ZU {width:Nat}:∀{xs:List Nat},(∀x∈xs,x<2^(8*width))->Ro width xs.length (Tt width xs)=xs
 |[],_=>rfl
 | x :: xs, h => by
   have ih:=ZU (xs:=xs) λy hy=>h y (List.mem_cons_of_mem _ hy);unfold Ro Tt at*;rw[List.length_cons,List.range_succ_eq_map,List.map_cons,List.map_map,List.flatMap_cons]
   congr 1
   ·rw[Nat.zero_mul,List.drop_zero,List.take_left' (O4 _ _),VF (h x List.mem_cons_self)]
   ·conv=>rhs;rw[<-ih]
    refine List.map_congr_left λi _=>?_;show Ol (O0 (List.take width (List.drop ((i+1)*width) _)))=_;rw[Nat.add_mul,Nat.one_mul,List.drop_append,List.drop_of_length_le (by rw[O4];omega),List.nil_append,O4,Nat.add_sub_cancel]
theorem VcT.load {n:Nat}{s:NH}(hs:s.length=n*width)(he:1<=each)(h:∀i,i<n->∃z,txt ((st+i / each:Nat):Int)=(s.drop (i / each*(each*width))).take (each*width)++z):VcT txt st width each (Ro width n s):=λi y hy=>by
 unfold Ro at hy
 rw[List.getElem?_map] at hy
 by_cases hi:i<n
 ·rw[List.getElem?_range hi] at hy;cases hy;obtain⟨z,e⟩:=h i hi;have hd:=Nat.div_add_mod i each;have L4:=Nat.mod_lt i he
  have aA:((s.drop (i*width)).take width).length=width:=by
   have:(i+1)*width<=n*width:=Nat.mul_le_mul_right _ (by omega);rw[Nat.add_mul,Nat.one_mul] at this;rw[List.length_take,List.length_drop,hs];omega
  have e1:i*width=i / each*(each*width)+i%each*width:=by
   rw[<-Nat.mul_assoc,<-Nat.add_mul,Nat.mul_comm (i / each)];rw[hd]
  have dJ:(i%each+1)*width<=each*width:=Nat.mul_le_mul_right _ (by omega);rw[Nat.add_mul,Nat.one_mul] at dJ;have aY:(i+1)*width<=n*width:=Nat.mul_le_mul_right _ (by omega);rw[Nat.add_mul,Nat.one_mul] at aY;refine⟨?_,?_⟩
  ·have hb:=z5J ((s.drop (i*width)).take width);rw[aA] at hb;rw[hb,e]
   have hc:i%each*width+width<=((s.drop (i / each*(each*width))).take (each*width)).length:=by
    rw[List.length_take,List.length_drop,hs];omega
   rw[List.drop_append_of_le_length (by omega),List.take_append_of_le_length (by rw[List.length_drop];omega),List.drop_take,List.take_take,List.drop_drop,Nat.min_eq_left (by omega),<-e1]
  ·have h1:=Pw (O0 ((s.drop (i*width)).take width));rw[bitsT_length,aA] at h1;exact h1
 ·rw[List.getElem?_eq_none (by simpa using hi)] at hy;cases hy
end
end Go.Proofs.YtfgjaafcgghnoaaGreatDoor
namespace Go.Proofs.YtfgjaafcgghnoaaGreatDoor
open Go Go.RowKit Go.Proofs.Tryz
def z0q (n wd k:Nat):List Value:=(List.range wd).map λi=>if i<k then Rq (UInt8.ofNat (n / 2^(8*(wd-1-i)))) else .int .u8 0
@[simp] theorem beTo_length (n wd k:Nat):(z0q n wd k).length=wd:=by simp[z0q]
theorem z0Q (n wd:Nat):z0q n wd 0=List.replicate wd (.int .u8 0):=by
 apply List.ext_getElem<;>simp[z0q]
theorem z3v (n wd:Nat):z0q n wd wd=(Re wd n).map Rq:=by
 simp only[z0q,Re,List.map_map]
 apply List.map_congr_left
 intro i hi
 rw[if_pos (by simpa using hi)];rfl
theorem z2x (n wd k:Nat)(h:k<wd):(z0q n wd k).set (0+k*1) (.int .u8 ((n / 2^(8*(wd-1-k))%256:Nat):Int))=z0q n wd (k+1):=by
 apply List.ext_getElem
 ·simp
 ·intro j h1 h2;have hj:j<wd:=by simpa using h2
  simp only[z0q,List.getElem_set,List.getElem_map,List.getElem_range];by_cases DC:j=k
  ·subst DC;simp[Rq]
  ·rw[if_neg (by omega)];by_cases aU:j<k
   ·rw[if_pos aU,if_pos (by omega)]
   ·rw[if_neg aU,if_neg (by omega)]
theorem YJ (n wd:Nat)(w:World)(hn:n<18446744073709551616)(pB:wd<=8):Oa prog 97 [NW n,I (wd:Int)] w λv w'=>v=S (Re wd n)/\Ext w w':=by
 have eJ:maxLen=9223372036854775807:=rfl
 refine Nu (e:=[(0,_),(1,_)]) func97 O ntmps97 O O$ qN O$ NQ O$ qM O$ Nz O$ NK O O (pmk (c:=wd) (n:=wd) P8 VO O O O (by omega) (by omega) (by omega)) ?_
 rintro _ w1 ⟨b1,rfl,⟨bN,ad,aj⟩,-⟩
 refine NF O$ py$ qN O$ Nz O$ Q0 P8 O$ Nz O$ NB$ Nw ?_
 rw[<-z0Q n wd] at aj
 refine Qb (α:=Nat) (0) (λk=>[(0,NW n),(1,I (wd:Int)),(5,.slice (some ⟨b1,0,none⟩) wd wd),(10,I (wd:Int)),(11,I (k:Int))]) (λk w'=>k<=wd/\NM w' b1 (z0q n wd k) 5/\Ext w w') (λk=>wd-k) ?hI ?hround
 case hI=>exact⟨by omega,aj,ad⟩
 case hround=>
  rintro k w2 ⟨hk,am,ag⟩ ih
  try dsimp only
  refine qN O$ Pb O O$ NB$ py$ NN O (λaU=>?_)$ λaU=>?_
  ·have EM:k<wd:=by omega
   refine An$ py$ Nw$ qN O$ Nz O$ NF O$ NC O$ NT O O$ NT O O$ Qc O O$ Nz O$ Qc O O$ qV (TT O O (by omega)) ?_;rw[show(8:Int)*(((wd:Int)-1)-(k:Int))=((8*(wd-1-k):Nat):Int) from by omega];refine qV (RS (8*(wd-1-k)) (2^(8*(wd-1-k))) O O (by simp only[IntKind.bits];omega) O) ?_;refine qV (YS O Qe U5)$ qV (OH P8 VO O O (by omega))$ NP O (PA VO O O O am (by simp;omega)) ?_;rintro w3 ⟨ar,aw⟩;rw[z2x n wd k EM] at ar;refine NB$ Ny$ NC O$ OI O O$ Nz O$ NB ?_;exact(ih (k+1) w3 ⟨by omega,ar,ag.Nv aw (λi hi=>by rw[hi,bN];exact Nat.le_refl _)⟩ (by omega)).qb
  ·have:k=wd:=by omega
   subst this;rw[z3v] at am;refine NL O$ qN O$ Nz O$ qV (z2Z (l:=Re k n) P8 U5 U9 O am (by rw[List.drop_zero];exact List.take_of_length_le (by rw[List.length_map,O4];omega)) (by simp[Re])) ?_;refine NF O$ NA func97 O ?_;exact⟨_,rfl,rfl,ag⟩
theorem z0U (s:NH)(hs:s.length<=8)(w:World):Oa prog 98 [S s] w λv w'=>v=NW (Ol (O0 s))/\Ext w w':=by
 refine Nu (e:=[(0,_)]) func98 O ntmps98 O O$ qN O$ NF O$ py$ qN O$ Nz O$ NK O O (z8w U9 P8 U5 O) ?_
 rintro _ w1 ⟨b7,c7,rest,rfl,⟨kO,ad,aj⟩,AV⟩
 refine Q0 P8 O$ Nz O$ NB$ Nw$ Qb (α:=Nat) (0) (λi=>[(2,NW (Ol (O0 (s.take i)))),(6,.slice (some ⟨b7,0,none⟩) s.length c7),(7,I (s.length:Int)),(8,I (i:Int))]) (λi w'=>w'=w1/\i<=s.length) (λi=>s.length-i) ?hI ?hround
 case hI=>exact⟨rfl,Nat.zero_le _⟩
 case hround=>
  rintro i w2 ⟨rfl,hi⟩ ih
  try dsimp only
  refine qN O$ Pb O O$ NB$ py$ NN O (λh0=>?_)$ λh0=>?_
  ·obtain⟨c,hc⟩:∃c,s[i]? =some c:=⟨_,List.getElem?_eq_getElem (by omega)⟩;have dx:=c.toNat_lt;have fC:=Sy hc
   have aU:Ol (O0 (s.take i))<72057594037927936:=by
    have h1:=Pw (O0 (s.take i));rw[bitsT_length,List.length_take] at h1;have h2:2^(8*min i s.length)<=2^56:=Nat.pow_le_pow_right (by decide) (by omega);omega
   have aX:w2.cell? ⟨b7,0+i*1,none⟩=some (Rq c):=by
    rw[aj.cell,Nat.zero_add,Nat.mul_one,List.getElem?_append_left (by rw[List.length_map];omega),List.getElem?_map,hc];rfl
   refine An$ py$ Nw$ qN O$ qV (OH P8 VO O O (by omega))$ qV (Oi U5 O O aX) ?_
   generalize Ol (O0 (s.take i))=q at fC aU
   refine NF O$ NC O$ Nz O$ qV (PV 8 256 O O (by decide) O)$ Nz O$ qV ((z0x O U5 Qe (by decide)))$ qV (XZ O O (by omega) (by omega)) ?_
   have mM:(q*256%18446744073709551616 |||c.toNat)=Ol (O0 (s.take (i+1))):=by
    rw[fC,Nat.mod_eq_of_lt (by omega),Nat.mul_comm q];exact(Nat.two_pow_add_eq_or_of_lt (i:=8) dx q).symm
   rw[mM];refine NF O$ Ny$ NC O$ OI O O$ Nz O$ NB ?_;exact(ih (i+1) _ ⟨rfl,by omega⟩ (by omega)).qb
  ·have cu:i=s.length:=by omega
   subst cu;rw[List.take_length];refine NL O$ qN O$ Nz O$ NF O$ NA func98 O ?_;exact⟨_,rfl,rfl,ad⟩
end Go.Proofs.YtfgjaafcgghnoaaGreatDoor
namespace Go.Proofs.YtfgjaafcgghnoaaGreatDoor
open Go Go.RowKit
def vcC (n width each st len s:Nat)(cl:Bool):List Value:=[I (n:Int),I (width:Int),I (each:Int),I (st:Int),I (len:Int),ptr s 0,.bool cl]
def TQ (n each:Nat):Nat:=max 1 ((n+each-1) / each)
structure Wc (Q:Qn)(txt:Int->NH)(vb width st:Nat)(xs:List Nat)(w:World):Prop where
 ND:NM w vb (vcC xs.length width (512 / width) st (TQ xs.length (512 / width)) Q.s false) 145
 wd:width=1\/width=2\/width=4\/width=8
 t:VcT txt st width (512 / width) xs
 n:xs.length<=4194304
 fit:st+TQ xs.length (512 / width)<=Q.L.length
theorem z0m {n each:Nat}(he:1<=each){i:Nat}(hi:i<n):i / each<TQ n each:=by
 unfold TQ
 have h1:i / each<=(n-1) / each:=Nat.div_le_div_right (by omega)
 have h2:(n+each-1) / each=(n-1) / each+1:=by
  rw[show n+each-1=(n-1)+each by omega,Nat.add_div_right _ (by omega)]
 omega
section
variable {w w':World}{Q Q':Qn}{txt txt':Int->NH}{vb width st:Nat}{xs ys:List Nat}{S':Nat->Prop}
theorem Wc.e (h:Wc Q txt vb width st xs w):64<=512 / width/\512 / width<=512/\512 / width*width=512/\1<=width/\width<=8:=by
 rcases h.wd with e|e|e|e<;>subst e<;>decide
theorem Wc.kp (h:Wc Q txt vb width st xs w)(hk:Kp S' w w')(hn:¬S' vb):Wc Q txt vb width st xs w':=⟨hk.ND h.ND hn,h.wd,h.t,h.n,h.fit⟩
theorem Wc.ext (h:Wc Q txt vb width st xs w)(hx:Ext w w'):Wc Q txt vb width st xs w':=h.kp (S':=λ_=>False) hx id
theorem Wc.lt (h:Wc Q txt vb width st xs w):vb<w.heap.size:=h.ND.lt
theorem Wc.at_ (h:Wc Q txt vb width st xs w){i:Nat}(hi:i<xs.length):st+i / (512 / width)<Q.L.length/\i%(512 / width)*width+width<=512/\i / (512 / width)<TQ xs.length (512 / width):=by
 obtain⟨h1,h2,h3,h4,h5⟩:=h.e
 have h6:=z0m (each:=512 / width) (by omega) hi
 have h7:=h.fit
 have h8:(i%(512 / width)+1)*width<=512 / width*width:=Nat.mul_le_mul_right _ (Nat.mod_lt _ (by omega))
 rw[Nat.add_mul,Nat.one_mul] at h8
 refine⟨by omega,by omega,h6⟩
theorem Wc.cells (h:Wc Q txt vb width st xs w):NM w vb [I (xs.length:Int),I (width:Int),I ((512 / width:Nat):Int),I (st:Int),I (TQ xs.length (512 / width):Int),ptr Q.s 0,.bool false] 145:=h.ND
def VcW (Q:Qn)(txt:Int->NH)(K:Nat)(X:Nat->Prop)(vb width st:Nat)(ys:List Nat)(w w':World):Prop:=
 ∃txt',Sp Q txt' K X w'/\Wc Q txt' vb width st ys w'/\(∀y:Int,y<(st:Int)\/(st:Int)+(TQ ys.length (512 / width):Int)<=y->txt' y=txt y)/\Kp (λb=>¬X b) w w'
end
end Go.Proofs.YtfgjaafcgghnoaaGreatDoor
namespace Go.Proofs.YtfgjaafcgghnoaaGreatDoor.Sums
def bit (c:Nat):Nat:=if c%2=1 then(c / 2)^^^2197175160 else c / 2
def zch (c:Nat):Nat:=bit (bit (bit (bit (bit (bit (bit (bit c)))))))
def byte (c:Nat)(b:UInt8):Nat:=zch (c^^^b.toNat)
def raw (c:Nat)(l:List UInt8):Nat:=l.foldl byte c
def neg (c:Nat):Nat:=4294967295^^^c
def on (c:Nat)(l:List UInt8):Nat:=neg (raw (neg c) l)
def crc (l:List UInt8):Nat:=on 0 l
def num (l:List UInt8):Nat:=(l.getD 0 0).toNat*16777216+(l.getD 1 0).toNat*65536+(l.getD 2 0).toNat*256+(l.getD 3 0).toNat
def be4 (n:Nat):List UInt8:=[UInt8.ofNat (n / 16777216),UInt8.ofNat (n / 65536),UInt8.ofNat (n / 256),UInt8.ofNat n]
@[simp] theorem be4_length (n:Nat):(be4 n).length=4:=rfl
def head (k:UInt8)(p:List UInt8):List UInt8:=k::be4 p.length
def frame (k:UInt8)(p:List UInt8):List UInt8:=head k p++be4 (crc (head k p++p))++p
@[simp] theorem head_length (k:UInt8) (p:List UInt8):(head k p).length=5:=rfl
theorem zaC (c:Nat):(c / 2)^^^(2197175160&&&((4294967296-(c&&&1))%4294967296))=bit c:=by
 have h1:c&&&1=c%2:=Nat.and_two_pow_sub_one_eq_mod c 1
 rw[h1]
 unfold bit
 by_cases h:c%2=1
 ·rw[if_pos h,h]
  congr 1
 ·have h0:c%2=0:=by omega
  rw[if_neg h,h0];simp
theorem Xl {a b:Nat}(ha:a<4294967296)(hb:b<4294967296):a^^^b<4294967296:=Nat.xor_lt_two_pow (n:=32) ha hb
theorem Um {c:Nat}(h:c<4294967296):bit c<4294967296:=by
 unfold bit
 split
 ·exact Xl (by omega) (by omega)
 ·omega
theorem z9i {c:Nat}(h:c<4294967296):zch c<4294967296:=Um (Um (Um (Um (Um (Um (Um (Um h)))))))
theorem z6E {c:Nat}(h:c<4294967296)(b:UInt8):byte c b<4294967296:=z9i (Xl h (by have:=b.toNat_lt;omega))
theorem zaB:∀(l:List UInt8) {c:Nat},c<4294967296->raw c l<4294967296
 |[],_,h=>h
 |b::l,_,h=>zaB l (z6E h b)
theorem z5D {c:Nat}(h:c<4294967296):neg c<4294967296:=Xl (by omega) h
theorem zcD {c:Nat}(l:List UInt8)(h:c<4294967296):on c l<4294967296:=z5D (zaB l (z5D h))
theorem zdx (l:List UInt8):crc l<4294967296:=zcD l (by omega)
theorem z5G (c:Nat)(a b:List UInt8):raw c (a++b)=raw (raw c a) b:=List.foldl_append ..
/-! ### The step is linear -/
/-! ### Linear maps, by their table -/
def iter (L:Nat->Nat):Nat->Nat->Nat
 |0,x=>x
 |n+1,x=>iter L n (L x)
/-! ### Frames -/
@[simp] theorem frame_length (k:UInt8) (p:List UInt8):(frame k p).length=9+p.length:=by simp[frame];omega
/-! ### A byte that is turned is told -/
theorem getD_take (s:List UInt8)(n i:Nat)(h:i<n):(s.take n).getD i 0=s.getD i 0:=by simp[List.getD,h]
def z9z (s:List UInt8)(i:Nat)(d:UInt8):List UInt8:=s.set i (s.getD i 0^^^d)
@[simp] theorem turned_length (s:List UInt8) (i:Nat) (d:UInt8):(z9z s i d).length=s.length:=by simp[z9z]
end Go.Proofs.YtfgjaafcgghnoaaGreatDoor.Sums
namespace Go.Proofs.YtfgjaafcgghnoaaGreatDoor
open Go Go.RowKit Go.Proofs.Tryz
set_option linter.unusedVariables false
abbrev U (n:Nat):Value:= .int .u32 (n:Int)
theorem or3 (a b c d:Nat)(ha:a<256)(hb:b<256)(hc:c<256)(hd:d<256):
  a*16777216 |||b*65536=a*16777216+b*65536/\a*16777216 |||b*65536 |||c*256=a*16777216+b*65536+c*256/\a*16777216 |||b*65536 |||c*256 |||d=a*16777216+b*65536+c*256+d:=by
 have h1:a*16777216 |||b*65536=a*16777216+b*65536:=nat_join 24 _ _ (by omega) (by omega)
 have h2:a*16777216 |||b*65536 |||c*256=a*16777216+b*65536+c*256:=by rw[h1];exact nat_join 16 _ _ (by omega) (by omega)
 refine⟨h1,h2,?_⟩
 rw[h2]
 exact nat_join 8 _ _ (by omega) (by omega)
theorem z8I (c:Nat)(b:UInt8)(p:Nat)(T:TypeId)(w:World)(hB:NM w p [U c] T)(hc:c<4294967296):
  Oa prog 131 [Rq b,ptr p 0] w λv w'=>v= .tuple #[]/\NM w' p [U (Sums.byte c b)] T/\Kp (λk=>k=p) w w':=by
 have hb:=b.toNat_lt
 have hx:=Sums.Xl hc (show b.toNat<4294967296 by omega)
 refine Nu (e:=[(0,_),(1,_)]) func131 O ntmps131 O O$ qN O$ qV (NJ OX O O hB O)$ Nz O$ qV ((z0x O U5 OX (by decide)))$ qV (zd3 O O (by omega) (by omega))$ NP O (PA NV O O O hB (by simp)) ?_
 rintro w1 ⟨aj,aM⟩
 refine qM O$ Nz O$ NB$ Nw$ Qb (α:=Nat×Nat) ((0,c^^^b.toNat)) (λx=>[(0,Rq b),(1,ptr p 0),(7,I (x.1:Int))]) (λx w'=>x.1<=8/\x.2<4294967296/\Sums.iter Sums.bit (8-x.1) x.2=Sums.byte c b/\NM w' p [U x.2] T/\Kp (λk=>k=p) w w') (λx=>8-x.1) ?hI ?hround
 case hI=>exact⟨by omega,hx,rfl,aj,aM⟩
 case hround=>
  rintro⟨k,d⟩ w2 ⟨aV,hd,hs,am,aq⟩ ih
  try dsimp only
  refine qN O$ Pb O O$ NB$ py$ NN O (λaU=>?_)$ λaU=>?_
  ·have jT:d&&&1<4294967296:=Nat.lt_of_le_of_lt Nat.and_le_right (by omega);have ut:(4294967296-(d&&&1))%4294967296<4294967296:=Nat.mod_lt _ (by omega);have j9:2197175160&&&((4294967296-(d&&&1))%4294967296)<4294967296:=Nat.lt_of_le_of_lt Nat.and_le_left (by omega);refine An$ py$ Nw$ NC O$ qV (NJ OX O O am O)$ qV (RS 1 2 O O (by decide) O)$ qV (NJ OX O O am O)$ qV (zcu O O (by omega) (by omega))$ qV (zha O (by omega))$ qV (zcu O O (by omega) (by omega))$ qV (zd3 O O (by omega) (by omega))$ NP O (PA NV O O O am (by simp)) ?_;rintro w3 ⟨ar,aw⟩;refine NB$ Ny$ NC O$ OI O O$ Nz O$ NB ?_;simp only[List.set_cons_zero] at ar;rw[Sums.zaC] at ar;refine(ih (k+1,Sums.bit d) w3 ⟨by dsimp only at*;omega,Sums.Um hd,?_,ar,aq.trans aw⟩ (by dsimp only at*;omega)).qb;have h8:8-k=(8-(k+1))+1:=by dsimp only at*;omega
   dsimp only at hs⊢;rw[h8] at hs;exact hs
  ·refine NL O$ Pq func131 O ?_;have hk:k=8:=by dsimp only at*;omega
   subst hk;refine⟨_,rfl,rfl,?_,aq⟩;have:d=Sums.byte c b:=hs;rw[<-this];exact am
theorem ze4 {l:List UInt8}{rest:List Value}{k:Nat}(h:k<l.length):(l.map Rq++rest)[0+k*1]? =some (Rq (l.getD k 0)):=by
 rw[Nat.zero_add,Nat.mul_one,List.getElem?_append_left (by simpa using h)]
 simp[h,List.getD]
theorem z0z (c:Nat)(l:List UInt8)(k:Nat)(h:k<l.length):Sums.raw c (l.take (k+1))=Sums.byte (Sums.raw c (l.take k)) (l.getD k 0):=by
 rw[List.take_succ_eq_append_getElem h,Sums.z5G]
 simp[Sums.raw,List.getD,h]
theorem z9y (c:Nat)(l:List UInt8)(w:World)(hc:c<4294967296)(hl:l.length<=9223372036854775807):
  Oa prog 96 [U c,S l] w λv w'=>v=U (Sums.on c l)/\Ext w w':=by
 refine Nu (e:=[(0,_),(1,_)]) func96 O ntmps96 O O$ qN O$ NK O O (PW O O) ?_
 rintro _ w1 ⟨b1,rfl,bN,ad,aj⟩
 refine NQ O$ qM O$ qV (NJ OX O O aj O)$ qV (zcx O (by omega))$ NP O (PA NV O O O aj (by simp)) ?_
 rintro w2 ⟨am,aq⟩
 simp only[List.set_cons_zero] at am
 have ag:Ext w w2:=ad.Nv aq (λi hi=>by rw[hi,bN];exact Nat.le_refl _)
 refine qM O$ qV (ymf (first:=[]) (caps:=[.tmp 2]) O O)$ NF O$ py$ qN O$ Nz O$ NK O O (z8w U9 P8 U5 O) ?_
 rintro _ w3 ⟨b3,cap,rest,rfl,⟨dF,ah,ar⟩,ja⟩
 refine Q0 P8 O$ Nz O$ NB$ Nw ?_
 have bD:b3≠b1:=by have:=am.lt;omega
 refine Qb (α:=Nat×Nat) ((0,Sums.neg c)) (λx=>[(2,ptr b1 0),(5,.func (.func 131) #[] #[ptr b1 0]),(12,.slice (some ⟨b3,0,none⟩) l.length cap),(13,I (l.length:Int)),(14,I (x.1:Int))]) (λx w'=>x.1<=l.length/\x.2<4294967296/\x.2=Sums.raw (Sums.neg c) (l.take x.1)/\NM w' b1 [U x.2] 46/\NM w' b3 (l.map Rq++rest) 5/\Ext w w') (λx=>l.length-x.1) ?hI ?hround
 case hI=>exact⟨by simp,Sums.z5D hc,rfl,ah.ND am,ar,ag.trans ah⟩
 case hround=>
  rintro⟨k,d⟩ w4 ⟨hk,hd,hs,aH,aC,aB⟩ ih;dsimp only at hk hd hs aH
  try dsimp only
  refine qN O$ Pb O O$ NB$ py$ NN O (λaU=>?_)$ λaU=>?_
  ·have ig:k<l.length:=by omega
   refine An$ py$ Nw$ qN O$ qV (OH P8 VO O O (by omega))$ qV (NJ U5 O O aC (ze4 ig))$ NF O$ NC O$ NT O O$ Pv O O (QH zgs O O) (z8I d (l.getD k 0) b1 _ w4 aH hd) ?_;rintro _ w5 ⟨rfl,aR,aP⟩;refine NB$ Ny$ NC O$ OI O O$ Nz O$ NB ((ih (k+1,Sums.byte d (l.getD k 0)) w5 ⟨ig,Sums.z6E hd _,?_,aR,aP.ND aC bD,aB.Nv aP (λi hi=>by rw[hi,bN];exact Nat.le_refl _)⟩ (by dsimp only;omega)).qb);rw[z0z _ _ _ ig,<-hs]
  ·refine NL O$ qN O$ qV (NJ OX O O aH O)$ qV (zcx O (by omega))$ NF O$ NA func96 O (⟨_,rfl,?_,aB⟩);have jG:k=l.length:=by omega
   subst jG;rw[List.take_length] at hs;show U (Sums.neg d)=_;rw[hs]
   rfl
theorem z6x (l:List UInt8)(w:World)(hl:l.length<=9223372036854775807):
  Oa prog 91 [S l] w λv w'=>v=U (Sums.crc l)/\Ext w w':=by
 refine Nu (e:=[(0,_)]) func91 O ntmps91 O O$ qN O$ NQ O$ qM O$ Nz O$ NZ zfG O (z9y 0 l _ (by omega) hl) ?_
 rintro _ w1 ⟨rfl,ad⟩
 refine NF O$ NA func91 O ?_
 exact⟨_,rfl,rfl,ad⟩
theorem z07 (s:NH):Lib.strCells ⟨s.toArray⟩=s.map Rq:=by simp[Lib.strCells,Rq]
section
variable {P:Program}{e:Env}{d:Option Nat}{ty t tu tn el:TypeId}{pos:String}{aft:Array Edge}{g:Option (Nat×Bool)}{x y:Operand}{w w':World}{n k:Nat}{v:Value}{cs:List Value}{s:NH}{kn:IntKind}{za:Int}
theorem z3y (ht:P.underlying t=some (.slice el))(hu:P.underlying tu=some .string)(hs:TI P el (.int .u8 0) 1 1)(hv:Sl w v el 1 n cs)(hb:n+s.length<=140737488355328):
  ∃v' w',(Builtin.append_ #[t,tu] ty #[v,S s]).run P w= .ok v' w'/\Sl w' v' el 1 (n+s.length) (cs++s.map Rq)/\Kp (λk=>v.ownBlock=some k) w w'/\(∀g,v'.ownBlock=some g->v.ownBlock=some g\/w.heap.size<=g):=by
 have eJ:maxLen=9223372036854775807:=rfl
 obtain⟨i,hi,pH,jR,rA⟩:=hs
 have e1:=Rz s
 have e2:=z07 s
 rcases id hv.2 with⟨rfl,rfl⟩|⟨g,cap,cur,rfl,HJ,hg,jB,nh,eL,HK⟩
 ·have hx:cs=[]:=List.eq_nil_of_length_eq_zero (by simpa using hv.1);subst hx;obtain⟨v',w',hr,ho,hg,-⟩:=Lib.run_append_own_string (P:=P) w w.heap.size t tu ty el i ht hu hi pH jR rA (.slice none 0 0) 0 [] (World.ownsRow_nil w w.heap.size el 1) ⟨s.toArray⟩ (by rw[e1];omega) (by rw[e1];exact hb) (Nat.le_refl _);rw[e1,e2] at ho;refine⟨v',w',hr,⟨ho.1,?_⟩,Kp.Th hg,λg hg=> .inr (World.ownsRow.lt ho g hg).1⟩;rcases ho.2 with L5|⟨g,cap2,cur2,iz,bQ,dV⟩
  ·exact .inl L5
  ·exact .inr ⟨g,cap2,cur2,iz,Nat.zero_le _,dV⟩
 ·by_cases fJ:n+s.length<=cap
  ·by_cases hc:0<cap
   ·obtain⟨w',hr,ho,cP⟩:=Lib.run_append_fits_string (P:=P) w 0 t tu ty el i ht hu hi jR (some ⟨g,0,none⟩) n cap cs hv ⟨s.toArray⟩ hc (by rw[e1];exact fJ);rw[e1,e2] at ho;rw[e1] at hr;exact⟨_,w',hr,ho,Kp.Th cP,λg' cP=> .inl (by simpa[Value.ownBlock] using cP)⟩
   ·obtain⟨v',w',hr,ho,cP,-⟩:=Lib.run_append_own_string (P:=P) w 0 t tu ty el i ht hu hi pH jR rA (.slice (some ⟨g,0,none⟩) n cap) n cs hv ⟨s.toArray⟩ (by rw[e1];omega) (by rw[e1];exact hb) (Nat.zero_le _);have L6:s=[]:=List.eq_nil_of_length_eq_zero (by omega);subst L6;have dV:=Lib.run_append_room_string (P:=P) w t tu ty el i ht hu hi jR g n cap cur hg ⟨[].toArray⟩ (by rw[e1];exact fJ) (by rw[e1];simp only[Nat.mul_one] at eL;simp only[List.length_nil];omega);rw[dV] at hr;cases hr;rw[e1,e2] at ho;exact⟨_,_,dV,ho,Kp.Th cP,λg' cP=> .inl (by simpa[Value.ownBlock] using cP)⟩
  ·obtain⟨v',w',hr,ho,cP,-⟩:=Lib.run_append_own_string (P:=P) w 0 t tu ty el i ht hu hi pH jR rA (.slice (some ⟨g,0,none⟩) n cap) n cs hv ⟨s.toArray⟩ (by rw[e1];omega) (by rw[e1];exact hb) (Nat.zero_le _);have dV:=Lib.run_append_grow_string (P:=P) w t tu ty el i (.int .u8 0) ht hu hi pH ⟨g,0,none⟩ n cap cs (by rw[jR];exact hv.1) (World.ownsRow.cells hv (g:=g) O) ⟨s.toArray⟩ (by rw[e1];omega) (by rw[e1];omega) (by rw[e1];exact growslice_fits (by omega) (by rw[rA];omega));rw[dV] at hr;cases hr;rw[e1,e2] at ho;refine⟨_,_,dV,by rw[<-e1] at ho⊢;exact ho,Kp.Th cP,λg' cP=> .inr ?_⟩;simp[Value.ownBlock] at cP;omega
theorem zeD (ht:P.underlying t=some (.slice el))(hu:P.underlying tu=some .string)(hs:TI P el (.int .u8 0) 1 1)(hx:look e x=some v)(hy:look e y=some (S s))(hv:Sl w v el 1 n cs)(hb:n+s.length<=140737488355328):
  Yp P e ⟨d,.call ⟨.builtin .append,#[x,y],#[t,tu]⟩,ty,pos,aft,g⟩ w λv' w'=>Sl w' v' el 1 (n+s.length) (cs++s.map Rq)/\Kp (λk=>v.ownBlock=some k) w w'/\(∀g,v'.ownBlock=some g->v.ownBlock=some g\/w.heap.size<=g):=by
 obtain⟨v',w',hr,oa⟩:=z3y (P:=P) (ty:=ty) ht hu hs hv hb
 refine⟨v',w',fun ρ hρ=>?_,oa⟩
 simp[execOp,resolve,invoke,builtin,hρ _ _ hx,hρ _ _ hy,hr]
theorem z35 (k:Nat):Builtin.zeroCells (Value.int .u8 0).cells k=(Lib.strCells ⟨(zeros k).toArray⟩).toArray:=by
 rw[z07]
 apply Array.ext'
 rw[VV (.int .u8 0) k O]
 simp[zeros,Rq]
theorem zh2 [sD:RU za k](ht:P.underlying t=some (.slice el))(hn:P.underlying tn=some (.int kn))(hu:P.underlying tu=some .string)(hs:TI P el (.int .u8 0) 1 1)(hx:look e x=some v)(hy:look e y=some (I za))(hv:Sl w v el 1 n cs)(hb:n+k<=140737488355328):
  Yp P e ⟨d,.call ⟨.builtin .append,#[x,y],#[t,tn]⟩,ty,pos,aft,g⟩ w λv' w'=>Sl w' v' el 1 (n+k) (cs++(zeros k).map Rq)/\Kp (λk=>v.ownBlock=some k) w w'/\(∀g,v'.ownBlock=some g->v.ownBlock=some g\/w.heap.size<=g):=by
 obtain⟨rfl⟩:=sD
 have hl:(zeros k).length=k:=by simp[zeros]
 obtain⟨v',w',hr,h1,h2⟩:=z3y (P:=P) (ty:=ty) (s:=zeros k) ht hu hs hv (by rw[hl];exact hb)
 rw[hl] at h1
 have he:(Builtin.append_ #[t,tn] ty #[v,I (k:Int)]).run P w= .ok v' w':=by
  rw[<-hr];obtain⟨i,hi,pH,jR,rA⟩:=hs;have hw:IntKind.i64.wrap (k:Int)=k:=by rw[IntKind.wrap_i64];omega
  have ut:¬((k:Int)<0):=by omega
  have HM:¬(281474976710656<(k:Int)*(i.bytes:Int)):=by rw[rA];omega
  have hf:=λw=>Lib.run_firstCells_string (P:=P) w i.size ⟨(zeros k).toArray⟩;have cH:(ByteArray.mk (zeros k).toArray).size=k:=by rw[Rz,hl]
  rw[cH] at hf
  obtain⟨a,c,L7⟩:∃a c,v= .slice a n c:=by
   rcases hv.2 with⟨rfl,rfl⟩|⟨g,cap,cur,rfl,_⟩
   ·exact⟨_,_,rfl⟩
   ·exact⟨_,_,rfl⟩
  subst L7;have L8:k=0->(Lib.strCells ⟨(zeros k).toArray⟩).toArray=#[]:=λe=>by subst e;rfl
  have L9:c<=maxLen/\n<=c:=by
   rcases hv.2 with⟨h,h'⟩|⟨g,cap,cur,h,_,_,h1,h2,_⟩
   ·cases h;exact⟨by simp[maxLen],by omega⟩
   ·cases h;exact⟨h2,h1⟩
  have cj:n+k<=c\/¬(281474976710656<Builtin.nextslicecap (n+k) c*i.bytes):=by
   by_cases hr:n+k<=c
   ·exact .inl hr
   ·have:=growslice_fits (need:=n+k) (old:=c) (bytes:=i.bytes) (by omega) (by rw[rA];omega);exact .inr (by omega)
  have EN:¬(9223372036854775807<((n:Int)+(k:Int))):=by omega
  by_cases hk:k=0
  ·subst hk;have e0:=L8 O;have gO:n<=c:=L9.2;have nA:IntKind.i64.wrap 0=0:=by rw[IntKind.wrap_i64];omega
   have iY:=hf w;rw[jR,e0] at iY;simp[Builtin.append_,run_underlying ht,run_underlying hn,run_underlying hu,sizeOf,typeInfo,zeroValue,hi,pH,jR,asInt,asIntOf,nA,Builtin.lenOf,cH,gO,iY]
  ·have bB:=z35 k;have sJ:∀w,(Builtin.firstCells 1 k (.string ⟨(zeros k).toArray⟩)).run P w= .ok (Builtin.zeroCells (Value.int .u8 0).cells k) w:=λw=>by rw[bB];have:=hf w;rw[jR] at this;exact this
   have gY:¬(k*i.size=0):=by rw[jR];omega
   by_cases hr:n+k<=c
   ·simp[Builtin.append_,run_underlying ht,run_underlying hn,run_underlying hu,sizeOf,typeInfo,zeroValue,hi,pH,jR,asInt,asIntOf,hw,ut,HM,Builtin.lenOf,cH,hr,sJ,hk]
   ·have EO:=cj.resolve_left hr;simp[Builtin.append_,run_underlying ht,run_underlying hn,run_underlying hu,sizeOf,typeInfo,zeroValue,hi,pH,jR,asInt,asIntOf,hw,ut,HM,Builtin.lenOf,cH,hr,sJ,hk,EN,EO]
 refine⟨v',w',fun ρ hρ=>?_,h1,h2⟩
 simp[execOp,resolve,invoke,builtin,hρ _ _ hx,hρ _ _ hy,he]
end
/-! ### Writers -/
def swC (s st len:Nat)(rest:Value)(at' n:Nat)(sum:Nat)(put:Value)(dn:Bool):List Value:=[ptr s 0,I (st:Int),I (len:Int),rest,I (at':Int),I (n:Int),U sum,put,.bool dn]
section
variable {w w':World}{Q:Qn}{txt:Int->NH}{K:Nat}{X:Nat->Prop}
theorem z1P (n:Nat)(hn:n<=2000000)(w:World):Oa prog 55 [I 512,I (n:Int)] w λv w'=>v= .tuple #[I (((n+523) / 512:Nat):Int),I 0]/\w'=w:=by
 refine Nu (e:=[(0,_),(1,_)]) func55 O ntmps55 O O$ qN O$ NQ O$ NF O$ py$ qN O$ Nz O$ Pb O O$ Ox$ NT O O$ P9 O O$ Ox$ OC O O$ NT O O ?_
 refine qV (yre O O (by omega))$ P3 O O$ Ox$ OC O O$ NT O O$ Pb O O$ Ox$ OC O O$ NT O O$ Nz O$ qV (TT O O (by omega))$ Qc O O$ P9 O O$ Ox ?_
 refine OC O O$ NB$ Of.qb (e:=[(0,_),(1,_),(4,_),(5,_),(27,_)]) ?_
 refine It O$ An$ qN O$ Nz O$ OI O O$ Nz O$ OI O O$ Qc O O$ Nz O$ qV (Vu O O (by omega))$ NQ O$ NF O ?_
 rw[show((n:Int)+12+512-1) / 512=(((n+523) / 512:Nat):Int) by omega]
 refine NA func55 O ?_
 exact⟨_,rfl,rfl,rfl⟩
theorem YG (h:Sp Q txt K X w){st len:Nat}(h1:1<=len)(h2:st+len<=Q.L.length):Oa prog 92 [.agg #[ptr Q.s 0,I (st:Int),I (len:Int)]] w λv w'=>v=I 0/\Ext w w':=by
 have dY:=h.n
 refine Nu (e:=[(0,_)]) func92 O ntmps92 O O$ qN O$ NK O O (PW O (cs:=[ptr Q.s 0,I (st:Int),I (len:Int)]) O) ?_
 rintro _ w1 ⟨b1,rfl,bN,ad,aj⟩
 have hP:=h.ext' ad
 have hg:=Ext.NY w1
 have HN:=(hP.ext' hg).dev
 have HO:=(hP.ext' hg).blocks
 refine NF O$ py$ Nw$ qN O$ NO Ty O$ qV (NJ UM O O aj O)$ qV (OP UM O O)$ NF O$ It O$ py$ PK (λw'=>Ext w1 w') O$ NG 0 O (Og SN O) hg$ NG 1 O (Og PR O) hg$ qT 2 O (λ_ h=>NJ U3 O O (h.ND aj) O) hg ?_
 refine NG 3 O (ZQ O O) hg$ S4$ NX 4 O O (hg)$ NG 5 O (Og SN O) hg$ NG 6 O (Og PF O) hg$ qT 7 O (λ_ h=>NJ U3 O O (h.ND aj) O) hg$ NG 8 O (ZQ O O) hg$ S4$ NG 9 O (S6 O O) hg$ NX 10 O O (hg)$ NG 11 O (Og SN O) hg$ NG 12 O (Og PF O) hg$ qT 13 O (λ_ h=>NJ U3 O O (h.ND aj) O) hg$ NG 14 O (Og Ty O) hg ?_
 refine qT 15 O (λ_ h=>NJ UM O O (h.ND aj) O) hg$ Qv 16 O zcJ O (HN) ?_
 rintro _ w2 ⟨rfl,rfl⟩
 refine⟨hg,?_⟩
 refine Qv 17 O z3Q O (HO) ?_
 rintro _ w2 ⟨rfl,rfl⟩
 refine⟨hg,?_⟩
 refine NG 18 O (yge O O) hg$ S4$ NG 19 O (S6 O O) hg$ NX 20 O O (hg)$ NG 21 O (Og SN O) hg$ NG 22 O (Og PR O) hg$ qT 23 O (λ_ h=>NJ U3 O O (h.ND aj) O) hg$ NG 24 O (Og Ty O) hg$ qT 25 O (λ_ h=>NJ UM O O (h.ND aj) O) hg$ NG 28 O (Og SN O) hg$ NG 29 O (Og PF O) hg$ qT 30 O (λ_ h=>NJ U3 O O (h.ND aj) O) hg$ Qv 26 O zcJ O (HN) ?_
 rintro _ w2 ⟨rfl,rfl⟩
 refine⟨hg,?_⟩
 refine Qv 27 O z3Q O (HO) ?_
 rintro _ w2 ⟨rfl,rfl⟩
 refine⟨hg,?_⟩
 refine NG 31 O (W5 O O (by omega)) hg$ NG 32 O (VP O O) hg$ S4$ NG 33 O (S6 O O) hg$ NG 34 O (PO O) hg$ qE$ Of.qb (e:=[(2,_),(7,_)]) ?_
 refine It O$ An$ Ny$ qN O$ NF O$ NA func92 O ?_
 exact⟨_,rfl,rfl,ad.trans hg⟩
theorem Zo (h:Sp Q txt K X w){st len:Nat}(h2:len<=100000):Oa prog 99 [.agg #[ptr Q.s 0,I (st:Int),I (len:Int)]] w λv w'=>v=I ((len:Int)*512-12)/\Ext w w':=by
 refine Nu (e:=[(0,_)]) func99 O ntmps99 O O$ qN O$ NK O O (PW O (cs:=[ptr Q.s 0,I (st:Int),I (len:Int)]) O) ?_
 rintro _ w1 ⟨b1,rfl,bN,ad,aj⟩
 have hP:=h.ext' ad
 have hg:=Ext.NY w1
 have La:=(hP.ext' hg).size
 refine NF O$ py$ PK (λw'=>Ext w1 w') O$ NG 0 O (Og SN O) hg$ NG 1 O (Og PR O) hg$ qT 2 O (λ_ h=>NJ U3 O O (h.ND aj) O) hg$ NG 3 O (Og Ty O) hg$ qT 4 O (λ_ h=>NJ UM O O (h.ND aj) O) hg$ Qv 5 O z2s O (La) ?_
 rintro _ w2 ⟨rfl,rfl⟩
 refine⟨hg,?_⟩
 refine NG 6 O (TT O O (by omega)) hg$ NG 7 O (W5 O O (by omega)) hg$ NG 8 O (PO O) hg$ qE$ NA func99 O ?_
 exact⟨_,rfl,rfl,ad.trans hg⟩
theorem Xr {wb s st len at' n sum:Nat}{rest put:Value}(hB:NM w wb (swC s st len rest at' n sum put false) 200):Oa prog 94 [ptr wb 0] w λv w'=>v=I 0/\w'=w:=by
 replace hB:NM w wb [ptr s 0,I (st:Int),I (len:Int),rest,I (at':Int),I (n:Int),U sum,put,.bool false] 200:=hB
 refine Nu (e:=[(0,_)]) func94 O ntmps94 O O$ qN O$ NF O$ py$ Nw$ qN O$ Nz O$ qV (OP z1T O O)$ NF O$ It O$ qN O$ Nz O$ O8 O$ NO WQ O ?_
 refine qV (NJ U4 O O hB O)$ NF O$ It O$ An$ Ny$ qN O$ NF O$ NA func94 O ?_
 exact⟨_,rfl,rfl,rfl⟩
theorem z2I (h:Sp Q txt K X w){wb st len at' n sum:Nat}{rest put:Value}(h2:len<=100000)(hn:n<=100000000)(hB:NM w wb (swC Q.s st len rest at' n sum put false) 200):Oa prog 95 [ptr wb 0] w λv w'=>v=I ((len:Int)*512-12-(n:Int))/\Ext w w':=by
 replace hB:NM w wb [ptr Q.s 0,I (st:Int),I (len:Int),rest,I (at':Int),I (n:Int),U sum,put,.bool false] 200:=hB
 have hg:=Ext.NY w
 have Lb:=Zo (h.ext' hg) (st:=st) h2
 refine Nu (e:=[(0,_)]) func95 O ntmps95 O O$ qN O$ NF O$ py$ qN O$ Nz O$ qV (OP z1T O O)$ NT O O$ O8 O$ NO WQ O$ qV (NJ U4 O O hB O)$ OC O O$ NB$ It O ?_
 refine An$ py$ PK (λw'=>Ext w w') O$ NX 0 O O (hg)$ NG 1 O (OQ O) hg$ NG 2 O (Og Vx O) hg$ qT 3 O (λ_ h=>Oh zbd O VX O (NM.cells (n:=3) (h.ND hB) (news:=[_,_,_]) O) O) hg$ NX 5 O O (hg)$ NG 6 O (OQ O) hg$ NG 7 O (Og Zd O) hg$ qT 8 O (λ_ h=>NJ U3 O O (h.ND hB) O) hg$ Qv 4 O zfc O (Lb) ?_
 rintro _ w2 ⟨rfl,ag⟩
 refine⟨(hg.trans ag),?_⟩
 refine NG 9 O (W5 O O (by omega)) ((hg.trans ag))$ NG 10 O (PO O) ((hg.trans ag))$ qE$ NA func95 O ?_
 exact⟨_,rfl,rfl,hg.trans ag⟩
end
def Zy (bs bx bw:Nat):Value:= .func (.func 93) #[] #[ptr bs 0,ptr bx 0,ptr bw 0]
structure SwM (s st len wb bs bx bw:Nat)(rest:Value)(at' n sum:Nat)(w:World):Prop where
 wr:NM w wb (swC s st len rest at' n sum (Zy bs bx bw) false) 200
 sb:NM w bs [ptr s 0] 28
 xb:NM w bx [I (st:Int),I (len:Int)] 108
 pb:NM w bw [ptr wb 0] 133
 ne:bs≠wb/\bx≠wb/\bw≠wb
section
variable {w w':World}{Q:Qn}{txt:Int->NH}{K:Nat}{X S':Nat->Prop}{s st len wb bs bx bw at' n sum:Nat}{rest:Value}
theorem SwM.kp (h:SwM s st len wb bs bx bw rest at' n sum w)(hk:Kp S' w w')(h1:¬S' wb)(h2:¬S' bs)(h3:¬S' bx)(h4:¬S' bw):SwM s st len wb bs bx bw rest at' n sum w':=
 ⟨hk.ND h.wr h1,hk.ND h.sb h2,hk.ND h.xb h3,hk.ND h.pb h4,h.ne⟩
theorem SwM.ext (h:SwM s st len wb bs bx bw rest at' n sum w)(hx:Ext w w'):SwM s st len wb bs bx bw rest at' n sum w':=h.kp (S':=λ_=>False) hx id id id id
theorem SwM.re {rest2:Value}{at2 n2 sum2:Nat}(h:SwM s st len wb bs bx bw rest at' n sum w)(hk:Kp (λb=>b=wb) w w')(hB:NM w' wb (swC s st len rest2 at2 n2 sum2 (Zy bs bx bw) false) 200):SwM s st len wb bs bx bw rest2 at2 n2 sum2 w':=
 ⟨hB,hk.ND h.sb h.ne.1,hk.ND h.xb h.ne.2.1,hk.ND h.pb h.ne.2.2,h.ne⟩
theorem SwM.cells (h:SwM s st len wb bs bx bw rest at' n sum w):NM w wb [ptr s 0,I (st:Int),I (len:Int),rest,I (at':Int),I (n:Int),U sum,Zy bs bx bw,.bool false] 200:=h.wr
theorem XE (hP:Sp Q txt K X w)(hX:∀b,X b->b<w.heap.size)(hK:K<1000000000000)(h:SwM Q.s st len wb bs bx bw rest at' n sum w)(aY:X wb/\X bs/\X bx/\X bw)(Bg:st+at'<Q.L.length)(t:NH)(ht:t.length=512):
  Oa prog 93 [S t,ptr bs 0,ptr bx 0,ptr bw 0] w λv w'=>v=I 0/\Sp Q (Xx txt ((st+at':Nat):Int) (some t)) (K+1) X w'/\SwM Q.s st len wb bs bx bw rest (at'+1) n sum w'/\Kp (λb=>¬X b\/b=wb) w w':=by
 have dY:=hP.n
 have mA:=h.sb
 have j6:=h.xb
 have mB:=h.pb
 have hB:=h.cells
 have hg:=Ext.NY w
 refine Nu (e:=[(0,_),(1,_),(2,_),(3,_)]) func93 O ntmps93 O O$ qN O$ NF O$ py$ PK (λw'=>Kp (λb=>¬X b) w w') O$ qT 0 O (λ_ hS=>(NJ UM O O (hS.ND mA (λe=>e aY.2.1)) O)) (hg.kp)$ NG 1 O (Og PF O) (hg.kp)$ qT 2 O (λ_ hS=>(NJ U3 O O (hS.ND j6 (λe=>e aY.2.2.1)) O)) (hg.kp)$ qT 3 O (λ_ hS=>(NJ z1T O O (hS.ND mB (λe=>e aY.2.2.2)) O)) (hg.kp)$ NG 4 O (OQ O) (hg.kp)$ NG 5 O (Og WJ O) (hg.kp)$ qT 6 O (λ_ hS=>(NJ U3 O O (hS.ND hB (λe=>e aY.1)) O)) (hg.kp)$ NG 7 O (SX O O (by omega)) (hg.kp)$ NX 8 O O (hg.kp) ?_
 rw[show(st:Int)+(at':Int)=((st+at':Nat):Int) by omega]
 refine Qv 9 O ze0 O ((hP.ext' hg).write (λb hb=>by have:=hX b hb;have:=hg.size;omega) hK (no:=((st+at':Nat):Int)) (by omega) (by omega) t ht) ?_
 rintro _ w1 ⟨rfl,j8,aM⟩
 refine⟨hg.kp.trans aM,?_⟩
 have iM:Kp (λb=>¬X b) w w1:=hg.kp.trans aM
 have h1:=h.kp iM (λe=>e aY.1) (λe=>e aY.2.1) (λe=>e aY.2.2.1) (λe=>e aY.2.2.2)
 have aj:=h1.cells
 have EP:=h1.pb
 have lw:∀b,X b->b<w1.heap.size:=λb hb=>by have:=hX b hb;have:=iM.size;omega
 refine NG 10 O (PO O) (hg.kp.trans aM)$ qE$ qN O$ qV ((NJ z1T O O EP O))$ O8 O$ NO WJ O$ qV ((NJ U3 O O aj O))$ OI O O$ O8 O$ NO WJ O$ NP O (PA OL O O O aj (by simp)) ?_
 rintro w2 ⟨am,aq⟩
 have eN:NM w2 wb (swC Q.s st len rest (at'+1) n sum (Zy bs bx bw) false) 200:=am
 have h2:=h1.re aq eN
 have zP:=h2.cells
 have zQ:=h2.pb
 have aa:=Ext.NY w2
 have er:=j8.own aq (λb e=>by rw[e];exact aY.1)
 refine NB$ py$ O3 [11] (λw'=>Ext w2 w') (by kernel_rfl) O$ qL [9,10,11] 0 O (λ_ h=>(NJ z1T O O (h.ND zQ) O)) aa$ qL [2,3,4,5,6,7,8,9,10,11] 1 O (λ_ h=>(NJ z1T O O (h.ND zQ) O)) aa$ qL [3,4,5,6,7,8,9,10,11] 2 O (λ_ h=>OQ O) aa$ qL [4,5,6,7,8,9,10,11] 3 O (λ_ h=>Og WQ O) aa$ qL [5,6,7,8,9,10,11] 4 O (λ_ h=>(NJ U4 O O (h.ND zP) O)) aa$ qL [6,7,8,9,10,11] 5 O (λ_ h=>Oq O) aa$ qL [7,8,9,10,11] 6 O (λ_ h=>Oq O) aa$ qL [8,9,10,11] 7 O (λ_ h=>yne O O) aa$ qL [9,10,11] 8 O (λ_ h=>S6 O O) aa$ qL [10,11] 9 O (λ_ h=>OQ O) aa$ qL [11] 10 O (λ_ h=>Og WQ O) aa ?_
 refine Rs [11] ?_
 have ar:=aa.ND zP
 refine qO 11$ Ou (i:=11) O O (PA Tf O O O ar (by simp)) ?_
 rintro w3 ⟨kD,aw⟩
 refine⟨trivial,?_⟩
 refine qE$ Of.qb (e:=[(5,_),(6,_)]) ?_
 refine qN O$ Nz O$ NF O$ NA func93 O ?_
 have h3:=(h2.ext aa).re aw (show NM w3 wb (swC Q.s st len rest (at'+1) n sum (Zy bs bx bw) false) 200 from kD)
 exact⟨_,rfl,rfl,(er.ext' aa).own aw (λb e=>by rw[e];exact aY.1),h3,((iM.NR λb e=> .inl e).trans (aq.NR λb e=> .inr e)).trans (aa.kp.trans (aw.NR λb e=> .inr e))⟩
end
section
variable {P:Program}{e:Env}{d:Option Nat}{ty t t' el:TypeId}{pos:String}{aft:Array Edge}{g:Option (Nat×Bool)}{x:Operand}{w:World}{l:NH}{v:Value}
theorem zds (hs:P.underlying t=some (.slice el))(he:P.underlying el=some (.int .u8))(hd:P.underlying t'=some .string)(hx:look e x=some v)(hr:Rd w v 1 l.length (l.map Rq))(hl:0<l.length):
  Y P e ⟨d,.convert t t' x,ty,pos,aft,g⟩ (S l) w w:=fun ρ hρ=>by
 rcases hr.2 with⟨⟨ca,c⟩,hv,h0⟩|⟨b,off,cap,hv,hc⟩
 ·omega
 ·subst hv;have hr:=run_convert_bytes_back (P:=P) w t t' el ⟨b,off,none⟩ cap l hs he hd (λj hj=>by rw[PS];exact hc j _ (by simp[hj,Rq]));simp[execOp,hρ _ _ hx,hr]
end
section
variable {w w':World}{Q:Qn}{txt:Int->NH}{K:Nat}{X S':Nat->Prop}{s st len wb bs bx bw at' n sum:Nat}{rest:Value}
theorem z1M (hP:Sp Q txt K X w){st len:Nat}(h1:1<=len)(h2:st+len<=Q.L.length):
  Oa prog 58 [ptr Q.s 0,.agg #[I (st:Int),I (len:Int)]] w λv w'=>∃wb bs bx bw sum,v= .tuple #[ptr wb 0,I 0]/\sum<4294967296/\SwM Q.s st len wb bs bx bw (.slice none 0 0) 0 0 sum w'/\(w.heap.size<=wb/\w.heap.size<=bs/\w.heap.size<=bx/\w.heap.size<=bw)/\Ext w w':=by
 have vB:Sums.crc []<4294967296:=Sums.zdx _
 obtain⟨c0,uu⟩:∃c0,Sums.crc []=c0:=⟨_,rfl⟩
 rw[uu] at vB
 refine Nu (e:=[(0,_),(1,_)]) func58 O ntmps58 O O$ qN O$ NK O O (PW O (cs:=[ptr Q.s 0]) O) ?_
 rintro _ w1 ⟨bs,rfl,y6,ad,mA⟩
 refine NK O O (PW O (cs:=[I (st:Int),I (len:Int)]) O) ?_
 rintro _ w2 ⟨bx,rfl,eX,ag,j6⟩
 have kI:=ag.ND mA
 have Lc:=hP.ext' (ad.trans ag)
 have ak:=Ext.NY w2
 have bB:=ak.size
 refine NQ O$ NF O$ py$ Oy (λe' w'=>∃wb bw,e'=[(2,ptr bs 0),(3,ptr bx 0),(6,ptr bw 0)]/\NM w' wb [ptr Q.s 0,I (st:Int),I (len:Int),.slice none 0 0,I 0,I 0,U c0,.nilFunc,.bool false] 200/\NM w' bw [ptr wb 0] 133/\Ext w2 w'/\w2.heap.size<=wb/\w2.heap.size<=bw/\wb≠bw) ?cJ$ λcJ=>?di
 case cJ=>
  rintro e' w3 ⟨wb,bw,rfl,ar,mT,ah,o8,EQ,bD⟩;have lbs:=mA.lt;have lbx:=j6.lt;have cD:=ag.size;have fW:=Lc.ext' ah;refine py$ qN O$ qV ((NJ z1T O O mT O))$ O8 O$ NO Vx O$ qV ((Oh zbd O VX O (NM.cells (n:=3) ar (news:=[_,_,_]) O) O))$ NZ zf5 O (YG fW h1 h2) ?_;rintro _ w4 ⟨rfl,aB⟩;have mf:=aB.ND mT;have aH:=aB.ND ar;refine NQ O$ qM O$ Nz O$ P3 O O$ NB$ It O$ An$ qN O$ qV ((NJ z1T O O mf O))$ qV (ymf (first:=[]) (caps:=[.tmp 2,.tmp 3,.tmp 6]) O O)$ O8 O$ NO YW O$ NP O (PA zdM O O O aH (by simp)) ?_;rintro w5 ⟨aC,ai⟩;have B2:=ai.ND mf (λe=>bD e.symm);refine qM O$ qV (NJ z1T O O B2 O)$ NQ O$ NF O$ NA func58 O ?_;have iF:Ext w2 w5:=(ah.trans aB).Nv ai (λj e=>by omega);refine⟨_,rfl,wb,bs,bx,bw,c0,rfl,vB,⟨aC,iF.ND kI,iF.ND j6,B2,⟨by omega,by omega,λe=>bD e.symm⟩⟩,⟨by omega,by omega,by omega,by omega⟩,(ad.trans ag).trans iF⟩
 case di=>
 refine O3 [7] (λw'=>Ext w2 w') (by kernel_rfl) O$ qL [2,4,5,7] 0 O (λ_ h=>(NJ UM O O (h.ND kI) O)) ak$ qL [2,4,5,7] 1 O (λ_ hS=>(Oh VQ O PN O (NM.cells (n:=2) (hS.ND j6) (news:=[_,_]) O) O)) ak$ qL [4,5,7] 2 O (λ_ h=>QP (cs:=[_,_,_]) VX O zcH O O) ak$ VT (i:=3) (j:=6) (by kernel_rfl) ?_ ?_
 ·refine Qh (i:=3) O O O (yc (args:=[.const (Value.string (⟨#[]⟩))]) zeM O) (z6x [] _ (by simp)) ?_;rintro _ w3 ⟨rfl,ah⟩;refine⟨ak.trans ah,?_⟩;rw[uu];have ak:=ak.trans ah
  try have aR:=ah.ND aR
  have bB:=Nat.le_trans bB ah.size;refine qL [5,7] 4 O (λ_ h=>QP (cs:=[_,_,_,_,_,_,_,_,_]) zc8 O zcn O O) ak$ VT (i:=5) (j:=6) (by kernel_rfl) ?_ ?_
  ·refine P4 (i:=5) O O O (PW O (cs:=[ptr Q.s 0,I (st:Int),I (len:Int),.slice none 0 0,I 0,I 0,U c0,.nilFunc,.bool false]) O) ?_;rintro _ w5 ⟨wb,rfl,o8,aT,aC⟩;refine⟨ak.trans aT,?_⟩;have ak:=ak.trans aT
   try have aR:=aT.ND aR
   have tI:w2.heap.size<=wb:=by omega
   have bB:=Nat.le_trans bB aT.size;refine PC (i:=6) (by kernel_rfl)$ P4 (i:=6) O O O (Qk (cs:=[_]) z0T O) ?_;rintro _ w6 ⟨bw,rfl,EQ,aK,aR⟩;refine⟨ak.trans aK,?_⟩;have ak:=ak.trans aK
   try have aC:=aK.ND aC
   have zR:w2.heap.size<=bw:=by omega
   have bB:=Nat.le_trans bB aK.size;refine Rs [7]$ qO 7$ Ou (i:=7) O O (PA z0T O O O aR (by simp)) ?_;rintro w7 ⟨bj,ax⟩;refine⟨trivial,?_⟩;refine qE ?_;replace bj:NM w7 bw [ptr wb 0] 133:=bj
   have jx:wb≠bw:=by
    intro e;have h5:=aC;rw[e] at h5;obtain⟨fz,h5,-⟩:=h5;obtain⟨fz6,h6,-⟩:=aR;rw[h5] at h6;cases h6
   have jX:=ax.ND aC jx;exact(cJ _ _ ⟨wb,bw,rfl,jX,bj,ak.Nv ax (λj e=>by omega),tI,zR,jx⟩).qb
  ·refine P4 (i:=6) O O O (Qk (cs:=[_]) z0T O) ?_;rintro _ w6 ⟨bw,rfl,EQ,aK,aR⟩;refine⟨ak.trans aK,?_⟩;have ak:=ak.trans aK
   try have aC:=aK.ND aC
   have zR:w2.heap.size<=bw:=by omega
   have bB:=Nat.le_trans bB aK.size;refine PC (i:=5) (by kernel_rfl)$ P4 (i:=5) O O O (PW O (cs:=[ptr Q.s 0,I (st:Int),I (len:Int),.slice none 0 0,I 0,I 0,U c0,.nilFunc,.bool false]) O) ?_;rintro _ w5 ⟨wb,rfl,o8,aT,aC⟩;refine⟨ak.trans aT,?_⟩;have ak:=ak.trans aT
   try have aR:=aT.ND aR
   have tI:w2.heap.size<=wb:=by omega
   have bB:=Nat.le_trans bB aT.size;refine Rs [7]$ qO 7$ Ou (i:=7) O O (PA z0T O O O aR (by simp)) ?_;rintro w7 ⟨bj,ax⟩;refine⟨trivial,?_⟩;refine qE ?_;replace bj:NM w7 bw [ptr wb 0] 133:=bj
   have jx:wb≠bw:=by
    intro e;have h5:=aC;rw[e] at h5;obtain⟨fz,h5,-⟩:=h5;obtain⟨fz6,h6,-⟩:=aR;rw[h5] at h6;cases h6
   have jX:=ax.ND aC jx;exact(cJ _ _ ⟨wb,bw,rfl,jX,bj,ak.Nv ax (λj e=>by omega),tI,zR,jx⟩).qb
 ·refine P4 (i:=6) O O O (Qk (cs:=[_]) z0T O) ?_;rintro _ w6 ⟨bw,rfl,EQ,aK,aR⟩;refine⟨ak.trans aK,?_⟩;have ak:=ak.trans aK
  try have aC:=aK.ND aC
  have zR:w2.heap.size<=bw:=by omega
  have bB:=Nat.le_trans bB aK.size;refine PC (i:=3) (by kernel_rfl)$ Qh (i:=3) O O O (yc (args:=[.const (Value.string (⟨#[]⟩))]) zeM O) (z6x [] _ (by simp)) ?_;rintro _ w3 ⟨rfl,ah⟩;refine⟨ak.trans ah,?_⟩;rw[uu];have ak:=ak.trans ah
  try have aR:=ah.ND aR
  have bB:=Nat.le_trans bB ah.size;refine qL [5,7] 4 O (λ_ h=>QP (cs:=[_,_,_,_,_,_,_,_,_]) zc8 O zcn O O) ak$ PC (i:=5) (by kernel_rfl)$ P4 (i:=5) O O O (PW O (cs:=[ptr Q.s 0,I (st:Int),I (len:Int),.slice none 0 0,I 0,I 0,U c0,.nilFunc,.bool false]) O) ?_;rintro _ w5 ⟨wb,rfl,o8,aT,aC⟩;refine⟨ak.trans aT,?_⟩;have ak:=ak.trans aT
  try have aR:=aT.ND aR
  have tI:w2.heap.size<=wb:=by omega
  have bB:=Nat.le_trans bB aT.size;refine Rs [7]$ qO 7$ Ou (i:=7) O O (PA z0T O O O aR (by simp)) ?_;rintro w7 ⟨bj,ax⟩;refine⟨trivial,?_⟩;refine qE ?_;replace bj:NM w7 bw [ptr wb 0] 133:=bj
  have jx:wb≠bw:=by
   intro e;have h5:=aC;rw[e] at h5;obtain⟨fz,h5,-⟩:=h5;obtain⟨fz6,h6,-⟩:=aR;rw[h5] at h6;cases h6
  have jX:=ax.ND aC jx;exact(cJ _ _ ⟨wb,bw,rfl,jX,bj,ak.Nv ax (λj e=>by omega),tI,zR,jx⟩).qb
end
section
variable {w w':World}{Q:Qn}{txt:Int->NH}{K:Nat}{X S':Nat->Prop}{st len wb bs bx bw at' n sum:Nat}{rest:Value}{T:NH}
theorem z7e (T:NH)(k:Nat):((T.drop (512*k)).map Rq).drop 512=(T.drop (512*(k+1))).map Rq:=by
 rw[<-List.map_drop,List.drop_drop]
 congr 2
def SwI (Q:Qn)(txt:Int->NH)(K:Nat)(X:Nat->Prop)(st len wb bs bx bw:Nat)(T:NH)(sum:Nat)(w:World)(k:Nat)(w':World):Prop:=
 ∃txt' rest,Sp Q txt' (K+k) (λb=>X b\/rest.ownBlock=some b) w'/\SwM Q.s st len wb bs bx bw rest k T.length sum w'/\Sl w' rest 5 1 (T.length-512*k) ((T.drop (512*k)).map Rq)/\(∀j,j<k->txt' ((st+j:Nat):Int)=(T.drop (512*j)).take 512)/\(∀y:Int,y<(st:Int)\/(st:Int)+(k:Int)<=y->txt' y=txt y)/\Kp (λb=>¬X b\/b=wb) w w'/\(∀b,rest.ownBlock=some b->w.heap.size<=b)
theorem z2V (hP:Sp Q txt K X w)(hX:∀b,X b->b<w.heap.size)(hK:K<=100000000000)(h:SwM Q.s st len wb bs bx bw (.slice none 0 0) 0 0 sum w)(gX:sum<4294967296)(aY:X wb/\X bs/\X bx/\X bw)(cj:st+len<=Q.L.length)(h1:1<=len)(hT:T.length<=len*512-12):
  Oa prog 59 [ptr wb 0,S T] w λv w'=>v=I 0/\∃sum',sum'<4294967296/\SwI Q txt K X st len wb bs bx bw T sum' w (T.length / 512) w':=by
 have eJ:maxLen=9223372036854775807:=rfl
 have dY:=hP.n
 refine Nu (e:=[(0,_),(1,_)]) func59 O ntmps59 O O$ qN O$ NF O$ py$ qN O$ Nz O$ NZ zhR O (Xr h.wr) ?_
 rintro _ w ⟨rfl,rfl⟩
 refine NQ O$ qM O$ Nz O$ P3 O O$ NB$ It O$ An$ py$ qN O$ Nz O$ qV (SG U9 O)$ Nz O$ NZ ziE O (z2I hP (by omega) (by omega) h.wr) ?_
 rintro _ w1 ⟨rfl,ad⟩
 have j8:=hP.ext' ad
 have eg:=h.ext ad
 have aj:=eg.cells
 refine P9 O O$ Ox$ NB$ It O$ An$ qN O$ Nz O$ O8 O$ NO Zd O$ qV (NJ U3 O O aj O)$ Nz O$ qV (SG U9 O)$ OI O O$ O8 O ?_
 refine NO Zd O ?_
 rw[show((0:Nat):Int)+(T.length:Int)=(T.length:Int) by omega]
 refine NP O (PA OL O O O aj (by simp)) ?_
 rintro w2 ⟨am,aq⟩
 have dc:=eg.re aq (show NM w2 wb (swC Q.s st len (.slice none 0 0) 0 T.length sum (Zy bs bx bw) false) 200 from am)
 have er:=j8.own aq (λb e=>by rw[e];exact aY.1)
 have eN:=dc.cells
 refine qM O$ NT O O$ O8 O$ NO z26 O$ qV (NJ OX O O eN O)$ Nz O$ NZ zfG O (z9y sum T _ gX (by omega)) ?_
 rintro _ w3 ⟨rfl,ah⟩
 have sr:=Sums.zcD T gX
 obtain⟨sum3,gT⟩:∃sum3,Sums.on sum T=sum3:=⟨_,rfl⟩
 rw[gT] at sr⊢
 have pp:=dc.ext ah
 have ar:=pp.cells
 refine O8 O$ NO z26 O$ NP O (PA NV O O O ar (by simp)) ?_
 rintro w4 ⟨aH,ao⟩
 have vE:=pp.re ao (show NM w4 wb (swC Q.s st len (.slice none 0 0) 0 T.length sum3 (Zy bs bx bw) false) 200 from aH)
 have ji:=(er.ext' ah).own ao (λb e=>by rw[e];exact aY.1)
 have eW:=vE.cells
 refine NB$ Of.qb (e:=[(0,_),(1,_),(4,_)]) ?_
 refine qN O$ NT O O$ O8 O$ NO Rt O$ qV (NJ P8 O O eW O)$ Nz O$ NK O O (zeD P8 U9 VO O O (Sl.nil w4 _ 1) (by omega)) ?_
 rintro v5 w5 ⟨fE,ai,nO⟩
 simp only[List.nil_append,Nat.zero_add] at fE
 replace ai:Ext w4 w5:=ai.NR (λb e=>by cases e)
 have uv:∀b,v5.ownBlock=some b->w4.heap.size<=b:=λb e=>(nO b e).elim (λe=>by cases e) id
 obtain⟨a5,c5,rfl,-⟩:=fE.rd.shape
 have mQ:=vE.ext ai
 have aC:=mQ.cells
 have bM:Kp (λb=>¬X b\/b=wb) w w5:=(((ad.kp.trans (aq.NR λb e=> .inr e)).trans ah.kp).trans (ao.NR λb e=> .inr e)).trans ai.kp
 have z4:w.heap.size<=w4.heap.size:=by have:=ad.size;have:=aq.size;have:=ah.size;have:=ao.size;omega
 have lwb:=aC.lt
 have lwb0:=hX _ aY.1
 refine O8 O$ NO Rt O$ NP O (PA VZ O O O aC (by simp)) ?_
 rintro w6 ⟨aR,aP⟩
 have Eo:=mQ.re aP (show NM w6 wb (swC Q.s st len (.slice a5 T.length c5) 0 T.length sum3 (Zy bs bx bw) false) 200 from aR)
 have rh:Sp Q txt K (λb=>X b\/(Value.slice a5 T.length c5).ownBlock=some b) w6:=(ji.ext ai (λb e=>e.imp id (uv b))).own aP (λb e=> .inl (by rw[e];exact aY.1))
 have fh:=fE.kp aP (λb hb e=>by have:=uv b hb;omega)
 have nr:=Eo.cells
 have iI:=bM.trans (aP.NR λb e=>Or.inr e)
 refine qM O$ Nz O$ O8 O$ NO Vx O$ NO Ty O$ qV (NJ UM O O nr O)$ NZ z2s O (rh.size) ?_
 rintro _ w6 ⟨rfl,rfl⟩
 refine NF O$ py$ Nw$ Qb (α:=Nat) (0) (λk=>[(0,ptr wb 0),(6,I 512)]) (λk w'=>k<=T.length / 512/\SwI Q txt K X st len wb bs bx bw T sum3 w k w') (λk=>T.length / 512-k) ?hI ?hround
 case hI=>exact⟨Nat.zero_le _,txt,_,rh,Eo,fh,λj hj=>by omega,λy hy=>rfl,iI,λb hb=>by have:=uv b hb;omega⟩
 case hround=>
  rintro k w8 ⟨hk,txt1,rest,px,xC,fg,iL,Bh,aV,iZ⟩ ih;obtain⟨a8,c8,rfl,-⟩:=fg.rd.shape;have ck:=xC.cells;have GV:=aV.size
  try dsimp only
  refine py$ qN O$ Nz O$ O8 O$ NO Rt O$ qV (NJ P8 O O ck O)$ Q0 P8 O$ Nz O$ RN O O$ NB$ NN O (λh0=>?_)$ λh0=>?_
  ·have Ld:512*k+512<=T.length:=by omega
   rcases fg.shape with⟨e,s7⟩|⟨gb,cc,e,Ex⟩
   ·omega
   cases e;have Kk:=iZ gb O;have hg:=Ext.NY w8;have dr:((T.drop (512*k)).take 512).length=512:=by rw[List.length_take,List.length_drop];omega
   have ER:Rd w8 (.slice (some ⟨gb,0,none⟩) 512 c8) 1 ((T.drop (512*k)).take 512).length (((T.drop (512*k)).take 512).map Rq):=by
    rw[dr,List.map_take];exact S1 fg.rd (by omega)
   have Le:∀b,(X b\/(Value.slice (some ⟨gb,0,none⟩) (T.length-512*k) c8).ownBlock=some b)->b<w8.heap.size:=λb hb=>by
    rcases hb with e| e
    ·have:=hX b e;omega
    ·exact fg.lt e
   refine An$ Nw$ py$ py$ O3 [11,12] (λw'=>Ext w8 w') (by kernel_rfl) O$ qL [1,2,3,11,12] 0 O (λ_ h=>Oq O) hg$ qL [2,3,11,12] 1 O (λ_ h=>OQ O) hg$ qL [3,11,12] 2 O (λ_ h=>Og YW O) hg$ qL [11,12] 3 O (λ_ h=>NJ U58 O O (h.ND ck) O) hg$ qL [5,6,7,9,10,11,12] 4 O (λ_ h=>Oq O) hg$ qL [6,7,9,10,11,12] 5 O (λ_ h=>OQ O) hg$ qL [7,9,10,11,12] 6 O (λ_ h=>Og Rt O) hg$ qL [9,10,11,12] 7 O (λ_ h=>NJ P8 O O (h.ND ck) O) hg$ qL [9,10,11,12] 8 O (λ_ h=>Oq O) hg ?_;refine qL [10,11,12] 9 O (λ_ h=>z9D P8 VO O O (by omega)) hg$ qL [11,12] 10 O (λ_ hS=>zds (l:=(T.drop (512*k)).take 512) P8 U5 U9 O (ER.ext hS) (by omega)) hg$ Rs [11]$ qO 11$ UO (i:=11) O O O (QH ze7 O O) (XE (px.ext' hg) (λb hb=>by have:=Le b hb;have:=hg.size;omega) (by omega) (xC.ext hg) ⟨.inl aY.1,.inl aY.2.1,.inl aY.2.2.1,.inl aY.2.2.2⟩ (by omega) ((T.drop (512*k)).take 512) dr) ?_;rintro _ w9 ⟨rfl,vZ,Be,aS⟩;refine⟨trivial,?_⟩;refine NG 12 O (PO O) trivial$ qE$ qN O$ Nz O$ P3 O O ?_;have cB:=Be.cells;have uw:=hg.kp.trans aS
   have wV:=fg.kp uw (λb hb e=>by
    rcases e with e| e
    ·exact e (.inr hb)
    ·have e1:gb=b:=Pz hb
     omega)
   have GW:=uw.size;refine NB$ It O$ An$ NC O$ NT O O$ O8 O$ NO Rt O$ qV (NJ P8 O O cB O)$ Nz O$ qV (WA P8 VO O O (by omega) (by omega))$ NK O O (pap P8 VO O (by decide) O O (Sl.nil w9 _ 1) (R4 (i:=512) wV.rd (by omega) (by omega)) (λc hc=>by obtain⟨z,-,rfl⟩:=List.mem_map.1 (List.mem_of_mem_drop hc);rfl) (by omega) (by omega)) ?_;rintro v10 w10 ⟨bz,au,aZ,-⟩;rw[List.nil_append,z7e,Nat.zero_add,show T.length-512*k-512=T.length-512*(k+1) by omega] at bz;replace au:Ext w9 w10:=au.NR (λb e=>by cases e);have oB:∀b,v10.ownBlock=some b->w9.heap.size<=b:=λb e=>(aZ b e).elim (λe=>by cases e) id;obtain⟨a10,c10,rfl,-⟩:=bz.rd.shape;have zS:=Be.ext au;have dD:=zS.cells;refine O8 O$ NO Rt O$ NP O (PA VZ O O O dD (by simp)) ?_;rintro w11 ⟨bA,bu⟩;have ES:=zS.re bu (show NM w11 wb (swC Q.s st len (.slice a10 (T.length-512*(k+1)) c10) (k+1) T.length sum3 (Zy bs bx bw) false) 200 from bA);have ET:Sp Q (Xx txt1 ((st+k:Nat):Int) (some ((T.drop (512*k)).take 512))) (K+k+1) (λb=>X b\/(Value.slice a10 (T.length-512*(k+1)) c10).ownBlock=some b) w11:=(vZ.ext au (λb e=>e.elim (λe=> .inl (.inl e)) (λe=> .inr (oB b e)))).own bu (λb e=> .inl (by rw[e];exact aY.1));have sZ:=bz.kp bu (λb hb e=>by have:=oB b hb;omega);refine NB$ Ny ((ih (k+1) w11 ⟨by omega,_,_,ET,ES,sZ,λj hj=>?_,λy hy=>?_,?_,λb hb=>by have:=oB b hb;omega⟩ (by omega)).qb)
   ·by_cases e:j=k
    ·subst e;exact QF _ _ _
    ·rw[Qf _ _ (by omega)];exact iL j (by omega)
   ·rw[Qf _ _ (by omega)];exact Bh y (by omega)
   ·refine(aV.Nv uw λb e=>?_).trans (au.kp.trans (bu.NR λb e=> .inr e));rcases e with e| e
    ·by_cases hb:X b
     ·exact absurd (.inl hb) e
     ·exact .inr (.inl hb)
    ·exact .inr (.inr e)
  ·have Lf:k=T.length / 512:=by omega
   subst Lf;refine NL O$ qN O$ NF O$ NA func59 O ?_;exact⟨_,rfl,rfl,sum3,sr,txt1,_,px,xC,fg,iL,Bh,aV,iZ⟩
end
section
variable {w w':World}{Q:Qn}{txt:Int->NH}{K:Nat}{X S':Nat->Prop}{st len wb bs bx bw at' n sum:Nat}{rest:Value}{T:NH}
def W7 (n sum:Nat):NH:=Re 8 n++Re 4 sum
theorem z1Z (n sum:Nat):(W7 n sum).length=12:=by simp[W7,O4]
theorem z2z (hP:Sp Q txt K (λb=>X b\/rest.ownBlock=some b) w)(hX:∀b,X b->b<w.heap.size)(hK:K<=200000000000)(h:SwM Q.s st len wb bs bx bw rest (T.length / 512) T.length sum w)(gX:sum<4294967296)(aY:X wb/\X bs/\X bx/\X bw)(cj:st+len<=Q.L.length)(aA:len=(T.length+523) / 512)
  (hS:Sl w rest 5 1 (T.length%512) ((T.drop (512*(T.length / 512))).map Rq)) (bD:∀b,rest.ownBlock=some b->¬X b) (iL:∀j,j<T.length / 512->txt ((st+j:Nat):Int)=(T.drop (512*j)).take 512):
  Oa prog 60 [ptr wb 0] w λv w'=>v=I 0/\∃txt',Sp Q txt' (K+2) X w'/\(∀j,512*j<T.length->∃z,txt' ((st+j:Nat):Int)=(T.drop (512*j)).take 512++z)/\(∃z,txt' ((st+(len-1):Nat):Int)=z++W7 T.length sum/\z.length=500)/\(∀y:Int,y<(st:Int)\/(st:Int)+(len:Int)<=y->txt' y=txt y)/\Kp (λb=>¬X b\/b=wb) w w':=by
 have eJ:maxLen=9223372036854775807:=rfl
 have dY:=hP.n
 obtain⟨a0,c0,rfl,-⟩:=hS.rd.shape
 have hB:=h.cells
 have Lg:∀b,(Value.slice a0 (T.length%512) c0).ownBlock=some b->b<w.heap.size:=λb hb=>hS.lt hb
 have hg:=Ext.NY w
 refine Nu (e:=[(0,_)]) func60 O ntmps60 O O$ qN O$ NF O$ py$ qN O$ Nz O$ NZ zhR O (Xr h.wr) ?_
 rintro _ w ⟨rfl,rfl⟩
 refine NQ O$ qM O$ Nz O$ P3 O O$ NB$ It O$ An$ qN O$ Nz O$ O8 O$ NO Vx O$ NO Ty O$ qV (NJ UM O O hB O)$ NZ z2s O (hP.size) ?_
 rintro _ w ⟨rfl,rfl⟩
 refine NF O$ py$ py$ Oy (λe' w'=>∃q,e'=[(0,ptr wb 0),(4,I 512),(38,.bool q)]/\(q=true↔T.length / 512<len-1)/\Ext w w') ?fd$ λfd=>?fY
 case fd=>
  rintro e' w1 ⟨q,rfl,hq,ad⟩;have j8:=hP.ext' ad;have h1:=h.ext ad;have j7:=hS.ext ad;have aj:=h1.cells;have mK:=ad.size;refine Oy (λe' w'=>e'=[(0,ptr wb 0),(4,I 512)]/\∃txt1 rest1 at1 l,Sp Q txt1 (K+1) (λb=>X b\/rest1.ownBlock=some b) w'/\SwM Q.s st len wb bs bx bw rest1 at1 T.length sum w'/\Sl w' rest1 5 1 l.length (l.map Rq)/\l.length<=500/\(∀b,rest1.ownBlock=some b->¬X b)/\l=T.drop (512*(len-1))/\(∀j,j<len-1->512*j<T.length->∃z,txt1 ((st+j:Nat):Int)=(T.drop (512*j)).take 512++z)/\(∀y:Int,y<(st:Int)\/(st:Int)+(len:Int)<=y->txt1 y=txt y)/\Kp (λb=>¬X b\/b=wb) w w') ?az$ λaz=>?eu
  case az=>
   rintro e' w2 ⟨rfl,txt1,rest1,at1,l,er,h2,cm,H8,ft,hl,EU,EV,aq⟩;obtain⟨a2,c2,rfl,-⟩:=cm.rd.shape;have am:=h2.cells;have aa:=Ext.NY w2;have mO:=aq.size;refine py$ PK (λw'=>Kp (λb=>(Value.slice a2 l.length c2).ownBlock=some b) w2 w') O$ NX 0 O O (aa.kp)$ NG 1 O (OQ O) (aa.kp)$ NG 2 O (Og Rt O) (aa.kp)$ qT 3 O (λ_ h=>NJ P8 O O (h.ND am (λe=>ft _ e aY.1)) O) (aa.kp)$ NX 4 O O (aa.kp)$ NG 5 O (W5 O O (by omega)) (aa.kp)$ NX 6 O O (aa.kp)$ NG 7 O (OQ O) (aa.kp)$ NG 8 O (Og Rt O) (aa.kp)$ qT 9 O (λ_ h=>NJ P8 O O (h.ND am (λe=>ft _ e aY.1)) O) (aa.kp)$ NG 10 O (R7 P8 O) (aa.kp)$ NG 11 O (W5 O O (by omega)) (aa.kp) ?_;rw[show(512:Int)-12-(l.length:Int)=((500-l.length:Nat):Int) by omega];refine qO 12$ QO (i:=12) O O O (zh2 P8 U3 U9 VO O O (cm.ext aa) (by omega)) ?_;rintro v3 w3 ⟨cz,aw,qn⟩;refine⟨aa.kp.trans aw,?_⟩;have zT:l.length+(500-l.length)=500:=by omega
   rw[zT,<-List.map_append] at cz;obtain⟨a3,c3,rfl,-⟩:=cz.rd.shape;have cW:=aa.kp.trans aw
   have fu:∀b,(Value.slice a3 500 c3).ownBlock=some b->¬X b:=λb hb e=>by
    rcases qn b hb with e2|e2
    ·exact ft b e2 e
    ·have:=hX b e;have:=aa.size;omega
   have fW:Sp Q txt1 (K+1) (λb=>X b\/(Value.slice a3 500 c3).ownBlock=some b) w3:=er.step cW (λb e=> .inr e) (λb e=>e.elim (λe=> .inl (.inl e)) (λe=>(qn b e).imp .inr (λe=>by have:=aa.size;omega)));have h3:=h2.kp cW (λe=>ft _ e aY.1) (λe=>ft _ e aY.2.1) (λe=>ft _ e aY.2.2.1) (λe=>ft _ e aY.2.2.2);have ar:=h3.cells;have cF:Kp (λb=>¬X b\/b=wb) w w3:=aq.Nv cW (λb e=> .inr (.inl (ft b e)));refine NG 13 O (PO O) (aa.kp.trans aw)$ qE$ qN O$ NT O O$ O8 O$ NO Vx O$ NO SN O$ NO PR O$ qV (NJ U3 O O ar O)$ Qc O O$ O8 O$ NO WJ O ?_;rw[show(len:Int)-1=((len-1:Nat):Int) by omega];refine NP O (PA OL O O O ar (by simp)) ?_;rintro w4 ⟨aH,ao⟩;have h4:=h3.re ao (show NM w4 wb (swC Q.s st len (.slice a2 l.length c2) (len-1) T.length sum (Zy bs bx bw) false) 200 from aH);have ji:=fW.own ao (λb e=> .inl (by rw[e];exact aY.1));have ee:=cz.kp ao (λb hb e=>fu b hb (by rw[e];exact aY.1));have eW:=h4.cells;have af:=Ext.NY w4;have kA:=cF.trans (ao.NR λb e=>Or.inr e);have jE:=O4 8 T.length;have ev:=O4 4 sum;have ux:(l++zeros (500-l.length)).length=500:=by rw[List.length_append,show(zeros (500-l.length)).length=500-l.length by simp[zeros]];omega
   rw[List.length_append] at ux;refine NB$ Of.qb (e:=[(0,_),(6,_)]) ?_;refine py$ O3 [20,21] (λw'=>Ext w4 w') (by kernel_rfl) O$ qL [1,2,3,20,21] 0 O (λ_ h=>Oq O) af$ qL [2,3,20,21] 1 O (λ_ h=>OQ O) af$ qL [3,20,21] 2 O (λ_ h=>Og YW O) af$ qL [20,21] 3 O (λ_ h=>NJ U58 O O (h.ND eW) O) af$ qL [5,12,19,20,21] 4 O (λ_ h=>Oq O) af$ qL [7,8,9,10,11,12,18,19,20,21] 6 O (λ_ h=>Oq O) af$ qL [8,9,10,11,12,18,19,20,21] 7 O (λ_ h=>OQ O) af$ qL [9,10,11,12,18,19,20,21] 8 O (λ_ h=>Og Zd O) af$ qL [10,11,12,18,19,20,21] 9 O (λ_ h=>NJ U3 O O (h.ND eW) O) af$ qL [11,12,18,19,20,21] 10 O (λ_ h=>(OM O U3 Qe (by omega))) af$ qL [14,15,16,17,18,19,20,21] 13 O (λ_ h=>Oq O) af$ qL [15,16,17,18,19,20,21] 14 O (λ_ h=>OQ O) af ?_;refine qL [16,17,18,19,20,21] 15 O (λ_ h=>Og z26 O) af$ qL [17,18,19,20,21] 16 O (λ_ h=>NJ OX O O (h.ND eW) O) af$ qL [18,19,20,21] 17 O (λ_ h=>OM O OX Qe (by omega)) af$ qL [12,19,20,21] 5 O (λ_ h=>zds (l:=l++zeros (500-l.length)) P8 U5 U9 O (by rw[List.length_append,ux];exact ee.rd.ext h) (by rw[List.length_append];omega)) af ?_;refine PC (i:=11) (by kernel_rfl)$ Qh (i:=11) O O O (yc zgD O) (YJ T.length 8 _ (by omega) (by omega)) ?_;rintro _ w5 ⟨rfl,aT⟩;refine⟨af.trans aT,?_⟩;refine qL [19,20,21] 12 O (λ_ h=>S9 O O (by first|omega|(simp;done)|(simp;omega))) (af.trans aT) ?_;refine PC (i:=18) (by kernel_rfl)$ Qh (i:=18) O O O (yc zgD O) (YJ sum 4 _ (by omega) (by omega)) ?_;rintro _ w6 ⟨rfl,aK⟩;refine⟨(af.trans aT).trans aK,?_⟩;have cQ:=(af.trans aT).trans aK
   have mX:∀b,(X b\/(Value.slice a3 500 c3).ownBlock=some b)->b<w6.heap.size:=λb hb=>by
    have:=cQ.size;have:=ao.size;have:=cW.size;rcases hb with e| e
    ·have:=hX b e;omega
    ·have:=cz.lt e;omega
   refine qL [20,21] 19 O (λ_ h=>S9 O O (by first|omega|(simp;done)|(simp;omega))) ((af.trans aT).trans aK) ?_;refine Rs [20] ?_;have lZ:(l++zeros (500-l.length)++Re 8 T.length++Re 4 sum).length=512:=by rw[List.length_append,List.length_append,List.length_append,ux,O4,O4]
   refine qO 20$ UO (i:=20) O O O (QH ze7 O O) (XE (ji.ext' cQ) mX (by omega) (h4.ext cQ) ⟨.inl aY.1,.inl aY.2.1,.inl aY.2.2.1,.inl aY.2.2.2⟩ (by omega) _ lZ) ?_;rintro _ w7 ⟨rfl,zU,h7,ax⟩;refine⟨trivial,?_⟩;have bj:=h7.cells;refine NG 21 O (PO O) trivial$ qE$ qN O$ Nz O$ O8 O$ NO WQ O$ NP O (PA Tf O O O bj (by simp)) ?_;rintro w8 ⟨ck,aV⟩;have px:=(zU.own aV (λb e=> .inl (by rw[e];exact aY.1))).less (Y:=X) (λb e=> .inl e);refine NB$ Of.qb (e:=[(7,_)]) ?_;refine qN O$ Nz O$ NF O$ NA func60 O (⟨_,rfl,rfl,_,px,λj hj=>?_,⟨l++zeros (500-l.length),?_,by rw[List.length_append,ux]⟩,λy hy=>?_,?_⟩)
   ·by_cases e:j=len-1
    ·subst e;refine⟨zeros (500-l.length)++Re 8 T.length++Re 4 sum,?_⟩;rw[QF];show l++_++_++_=_;rw[<-hl,List.take_of_length_le (by omega)];simp only[List.append_assoc]
    ·obtain⟨z,hz⟩:=EU j (by omega) hj;exact⟨z,by rw[Qf _ _ (by omega)];exact hz⟩
   ·rw[QF];show _++_++_=_;unfold W7;simp only[List.append_assoc]
   ·rw[Qf _ _ (by omega)];exact EV y hy
   ·refine((kA.trans cQ.kp).Nv ax λb e=>?_).trans (aV.NR λb e=> .inr e);rcases e with e| e
    ·by_cases hb:X b
     ·exact absurd (.inl hb) e
     ·exact .inr (.inl hb)
    ·exact .inr (.inr e)
  case eu=>
   refine OV O (λfO=>?_)$ λfO=>?_
   ·have yi:=hq.1 fO;have hr:500<T.length%512/\T.length / 512=len-2/\2<=len:=by omega
    have av:=Ext.NY w1;refine py$ py$ O3 [17,18] (λw'=>Kp (λb=>(Value.slice a0 (T.length%512) c0).ownBlock=some b) w1 w') (by kernel_rfl) O$ qL [1,2,3,17,18] 0 O (λ_ h=>Oq O) (av.kp)$ qL [2,3,17,18] 1 O (λ_ h=>OQ O) (av.kp)$ qL [3,17,18] 2 O (λ_ h=>Og YW O) (av.kp)$ qL [17,18] 3 O (λ_ h=>NJ U58 O O (h.ND aj (λe=>bD _ e aY.1)) O) (av.kp)$ qL [5,6,7,15,16,17,18] 4 O (λ_ h=>Oq O) (av.kp)$ qL [6,7,15,16,17,18] 5 O (λ_ h=>OQ O) (av.kp)$ qL [7,15,16,17,18] 6 O (λ_ h=>Og Rt O) (av.kp)$ qL [15,16,17,18] 7 O (λ_ h=>NJ P8 O O (h.ND aj (λe=>bD _ e aY.1)) O) (av.kp)$ qL [14,15,16,17,18] 8 O (λ_ h=>Oq O) (av.kp)$ qL [10,11,12,13,14,15,16,17,18] 9 O (λ_ h=>Oq O) (av.kp)$ qL [11,12,13,14,15,16,17,18] 10 O (λ_ h=>OQ O) (av.kp) ?_;refine qL [12,13,14,15,16,17,18] 11 O (λ_ h=>Og Rt O) (av.kp)$ qL [13,14,15,16,17,18] 12 O (λ_ h=>NJ P8 O O (h.ND aj (λe=>bD _ e aY.1)) O) (av.kp)$ qL [14,15,16,17,18] 13 O (λ_ h=>R7 P8 O) (av.kp)$ qL [15,16,17,18] 14 O (λ_ h=>W5 O O (by omega)) (av.kp) ?_;rw[show(512:Int)-((T.length%512:Nat):Int)=((512-T.length%512:Nat):Int) by omega];refine PC (i:=15) (by kernel_rfl)$ P4 (i:=15) O O O (zh2 P8 U3 U9 VO O O (j7.ext av) (by omega)) ?_;rintro v2 w2 ⟨cm,aq,sJ⟩;refine⟨av.kp.trans aq,?_⟩;rw[show T.length%512+(512-T.length%512)=512 by omega,<-List.map_append] at cm;have ux:(T.drop (512*(T.length / 512))++zeros (512-T.length%512)).length=512:=by rw[List.length_append,List.length_drop,show(zeros (512-T.length%512)).length=512-T.length%512 by simp[zeros]];omega
    refine PC (i:=16) (by kernel_rfl)$ zd1 (i:=16) O O O (zds (l:=T.drop (512*(T.length / 512))++zeros (512-T.length%512)) P8 U5 U9 O (by rw[ux];exact cm.rd) (by omega)) (av.kp.trans aq) ?_;have aL:=av.kp.trans aq;have er:Sp Q txt K X w2:=j8.step aL (λb e=> .inr e) (λb e=> .inl (.inl e));have h2:=h1.kp aL (λe=>bD _ e aY.1) (λe=>bD _ e aY.2.1) (λe=>bD _ e aY.2.2.1) (λe=>bD _ e aY.2.2.2);have mO:=aL.size;refine Rs [17]$ qO 17$ UO (i:=17) O O O (QH ze7 O O) (XE er (λb hb=>by have:=hX b hb;omega) (by omega) h2 aY (by omega) _ ux) ?_;rintro _ w3 ⟨rfl,fW,h3,aw⟩;refine⟨trivial,?_⟩;have ar:=h3.cells;refine NG 18 O (PO O) trivial$ qE$ qN O$ Nz O$ P3 O O$ NB$ It O$ An$ NC O$ Nz O$ O8 O$ NO Rt O$ NP O (PA VZ O O O ar (by simp)) ?_;rintro w4 ⟨aH,ao⟩;have h4:=h3.re ao (show NM w4 wb (swC Q.s st len (.slice none 0 0) (T.length / 512+1) T.length sum (Zy bs bx bw) false) 200 from aH);have ji:=fW.own ao (λb e=>by rw[e];exact aY.1);have kN:(T.drop (512*(T.length / 512))).take 512=T.drop (512*(T.length / 512)):=List.take_of_length_le (by rw[List.length_drop];omega);refine NB$ Of.qb (e:=[(0,_),(4,_)]) ?_;refine(az _ _ ⟨rfl,_,.slice none 0 0,_,[],ji.less (λb e=>e.elim id (λe=>by cases e)),h4,Sl.nil w4 _ 1,Nat.zero_le _,(λb e=>by cases e),(List.drop_of_length_le (by omega)).symm,λj hj kT=>?_,λy hy=>?_,?_⟩).qb
    ·by_cases e:j=T.length / 512
     ·subst e;exact⟨zeros (512-T.length%512),by rw[QF,kN];rfl⟩
     ·exact⟨[],by rw[Qf _ _ (by omega),List.append_nil];exact iL j (by omega)⟩
    ·rw[Qf _ _ (by omega)]
    ·refine((ad.kp.Nv aL λb e=> .inr (.inl (bD b e))).trans aw).trans (ao.NR λb e=> .inr e)
   ·have yi:¬T.length / 512<len-1:=λe=>by rw[hq.2 e] at fO;cases fO
    have Lh:T.length / 512=len-1:=by omega
    have fG:(T.drop (512*(T.length / 512))).length=T.length%512:=by rw[List.length_drop];omega
    refine An ((az _ _ ⟨rfl,txt,.slice a0 (T.length%512) c0,T.length / 512,T.drop (512*(T.length / 512)),j8.more (by omega),h1,by rw[fG];exact j7,by omega,bD,by rw[Lh],λj hj kT=>⟨[],by rw[List.append_nil];exact iL j (by omega)⟩,λy hy=>rfl,ad.kp⟩).qb)
 case fY=>
  refine PK (λw'=>Ext w w') O$ NX 0 O O (hg)$ NG 1 O (OQ O) hg$ NG 2 O (Og WJ O) hg$ qT 3 O (λ_ h=>NJ U3 O O (h.ND hB) O) hg$ NX 4 O O (hg)$ NG 5 O (OQ O) hg$ NG 6 O (Og Vx O) hg$ NG 7 O (Og SN O) hg$ NG 8 O (Og PR O) hg$ qT 9 O (λ_ h=>NJ U3 O O (h.ND hB) O) hg$ NG 10 O (W5 O O (by omega)) hg ?_;rw[show(len:Int)-1=((len-1:Nat):Int) by omega];rcases Nat.lt_or_ge (T.length / 512) (len-1) with hq|hq
  ·refine NG 11 O (ZQ O O) hg$ SC$ NX 12 O O (hg)$ NX 13 O O (hg)$ NG 14 O (OQ O) hg$ NG 15 O (Og Rt O) hg$ qT 16 O (λ_ h=>NJ P8 O O (h.ND hB) O) hg$ NG 17 O (R7 P8 O) hg$ NG 18 O (VP O O) hg$ SC$ NG 19 O (Tu O O) hg$ qE$ Of.qb (e:=[(0,_),(2,_),(4,_),(38,_)]) ?_;exact(fd _ _ ⟨true,rfl,⟨λ_=>hq,λ_=>rfl⟩,hg⟩).qb
  ·refine NG 11 O (ZQ O O) hg$ S4$ NX 12 O O (hg)$ qJ 13 O (hg)$ qJ 14 O (hg)$ qJ 15 O (hg)$ qJ 16 O (hg)$ qJ 17 O (hg)$ qJ 18 O (hg)$ NG 19 O (S6 O O) hg$ qE$ Of.qb (e:=[(0,_),(2,_),(4,_),(38,_)]) ?_;exact(fd _ _ ⟨false,rfl,⟨λe=>(by cases e),λe=>by omega⟩,hg⟩).qb
end
end Go.Proofs.YtfgjaafcgghnoaaGreatDoor
namespace Go.Proofs.YtfgjaafcgghnoaaGreatDoor
open Go Go.RowKit Go.Shelf Go.Proofs.Tryz
def BdM (w:World)(b:Nat)(l:NH)(v:Value):Prop:=(∃p,(p= .pointer none\/p=ptr b 0)/\NM w b [p,v] 177)/\Sl w v 5 1 l.length (l.map Rq)/\v.ownBlock≠some b
section
variable {w w':World}{b:Nat}{l s:NH}{v:Value}{S':Nat->Prop}
theorem BdM.kp (h:BdM w b l v)(hk:Kp S' w w')(h1:¬S' b)(h2:∀g,v.ownBlock=some g->¬S' g):BdM w' b l v:=by
 obtain⟨⟨p,hp,hB⟩,hS,hn⟩:=h
 exact⟨⟨p,hp,hk.ND hB h1⟩,hS.kp hk h2,hn⟩
theorem BdM.new (h:NM w b [.pointer none,.slice none 0 0] 177):BdM w b [] (.slice none 0 0):=⟨⟨_,.inl O,h⟩,Sl.nil w _ 1,λe=>by cases e⟩
theorem NM.shape {cs:List Value}{T:TypeId}(h:NM w b cs T):w.shape? b=some (T,cs.length):=by
 obtain⟨fz,hb,-⟩:=h
 simp[World.shape?,hb]
theorem z9d (h:BdM w b l v):Oa prog 115 [ptr b 0] w λr w'=>r= .tuple #[]/\BdM w' b l v/\Kp (λk=>k=b) w w':=by
 obtain⟨⟨p,hp,hB⟩,hS,hn⟩:=h
 rcases hp with rfl|rfl
 ·refine Calls.mono (Any.Builder_copyCheck_fresh {zdN with} ze5.toX72 b w (hB.cell 0) hB.shape (hB.free (i:=0) (by simp))) λ_ _ ⟨he,hw⟩=>⟨_,he,rfl,?_,?_⟩
  ·rw[hw];have hk:=Sa w b 0 (ptr b 0);exact⟨⟨_,.inr O,UZ hB 0 (ptr b 0)⟩,hS.kp hk (λg hg e=>hn (e▸hg)),hn⟩
  ·rw[hw];exact Sa w b 0 _
 ·exact Calls.mono (Any.Builder_copyCheck_used {zdN with} ze5.toX72 b w (hB.cell 0)) λ_ _ ⟨he,hw⟩=>⟨_,he,rfl,by rw[hw];exact⟨⟨_,.inr O,hB⟩,hS,hn⟩,by rw[hw];exact Kp.refl _ _⟩
theorem z3Z (h:BdM w b l v)(s:NH)(hl:l.length+s.length<=140737488355328):Oa prog 78 [ptr b 0,S s] w λ_ w'=>∃v',BdM w' b (l++s) v'/\Kp (λk=>k=b\/v.ownBlock=some k) w w'/\(∀g,v'.ownBlock=some g->v.ownBlock=some g\/w.heap.size<=g):=by
 refine Nu (e:=[(0,_),(1,_)]) func78 O ntmps78 O O$ qN O$ NQ O$ NQ O$ qM O$ Nz O$ NZ zeO O (z9d h) ?_
 rintro _ w1 ⟨rfl,⟨⟨p,hp,aj⟩,j7,cY⟩,aM⟩
 have mK:=aM.size
 have l1:=aj.lt
 refine qM O$ NT O O$ O8 O$ NO YV O$ qV (NJ P8 O O aj O)$ Nz O$ NK O O (zeD P8 U9 VO O O j7 hl) ?_
 rintro v2 w2 ⟨cm,aq,jP⟩
 have am:=aq.ND aj cY
 have mO:=aq.size
 have jF:v2.ownBlock≠some b:=λe=>by
  rcases jP b e with e| e
  ·exact cY e
  ·omega
 refine O8 O$ NO YV O$ NP O (PA VZ O O (Uq cm) am (by simp)) ?_
 rintro w3 ⟨ar,aw⟩
 refine qM O$ Nz O$ qV (SG U9 O)$ NQ O$ NF O$ NA func78 O ?_
 rw[<-List.length_append,<-List.map_append] at cm
 refine⟨_,rfl,v2,⟨⟨p,hp,ar⟩,cm.kp aw (λg hg e=>jF (e▸hg)),jF⟩,((aM.NR λk e=> .inl e).trans (aq.NR λk e=> .inr e)).trans (aw.NR λk e=> .inl e),λg hg=>(jP g hg).imp id λe=>by omega⟩
theorem z8v (w:World)(a:Addr)(n:Nat):Kp (λk=>k=a.block) w (w.freeze a n):=by
 by_cases h0:n=0
 ·subst h0;rw[show w.freeze a 0=w by simp[World.freeze]];exact Kp.refl _ w
 ·unfold World.freeze;rw[if_neg h0]
  exact⟨rfl,rfl,rfl,by simp,λk _ hn=>by
   simp only[Array.getElem?_modify]
   rw[if_neg (λh=>hn h.symm)]⟩
section
variable {P:Program}{e:Env}{d:Option Nat}{ty t it el:TypeId}{pos:String}{aft:Array Edge}{g:Option (Nat×Bool)}{x y:Operand}{n c:Nat}{a:Option Addr}
theorem ziZ (hx:look e x=some (.slice a n c))(hc:a≠none->c≠0):Y P e ⟨d,.call ⟨.builtin .unsafeSliceData,#[x],#[t]⟩,ty,pos,aft,g⟩ (.pointer a) w w:=fun ρ hρ=>by
 have hr:∀w,(Builtin.unsafeSliceData_ #[t] ty #[.slice a n c]).run P w= .ok (.pointer a) w:=λw=>by
  cases a with
  |none=>rfl
  |some a=>exact Lib.run_unsafeSliceData_row (P:=P) w #[t] ty a n c (hc (by simp))
 simp[execOp,resolve,invoke,builtin,hρ _ _ hx,hr]
theorem ziS (hp:P.underlying t=some (.pointer el))(hc:P.cellsOf el=1)(hx:look e x=some (.pointer a))(hy:look e y=some (I (l.length:Int)))(hS:Sl w (.slice a l.length c) el 1 l.length (l.map Rq))(EN:l.length<=9223372036854775807)(h0:l=[]\/∃g,a=some ⟨g,0,none⟩):
  Yp P e ⟨d,.call ⟨.builtin .unsafeString,#[x,y],#[t,it]⟩,ty,pos,aft,g⟩ w λr w'=>r=S l/\Kp (λk=>(Value.slice a l.length c).ownBlock=some k) w w':=by
 by_cases hl:l=[]
 ·subst hl;have hr:=Lib.run_unsafeString_none (P:=P) w t it ty a;refine⟨_,w,fun ρ hρ=>?_,rfl,Kp.refl _ _⟩;have h1:=hρ _ _ hx;have h2:ρ y= .int .i64 0:=hρ _ _ hy;simp[execOp,resolve,invoke,builtin,h1,h2,hr]
  rfl
 ·obtain⟨b,rfl⟩:=h0.resolve_left hl;obtain⟨cur,jS,jB,nh,aA,jU⟩:=hS.row;have aX:=World.ownsRow.cells hS (g:=b) O;simp only[Nat.mul_one] at aA jU
  have hr:=Lib.run_unsafeString_row (P:=P) w t it ty el hp hc b cur.length (by unfold Ts at jS;simp[World.shape?,jS]) l hl (by omega) EN (λj x hj=>by
   have:=aX j (Rq x) (by rw[List.getElem?_map,hj];rfl)
   exact this)
  refine⟨_,_,fun ρ hρ=>?_,rfl,(z8v w ⟨b,0,none⟩ l.length).NR λk e=>by rw[show k=b from e];rfl⟩;simp[execOp,resolve,invoke,builtin,hρ _ _ hx,hρ _ _ hy,hr]
end
theorem z1k (h:BdM w b l v)(h0:l=[]->v= .slice none 0 0)(hl:l.length<=140737488355328):Oa prog 79 [ptr b 0] w λr w'=>r=S l/\Kp (λk=>v.ownBlock=some k) w w':=by
 obtain⟨⟨p,hp,hB⟩,hS,hn⟩:=h
 obtain⟨a,c,rfl,ha⟩:=hS.rd.shape
 have hg:=Ext.NY w
 have B6:l=[]\/∃g,a=some ⟨g,0,none⟩:=by
  rcases hS.shape with⟨e,h1⟩|⟨g,cap,e,h1⟩
  ·exact .inl (List.eq_nil_of_length_eq_zero h1)
  ·cases e;exact .inr ⟨g,rfl⟩
 have vB:a≠none->c≠0:=λe=>by
  by_cases tp:l=[]
  ·have:=h0 tp
   injection this with e1 _ _
   exact absurd e1 e
  ·have sh:l.length≠0:=by simpa using tp
   rcases hS.shape with⟨_,h1⟩|⟨g,cap,e2,h1⟩
   ·omega
   ·cases e2;omega
 refine Nu (e:=[(0,_)]) func79 O ntmps79 O O$ qN O$ NF O$ py$ O3 [10,11] (λw'=>Ext w w') (by kernel_rfl) O$ qL [1,2,3,4,10,11] 0 O (λ_ h=>Oq O) hg$ qL [2,3,4,10,11] 1 O (λ_ h=>OQ O) hg$ qL [3,4,10,11] 2 O (λ_ h=>Og YV O) hg$ qL [4,10,11] 3 O (λ_ h=>NJ P8 O O (h.ND hB) O) hg$ qL [6,7,8,9,10,11] 5 O (λ_ h=>Oq O) hg$ qL [7,8,9,10,11] 6 O (λ_ h=>OQ O) hg$ qL [8,9,10,11] 7 O (λ_ h=>Og YV O) hg$ qL [9,10,11] 8 O (λ_ h=>NJ P8 O O (h.ND hB) O) hg$ qL [10,11] 9 O (λ_ h=>R7 P8 O) hg ?_
 refine qL [10,11] 4 O (λ_ h=>ziZ O vB) hg$ Rs [10]$ qO 10$ QO (i:=10) O O O (ziS zil (by kernel_rfl) O O (hS.ext hg) (by omega) B6) ?_
 rintro _ w1 ⟨rfl,aM⟩
 refine⟨trivial,?_⟩
 refine NG 11 O (PO O) trivial$ qE$ NA func79 O ?_
 exact⟨_,rfl,rfl,hg.kp.trans aM⟩
end
end Go.Proofs.YtfgjaafcgghnoaaGreatDoor
namespace Go.Proofs.YtfgjaafcgghnoaaGreatDoor
open Go Go.RowKit Go.Proofs.Tryz
def srC (s st len n sum:Nat):List Value:=[ptr s 0,I (st:Int),I (len:Int),I (n:Int),U sum]
section
variable {w w':World}{Q:Qn}{txt:Int->NH}{K:Nat}{X S':Nat->Prop}{st len n sum rb:Nat}{T:NH}
theorem z4z (hP:Sp Q txt K X w)(hX:∀b,X b->b<w.heap.size)(hK:K<1000000000000)(h1:1<=len)(cj:st+len<=Q.L.length)(hn:n<=len*512-12)(gX:sum<4294967296)(hf:∃z,txt ((st+(len-1):Nat):Int)=z++W7 n sum/\z.length=500):
  Oa prog 61 [ptr Q.s 0,.agg #[I (st:Int),I (len:Int)]] w λv w'=>∃rb,v= .tuple #[ptr rb 0,I 0]/\NM w' rb (srC Q.s st len n sum) 204/\w.heap.size<=rb/\Sp Q txt K (λb=>X b\/b=rb) w'/\Kp (λb=>¬X b) w w':=by
 have dY:=hP.n
 obtain⟨z,hz,xv⟩:=hf
 have lZ:=z1Z n sum
 refine Nu (e:=[(0,_),(1,_)]) func61 O ntmps61 O O$ qN O$ NK O O (PW O (cs:=[I (st:Int),I (len:Int)]) O) ?_
 rintro _ w1 ⟨bx,rfl,eX,ad,j6⟩
 refine NQ O$ NQ O$ qM O$ Nz O$ qV (Oh (news:=[I (st:Int),I (len:Int)]) VQ O PN O (j6.cells (n:=2) O) O)$ qV (QP (cs:=[_,_,_]) VX O zcH O O)$ qV (QP (cs:=[_,_,_,_,_]) zg8 O zfD O O)$ NK O O (PW O (cs:=[ptr Q.s 0,I (st:Int),I (len:Int),I 0,U 0]) O) ?_
 rintro _ w2 ⟨rb,rfl,H0,ag,am⟩
 have aJ:=ad.trans ag
 have EW:=ag.ND j6
 have z1:=ad.size
 have z2:=ag.size
 have er:Sp Q txt K (λb=>X b\/b=rb) w2:=hP.ext aJ (λb e=>e.imp id λe=>by omega)
 refine NF O$ py$ qN O$ Nz O$ O8 O$ NO Xp O$ qV (Oh zbd O VX O (NM.cells (n:=3) am (news:=[_,_,_]) O) O)$ NZ zf5 O (YG er h1 cj) ?_
 rintro _ w3 ⟨rfl,ah⟩
 have fW:=er.ext' ah
 have ar:=ah.ND am
 have zV:=ah.ND EW
 have z3:=ah.size
 have l2:=am.lt
 have eh:=fW.read (λb hb=>by
  rcases hb with e| e
  ·have:=hX b e;omega
  ·omega) hK (no:=((st+(len-1):Nat):Int)) (by omega) (by omega)
 rw[hz] at eh
 refine NQ O$ qM O$ Nz O$ P3 O O$ NB$ It O$ An$ qN O$ Nz O$ NO PF O$ qV (NJ U3 O O zV O)$ NO PR O$ qV (NJ U3 O O zV O)$ OI O O ?_
 refine Qc O O ?_
 rw[show(st:Int)+(len:Int)-1=((st+(len-1):Nat):Int) by omega]
 refine NZ z9U O (eh) ?_
 rintro _ w4 ⟨rfl,ji,ao⟩
 have aH:=ao.ND ar (λe=>e (.inr O))
 refine Nz O$ ON O O$ ON O O$ NQ O$ NF O$ Of.qb (e:=[(4,_),(5,_),(6,_),(8,_),(9,_)]) ?_
 refine py$ qN O$ Nz O$ P3 O O$ NB$ It O$ An$ qN O$ NT O O$ qV (SG U9 O) ?_
 rw[show((z++W7 n sum).length:Int)=512 by rw[List.length_append,lZ,xv];rfl]
 refine Qc O O ?_
 rw[show(512:Int)-12=((500:Nat):Int) by omega]
 refine qV (UQ (m:=500) U9 O O (by rw[List.length_append,lZ,xv];omega)) ?_
 rw[show(z++W7 n sum).drop 500=W7 n sum from List.drop_left' xv]
 refine NQ O$ qM O$ Nz O$ qV (YA (m:=8) U9 O O (by rw[lZ];omega)) ?_
 rw[show(W7 n sum).take 8=Re 8 n from List.take_left' (O4 _ _)]
 have sL:Ol (O0 (Re 8 n))=n:=VF (by omega)
 have EX:Ol (O0 (Re 4 sum))=sum:=VF (by omega)
 have jE:=O4 8 n
 have ev:=O4 4 sum
 refine NZ zeE O (z0U (Re 8 n) (by omega) _) ?_
 rintro _ w5 ⟨rfl,aT⟩
 rw[sL]
 have aC:=aT.ND aH
 have gR:=ji.ext' aT
 refine NF O$ py$ qN O$ NT O O$ O8 O$ NO Xp O$ qV (Oh zbd O VX O (NM.cells (n:=3) aC (news:=[_,_,_]) O) O)$ NZ zfc O (Zo gR (by omega)) ?_
 rintro _ w6 ⟨rfl,aK⟩
 have aR:=aK.ND aC
 have rh:=gR.ext' aK
 refine qV ((OM O U3 Qe (by omega)))$ P9 O O$ Ox$ NB$ Of.qb (e:=[(4,_),(5,_),(6,_),(10,_),(11,_),(54,_)]) ?_
 refine It O$ An$ qN O$ NT O O$ Nz O$ qV (Ow O Qe U3 (by omega))$ Nz O$ qV (UQ (m:=8) U9 O O (by rw[lZ];omega)) ?_
 rw[show(W7 n sum).drop 8=Re 4 sum from List.drop_left' (O4 _ _)]
 refine NZ zeE O (z0U (Re 4 sum) (by omega) _) ?_
 rintro _ w7 ⟨rfl,bV⟩
 rw[EX]
 have bj:=bV.ND aR
 refine qV (SJ O Qe OX)$ O8 O$ NO Zb O$ NP O (PA OL O O O bj (by simp)) ?_
 rintro w8 ⟨ck,aV⟩
 replace ck:NM w8 rb [ptr Q.s 0,I (st:Int),I (len:Int),I (n:Int),U 0] 204:=ck
 refine O8 O$ NO zbb O ?_
 rw[Nat.mod_eq_of_lt (show sum<2^32 by omega)]
 refine NP O (PA NV O O O ck (by simp)) ?_
 rintro w9 ⟨cB,aS⟩
 refine qM O$ Nz O$ NQ O$ NF O$ NA func61 O ?_
 have vZ:=(((rh.ext' bV).own aV (λb e=> .inr e)).own aS (λb e=> .inr e))
 refine⟨_,rfl,rb,rfl,cB,by omega,vZ,?_⟩
 have EY:Kp (λb=>¬X b) w w4:=((aJ.trans ah).kp (S:=λb=>¬X b)).trans (ao.NR λb e e2=>e (.inl e2))
 refine(((EY.trans (aT.trans (aK.trans bV)).kp).Nv aV λb e=> .inl (by omega)).Nv aS λb e=> .inl (by omega))
theorem z6S (hB:NM w rb (srC Q.s st len n sum) 204):Oa prog 278 [ptr rb 0] w λv w'=>v=I (n:Int)/\w'=w:=by
 replace hB:NM w rb [ptr Q.s 0,I (st:Int),I (len:Int),I (n:Int),U sum] 204:=hB
 refine Nu (e:=[(0,_)]) func278 O ntmps278 O O$ qN O$ NF O$ py$ qN O$ Nz O$ qV (OP zbS O O)$ NB$ It O$ An$ qN O$ Nz O$ O8 O$ NO Zb O ?_
 refine qV (NJ U3 O O hB O)$ NF O$ NA func278 O ?_
 exact⟨_,rfl,rfl,rfl⟩
theorem zab (hP:Sp Q txt K (λb=>X b\/b=rb) w)(hX:∀b,X b->b<w.heap.size)(uy:¬X rb)(hK:K<1000000000000)(cj:st+len<=Q.L.length)(hL:Laid txt st T)(hB:NM w rb (srC Q.s st len T.length sum) 204)(hT:T.length<=len*512)(off n:Nat)(ho:off+n<=T.length):
  Oa prog 279 [ptr rb 0,I (off:Int),I (n:Int)] w λv w'=>v= .tuple #[S ((T.drop off).take n),I 0]/\Sp Q txt K (λb=>X b\/b=rb) w'/\NM w' rb (srC Q.s st len T.length sum) 204/\Kp (λb=>¬X b) w w':=by
 have dY:=hP.n
 have lrb:=hB.lt
 replace hB:NM w rb [ptr Q.s 0,I (st:Int),I (len:Int),I (T.length:Int),U sum] 204:=hB
 refine Nu (e:=[(0,_),(1,_),(2,_)]) func279 O ntmps279 O O$ qN O$ NQ O$ NF O$ py$ Nw$ qN O$ Nz O$ qV (OP zbS O O)$ NF O$ It O$ qN O$ Nz O$ Pb O O ?_
 refine Ox$ NT O O$ Pb O O$ Ox$ OC O O$ NT O O$ Nz O$ O8 O$ NO Zb O$ qV (NJ U3 O O hB O)$ P9 O O$ Ox$ OC O O$ NT O O ?_
 refine Nz O$ O8 O$ NO Zb O$ qV (NJ U3 O O hB O)$ Nz O$ Qc O O$ P9 O O$ Ox$ OC O O$ NF O$ Of.qb (e:=[(0,_),(1,_),(2,_),(6,_),(7,_),(15,_)]) ?_
 refine It O$ An$ Ny$ qN O$ Nz O$ O8 O$ NO Xp O$ NO Ty O$ qV (NJ UM O O hB O)$ NZ z2s O (hP.size) ?_
 rintro _ w ⟨rfl,rfl⟩
 refine NQ O$ qM O$ NK O O (Qk (cs:=[_,_]) zcZ O) ?_
 rintro _ w1 ⟨bb,rfl,vz,ad,vV⟩
 have uz:=BdM.new vV
 have z1:=ad.size
 refine NB$ py$ Nw$ Qb (α:=Nat×Value) ((0,Value.slice none 0 0)) (λy=>[(0,ptr rb 0),(1,I ((off+y.1:Nat):Int)),(2,I ((n-y.1:Nat):Int)),(8,I 512),(9,ptr bb 0)]) (λy w'=>y.1<=n/\BdM w' bb ((T.drop off).take y.1) y.2/\(y.1=0->y.2= .slice none 0 0)/\(∀g,y.2.ownBlock=some g->w.heap.size<=g)/\Sp Q txt K (λb=>(X b\/b=rb)\/b=bb\/y.2.ownBlock=some b) w'/\Kp (λb=>¬(X b\/b=rb)) w w') (λy=>n-y.1) ?hI ?hround
 case hI=>exact⟨Nat.zero_le _,uz,λ_=>rfl,λg hg=>(by cases hg),hP.ext ad (λb e=>e.imp id λe=>e.elim (λe=>by omega) (λe=>by cases e)),ad.kp⟩
 case hround=>
  rintro⟨m,v⟩ w2 ⟨hm,kF,HP,fR,er,aq⟩ ih;dsimp only at hm kF HP fR er ih⊢;have am:=aq.ND hB (λe=>e (.inr O));have hg:=Ext.NY w2;have z2:=aq.size;have lbb:bb<w2.heap.size:=by obtain⟨⟨p,hp,hb⟩,-,-⟩:=kF;exact hb.lt
  have lL:∀b,((X b\/b=rb)\/b=bb\/v.ownBlock=some b)->b<w2.heap.size:=λb hb=>by
   rcases hb with(e|e)|e| e
   ·have:=hX b e;omega
   ·omega
   ·omega
   ·exact kF.2.1.lt e
  try dsimp only
  refine py$ qN O$ Nz O$ P9 O O$ NB$ NN O (λh0=>?_)$ λh0=>?_
  ·obtain⟨q,hq⟩:∃q,min (n-m) (512-(off+m)%512)=q:=⟨_,rfl⟩;have dr:=er.Yk (x:=((st+(off+m) / 512:Nat):Int)) (by omega) (by omega);have jD:=hL.piece (off:=off+m) (n:=q) (by omega) (by omega);have eh:=(er.ext' hg).read (λb hb=>by have:=lL b hb;have:=hg.size;omega) hK (no:=((st+(off+m) / 512:Nat):Int)) (by omega) (by omega);obtain⟨t,ht⟩:∃t,txt ((st+(off+m) / 512:Nat):Int)=t:=⟨_,rfl⟩;rw[ht] at dr jD eh;refine An$ Nw$ py$ PK (λw'=>Kp (λb=>¬((X b\/b=rb)\/b=bb\/v.ownBlock=some b)) w2 w') O$ NX 0 O O (hg.kp)$ NG 1 O (OQ O) (hg.kp)$ NG 2 O (Og Xp O) (hg.kp)$ NG 3 O (Og Ty O) (hg.kp)$ qT 4 O (λ_ hS=>NJ UM O O (hS.ND am (λe=>e (.inl (.inr O)))) O) (hg.kp)$ NX 5 O O (hg.kp)$ NG 6 O (OQ O) (hg.kp)$ NG 7 O (Og Xp O) (hg.kp)$ NG 8 O (Og SN O) (hg.kp)$ NG 9 O (Og PF O) (hg.kp) ?_;refine qT 10 O (λ_ hS=>NJ U3 O O (hS.ND am (λe=>e (.inl (.inr O)))) O) (hg.kp)$ NX 11 O O (hg.kp)$ NX 12 O O (hg.kp)$ NG 13 O (Vu O O (by omega)) (hg.kp)$ NG 14 O (SX O O (by omega)) (hg.kp) ?_;rw[show(st:Int)+((off+m:Nat):Int) / 512=((st+(off+m) / 512:Nat):Int) by omega];refine Qv 15 O z9U O (eh) ?_;rintro _ w3 ⟨rfl,fW,aw⟩;refine⟨hg.kp.trans aw,?_⟩;have cW:=hg.kp.trans aw;have uA:=kF.kp cW (λe=>e (.inr (.inl O))) (λg hg e=>e (.inr (.inr hg)));refine NX 16 O O (hg.kp.trans aw)$ NG 17 O (Q8 O O) (hg.kp.trans aw)$ NG 18 O (Q8 O O) (hg.kp.trans aw)$ NG 19 O (PO O) (hg.kp.trans aw)$ NG 20 O (PO O) (hg.kp.trans aw)$ qE$ py$ qN O$ Nz O$ P3 O O$ NB$ It O$ An$ qN O ?_;refine NT O O$ Nz O$ qV (yre O O (by omega)) ?_;rw[show((off+m:Nat):Int)%512=(((off+m)%512:Nat):Int) by omega];refine qV (UQ U9 O O (by omega))$ NQ O$ qM O$ NT O O$ Nz O$ qV (SG U9 O)$ qV (ymi O O) ?_;rw[show min ((n-m:Nat):Int) ((t.drop ((off+m)%512)).length:Int)=((q:Nat):Int) by rw[List.length_drop];omega];refine qV (YA (m:=q) U9 O O (by rw[List.length_drop];omega)) ?_;rw[jD];have Dj:((T.drop (off+m)).take q).length=q:=by rw[List.length_take,List.length_drop];omega
   have gP:((T.drop off).take m).length<=m:=by rw[List.length_take];omega
   refine NQ O$ qM O$ Nz O$ NZ zhG O (z3Z uA ((T.drop (off+m)).take q) (by omega)) ?_;rintro _ w4 ⟨v4,rj,ao,nx⟩;have z3:=cW.size;refine qM O$ NT O O$ qV (SG U9 O) ?_;rw[Dj];refine OI O O$ NF O$ NC O$ NT O O$ qV (SG U9 O) ?_;rw[Dj];refine Qc O O$ NF O$ Ny ?_;rw[show((off+m:Nat):Int)+(q:Int)=((off+(m+q):Nat):Int) by omega,show((n-m:Nat):Int)-(q:Int)=((n-(m+q):Nat):Int) by omega];refine(ih (m+q,v4) _ ⟨by dsimp only;omega,?_,λe=>by dsimp only at e;omega,λg hg=>(nx g hg).elim (fR g) (λe=>by omega),?_,?_⟩ (by dsimp only;omega)).qb
   ·dsimp only;rw[List.take_add,List.drop_drop];exact rj
   ·exact fW.step ao (λb e=> .inr e) (λb e=>by
     rcases e with e|e| e
     ·exact .inl (.inl e)
     ·exact .inl (.inr (.inl e))
     ·exact(nx b e).imp (λe=> .inr (.inr e)) id)
   ·refine(aq.trans (cW.NR λb e e2=>e (.inl e2))).Nv ao λb e=> .inl ?_;rcases e with e| e
    ·omega
    ·exact fR b e
  ·have Li:m=n:=by omega
   subst Li;refine NL O$ qN O$ NZ zeB O (z1k kF (λe=>HP (by have:=congrArg List.length e;rw[List.length_take,List.length_drop,List.length_nil] at this;omega)) (by rw[List.length_take,List.length_drop];omega)) ?_;rintro _ w3 ⟨rfl,aw⟩;refine NQ O$ NF O$ NA func279 O ?_;have cF:Kp (λb=>¬(X b\/b=rb)) w w3:=aq.Nv aw (λb e=> .inl (fR b e));exact⟨_,rfl,rfl,er.step aw (λb e=> .inr (.inr e)) (λb e=> .inl (.inl e)),cF.ND hB (λe=>e (.inr O)),cF.NR λb e e2=>e (.inl e2)⟩
end
section
variable {t:TypeId}{u:Value}{p:Pa}{g:List (List Nat)}{E:List (Nat×Nat)}{R:Src t u (Wu p g E)}{k x:Nat}{X Y S:Nat->Prop}{w w':World}
theorem z47 (k v:Nat)(w:World):Oa prog 75 [ptr k 0,I (v:Int)] w λr w'=>∃bk bi,r= .func (.func 113) #[] #[ptr bk 0,ptr bi 0]/\NM w' bk [ptr k 0] 29/\NM w' bi [I (v:Int)] 3/\w.heap.size<=bk/\w.heap.size<=bi/\Ext w w':=by
 refine Nu (e:=[(0,_),(1,_)]) func75 O ntmps75 O O$ qN O$ NK O O (PW O (cs:=[ptr k 0]) O) ?_
 rintro _ w1 ⟨bk,rfl,gW,ad,vN⟩
 refine NK O O (PW O (cs:=[I (v:Int)]) O) ?_
 rintro _ w2 ⟨bi,rfl,zW,ag,wc⟩
 refine NQ O$ qM O$ qV (ymf (first:=[]) (caps:=[.tmp 2,.tmp 3]) O O)$ NF O$ NA func75 O ?_
 have:=ad.size
 exact⟨_,rfl,bk,bi,rfl,ag.ND vN,wc,by omega,by omega,ad.trans ag⟩
theorem z4G {l bk bi v:Nat}(jn:g.length<50)(hv:v<g.length)(h:Tp R k x X w)(gW:NM w bk [ptr k 0] 29)(zW:NM w bi [I (v:Int)] 3)(Z:Nat->Prop)(hZ:∀j,Z j->X j)(J:(Nat->Prop)->Nat->World->Prop)(F:World->Prop)
  (h0:∀(Y:Nat->Prop) (w':World),(∀j,X j->Y j)->(∀j,Y j->X j\/w.heap.size<=j)->Tp R k x Y w'->Kp (λj=>¬X j) w w'->J Y 0 w')
  (hround:∀(Y:Nat->Prop) (i s:Nat) (w':World),(∀j,X j->Y j)->(∀j,Y j->X j\/w.heap.size<=j)->(NS g v)[i]? =some s->J Y i w'->z1p prog l [Oe s,I 0] w' λr w''=>(r= .bool true/\J Y (i+1) w''/\Kp (λj=>¬Y j\/Z j) w' w'')\/(r= .bool false/\F w'')):
  Oa prog 113 [.func (.yield l) #[] #[],ptr bk 0,ptr bi 0] w λr w'=>r= .tuple #[]/\((∃Y,(∀j,X j->Y j)/\(∀j,Y j->X j\/w.heap.size<=j)/\J Y (NS g v).length w')\/F w'):=by
 have aU:=h.lt
 have fP:(NS g v).length<=g.length:=by
  unfold NS;rw[List.getElem?_eq_getElem hv];exact h.ok.gr.len (List.getElem_mem hv)
 refine Nu (e:=[(0,_),(1,_),(2,_)]) func113 O ntmps113 O O$ qN O$ qV ((NJ U29 O O gW O))$ qV ((NJ U3 O O zW O))$ NZ zh6 O (z52 jn hv h) ?_
 rintro _ w1 ⟨vv,rfl,j7,iY,h1,aM⟩
 have eh:=j7.rd
 obtain⟨a,c,rfl,ha⟩:=eh.shape
 refine Nz O$ qV (Q8 (v:= .slice a (NS g v).length c) O O)$ qV (Q8 (v:=I 0) O O)$ NQ O$ NF O$ py$ qN O$ Nz O$ P3 O O$ NB$ It O$ An$ qN O$ Nz O ?_
 refine Q0 Ob O$ Nz O$ NB$ Nw ?_
 obtain⟨Y,hY⟩:∃Y:Nat->Prop,(λj=>X j\/(Value.slice a (NS g v).length c).ownBlock=some j)=Y:=⟨_,rfl⟩
 rw[hY] at h1
 have bS:∀j,X j->Y j:=λj hj=>by rw[<-hY];exact .inl hj
 have wg:∀j,Y j->X j\/w.heap.size<=j:=λj hj=>by
  rw[<-hY] at hj;exact hj.imp id (iY j)
 have HQ:∀j,(Value.slice a (NS g v).length c).ownBlock=some j->Y j/\¬Z j:=λj hj=>⟨by rw[<-hY];exact .inr hj,λe=>by have h2:=iY j hj;have h3:=aU j (hZ j e);omega⟩
 refine Qb (α:=Nat) (0) (λi=>[(0,.func (.yield l) #[] #[]),(19,.slice a (NS g v).length c),(20,I ((NS g v).length:Int)),(21,I (i:Int))]) (λi w'=>i<=(NS g v).length/\J Y i w'/\Rd w' (.slice a (NS g v).length c) 1 (NS g v).length ((NS g v).map Oe)) (λi=>(NS g v).length-i) ?hI ?hround
 case hI=>exact⟨Nat.zero_le _,h0 Y w1 bS wg h1 aM,eh⟩
 case hround=>
  rintro i w2 ⟨hi,hJ,zX⟩ ih
  try dsimp only
  refine qN O$ Pb O O$ NB$ py$ NN O (λhq=>?_)$ λhq=>?_
  ·obtain⟨s,hs⟩:∃s,(NS g v)[i]? =some s:=⟨_,List.getElem?_eq_getElem (by omega)⟩;rcases zX.2 with⟨⟨ca,cc⟩,fT,s7⟩|⟨b,off,cap,fT,hc⟩
   ·omega
   cases fT;have aX:w2.cell? ⟨b,off+i*1,none⟩=some (Oe s):=hc (i*1) _ (by rw[Nat.mul_one,List.getElem?_map,hs];rfl);refine An$ py$ Nw$ qN O$ qV (OH Ob NV O O (by omega))$ qV (Oi OX O O aX)$ NQ O$ qM O$ NT O O$ z4v O O (yy O O) (hround Y i s w2 bS wg hs hJ) ?_;rintro r w3 eL;rcases eL with⟨rfl,Lj,aw⟩|⟨rfl,hF⟩
   ·refine qV ((Qr O))$ NB$ It O$ An$ Ny$ NC O$ OI O O$ Nz O$ NB ?_;exact(ih (i+1) _ ⟨by omega,Lj,zX.kp aw (λj hj e=>e.elim (λe=>e (HQ j hj).1) (HQ j hj).2)⟩ (by omega)).qb
   ·refine qV ((Qr O))$ NB$ NI O$ NA func113 O ?_;exact⟨_,rfl,rfl,.inr hF⟩
  ·have cu:i=(NS g v).length:=by omega
   subst cu;refine NL O$ Pq func113 O ?_;exact⟨_,rfl,rfl,.inl ⟨Y,bS,wg,hJ⟩⟩
end
structure StO (Q:Qn)(txt:Int->NH)(K st len:Nat)(T:NH):Prop where
 k:K<1000000000000
 fit:st+len<=Q.L.length
 laid:Laid txt st T
 len:T.length<=len*512
def z89 {Q:Qn}{txt:Int->NH}{K st len:Nat}{T:NH}(o:StO Q txt K st len T)(rb sum:Nat):Src 136 (ptr rb 0) T where
 inv X w:=Sp Q txt K (λb=>X b\/b=rb) w/\NM w rb (srC Q.s st len T.length sum) 204/\¬X rb
 fl:=278
 fr:=279
 cl:=zfd
 cr:=zhL
 ml:=by kernel_rfl
 mr:=by kernel_rfl
 ext:=λh hx hY=>⟨h.1.ext hx λb e=>e.elim (λe=>(hY b e).elim (λe=> .inl (.inl e)) .inr) (λe=> .inl (.inr e)),hx.ND h.2.1,λe=>(hY _ e).elim h.2.2 (λe=>by have:=h.2.1.lt;omega)⟩
 step:=λh hk hS hY=>⟨h.1.step hk (λb e=> .inl (hS b e)) λb e=>e.elim (λe=>(hY b e).elim (λe=> .inl (.inl e)) .inr) (λe=> .inl (.inr e)),hk.ND h.2.1 (λe=>h.2.2 (hS _ e)),λe=>(hY _ e).elim h.2.2 (λe=>by have:=h.2.1.lt;omega)⟩
 len:=λh=>(z6S (Q:=Q) h.2.1).mono λv w' ⟨hv,hw⟩=>⟨hv,by rw[hw];exact Ext.refl _⟩
 rd:=λoff n h hX B5=>(zab h.1 hX h.2.2 o.k o.fit o.laid h.2.1 o.len off n B5).mono λv w' ⟨hv,h1,h2,h3⟩=>⟨hv,⟨h1,h2,h.2.2⟩,h3⟩
section
variable {t:TypeId}{u:Value}{p:Pa}{g:List (List Nat)}{E:List (Nat×Nat)}{k x:Nat}{X Y S:Nat->Prop}{w w':World}
theorem Tp.re {R R':Src t u (Wu p g E)}(h:Tp R k x X w)(hk:Kp S w w')(hS:∀j,S j->j≠k/\j≠x/\j≠0/\j≠1)(hI:R'.inv X w'):Tp R' k x X w':=
 ⟨h.ok,hk.ND h.ND (λe=>(hS _ e).1 O),hk.ND h.ix (λe=>(hS _ e).2.1 O),h.xk,h.xx,hI,λj hj=>by have:=h.lt j hj;have:=hk.size;omega,h.x1,h.x2,hk.ND h.gam (λe=>(hS _ e).2.2.1 O),hk.ND h.una (λe=>(hS _ e).2.2.2 O)⟩
theorem z54 {Q:Qn}{txt:Int->NH}{K st len rb sum:Nat}(hp:RA p g E)(o:StO Q txt K st len (Wu p g E))(hI:(z89 o rb sum).inv X w)(hX:∀j,X j->j<w.heap.size)(x1:X 0)(x2:X 1)(hG:NM w 0 (QX .gamma) 260)(hU:NM w 1 (QX .unary) 260):
  Oa prog 62 [ptr rb 0] w λv w'=>∃k x,v= .tuple #[ptr k 0,I 0]/\w.heap.size<=k/\w.heap.size<=x/\Tp (z89 o rb sum) k x (λj=>X j\/j=x\/j=k) w'/\Kp (λj=>¬X j) w w':=by
 refine Nu (e:=[(0,_)]) func62 O ntmps62 O O$ qN O$ NQ O$ NF O$ py$ qN O$ Nz O$ qV (OP zbS O O)$ NB$ It O$ An$ qN O$ Nz O$ qV (zgF zbS (λ_ h=>by cases h) rfl) ?_
 refine NZ zgh O (z4M hp (z89 o rb sum) hI hX) ?_
 rintro _ w1 ⟨k,x,rfl,aj,am,hx,hk,bD,mx,aM⟩
 refine ON O O$ ON O O$ NQ O$ NF O$ NA func62 O ?_
 have z1:=aM.size
 have l1:=aj.lt
 have l2:=am.lt
 refine⟨_,rfl,k,x,rfl,hk,hx,⟨hp,aj,am,.inr (.inr O),.inr (.inl O),mx,λj hj=>?_,.inl x1,.inl x2,aM.ND hG (λe=>e x1),aM.ND hU (λe=>e x2)⟩,aM⟩
 rcases hj with e|e| e
 ·have:=hX j e;omega
 ·omega
 ·omega
end
theorem zbz {n each:Nat}(he:1<=each):max (1:Int) (((n:Int)+(each:Int)-1) / (each:Int))=((TQ n each:Nat):Int):=by
 unfold TQ
 rw[show(n:Int)+(each:Int)-1=((n+each-1:Nat):Int) by omega]
 have h:((n+each-1:Nat):Int) / (each:Int)=(((n+each-1) / each:Nat):Int):=rfl
 rw[h]
 generalize (n+each-1) / each=q
 omega
section
variable {w w':World}{Q:Qn}{txt:Int->NH}{K:Nat}{X:Nat->Prop}{vb width st each n:Nat}{xs:List Nat}
abbrev shV (n width each:Nat):Value:= .agg #[I (n:Int),I (width:Int),I (each:Int)]
theorem WX (n width each:Nat)(he:1<=each/\each<=512)(hn:n<=4194304)(w:World):Oa prog 63 [shV n width each] w λv w'=>v=I (TQ n each:Int)/\Ext w w':=by
 refine Nu (e:=[(0,_)]) func63 O ntmps63 O O$ qN O$ NK O O (PW O (cs:=[I (n:Int),I (width:Int),I (each:Int)]) O) ?_
 rintro _ w1 ⟨b1,rfl,bN,ad,aj⟩
 refine NQ O$ qM O$ NO VK O$ qV (NJ U3 O O aj O)$ NO Ub O$ qV (NJ U3 O O aj O)$ OI O O$ Qc O O$ NO Ub O$ qV (NJ U3 O O aj O)$ qV (Vu O O (by omega))$ qV (yma O O)$ NF O ?_
 rw[zbz he.1]
 refine NA func63 O ?_
 exact⟨_,rfl,rfl,ad⟩
theorem Zt (n width each x:Nat)(hw:width=1\/width=2\/width=4\/width=8)(hx:x<2^(8*width))(w:World):Oa prog 69 [shV n width each,NW x] w λv w'=>v= .bool true/\Ext w w':=by
 refine Nu (e:=[(0,_),(1,_)]) func69 O ntmps69 O O$ qN O$ NK O O (PW O (cs:=[I (n:Int),I (width:Int),I (each:Int)]) O) ?_
 rintro _ w1 ⟨b1,rfl,bN,ad,aj⟩
 refine NQ O$ qM O$ NO Sr O$ qV (NJ U3 O O aj O) ?_
 by_cases h8:width=8
 ·refine Px O O$ PE$ Nz O$ qS$ qS$ qS$ qS$ qS$ qS$ Pc O O$ NF O$ NA func69 O ?_;exact⟨_,rfl,rfl,ad⟩
 ·have Lk:8*width<=32:=by omega
  have hp:1*2^(8*width)%18446744073709551616=2^(8*width):=by
   have:=Nat.pow_le_pow_right (show 0<2 by decide) Lk;rw[Nat.one_mul,Nat.mod_eq_of_lt (by omega)]
  refine Px O O$ Ox$ NT O O$ NO Sr O$ qV (NJ U3 O O aj O)$ qV (TT O O (by omega)) ?_;rw[show(8:Int)*(width:Int)=((8*width:Nat):Int) by omega];refine qV (PV (8*width) (2^(8*width)) O O (by omega) O) ?_;rw[hp]
  generalize 2^(8*width)=P at hx⊢
  refine Pb O O$ PE$ OC O O$ NF O$ NA func69 O ?_;exact⟨_,rfl,rfl,ad⟩
theorem Ww (n width each x:Nat)(hw:width<=8)(hx:x<18446744073709551616)(w:World):Oa prog 73 [shV n width each,NW x] w λv w'=>v=S (Re width x)/\Ext w w':=by
 have eJ:maxLen=9223372036854775807:=rfl
 refine Nu (e:=[(0,_),(1,_)]) func73 O ntmps73 O O$ qN O$ NK O O (PW O (cs:=[I (n:Int),I (width:Int),I (each:Int)]) O) ?_
 rintro _ w0 ⟨b0,rfl,s6,j5,iv⟩
 refine NQ O$ qM O$ NO Sr O$ qV (NJ U3 O O iv O)$ NK O O (pmk (c:=width) (n:=width) P8 VO O O O (by omega) (by omega) (by omega)) ?_
 rintro _ w1 ⟨b1,rfl,⟨bN,ad,aj⟩,-⟩
 refine NF O$ py$ qN O$ Nz O$ Q0 P8 O$ Nz O$ NB$ Nw ?_
 rw[<-z0Q x width] at aj
 have l0:=iv.lt
 refine Qb (α:=Nat) (0) (λk=>[(1,NW x),(2,ptr b0 0),(5,.slice (some ⟨b1,0,none⟩) width width),(11,I (width:Int)),(12,I (k:Int))]) (λk w'=>k<=width/\NM w' b1 (z0q x width k) 5/\NM w' b0 [I (n:Int),I (width:Int),I (each:Int)] 143/\Ext w0 w') (λk=>width-k) ?hI ?hround
 case hI=>exact⟨by omega,aj,ad.ND iv,ad⟩
 case hround=>
  rintro k w2 ⟨hk,am,zY,ag⟩ ih
  try dsimp only
  refine qN O$ Pb O O$ NB$ py$ NN O (λaU=>?_)$ λaU=>?_
  ·have EM:k<width:=by omega
   refine An$ py$ Nw$ qN O$ Nz O$ NF O$ NC O$ NT O O$ Nz O$ NO Sr O$ qV (NJ U3 O O zY O)$ Qc O O$ Nz O$ Qc O O ?_;refine qV (TT O O (by omega)) ?_;rw[show(8:Int)*(((width:Int)-1)-(k:Int))=((8*(width-1-k):Nat):Int) from by omega];refine qV (RS (8*(width-1-k)) (2^(8*(width-1-k))) O O (by simp only[IntKind.bits];omega) O) ?_;refine qV (YS O Qe U5)$ qV (OH P8 VO O O (by omega))$ NP O (PA VO O O O am (by simp;omega)) ?_;rintro w3 ⟨ar,aw⟩;rw[z2x x width k EM] at ar;refine NB$ Ny$ NC O$ OI O O$ Nz O$ NB ?_;exact(ih (k+1) w3 ⟨by omega,ar,aw.ND zY (by omega),ag.Nv aw (λi hi=>by rw[hi,bN];exact Nat.le_refl _)⟩ (by omega)).qb
  ·have:k=width:=by omega
   subst this;rw[z3v] at am;refine NL O$ qN O$ Nz O$ qV (z2Z (l:=Re k x) P8 U5 U9 O am (by rw[List.drop_zero];exact List.take_of_length_le (by rw[List.length_map,O4];omega)) (by simp[Re])) ?_;refine NF O$ NA func73 O ?_;exact⟨_,rfl,rfl,j5.trans ag⟩
theorem QY (h:Wc Q txt vb width st xs w):Oa prog 68 [ptr vb 0] w λv w'=>v=I 0/\w'=w:=by
 have hB:=h.cells
 refine Nu (e:=[(0,_)]) func68 O ntmps68 O O$ qN O$ NF O$ py$ Nw$ qN O$ Nz O$ qV (OP U90 O O)$ NF O$ It O$ qN O$ Nz O$ O8 O$ NO z69 O ?_
 refine qV (NJ U4 O O hB O)$ NF O$ It O$ An$ Ny$ qN O$ NF O$ NA func68 O ?_
 exact⟨_,rfl,rfl,rfl⟩
theorem z3n (h:Wc Q txt vb width st xs w){i:Nat}(hi:i<xs.length)(hn:Q.L.length<=4096):Oa prog 70 [ptr vb 0,I (i:Int)] w λv w'=>v= .tuple #[I ((st+i / (512 / width):Nat):Int),I ((i%(512 / width)*width:Nat):Int)]/\Ext w w':=by
 have hB:=h.cells
 have hg:=Ext.NY w
 obtain⟨e1,e2,e3,e4,e5⟩:=h.e
 obtain⟨a1,a2,a3⟩:=h.at_ hi
 have ik:=h.n
 have hd:((i:Nat):Int) / ((512 / width:Nat):Int)=((i / (512 / width):Nat):Int):=rfl
 have hm:((i:Nat):Int)%((512 / width:Nat):Int)=((i%(512 / width):Nat):Int):=rfl
 have B9:((i%(512 / width):Nat):Int)*(width:Int)=((i%(512 / width)*width:Nat):Int):=by rw[Int.natCast_mul]
 have fC:(st:Int)+((i / (512 / width):Nat):Int)=((st+i / (512 / width):Nat):Int):=by rw[Int.natCast_add]
 generalize i / (512 / width)=q at*
 generalize i%(512 / width)=r at*
 generalize 512 / width=each at*
 refine Nu (e:=[(0,_),(1,_)]) func70 O ntmps70 O O$ qN O$ NQ O$ NF O$ py$ PK (λw'=>Ext w w') O$ NX 0 O O (hg)$ NG 1 O (OQ O) hg$ NG 2 O (Og WV O) hg$ NG 3 O (Og PF O) hg$ qT 4 O (λ_ h=>NJ U3 O O (h.ND hB) O) hg$ NX 5 O O (hg)$ NX 6 O O (hg)$ NG 7 O (OQ O) hg ?_
 refine NG 8 O (Og PM O) hg$ NG 9 O (Og Ub O) hg$ qT 10 O (λ_ h=>NJ U3 O O (h.ND hB) O) hg$ NX 13 O O (hg)$ NX 14 O O (hg)$ NG 15 O (OQ O) hg$ NG 16 O (Og PM O) hg$ NG 17 O (Og Ub O) hg$ qT 18 O (λ_ h=>NJ U3 O O (h.ND hB) O) hg$ NX 20 O O (hg)$ NG 21 O (OQ O) hg$ NG 22 O (Og PM O) hg$ NG 23 O (Og Sr O) hg$ qT 24 O (λ_ h=>NJ U3 O O (h.ND hB) O) hg ?_
 refine NG 11 O (Vu O O (by omega)) hg ?_
 rw[hd]
 refine NG 12 O (SX O O (by omega)) hg$ NG 26 O (PO O) hg ?_
 rw[fC]
 refine NG 19 O (yre O O (by omega)) hg ?_
 rw[hm]
 refine NG 25 O (TT O O (by rw[B9];omega)) hg ?_
 rw[B9]
 refine NG 27 O (PO O) hg$ qE$ Of.qb (e:=[(4,_),(5,_)]) ?_
 refine NA func70 O ?_
 exact⟨_,rfl,rfl,hg⟩
end
section
variable {w w':World}{Q:Qn}{txt:Int->NH}{K:Nat}{X:Nat->Prop}{vb width st each n:Nat}{xs:List Nat}
theorem Wc.zaO (h:Wc Q txt vb width st xs w){i x:Nat}(hi:xs[i]? =some x):x<2^(8*width)/\x<18446744073709551616:=by
 have h1:=(h.t i x hi).2
 have:=Nat.pow_le_pow_right (show 0<2 by decide) (show 8*width<=64 by have:=h.e;omega)
 exact⟨h1,by omega⟩
theorem XO (hP:Sp Q txt K X w)(hX:∀b,X b->b<w.heap.size)(hK:K<1000000000000)(hv:Wc Q txt vb width st xs w)(dl:X vb){i x:Nat}(hi:xs[i]? =some x):
  Oa prog 40 [ptr vb 0,I (i:Int)] w λv w'=>v= .tuple #[NW x,I 0]/\Sp Q txt K X w'/\Kp (λb=>¬X b) w w':=by
 have dY:=hP.n
 have aY:i<xs.length:=by
  rcases Nat.lt_or_ge i xs.length with h| h
  ·exact h
  ·rw[List.getElem?_eq_none h] at hi;cases hi
 have Bg:=z3n hv aY dY
 obtain⟨a1,a2,a3⟩:=hv.at_ aY
 have uB:=(hv.t i x hi).1
 have mD:=(hv.zaO hi).1
 have dr:=hP.Yk (x:=((st+i / (512 / width):Nat):Int)) (Int.natCast_nonneg _) (Int.ofNat_lt.2 a1)
 have ik:=hv.n
 have Na:=hv.e.2.2.2.2
 have oC:∀w1,Ext w w1->Oa prog 71 [ptr Q.s 0,I ((st+i / (512 / width):Nat):Int)] w1 λv w'=>v= .tuple #[S (txt ((st+i / (512 / width):Nat):Int)),I 0]/\Sp Q txt K X w'/\Kp (λb=>¬X b) w1 w':=λw1 ad=>(hP.ext' ad).read (λb hb=>by have:=hX b hb;have:=ad.size;omega) hK (Int.natCast_nonneg _) (Int.ofNat_lt.2 a1)
 generalize i / (512 / width)=q at*
 generalize i%(512 / width)=r at*
 generalize ho:r*width=o at*
 obtain⟨t,ht⟩:∃t,txt ((st+q:Nat):Int)=t:=⟨_,rfl⟩
 rw[ht] at uB dr oC
 have hB:=hv.cells
 refine Nu (e:=[(0,_),(1,_)]) func40 O ntmps40 O O$ qN O$ NQ O$ NF O$ py$ qN O$ Nz O$ NZ z58 O (QY hv) ?_
 rintro _ w ⟨rfl,rfl⟩
 refine NQ O$ qM O$ Nz O$ P3 O O$ NB$ It O$ An$ py$ qN O$ Nz O$ Pb O O$ Ox$ NT O O$ Nz O ?_
 refine O8 O$ NO PM O$ NO VK O$ qV (NJ U3 O O hB O)$ RN O O$ Ox$ OC O O$ NB$ It O$ An$ qN O$ NT O O$ NZ zhc O (Bg) ?_
 rintro _ w1 ⟨rfl,ad⟩
 have aj:=ad.ND hB
 refine Nz O$ ON O O$ ON O O$ NQ O$ NF O$ Of.qb (e:=[(0,_),(4,_),(5,_),(7,_),(8,_)]) ?_
 refine qN O$ Nz O$ O8 O$ NO Uc O$ qV (NJ UM O O aj O)$ Nz O$ NZ z9U O (oC w1 ad) ?_
 rintro _ w2 ⟨rfl,er,aq⟩
 have am:=aq.ND aj (λe=>e dl)
 refine Nz O$ ON O O$ ON O O$ NQ O$ NF O$ py$ qN O$ Nz O$ P3 O O$ NB$ It O$ An$ qN O$ NF O ?_
 refine py$ qN O$ NT O O$ NT O O$ O8 O$ NO PM O$ NO Sr O$ qV (NJ U3 O O am O)$ OI O O ?_
 rw[show(o:Int)+(width:Int)=((o+width:Nat):Int) by omega]
 refine qV (zdv (m:=o) (n:=o+width) U9 O O O (by omega)) ?_
 rw[show o+width-o=width by omega,uB]
 have fL:=O4 width x
 obtain⟨s,hs⟩:∃s,Re width x=s:=⟨_,rfl⟩
 have nM:Ol (O0 s)=x:=by rw[<-hs];exact VF mD
 rw[hs] at fL⊢
 refine NK O O (z8w U9 P8 U5 O) ?_
 rintro _ w3 ⟨b7,c7,rest,rfl,⟨kO,ah,ar⟩,AV⟩
 refine Q0 P8 O$ Nz O$ NB$ Of.qb (e:=[(4,_),(5,_),(11,_),(58,_),(59,_),(60,_)]) ?_
 refine Nw$ Qb (α:=Nat) (0) (λi=>[(11,NW (Ol (O0 (s.take i)))),(58,.slice (some ⟨b7,0,none⟩) s.length c7),(59,I (s.length:Int)),(60,I (i:Int))]) (λi w'=>w'=w3/\i<=s.length) (λi=>s.length-i) ?hI ?hround
 case hI=>exact⟨rfl,Nat.zero_le _⟩
 case hround=>
  rintro i w4 ⟨rfl,hi⟩ ih
  try dsimp only
  refine qN O$ Pb O O$ NB$ py$ NN O (λh0=>?_)$ λh0=>?_
  ·obtain⟨c,hc⟩:∃c,s[i]? =some c:=⟨_,List.getElem?_eq_getElem (by omega)⟩;have dx:=c.toNat_lt;have fC:=Sy hc
   have aU:Ol (O0 (s.take i))<72057594037927936:=by
    have h1:=Pw (O0 (s.take i));rw[bitsT_length,List.length_take] at h1;have h2:2^(8*min i s.length)<=2^56:=Nat.pow_le_pow_right (by decide) (by omega);omega
   have aX:w4.cell? ⟨b7,0+i*1,none⟩=some (Rq c):=by
    rw[ar.cell,Nat.zero_add,Nat.mul_one,List.getElem?_append_left (by rw[List.length_map];omega),List.getElem?_map,hc];rfl
   refine An$ py$ Nw$ qN O$ qV (OH P8 VO O O (by omega))$ qV (Oi U5 O O aX) ?_
   generalize Ol (O0 (s.take i))=q at fC aU
   refine NF O$ NC O$ Nz O$ qV (PV 8 256 O O (by decide) O)$ Nz O$ qV ((z0x O U5 Qe (by decide)))$ qV (XZ O O (by omega) (by omega)) ?_
   have mM:(q*256%18446744073709551616 |||c.toNat)=Ol (O0 (s.take (i+1))):=by
    rw[fC,Nat.mod_eq_of_lt (by omega),Nat.mul_comm q];exact(Nat.two_pow_add_eq_or_of_lt (i:=8) dx q).symm
   rw[mM];refine NF O$ Ny$ NC O$ OI O O$ Nz O$ NB ?_;exact(ih (i+1) _ ⟨rfl,by omega⟩ (by omega)).qb
  ·have cu:i=s.length:=by omega
   subst cu;rw[List.take_length,nM];refine NL O$ qN O$ Nz O$ NQ O$ NF O$ NA func40 O ?_;exact⟨_,rfl,rfl,er.ext' ah,(ad.kp.trans aq).trans ah.kp⟩
theorem XC (hP:Sp Q txt K X w)(hX:∀b,X b->b<w.heap.size)(hK:K<1000000000000)(hv:Wc Q txt vb width st xs w)(dl:X vb){i x:Nat}(hi:i<xs.length)(hx:x<2^(8*width)):
  Oa prog 36 [ptr vb 0,I (i:Int),NW x] w λv w'=>v=I 0/\VcW Q txt (K+1) X vb width st (xs.set i x) w w':=by
 have dY:=hP.n
 have Bg:∀w1,Ext w w1->Oa prog 70 [ptr vb 0,I (i:Int)] w1 λv w'=>v= .tuple #[I ((st+i / (512 / width):Nat):Int),I ((i%(512 / width)*width:Nat):Int)]/\Ext w1 w':=λw1 ad=>z3n (hv.ext ad) hi dY
 obtain⟨a1,a2,a3⟩:=hv.at_ hi
 obtain⟨e1,e2,e3,e4,e5⟩:=hv.e
 have mD:x<18446744073709551616:=by
  have:=Nat.pow_le_pow_right (show 0<2 by decide) (show 8*width<=64 by omega);omega
 have dr:=hP.Yk (x:=((st+i / (512 / width):Nat):Int)) (Int.natCast_nonneg _) (Int.ofNat_lt.2 a1)
 have ik:=hv.n
 obtain⟨t,ht⟩:∃t,txt ((st+i / (512 / width):Nat):Int)=t:=⟨_,rfl⟩
 have gU:=hv.t.set (by omega) hx hi ht (by rw[ht] at dr;omega)
 have oC:∀w1,Ext w w1->Oa prog 71 [ptr Q.s 0,I ((st+i / (512 / width):Nat):Int)] w1 λv w'=>v= .tuple #[S (txt ((st+i / (512 / width):Nat):Int)),I 0]/\Sp Q txt K X w'/\Kp (λb=>¬X b) w1 w':=λw1 ad=>(hP.ext' ad).read (λb hb=>by have:=hX b hb;have:=ad.size;omega) hK (Int.natCast_nonneg _) (Int.ofNat_lt.2 a1)
 have gQ:(xs.set i x).length=xs.length:=by simp
 have hB:=hv.cells
 have pB:=hv.wd
 have cj:=hv.fit
 rw[ht] at dr oC
 have uC:∀w',NM w' vb [I (xs.length:Int),I (width:Int),I ((512 / width:Nat):Int),I (st:Int),I (TQ xs.length (512 / width):Int),ptr Q.s 0,.bool false] 145->Wc Q (Xx txt ((st+i / (512 / width):Nat):Int) (some (t.take (i%(512 / width)*width)++Re width x++t.drop (i%(512 / width)*width+width)))) vb width st (xs.set i x) w':=λw' hb=>⟨by rw[gQ];exact hb,pB,gU,by rw[gQ];exact ik,by rw[gQ];exact cj⟩
 clear gU
 have mV:st+i / (512 / width)<Q.L.length:=a1
 generalize i / (512 / width)=q at*
 generalize i%(512 / width)=r at*
 generalize ho:r*width=o at*
 have fL:=O4 width x
 have pC:(t.take o++Re width x++t.drop (o+width)).length=512:=by rw[List.length_append,List.length_append,List.length_take,List.length_drop,fL];omega
 refine Nu (e:=[(0,_),(1,_),(2,_)]) func36 O ntmps36 O O$ qN O$ NF O$ py$ qN O$ Nz O$ NZ z58 O (QY hv) ?_
 rintro _ w ⟨rfl,rfl⟩
 refine NQ O$ qM O$ Nz O$ P3 O O$ NB$ It O$ An$ py$ qN O$ Nz O$ Pb O O$ Ox$ NT O O$ Nz O ?_
 refine O8 O$ NO PM O$ NO VK O$ qV (NJ U3 O O hB O)$ RN O O$ Ox$ OC O O$ NT O O$ O8 O$ NO PM O$ qV (Oh z80 O WK O (NM.cells (n:=3) hB (news:=[_,_,_]) O) O)$ Nz O$ NZ zgl O (Zt xs.length width (512 / width) x pB hx w) ?_
 rintro _ w1 ⟨rfl,ad⟩
 have aj:=ad.ND hB
 refine qV ((Qr O))$ OC O O$ NB$ Of.qb (e:=[(0,_),(1,_),(2,_),(6,_),(36,_)]) ?_
 refine It O$ An$ qN O$ NT O O$ NZ zhc O (Bg w1 ad) ?_
 rintro _ w2 ⟨rfl,ag⟩
 have am:=ag.ND aj
 refine Nz O$ ON O O$ ON O O$ NQ O$ NQ O$ qM O$ Nz O$ O8 O$ NO Uc O$ qV (NJ UM O O am O)$ Nz O$ NZ z9U O (oC w2 (ad.trans ag)) ?_
 rintro _ w3 ⟨rfl,fW,aw⟩
 have ar:=aw.ND am (λe=>e dl)
 have ae:=Ext.NY w3
 have cF:Kp (λb=>¬X b) w w3:=(ad.trans ag).kp.trans aw
 have aU:(t.take o).length=o:=by rw[List.length_take];omega
 have zZ:(t.drop (o+width)).length=512-(o+width):=by rw[List.length_drop];omega
 refine Nz O$ ON O O$ ON O O$ NQ O$ NF O$ py$ qN O$ Nz O$ P3 O O$ NB$ Of.qb (e:=[(0,_),(2,_),(6,_),(8,_),(9,_),(10,_),(11,_),(53,_)]) ?_
 refine It O$ An$ py$ PK (λw'=>Kp (λb=>¬X b) w3 w') O$ NX 0 O O (ae.kp)$ NG 1 O (OQ O) (ae.kp)$ NG 2 O (Og Uc O) (ae.kp)$ qT 3 O (λ_ h=>NJ UM O O (h.ND ar (λe=>e dl)) O) (ae.kp)$ NX 4 O O (ae.kp)$ NX 5 O O (ae.kp)$ NX 6 O O (ae.kp)$ NG 7 O (YA U9 O O (by omega)) (ae.kp)$ NX 8 O O (ae.kp)$ NG 9 O (OQ O) (ae.kp) ?_
 refine NG 10 O (Og PM O) (ae.kp)$ qT 11 O (λ_ hS=>Oh z80 O WK O (NM.cells (n:=3) (hS.ND ar (λe=>e dl)) (news:=[_,_,_]) O) O) (ae.kp)$ NX 12 O O (ae.kp)$ NX 15 O O (ae.kp)$ NX 16 O O (ae.kp)$ NX 17 O O (ae.kp)$ NG 18 O (OQ O) (ae.kp)$ NG 19 O (Og PM O) (ae.kp)$ NG 20 O (Og Sr O) (ae.kp)$ qT 21 O (λ_ h=>NJ U3 O O (h.ND ar (λe=>e dl)) O) (ae.kp)$ NG 22 O (SX O O (by omega)) (ae.kp) ?_
 rw[show(o:Int)+(width:Int)=((o+width:Nat):Int) by omega]
 refine NG 23 O (UQ U9 O O (by omega)) (ae.kp)$ Qv 13 O zdt O (Ww _ _ _ x e5 mD _) ?_
 rintro _ w4 ⟨rfl,aB⟩
 refine⟨ae.kp.trans aB.kp,?_⟩
 have cy:=ae.trans aB
 refine NG 14 O (S9 O O (by first|omega|(simp;done)|(simp;omega))) (ae.kp.trans aB.kp) ?_
 refine NG 24 O (S9 O O (by rw[List.length_append,aU,fL,zZ];omega)) (ae.kp.trans aB.kp) ?_
 refine Qv 25 O ze0 O ((fW.ext' cy).write (λb hb=>by have:=hX b hb;have:=cF.size;have:=cy.size;omega) hK (no:=((st+q:Nat):Int)) (by omega) (by omega) _ pC) ?_
 rintro _ w5 ⟨rfl,gR,ai⟩
 refine⟨cy.kp.trans ai,?_⟩
 have jy:Kp (λb=>¬X b) w3 w5:=cy.kp.trans ai
 refine NG 26 O (PO O) (cy.kp.trans ai)$ qE$ Of.qb (e:=[(6,_)]) ?_
 refine NA func36 O ?_
 exact⟨_,rfl,rfl,_,gR,uC w5 (jy.ND ar (λe=>e dl)),λy hy=>Qf _ _ (by rw[gQ] at hy;omega),cF.trans jy⟩
end
section
variable {w w':World}{Q:Qn}{txt:Int->NH}{K:Nat}{X:Nat->Prop}{vb width st each n:Nat}{xs:List Nat}
theorem YC (hP:Sp Q txt K X w)(hX:∀b,X b->b<w.heap.size)(hK:K<=900000000000)(hv:Wc Q txt vb width st xs w)(dl:X vb){f:Nat}(pK:CF prog f)(caps:List Value)(ND:Nat->NH)(aA:∀b,(ND b).length<=512)
  (hf:∀(b:Nat) (w1:World),b<TQ xs.length (512 / width)->Kp (λb=>¬X b) w w1->Oa prog f ([I (b:Int)]++caps) w1 λv w2=>v=S (ND b)/\Ext w1 w2):
  Oa prog 80 [ptr vb 0,.func (.func f) #[] caps.toArray] w λv w'=>v=I 0/\∃txt',Sp Q txt' (K+TQ xs.length (512 / width)) X w'/\Kp (λb=>¬X b) w w'/\(∀b,b<TQ xs.length (512 / width)->txt' ((st+b:Nat):Int)=ND b++zeros (512-(ND b).length))/\(∀y:Int,y<(st:Int)\/(st:Int)+(TQ xs.length (512 / width):Int)<=y->txt' y=txt y):=by
 have eJ:maxLen=9223372036854775807:=rfl
 have dY:=hP.n
 have hB:=hv.cells
 have cj:=hv.fit
 have ik:=hv.n
 obtain⟨e1,e2,e3,e4,e5⟩:=hv.e
 have y6:=WX xs.length width (512 / width) ⟨by omega,e2⟩ ik w
 obtain⟨N,hN⟩:∃N,TQ xs.length (512 / width)=N:=⟨_,rfl⟩
 rw[hN] at hB cj y6 hf⊢
 refine Nu (e:=[(0,_),(1,_)]) func80 O ntmps80 O O$ qN O$ NF O$ py$ qN O$ Nz O$ O8 O$ NO PM O$ qV (Oh z80 O WK O (NM.cells (n:=3) hB (news:=[_,_,_]) O) O)$ NZ zeK O (y6) ?_
 rintro _ w1 ⟨rfl,ad⟩
 refine Nz O$ NB$ Nw$ Qb (α:=Nat) (0) (λk=>[(0,ptr vb 0),(1,.func (.func f) #[] caps.toArray),(12,I (N:Int)),(13,I (k:Int))]) (λk w'=>k<=N/\Kp (λb=>¬X b) w w'/\∃txt',Sp Q txt' (K+k) X w'/\(∀b,b<k->txt' ((st+b:Nat):Int)=ND b++zeros (512-(ND b).length))/\(∀y:Int,y<(st:Int)\/(st:Int)+(k:Int)<=y->txt' y=txt y)) (λk=>N-k) ?hI ?hround
 case hI=>exact⟨Nat.zero_le _,ad.kp,txt,hP.ext' ad,λb hb=>by omega,λy _=>rfl⟩
 case hround=>
  rintro k w2 ⟨hk,aq,txt2,er,HR,o7⟩ ih;have am:=aq.ND hB (λe=>e dl)
  try dsimp only
  refine qN O$ Pb O O$ NB$ py$ NN O (λh0=>?_)$ λh0=>?_
  ·have EZ:k<N:=by omega
   refine An$ py$ Nw$ qN O$ Nz O$ NQ O$ qM O$ NT O O$ Pv O O (QH pK O O) (hf k w2 EZ aq) ?_;rintro _ w3 ⟨rfl,ah⟩;have ar:=ah.ND am;have fW:=er.ext' ah;have ae:=Ext.NY w3;have hl:=aA k;have cF:=aq.trans ah.kp;obtain⟨t,ht⟩:∃t,ND k=t:=⟨_,rfl⟩;rw[ht] at hl⊢;have hz:(zeros (512-t.length)).length=512-t.length:=by simp[zeros]
   have cH:=fW.size;have zv:∀w4,Ext w3 w4->Oa prog 56 [ptr Q.s 0] w4 λv w'=>v=I 512/\w'=w4:=λw4 hx=>(fW.ext' hx).size;refine NF O$ py$ PK (λw'=>Kp (λb=>¬X b) w3 w') O$ NX 0 O O (ae.kp)$ NG 1 O (OQ O) (ae.kp)$ NG 2 O (Og Uc O) (ae.kp)$ qT 3 O (λ_ h=>NJ UM O O (h.ND ar (λe=>e dl)) O) (ae.kp)$ NX 4 O O (ae.kp)$ NG 5 O (OQ O) (ae.kp)$ NG 6 O (Og WV O) (ae.kp)$ NG 7 O (Og PF O) (ae.kp)$ qT 8 O (λ_ h=>NJ U3 O O (h.ND ar (λe=>e dl)) O) (ae.kp)$ NX 9 O O (ae.kp)$ NG 10 O (SX O O (by omega)) (ae.kp) ?_;refine NX 11 O O (ae.kp)$ NX 12 O O (ae.kp)$ NG 13 O (OQ O) (ae.kp)$ NG 14 O (Og Uc O) (ae.kp)$ qT 15 O (λ_ h=>NJ UM O O (h.ND ar (λe=>e dl)) O) (ae.kp)$ NX 17 O O (ae.kp)$ NG 18 O (SG U9 O) (ae.kp)$ Qv 16 O z2s O (zv _ ae) ?_;rintro _ w4 ⟨rfl,rfl⟩;refine⟨ae.kp,?_⟩;refine NG 19 O (W5 O O (by omega)) (ae.kp) ?_;rw[show(512:Int)-(t.length:Int)=((512-t.length:Nat):Int) by omega];refine qO 20$ QO (i:=20) O O O (pmk (c:=512-t.length) (n:=512-t.length) P8 VO O O O (by omega) (by omega) (by omega)) ?_;rintro _ w4 ⟨b4,rfl,⟨ev,aB,aH⟩,-⟩;refine⟨ae.kp.trans aB.kp,?_⟩;have cy:=ae.trans aB;refine qO 21$ zfb (i:=21) O O O (z2Z (l:=zeros (512-t.length)) P8 U5 U9 O aH (YP _) hz) (cy.kp)$ NG 22 O (S9 O O (by rw[hz];omega)) (cy.kp) ?_;have pC:(t++zeros (512-t.length)).length=512:=by rw[List.length_append,hz];omega
   rw[show(st:Int)+(k:Int)=((st+k:Nat):Int) by omega];refine Qv 23 O ze0 O ((fW.ext' cy).write (λb hb=>by have:=hX b hb;have:=cF.size;have:=cy.size;omega) (by omega) (no:=((st+k:Nat):Int)) (by omega) (by omega) _ pC) ?_;rintro _ w5 ⟨rfl,gR,ai⟩;refine⟨cy.kp.trans ai,?_⟩;have jy:Kp (λb=>¬X b) w3 w5:=cy.kp.trans ai;refine NG 24 O (PO O) (cy.kp.trans ai)$ qE$ qN O$ Nz O$ P3 O O$ NB$ It O$ An$ Ny$ NC O$ OI O O$ Nz O$ NB ((ih (k+1) w5 ⟨by omega,cF.trans jy,_,gR,λb hb=>?_,λy hy=>?_⟩ (by omega)).qb)
   ·by_cases e:b=k
    ·subst e;rw[QF,ht];rfl
    ·rw[Qf _ _ (by omega)];exact HR b (by omega)
   ·rw[Qf _ _ (by omega)];exact o7 y (by omega)
  ·have EZ:k=N:=by omega
   subst EZ;refine NL O$ qN O$ NF O$ NA func80 O ?_;exact⟨_,rfl,rfl,txt2,er,aq,HR,o7⟩
theorem z3M (l:NH):∀n,((List.replicate n l).flatten).length=n*l.length
 |0=>by simp
 |n+1=>by rw[List.replicate_succ,List.flatten_cons,List.length_append,z3M l n,Nat.add_mul];omega
theorem z3z {bf:Nat}{s:NH}(b:Nat)(hB:NM w bf [S s] 9):Oa prog 102 ([I (b:Int)]++[ptr bf 0]) w λv w2=>v=S s/\Ext w w2:=by
 show Oa _ _ [I (b:Int),ptr bf 0] _ _
 refine Nu (e:=[(0,_),(1,_)]) func102 O ntmps102 O O$ qN O$ NQ O$ qM O$ qV (NJ U9 O O hB O)$ NF O$ NA func102 O ?_
 exact⟨_,rfl,rfl,Ext.refl _⟩
theorem z5E (hP:Sp Q txt K X w)(hX:∀b,X b->b<w.heap.size)(hK:K<=900000000000)(hv:Wc Q txt vb width st xs w)(dl:X vb){x:Nat}(hx:x<2^(8*width)):
  Oa prog 64 [ptr vb 0,NW x] w λv w'=>v=I 0/\VcW Q txt (K+TQ xs.length (512 / width)) X vb width st (List.replicate xs.length x) w w':=by
 have hB:=hv.cells
 have ik:=hv.n
 obtain⟨e1,e2,e3,e4,e5⟩:=hv.e
 have mD:x<18446744073709551616:=by
  have:=Nat.pow_le_pow_right (show 0<2 by decide) (show 8*width<=64 by omega);omega
 have fL:=O4 width x
 have lZ:(List.replicate (512 / width) (Re width x)).flatten.length=512:=by
  rw[z3M,fL];exact e3
 refine Nu (e:=[(0,_),(1,_)]) func64 O ntmps64 O O$ qN O$ NF O$ py$ qN O$ Nz O$ NZ z58 O (QY hv) ?_
 rintro _ w ⟨rfl,rfl⟩
 refine NQ O$ qM O$ Nz O$ P3 O O$ NB$ It O$ An$ py$ qN O$ Nz O$ O8 O$ NO PM O$ qV (Oh z80 O WK O (NM.cells (n:=3) hB (news:=[_,_,_]) O) O)$ Nz O ?_
 refine NZ zgl O (Zt xs.length width (512 / width) x hv.wd hx w) ?_
 rintro _ w1 ⟨rfl,ad⟩
 have aj:=ad.ND hB
 have av:=Ext.NY w1
 refine qV ((Qr O))$ NB$ It O$ An$ py$ Oy (λe' w'=>∃bf,e'=[(0,ptr vb 0),(6,ptr bf 0)]/\NM w' bf [S (List.replicate (512 / width) (Re width x)).flatten] 9/\Ext w1 w'/\w1.heap.size<=bf) ?cJ$ λcJ=>?di
 case cJ=>
  rintro e' w2 ⟨bf,rfl,dh,ag,F0⟩;have aJ:=ad.trans ag;have mK:=ad.size;have er:Sp Q txt K (λb=>X b\/b=bf) w2:=hP.ext aJ (λb e=>e.imp id λe=>by omega);have lbf:=dh.lt;have hw:=YC er (λb hb=>by rcases hb with e|e;(have:=hX b e;have:=aJ.size;omega);omega) hK (hv.ext aJ) (.inl dl) zfe [ptr bf 0] (λ_=>(List.replicate (512 / width) (Re width x)).flatten) (λ_=>by rw[lZ];omega) (λb w3 _ aw=>z3z b (aw.ND dh (λe=>e (.inr O))));refine qN O$ Nz O$ qV (ymf (first:=[]) (caps:=[.tmp 6]) O O)$ NZ zfN O (hw) ?_;rintro _ w3 ⟨rfl,txt3,fW,aw,qo,F9⟩;refine NF O$ NA func64 O ?_;have cV:Kp (λb=>¬X b) w1 w3:=ag.kp.trans (aw.NR λb e e2=>e (.inl e2));have gQ:(List.replicate xs.length x).length=xs.length:=List.length_replicate;refine⟨_,rfl,rfl,txt3,fW.less (λb e=> .inl e),⟨?_,hv.wd,VcT.fill hx (by omega) (λi hi=>?_),by rw[gQ];exact ik,by rw[gQ];exact hv.fit⟩,λy hy=>F9 y (by rw[gQ] at hy;exact hy),ad.kp.trans cV⟩
  ·rw[gQ];exact(ad.kp.trans cV).ND hB (λe=>e dl)
  ·have qQ:=z0m (each:=512 / width) (by omega) hi;exact⟨_,qo _ qQ⟩
 case di=>
  have ak:=av;have bB:=ak.size;refine O3 [13] (λw'=>Ext w1 w') (by kernel_rfl) O$ qL [1,2,3,5,11,13] 0 O (λ_ h=>Oq O) ak$ qL [2,3,5,11,13] 1 O (λ_ h=>OQ O) ak$ qL [3,5,11,13] 2 O (λ_ h=>Og PM O) ak$ qL [5,11,13] 3 O (λ_ h=>Oh z80 O WK O (NM.cells (n:=3) (h.ND aj) (news:=[_,_,_]) O) O) ak$ qL [5,11,13] 4 O (λ_ h=>Oq O) ak$ qL [7,8,9,10,11,13] 6 O (λ_ h=>Oq O) ak$ qL [8,9,10,11,13] 7 O (λ_ h=>OQ O) ak$ qL [9,10,11,13] 8 O (λ_ h=>Og PM O) ak$ qL [10,11,13] 9 O (λ_ h=>Og Ub O) ak$ qL [11,13] 10 O (λ_ h=>NJ U3 O O (h.ND aj) O) ak$ VT (i:=5) (j:=12) (by kernel_rfl) ?_ ?_
  ·refine Qh (i:=5) O O O (yc zdt O) (Ww _ _ _ x e5 mD _) ?_;rintro _ w5 ⟨rfl,aT⟩;refine⟨ak.trans aT,?_⟩;have ak:=ak.trans aT
   try have bq:=aT.ND bq
   have bB:=Nat.le_trans bB aT.size;refine VT (i:=11) (j:=12) (by kernel_rfl) ?_ ?_
   ·refine Qh (i:=11) O O O (yc z98 O) (XA (Re width x) (512 / width) (by omega) (by omega) _) ?_;rintro _ w11 ⟨rfl,aQ⟩;refine⟨ak.trans aQ,?_⟩;have ak:=ak.trans aQ
    try have bq:=aQ.ND bq
    have bB:=Nat.le_trans bB aQ.size;refine PC (i:=12) (by kernel_rfl)$ P4 (i:=12) O O O (Qk (cs:=[_]) ti9 O) ?_;rintro _ w12 ⟨bf,rfl,F0,aI,bq⟩;refine⟨ak.trans aI,?_⟩;have ak:=ak.trans aI;have oD:w1.heap.size<=bf:=by omega
    have bB:=Nat.le_trans bB aI.size;refine Rs [13]$ qO 13$ Ou (i:=13) O O (PA ti9 O O O bq (by simp)) ?_;rintro w13 ⟨du,cV⟩;refine⟨trivial,?_⟩;refine qE$ Of.qb (e:=[(0,_),(4,_),(6,_)]) ?_;exact(cJ _ _ ⟨bf,rfl,du,ak.Nv cV (λj e=>by omega),oD⟩).qb
   ·refine P4 (i:=12) O O O (Qk (cs:=[_]) ti9 O) ?_;rintro _ w12 ⟨bf,rfl,F0,aI,bq⟩;refine⟨ak.trans aI,?_⟩;have ak:=ak.trans aI;have oD:w1.heap.size<=bf:=by omega
    have bB:=Nat.le_trans bB aI.size;refine PC (i:=11) (by kernel_rfl)$ Qh (i:=11) O O O (yc z98 O) (XA (Re width x) (512 / width) (by omega) (by omega) _) ?_;rintro _ w11 ⟨rfl,aQ⟩;refine⟨ak.trans aQ,?_⟩;have ak:=ak.trans aQ
    try have bq:=aQ.ND bq
    have bB:=Nat.le_trans bB aQ.size;refine Rs [13]$ qO 13$ Ou (i:=13) O O (PA ti9 O O O bq (by simp)) ?_;rintro w13 ⟨du,cV⟩;refine⟨trivial,?_⟩;refine qE$ Of.qb (e:=[(0,_),(4,_),(6,_)]) ?_;exact(cJ _ _ ⟨bf,rfl,du,ak.Nv cV (λj e=>by omega),oD⟩).qb
  ·refine P4 (i:=12) O O O (Qk (cs:=[_]) ti9 O) ?_;rintro _ w12 ⟨bf,rfl,F0,aI,bq⟩;refine⟨ak.trans aI,?_⟩;have ak:=ak.trans aI;have oD:w1.heap.size<=bf:=by omega
   have bB:=Nat.le_trans bB aI.size;refine PC (i:=5) (by kernel_rfl)$ Qh (i:=5) O O O (yc zdt O) (Ww _ _ _ x e5 mD _) ?_;rintro _ w5 ⟨rfl,aT⟩;refine⟨ak.trans aT,?_⟩;have ak:=ak.trans aT
   try have bq:=aT.ND bq
   have bB:=Nat.le_trans bB aT.size;refine PC (i:=11) (by kernel_rfl)$ Qh (i:=11) O O O (yc z98 O) (XA (Re width x) (512 / width) (by omega) (by omega) _) ?_;rintro _ w11 ⟨rfl,aQ⟩;refine⟨ak.trans aQ,?_⟩;have ak:=ak.trans aQ
   try have bq:=aQ.ND bq
   have bB:=Nat.le_trans bB aQ.size;refine Rs [13]$ qO 13$ Ou (i:=13) O O (PA ti9 O O O bq (by simp)) ?_;rintro w13 ⟨du,cV⟩;refine⟨trivial,?_⟩;refine qE$ Of.qb (e:=[(0,_),(4,_),(6,_)]) ?_;exact(cJ _ _ ⟨bf,rfl,du,ak.Nv cV (λj e=>by omega),oD⟩).qb
end
theorem zdF (s:NH){a c:Nat}(h:a<=c):(s.drop (min a s.length)).take (min c s.length-min a s.length)=(s.drop a).take (c-a):=by
 by_cases ha:a<=s.length
 ·rw[Nat.min_eq_left ha];by_cases hc:c<=s.length
  ·rw[Nat.min_eq_left hc]
  ·rw[Nat.min_eq_right (by omega),List.take_of_length_le (by rw[List.length_drop];omega),List.take_of_length_le (by rw[List.length_drop];omega)]
 ·rw[Nat.min_eq_right (show s.length<=a by omega),Nat.min_eq_right (show s.length<=c by omega),Nat.sub_self,List.take_zero,List.drop_of_length_le (show s.length<=a by omega),List.take_nil]
section
variable {w w':World}{Q:Qn}{txt:Int->NH}{K:Nat}{X:Nat->Prop}{vb width st each n:Nat}{xs:List Nat}
theorem z2Q {bt ba:Nat}{s:NH}(b:Nat)(hb:b<=1000000)(hs:s.length<=100000000)(hT:NM w bt [S s] 9)(hA:NM w ba [I 512] 3):Oa prog 81 ([I (b:Int)]++[ptr bt 0,ptr ba 0]) w λv w2=>v=S ((s.drop (b*512)).take 512)/\Ext w w2:=by
 show Oa _ _ [I (b:Int),ptr bt 0,ptr ba 0] _ _
 have h:=zdF s (a:=b*512) (c:=(b+1)*512) (by omega)
 rw[show(b+1)*512-b*512=512 by omega] at h
 refine Nu (e:=[(0,_),(1,_),(2,_)]) func81 O ntmps81 O O$ qN O$ NQ O$ qM O$ qV ((NJ U9 O O hT O))$ Nz O$ qV ((NJ U3 O O hA O))$ qV (TT O O (by omega))$ qV ((NJ U9 O O hT O))$ qV (SG U9 O)$ qV (ymi O O)$ Nz O$ OI O O$ qV ((NJ U3 O O hA O)) ?_
 refine qV (TT O O (by omega))$ qV ((NJ U9 O O hT O))$ qV (SG U9 O)$ qV (ymi O O) ?_
 rw[show min ((b:Int)*512) (s.length:Int)=((min (b*512) s.length:Nat):Int) by omega,show min (((b:Int)+1)*512) (s.length:Int)=((min ((b+1)*512) s.length:Nat):Int) by omega]
 refine qV (zdv (m:=min (b*512) s.length) (n:=min ((b+1)*512) s.length) U9 O O O (by omega)) ?_
 rw[h]
 refine NF O$ NA func81 O ?_
 exact⟨_,rfl,rfl,Ext.refl _⟩
theorem z4W (hP:Sp Q txt K X w)(hX:∀b,X b->b<w.heap.size)(hK:K<=900000000000)(hv:Wc Q txt vb width st xs w)(dl:X vb){s:NH}(hs:s.length=xs.length*width):
  Oa prog 46 [ptr vb 0,S s] w λv w'=>v=I 0/\VcW Q txt (K+TQ xs.length (512 / width)) X vb width st (Ro width xs.length s) w w':=by
 have dY:=hP.n
 have hB:=hv.cells
 have ik:=hv.n
 have cj:=hv.fit
 obtain⟨e1,e2,e3,e4,e5⟩:=hv.e
 have HS:s.length<=33554432:=by
  have:xs.length*width<=4194304*8:=Nat.mul_le_mul ik e5;omega
 have A0:(xs.length:Int)*(width:Int)=((s.length:Nat):Int):=by rw[hs,Int.natCast_mul]
 have gT:((512 / width:Nat):Int)*(width:Int)=512:=by rw[<-Int.natCast_mul,e3];rfl
 refine Nu (e:=[(0,_),(1,_)]) func46 O ntmps46 O O$ qN O$ NK O O (PW O (cs:=[S s]) O) ?_
 rintro _ w1 ⟨bt,rfl,pC,ad,HT⟩
 have aj:=ad.ND hB
 have av:=Ext.NY w1
 refine NF O$ py$ qN O$ Nz O$ NZ z58 O (QY (hv.ext ad)) ?_
 rintro _ w1 ⟨rfl,rfl⟩
 refine NQ O$ qM O$ Nz O$ P3 O O$ NB$ It O$ An$ py$ py$ PK (λw'=>Ext w1 w') O$ qT 0 O (λ_ h=>(NJ U9 O O (h.ND HT) O)) av$ NG 1 O (SG U9 O) av$ NX 2 O O (av)$ NG 3 O (OQ O) av ?_
 refine NG 4 O (Og PM O) av$ NG 5 O (Og VK O) av$ qT 6 O (λ_ h=>(NJ U3 O O (h.ND aj) O)) av$ NX 7 O O (av)$ NG 8 O (OQ O) av$ NG 9 O (Og PM O) av$ NG 10 O (Og Sr O) av$ qT 11 O (λ_ h=>(NJ U3 O O (h.ND aj) O)) av$ NG 12 O (TT O O (by rw[A0];omega)) av ?_
 rw[A0]
 refine NG 13 O (yne O O) av$ S4$ qE$ It O$ An$ py ?_
 obtain⟨w2,lC⟩:∃w2,w1.drew=w2:=⟨_,rfl⟩
 rw[lC] at av⊢
 have am:=av.ND aj
 have aa:=Ext.NY w2
 refine O3 [12] (λw'=>Ext w2 w') (by kernel_rfl) O$ qL [1,2,3,4,10,12] 0 O (λ_ h=>Oq O) aa$ qL [2,3,4,10,12] 1 O (λ_ h=>OQ O) aa$ qL [3,4,10,12] 2 O (λ_ h=>Og PM O) aa$ qL [4,10,12] 3 O (λ_ h=>Og Ub O) aa$ qL [10,12] 4 O (λ_ h=>NJ U3 O O (h.ND am) O) aa$ qL [6,7,8,9,10,12] 5 O (λ_ h=>Oq O) aa$ qL [7,8,9,10,12] 6 O (λ_ h=>OQ O) aa$ qL [8,9,10,12] 7 O (λ_ h=>Og PM O) aa$ qL [9,10,12] 8 O (λ_ h=>Og Sr O) aa$ qL [10,12] 9 O (λ_ h=>NJ U3 O O (h.ND am) O) aa$ qL [12] 10 O (λ_ h=>TT O O (by rw[gT];omega)) aa ?_
 rw[gT]
 refine PC (i:=11) (by kernel_rfl)$ P4 (i:=11) O O O (Qk (cs:=[_]) OL O) ?_
 rintro _ w3 ⟨ba,rfl,Nb,ah,Fa⟩
 refine⟨aa.trans ah,?_⟩
 have cD:=aa.trans ah
 refine Rs [12]$ qO 12$ Ou (i:=12) O O (PA OL O O O Fa (by simp)) ?_
 rintro w4 ⟨A1,ao⟩
 refine⟨trivial,?_⟩
 have cU:Ext w2 w4:=cD.Nv ao (λj e=>by have:=aa.size;omega)
 have cE:=av.trans cU
 have bU:=ad.trans cE
 have z1:=ad.size
 have z2:=av.size
 have z3:=aa.size
 have A3:=cE.ND HT
 have ji:Sp Q txt K (λb=>X b\/b=bt\/b=ba) w4:=hP.ext bU (λb e=>e.imp id λe=>by omega)
 have lbt:=A3.lt
 have lba:=A1.lt
 have hw:=YC ji (λb hb=>by rcases hb with e|e|e;(have:=hX b e;have:=bU.size;omega);omega;omega) hK (hv.ext bU) (.inl dl) zis [ptr bt 0,ptr ba 0] (λb=>(s.drop (b*512)).take 512) (λ_=>by rw[List.length_take];omega) (λb w3 hb aw=>z2Q b (by omega) (by omega) (aw.ND A3 (λe=>e (.inr (.inl O)))) (aw.ND A1 (λe=>e (.inr (.inr O)))))
 refine qE$ Of.qb (e:=[(0,_),(3,_),(4,_),(6,_)]) ?_
 refine qN O$ Nz O$ qV (ymf (first:=[]) (caps:=[.tmp 3,.tmp 6]) O O)$ NZ zfN O (hw) ?_
 rintro _ w5 ⟨rfl,txt5,gR,ai,AQ,Fb⟩
 refine NF O$ NA func46 O ?_
 have bX:Kp (λb=>¬X b) w w5:=bU.kp.trans (ai.NR λb e e2=>e (.inl e2))
 have gQ:=Ux width xs.length s
 refine⟨_,rfl,rfl,txt5,gR.less (λb e=> .inl e),⟨?_,hv.wd,VcT.load hs (by omega) (λi hi=>?_),by rw[gQ];exact ik,by rw[gQ];exact hv.fit⟩,λy hy=>Fb y (by rw[gQ] at hy;exact hy),bX⟩
 ·rw[gQ];exact bX.ND hB (λe=>e dl)
 ·have qQ:=z0m (each:=512 / width) (by omega) hi;rw[e3];exact⟨_,AQ _ qQ⟩
theorem z43 (hP:Sp Q txt K X w)(hX:∀b,X b->b<w.heap.size)(hK:K<1000000000000)(hv:Wc Q txt vb width st xs w)(dl:X vb):
  Oa prog 42 [ptr vb 0] w λv w'=>v= .tuple #[S (Tt width xs),I 0]/\Sp Q txt K X w'/\Kp (λb=>¬X b) w w':=by
 have dY:=hP.n
 have hB:=hv.cells
 have ik:=hv.n
 have cj:=hv.fit
 obtain⟨e1,e2,e3,e4,e5⟩:=hv.e
 have lvb:=hX vb dl
 have uC:=λ(b:Nat)=>hv.t.block (b:=b)
 have mY:=λ(l:List Nat)=>RM width l
 have hN:∀b,b*(512 / width)<xs.length->b<TQ xs.length (512 / width):=λb hb=>by
  have:=z0m (each:=512 / width) (n:=xs.length) (by omega) hb;rw[Nat.mul_div_cancel _ (by omega)] at this;exact this
 generalize 512 / width=each at*
 refine Nu (e:=[(0,_)]) func42 O ntmps42 O O$ qN O$ NQ O$ NF O$ py$ qN O$ Nz O$ NZ z58 O (QY hv) ?_
 rintro _ w ⟨rfl,rfl⟩
 refine NQ O$ qM O$ Nz O$ P3 O O$ NB$ It O$ An$ qN O$ NK O O (Qk (cs:=[_,_]) zcZ O) ?_
 rintro _ w1 ⟨bb,rfl,vz,ad,vV⟩
 have uz:=BdM.new vV
 have aj:=ad.ND hB
 have z1:=ad.size
 refine NB$ py$ qN O$ Nz O$ O8 O$ NO PM O$ NO VK O$ qV (NJ U3 O O aj O)$ NQ O$ NF O$ Nw ?_
 rw[show(xs.length:Int)=((xs.length-0*each:Nat):Int) by rw[Nat.zero_mul];rfl]
 refine Qb (α:=Nat×Value) ((0,Value.slice none 0 0)) (λy=>[(0,ptr vb 0),(5,ptr bb 0),(6,I ((xs.length-y.1*each:Nat):Int)),(7,I (y.1:Int))]) (λy w'=>y.1<=xs.length/\BdM w' bb (Tt width (xs.take (y.1*each))) y.2/\(y.1=0->y.2= .slice none 0 0)/\(0<y.1->0<xs.length)/\(∀g,y.2.ownBlock=some g->w.heap.size<=g)/\Sp Q txt K (λb=>X b\/b=bb\/y.2.ownBlock=some b) w'/\Kp (λb=>¬X b) w w') (λy=>xs.length-y.1*each) ?hI ?hround
 case hI=>
  refine⟨Nat.zero_le _,?_,λ_=>rfl,λe=>absurd e (by decide),λg hg=>(by cases hg),hP.ext ad (λb e=>e.imp id λe=>e.elim (λe=>by omega) (λe=>by cases e)),ad.kp⟩;show BdM w1 bb (Tt width (xs.take (0*each))) (.slice none 0 0);rw[Nat.zero_mul,List.take_zero];exact uz
 case hround=>
  rintro⟨b,v⟩ w2 ⟨eX,kF,s6,lz,fR,er,aq⟩ ih;dsimp only at eX kF s6 lz fR er ih⊢;have am:=aq.ND hB (λe=>e dl);have hg:=Ext.NY w2;have z2:=aq.size;have lbb:bb<w2.heap.size:=by obtain⟨⟨p,hp,hb⟩,-,-⟩:=kF;exact hb.lt
  have lL:∀b,(X b\/b=bb\/v.ownBlock=some b)->b<w2.heap.size:=λb hb=>by
   rcases hb with e|e| e
   ·have:=hX b e;omega
   ·omega
   ·exact kF.2.1.lt e
  have JM:=mY (xs.take (b*each))
  try dsimp only
  refine py$ qN O$ Nz O$ P9 O O$ NB$ NN O (λh0=>?_)$ λh0=>?_
  ·have Fc:b*each<xs.length:=by omega
   have Nc:=hN b Fc;obtain⟨m,hm⟩:∃m,min (xs.length-b*each) each=m:=⟨_,rfl⟩;have dr:=er.Yk (x:=((st+b:Nat):Int)) (by omega) (by omega);have B9:m*width<=each*width:=Nat.mul_le_mul_right _ (by omega);have jD:=uC b (by rw[dr];omega) m (by omega) (by omega);have eh:=(er.ext' hg).read (λb hb=>by have:=lL b hb;have:=hg.size;omega) hK (no:=((st+b:Nat):Int)) (by omega) (by omega);obtain⟨t,ht⟩:∃t,txt ((st+b:Nat):Int)=t:=⟨_,rfl⟩;rw[ht] at dr jD eh;refine An$ py$ Nw$ py$ PK (λw'=>Kp (λj=>¬(X j\/j=bb\/v.ownBlock=some j)) w2 w') O$ NX 0 O O (hg.kp)$ NG 1 O (OQ O) (hg.kp)$ NG 2 O (Og Uc O) (hg.kp)$ qT 3 O (λ_ hS=>NJ UM O O (hS.ND am (λe=>e (.inl dl))) O) (hg.kp)$ NX 4 O O (hg.kp)$ NG 5 O (OQ O) (hg.kp)$ NG 6 O (Og WV O) (hg.kp)$ NG 7 O (Og PF O) (hg.kp)$ qT 8 O (λ_ hS=>NJ U3 O O (hS.ND am (λe=>e (.inl dl))) O) (hg.kp) ?_;refine NX 9 O O (hg.kp)$ NG 10 O (SX O O (by omega)) (hg.kp) ?_;rw[show(st:Int)+(b:Int)=((st+b:Nat):Int) by omega];refine Qv 11 O z9U O (eh) ?_;rintro _ w3 ⟨rfl,fW,aw⟩;refine⟨hg.kp.trans aw,?_⟩;have cW:=hg.kp.trans aw;have uA:=kF.kp cW (λe=>e (.inr (.inl O))) (λg hg e=>e (.inr (.inr hg)));have ar:=cW.ND am (λe=>e (.inl dl));refine NX 12 O O (hg.kp.trans aw)$ NG 13 O (Q8 O O) (hg.kp.trans aw)$ NG 14 O (Q8 O O) (hg.kp.trans aw)$ NG 15 O (PO O) (hg.kp.trans aw)$ NG 16 O (PO O) (hg.kp.trans aw)$ qE$ py$ qN O$ Nz O$ P3 O O$ NB$ It O$ An$ qN O ?_;refine NT O O$ O8 O$ NO PM O$ NO Ub O$ qV (NJ U3 O O ar O)$ qV (ymi O O) ?_;rw[show min ((xs.length-b*each:Nat):Int) (each:Int)=(m:Int) by omega];refine NQ O$ qM O$ NT O O$ Nz O$ O8 O$ NO PM O$ NO Sr O$ qV (NJ U3 O O ar O)$ qV (TT O O (by rw[<-Int.natCast_mul];omega)) ?_;rw[<-Int.natCast_mul];refine qV (YA (m:=m*width) U9 O O (by omega)) ?_;rw[jD];have gP:=mY ((xs.drop (b*each)).take m);have Fe:((xs.drop (b*each)).take m).length=m:=by rw[List.length_take,List.length_drop];omega
   have Ff:(xs.take (b*each)).length*width<=4194304*8:=Nat.mul_le_mul (by rw[List.length_take];omega) e5;rw[Fe] at gP;refine NZ zhG O (z3Z uA (Tt width ((xs.drop (b*each)).take m)) (by omega)) ?_;rintro _ w4 ⟨v4,rj,ao,nx⟩;have z3:=cW.size;refine NB$ NC O$ NT O O$ Qc O O$ NF O$ Ny$ NC O$ Nz O$ OI O O$ NF O ?_;rw[show((xs.length-b*each:Nat):Int)-(m:Int)=((xs.length-(b+1)*each:Nat):Int) by rw[Nat.add_mul];omega];refine(ih (b+1,v4) _ ⟨?_,?_,λe=>by dsimp only at e;omega,λ_=>by omega,λg hg=>(nx g hg).elim (fR g) (λe=>by omega),?_,?_⟩ ?_).qb
   ·show b+1<=xs.length;have:b*1<=b*each:=Nat.mul_le_mul_left _ (by omega);omega
   ·show BdM w4 bb (Tt width (xs.take ((b+1)*each))) v4
    have e:xs.take ((b+1)*each)=xs.take (b*each)++(xs.drop (b*each)).take m:=by
     rw[Nat.add_mul,Nat.one_mul,List.take_add]
     congr 1
     by_cases hc:xs.length-b*each<=each
     ·rw[List.take_of_length_le (by rw[List.length_drop];omega),List.take_of_length_le (by rw[List.length_drop];omega)]
     ·rw[show m=each by omega]
    rw[e];unfold Tt at rj⊢;rw[List.flatMap_append];exact rj
   ·exact fW.step ao (λj e=> .inr e) (λj e=>by
     rcases e with e|e| e
     ·exact .inl (.inl e)
     ·exact .inl (.inr (.inl e))
     ·exact(nx j e).imp (λe=> .inr (.inr e)) id)
   ·refine(aq.trans (cW.NR λb e e2=>e (.inl e2))).Nv ao λb e=> .inl ?_;rcases e with e| e
    ·omega
    ·exact fR b e
   ·dsimp only;rw[Nat.add_mul];omega
  ·have i5:xs.take (b*each)=xs:=List.take_of_length_le (by omega);rw[i5] at kF;have Ll:=mY xs;have Ff:xs.length*width<=4194304*8:=Nat.mul_le_mul ik e5
   have nq:Tt width xs=[]->v= .slice none 0 0:=λe=>s6 (by
    have e1:=congrArg List.length e;rw[Ll,List.length_nil] at e1;have e2:xs.length=0:=(Nat.mul_eq_zero.1 e1).resolve_right (by omega)
    omega)
   refine NL O$ qN O$ NZ zeB O (z1k kF nq (by omega)) ?_;rintro _ w3 ⟨rfl,aw⟩;refine NQ O$ NF O$ NA func42 O ?_;exact⟨_,rfl,rfl,er.step aw (λb e=> .inr (.inr e)) (λb e=> .inl (.inl e)),aq.Nv aw (λb e=> .inl (fR b e))⟩
end
section
variable {w w':World}{Q:Qn}{txt:Int->NH}{K:Nat}{X:Nat->Prop}{vb width st each n:Nat}{xs:List Nat}
theorem z2S (hP:Sp Q txt K X w)(hX:∀b,X b->b<w.heap.size)(hv:Wc Q txt vb width st xs w)(dl:X vb)(dc:2<=st)(hc:∀i,st<=i->i<st+TQ xs.length (512 / width)->Q.L[i]? =some true):
  Oa prog 37 [ptr vb 0] w λv w'=>v=I 0/\∃txt',Sp (Q.P5 (Pf Q.L st (TQ xs.length (512 / width)) false)) txt' K X w'/\(∀y:Int,y<(st:Int)\/(st:Int)+(TQ xs.length (512 / width):Int)<=y->txt' y=txt y)/\Kp (λb=>¬X b\/b=vb) w w':=by
 have hB:=hv.cells
 have cj:=hv.fit
 have iS:1<=TQ xs.length (512 / width):=Nat.le_max_left _ _
 have hg:=Ext.NY w
 have Lm:=(hP.ext' hg).zj6 (λb hb=>by have:=hX b hb;have:=hg.size;omega) iS dc cj hc
 generalize TQ xs.length (512 / width)=N at*
 refine Nu (e:=[(0,_)]) func37 O ntmps37 O O$ qN O$ NF O$ py$ qN O$ Nz O$ NZ z58 O (QY hv) ?_
 rintro _ w ⟨rfl,rfl⟩
 refine NQ O$ qM O$ Nz O$ P3 O O$ NB$ It O$ An$ py$ py$ PK (λw'=>Kp (λb=>¬X b) w w') O$ NX 0 O O (hg.kp)$ NG 1 O (OQ O) (hg.kp)$ NG 2 O (Og Uc O) (hg.kp)$ qT 3 O (λ_ h=>NJ UM O O (h.ND hB (λe=>e dl)) O) (hg.kp) ?_
 refine NX 4 O O (hg.kp)$ NG 5 O (OQ O) (hg.kp)$ NG 6 O (Og WV O) (hg.kp)$ qT 7 O (λ_ hS=>Oh VQ O PN O (NM.cells (n:=2) (hS.ND hB (λe=>e dl)) (news:=[_,_]) O) O) (hg.kp)$ Qv 8 O ziI O (Lm) ?_
 rintro _ w1 ⟨rfl,txt1,j8,ny,aM⟩
 refine⟨hg.kp.trans aM,?_⟩
 have iM:=hg.kp.trans aM
 have aj:=iM.ND hB (λe=>e dl)
 refine NG 9 O (PO O) (hg.kp.trans aM)$ qE$ qN O$ Nz O$ P3 O O$ NB$ It O$ An$ qN O$ Nz O$ O8 O$ NO z69 O$ NP O (PA Tf O O O aj (by simp)) ?_
 rintro w2 ⟨am,aq⟩
 refine qM O$ NF O$ NA func37 O ?_
 exact⟨_,rfl,rfl,txt1,j8.own aq (λb e=>by rw[e];exact dl),ny,(iM.NR λb e=> .inl e).trans (aq.NR λb e=> .inr e)⟩
theorem VcT.any {txt:Int->NH}{st width each n:Nat}(he:1<=each)(hw:each*width<=512)(h:∀i,i<n->(txt ((st+i / each:Nat):Int)).length=512):∃xs:List Nat,xs.length=n/\VcT txt st width each xs:=by
 refine⟨(List.range n).map λi=>Ol (O0 (((txt ((st+i / each:Nat):Int)).drop (i%each*width)).take width)),by simp,λi x hx=>?_⟩
 rw[List.getElem?_map] at hx
 by_cases hi:i<n
 ·rw[List.getElem?_range hi] at hx;cases hx;have hl:=h i hi;have hm:(i%each+1)*width<=each*width:=Nat.mul_le_mul_right _ (Nat.mod_lt _ he);rw[Nat.add_mul,Nat.one_mul] at hm
  have aA:(((txt ((st+i / each:Nat):Int)).drop (i%each*width)).take width).length=width:=by
   rw[List.length_take,List.length_drop,hl];omega
  refine⟨?_,?_⟩
  ·have hb:=z5J (((txt ((st+i / each:Nat):Int)).drop (i%each*width)).take width);rw[aA] at hb;exact hb.symm
  ·have h1:=Pw (O0 (((txt ((st+i / each:Nat):Int)).drop (i%each*width)).take width));rw[bitsT_length,aA] at h1;exact h1
 ·rw[List.getElem?_eq_none (by simpa using hi)] at hx;cases hx
theorem z8z (hP:Sp Q txt K X w)(hX:∀b,X b->b<w.heap.size)(hK:K<=800000000000){a:Nat}(hp:Pre Q.L a)(n width:Nat)(hn:n<=4194304)(pB:width=1\/width=2\/width=4\/width=8)(cj:a+TQ n (512 / width)<=Q.L.length):
  Oa prog 33 [ptr Q.s 0,I (n:Int),I (width:Int)] w λv w'=>∃vb txt',v= .tuple #[ptr vb 0,I 0]/\w.heap.size<=vb/\Sp (Q.P5 (Pf Q.L a (TQ n (512 / width)) true)) txt' (K+TQ n (512 / width)) (λb=>X b\/b=vb) w'/\Wc (Q.P5 (Pf Q.L a (TQ n (512 / width)) true)) txt' vb width a (List.replicate n 0) w'/\(∀y:Int,y<(a:Int)\/(a:Int)+(TQ n (512 / width):Int)<=y->txt' y=txt y)/\Kp (λb=>¬X b) w w':=by
 have iS:1<=TQ n (512 / width):=Nat.le_max_left _ _
 have dY:=hP.n
 obtain⟨e1,e2,e3,e4,e5⟩:64<=512 / width/\512 / width<=512/\512 / width*width=512/\1<=width/\width<=8:=by
  rcases pB with e|e|e|e<;>subst e<;>decide
 have fG:(Pf Q.L a (TQ n (512 / width)) true).length=Q.L.length:=PU cj
 refine Nu (e:=[(0,_),(1,_),(2,_)]) func33 O ntmps33 O O$ qN O$ NQ O$ NF O$ py$ Nw$ qN O$ Nz O$ qV (OP UM O O)$ NF O$ It O$ py$ Oy (λe' w'=>w'=w/\e'=[(0,ptr Q.s 0),(1,I (n:Int)),(2,I (width:Int)),(15,.bool false)]) ?az$ λaz=>?eu
 case az=>
  rintro e' w' ⟨rfl,rfl⟩;refine It O$ An$ Ny$ qN O$ NT O O$ Nz O$ NZ z2s O (hP.size) ?_;rintro _ w' ⟨rfl,rfl⟩;refine Nz O$ qV (Vu O O (by omega)) ?_;rw[show(512:Int) / (width:Int)=((512 / width:Nat):Int) from rfl];refine qV (QP (cs:=[_,_,_]) WK O zgM O O)$ Nz O$ qV (QP (cs:=[_,_,_,_,_,_,_]) zgC O zhd O O)$ NK O O (PW O (cs:=[I (n:Int),I (width:Int),I ((512 / width:Nat):Int),I 0,I 0,ptr Q.s 0,.bool false]) O) ?_;rintro _ w1 ⟨vb,rfl,dl,ad,aj⟩;refine NQ O$ qM O$ NT O O$ O8 O$ NO PM O$ qV (Oh z80 O WK O (NM.cells (n:=3) aj (news:=[_,_,_]) O) O)$ NZ zeK O (WX n width (512 / width) ⟨by omega,e2⟩ hn _) ?_;rintro _ w2 ⟨rfl,ag⟩;have aJ:=ad.trans ag;have am:=ag.ND aj;have z1:=ad.size;have z2:=ag.size;have l1:=aj.lt;have er:Sp Q txt K (λb=>X b\/b=vb) w2:=hP.ext aJ (λb e=>e.imp id λe=>by omega)
  have gS:∀b,(X b\/b=vb)->b<w2.heap.size:=λb hb=>by
   rcases hb with e| e
   ·have:=hX b e;have:=aJ.size;omega
   ·omega
  obtain⟨N,hN⟩:∃N,TQ n (512 / width)=N:=⟨_,rfl⟩;rw[hN] at iS cj fG⊢;refine NZ zgz O (er.take gS hp iS cj) ?_;rintro _ w3 ⟨rfl,fW,aw⟩;have ar:=aw.ND am (λe=>e (.inr O));have z3:=aw.size;refine Nz O$ ON O O$ ON O O$ NK O O (Qk (cs:=[_,_]) PN O) ?_;rintro _ w4 ⟨b9,rfl,mS,aB,aH⟩;refine NP O (OA (news:=[I (a:Int),I (N:Int)]) PN O O O O aH (by simp)) ?_;rintro w5 ⟨aC,ai⟩;replace aC:NM w5 b9 [I (a:Int),I (N:Int)] 108:=aC;have cn:Ext w3 w5:=aB.Nv ai (λj e=>by omega);have db:=cn.ND ar;have gR:=fW.ext' cn;refine NF O$ Of.qb (e:=[(0,_),(8,_),(9,_),(10,_)]) ?_;refine py$ qN O$ Nz O$ P3 O O$ NB$ It O$ An$ qN O$ Nz O$ qV (Oh VQ O PN O (NM.cells (n:=2) aC (news:=[_,_]) O) O)$ O8 O$ NO WV O$ NP O (OA (news:=[I (a:Int),I (N:Int)]) PN O O O O db (by simp)) ?_;rintro w6 ⟨aR,aP⟩;replace aR:NM w6 vb [I (n:Int),I (width:Int),I ((512 / width:Nat):Int),I (a:Int),I (N:Int),ptr Q.s 0,.bool false] 145:=aR;have rh:=gR.own aP (λb e=> .inr e);have aA:(Q.P5 (Pf Q.L a N true)).L.length=Q.L.length:=fG
  obtain⟨xs,fF,uB⟩:=VcT.any (txt:=txt) (st:=a) (width:=width) (each:=512 / width) (n:=n) (by omega) (by omega) (λi hi=>by
   have qQ:=z0m (each:=512 / width) (by omega) hi;rw[hN] at qQ
   generalize i / (512 / width)=q at qQ⊢
   exact rh.Yk (by omega) (by rw[aA];omega))
  have Ln:Wc (Q.P5 (Pf Q.L a N true)) txt vb width a xs w6:=⟨by rw[fF,hN];exact aR,pB,uB,by omega,by rw[fF,hN,aA];exact cj⟩
  have mX:∀b,(X b\/b=vb)->b<w6.heap.size:=λb hb=>by
   have:=gS b hb;have:=cn.size;have:=aP.size;omega
  have ss:=z5E rh mX (by omega) Ln (.inr O) (x:=0) (Nat.two_pow_pos _);rw[fF,hN] at ss;refine NB$ py$ qN O$ Nz O$ NZ zjc O (ss) ?_;rintro _ w7 ⟨rfl,hW⟩;obtain⟨txt7,zU,AY,Lo,ax⟩:=hW;refine NQ O$ qM O$ Nz O$ P3 O O$ NB$ It O$ An$ qN O$ Nz O$ NQ O$ NF O$ NA func33 O ?_;have gQ:(List.replicate n 0).length=n:=List.length_replicate;refine⟨_,rfl,vb,txt7,rfl,by omega,zU,AY,λy hy=>Lo y (by rw[gQ,hN];exact hy),?_⟩;have cF:Kp (λb=>¬X b) w' w3:=aJ.kp.trans (aw.NR λb e e2=>e (.inl e2));exact((cF.trans cn.kp).Nv aP (λb e=> .inl (by omega))).trans (ax.NR λb e e2=>e (.inl e2))
 case eu=>
  rcases pB with rfl|rfl|rfl|rfl
  ·refine NC O$ Nz O$ Pb O O$ Ox$ NT O O$ P9 O O$ Ox$ OC O O$ NT O O$ P3 O O$ Ox$ Nz O$ qS$ qS ?_;refine OC O O$ Nz O$ qS$ qS$ OC O O$ Nz O$ qS$ qS$ OC O O$ OC O O$ NF O$ Of.qb (e:=[(0,_),(1,_),(2,_),(6,_),(7,_),(15,_)]) ?_;exact(az _ _ ⟨rfl,rfl⟩).qb
  ·refine NC O$ Nz O$ Pb O O$ Ox$ NT O O$ P9 O O$ Ox$ OC O O$ NT O O$ P3 O O$ PE$ NT O O$ P3 O O$ Ox ?_;refine Pc O O$ Nz O$ qS$ qS$ OC O O$ Nz O$ qS$ qS$ OC O O$ OC O O$ NF O$ Of.qb (e:=[(0,_),(1,_),(2,_),(6,_),(7,_),(15,_)]) ?_;exact(az _ _ ⟨rfl,rfl⟩).qb
  ·refine NC O$ Nz O$ Pb O O$ Ox$ NT O O$ P9 O O$ Ox$ OC O O$ NT O O$ P3 O O$ PE$ NT O O$ P3 O O$ PE ?_;refine Pc O O$ NT O O$ P3 O O$ Ox$ Pc O O$ Nz O$ qS$ qS$ OC O O$ OC O O$ NF O$ Of.qb (e:=[(0,_),(1,_),(2,_),(6,_),(7,_),(15,_)]) ?_;exact(az _ _ ⟨rfl,rfl⟩).qb
  ·refine NC O$ Nz O$ Pb O O$ Ox$ NT O O$ P9 O O$ Ox$ OC O O$ NT O O$ P3 O O$ PE$ NT O O$ P3 O O$ PE ?_;refine Pc O O$ NT O O$ P3 O O$ PE$ Pc O O$ NT O O$ P3 O O$ Ox$ Pc O O$ OC O O$ NF O$ Of.qb (e:=[(0,_),(1,_),(2,_),(6,_),(7,_),(15,_)]) ?_;exact(az _ _ ⟨rfl,rfl⟩).qb
end
end Go.Proofs.YtfgjaafcgghnoaaGreatDoor
namespace Go.Proofs.YtfgjaafcgghnoaaGreatDoor
open Go Go.RowKit
structure Gr where
 n:Nat
 succ:Nat->List Nat
 lt:∀v u,u∈succ v->u<n
theorem RY {g:List (List Nat)}(h:QQ g)(v u:Nat)(hu:u∈NS g v):u<g.length:=by
 unfold NS at hu
 cases e:g[v]? with
 |none=>rw[e] at hu;cases hu
 |some l=>rw[e] at hu;exact h.lt l (List.mem_of_getElem? e) u hu
abbrev Ds:=List (Option Nat)
section
variable {G:Gr}{r t:Nat}{d0 d:Nat->Option Nat}{A B:Nat->Nat->Prop}
end
section
variable {g:List (List Nat)}{r t:Nat}
end
/-! ### The same with a flag: whether there were some -/
/-! ### A run -/
structure BfS where
 t:Nat
 done:Bool
 d:Ds
section
variable {g:List (List Nat)}{h:QQ g}{r:Nat}{s:BfS}
end
theorem z6o {v:Nat}(h:v<=200000):Nat.log2 (v+1)<=17:=by
 have h1:=Nat.log2_self_le (n:=v+1) (by omega)
 have h3:2^Nat.log2 (v+1)<2^18:=by
  have:(2:Nat)^18=262144:=by decide
  omega
 have:=(Nat.pow_lt_pow_iff_right (by decide:1<2)).1 h3
 omega
theorem VW.zbr {k:Nat}{q:Cd×Nat}(h:VW k q)(hk:1<=k/\k<=3):(q.1.enc q.2).length<=40:=by
 rw[VL]
 rcases h with⟨e,h⟩|⟨e,h⟩|⟨e,h⟩
 ·rw[e];show q.2+1+0<=_;omega
 ·have:=z6o h;rw[e];show Nat.log2 (q.2+1)+1+Nat.log2 (q.2+1)<=_;omega
 ·have h3:=z6o h;have h4:Nat.log2 (q.2+1) / k<=Nat.log2 (q.2+1):=Nat.div_le_self _ _;have hm:Nat.log2 (q.2+1) / k*k<=Nat.log2 (q.2+1):=Nat.div_mul_le_self _ _
  have h5:(Qi (q.2+1-2^(Nat.log2 (q.2+1) / k*k)) (2^(Nat.log2 (q.2+1) / k*k)*2^k-2^(Nat.log2 (q.2+1) / k*k))).2<=20:=by
   have h6:OJ (2^(Nat.log2 (q.2+1) / k*k)*2^k-2^(Nat.log2 (q.2+1) / k*k)-1)<=20:=by
    refine PQ ?_;have h7:=Nat.pow_le_pow_right (show 0<2 by decide) (show Nat.log2 (q.2+1) / k*k+k<=20 by omega);rw[Nat.pow_add] at h7;have:=Nat.two_pow_pos (Nat.log2 (q.2+1) / k*k);omega
   unfold Qi;dsimp only;split
   ·show OJ _-1<=20;omega
   ·exact h6
  rw[e];show Nat.log2 (q.2+1) / k+1+(Qi _ _).2<=_;omega
theorem z4r {p:QB}(hp:p.Pk)(hz:p.zeta<=3){x:Nat}(hx:x<65536){succ ref:List Nat}(hs:Ov succ)(hr:Ov ref){r:Nat}(jk:r<=p.O6)(JC:succ.length<=40)(Ay:ref.length<=40):(O5 (Qg p x succ ref r)).length<=6600:=by
 have ay:Ov (Od succ ref):=hs.sub List.filter_sublist
 have fG:(Od succ ref).length<=succ.length:=List.length_filter_le _ _
 have h1:=(RI succ ref).ZD
 rw[List.length_map] at h1
 have h2:=z0Z p.interval ay
 have h3:=(T5 p.interval (Od succ ref)).length_le
 have aA:(Qg p x succ ref r).length<=165:=by
  unfold Qg;rw[List.length_cons];split
  ·simp
  rw[List.length_append,List.length_append];have e1:(if 0<p.O6 then [(Cd.unary,r)] else []).length<=1:=by split<;>simp
  have e2:(if 0<r then(Cd.gamma,(PT succ ref).length-1)::P7 0 (PT succ ref).dropLast else []).length<=42:=by
   split
   ·rw[List.length_cons,RF,List.length_dropLast];omega
   ·simp
  have e3:(if Od succ ref=[] then [] else(if 0<p.interval then(Cd.gamma,(OK p.interval (Od succ ref)).1.length)::OD x p.interval none (OK p.interval (Od succ ref)).1 else [])++OE x p.zeta none (OK p.interval (Od succ ref)).2).length<=121:=by
   split
   ·simp
   ·rw[List.length_append,RZ];split
    ·rw[List.length_cons,R6];omega
    ·simp;omega
  omega
 have:=z0K (n:=40) (L:=Qg p x succ ref r) (λq hq=>(Ze hp hx hs hr jk q hq).zbr ⟨hp.2.2.1,hz⟩)
 omega
section
variable {p:Pa}{g:List (List Nat)}{E:List (Nat×Nat)}
theorem zdf (h:RA p g E)(wh:g.length<=40)(hz:p.zeta<=3){i:Nat}(hi:i<g.length):(Wg p g E i).length<=6600:=by
 unfold Wg
 have tV:g[i]? =some g[i]:=List.getElem?_eq_getElem hi
 have rT:i<E.length:=by have:=h.pk.el;omega
 have HU:E[i]? =some E[i]:=List.getElem?_eq_getElem rT
 have hC:=h.pk.ok.ent i _ HU
 rw[tV,HU]
 rw[tV] at hC
 show(O5 (Qg p.list i g[i] (Pr g i E[i].1) E[i].1)).length<=6600
 have h2:Ov (Pr g i E[i].1)/\(Pr g i E[i].1).length<=40:=by
  rcases Vm g i E[i].1 with e| e
  ·rw[e];exact⟨⟨List.Pairwise.nil,λy h=>(by cases h)⟩,Nat.zero_le _⟩
  ·exact⟨h.gr.ok _ e,by have:=h.gr.len e;omega⟩
 have jk:E[i].1<=p.list.O6:=by
  rcases hC with e|⟨-,h3,-⟩
  ·rw[e];exact Nat.zero_le _
  ·exact h3
 have hm:g[i]∈g:=List.getElem_mem hi
 exact z4r h.Pk.1 hz (by omega) (h.gr.ok _ hm) h2.1 jk (by have:=h.gr.len hm;omega) h2.2
theorem zaF (h:RA p g E)(wh:g.length<=40)(hz:p.zeta<=3):∀n,n<=g.length->(Po p g E n).length<=n*6600
 |0,_=>by simp[Po]
 | n + 1, hn => by
   have:=zaF h wh hz n (by omega);have:=zdf h wh hz (i:=n) (by omega);rw[RB,List.length_append,Nat.add_mul];omega
theorem zbv {n u:Nat}(hn:1<=n):(Sw n u).bits<=3*n:=by
 show(u-1) / 2^WD n u+n<=_
 have h:u<2*n*2^WD n u:=by
  unfold WD;split
  ·rename_i e
   have:=(Nat.div_eq_zero_iff).1 e;omega
  ·rename_i e
   have h1:=Vr (v:=u / n);have h2:=(Nat.div_lt_iff_lt_mul (by omega)).1 h1;have h3:1<=OJ (u / n):=by unfold OJ;rw[if_neg e];omega
   rw[show OJ (u / n)=OJ (u / n)-1+1 by omega,Nat.pow_succ,Nat.mul_comm _ n,Nat.mul_comm _ 2,<-Nat.mul_assoc,Nat.mul_comm n 2] at h2;exact h2
 have h4:(u-1) / 2^WD n u<2*n:=(Nat.div_lt_iff_lt_mul (Nat.two_pow_pos _)).2 (by omega)
 omega
theorem z9v (h:RA p g E)(wh:g.length<=40)(hz:p.zeta<=3):(Wu p g E).length<=36000:=by
 have h1:=zaF h wh hz g.length (Nat.le_refl _)
 have h2:g.length*6600<=40*6600:=Nat.mul_le_mul_right _ wh
 have h3:(pfm p g E).size<=2900:=by
  have hw:WD (g.length+1) ((Po p g E g.length).length+1)<=30:=Yl (by omega);have hb:=zbv (n:=g.length+1) (u:=(Po p g E g.length).length+1) (by omega);have hm:(g.length+1)*WD (g.length+1) ((Po p g E g.length).length+1)<=41*30:=Nat.mul_le_mul (by omega) hw;show 12+((g.length+1)*WD (g.length+1) ((Po p g E g.length).length+1)+7) / 8+((Sw (g.length+1) ((Po p g E g.length).length+1)).bits+7) / 8+4*((g.length+1+63) / 64)<=2900;omega
 rw[h.len]
 unfold UI
 omega
end
end Go.Proofs.YtfgjaafcgghnoaaGreatDoor
namespace Go.Proofs.YtfgjaafcgghnoaaGreatDoor
open Go Go.RowKit Go.Proofs.Tryz
structure GwP where
 p:Pa
 g:List (List Nat)
 E:List (Nat×Nat)
 st:Nat
 len:Nat
 rb:Nat
 sum:Nat
 k:Nat
 x:Nat
def QL (G:GwP)(Q:Qn)(txt:Int->NH)(K:Nat)(X:Nat->Prop)(w:World):Prop:=∃o:StO Q txt K G.st G.len (Wu G.p G.g G.E),Tp (z89 o G.rb G.sum) G.k G.x X w
section
variable {G:GwP}{w w':World}{Q Q':Qn}{txt txt':Int->NH}{K K':Nat}{X Y S':Nat->Prop}
theorem QL.sp (h:QL G Q txt K X w):Sp Q txt K (λb=>X b\/b=G.rb) w:=by obtain⟨o,h⟩:=h;exact h.inv.1
theorem QL.rbB (h:QL G Q txt K X w):NM w G.rb (srC Q.s G.st G.len (Wu G.p G.g G.E).length G.sum) 204:=by obtain⟨o,h⟩:=h;exact h.inv.2.1
theorem QL.rbX (h:QL G Q txt K X w):¬X G.rb:=by obtain⟨o,h⟩:=h;exact h.inv.2.2
theorem QL.lt (h:QL G Q txt K X w):∀b,X b->b<w.heap.size:=by obtain⟨o,h⟩:=h;exact h.lt
theorem QL.lt1 (h:QL G Q txt K X w):∀b,(X b\/b=G.rb)->b<w.heap.size:=λb hb=>hb.elim (h.lt b) (λe=>by rw[e];exact h.rbB.lt)
theorem QL.z1X (h:QL G Q txt K X w):K<1000000000000:=by obtain⟨o,h⟩:=h;exact o.k
theorem QL.xk (h:QL G Q txt K X w):X G.k/\X G.x/\X 0/\X 1:=by obtain⟨o,h⟩:=h;exact⟨h.xk,h.xx,h.x1,h.x2⟩
theorem QL.ok (h:QL G Q txt K X w):RA G.p G.g G.E:=by obtain⟨o,h⟩:=h;exact h.ok
theorem QL.UX (h:QL G Q txt K X w)(hk:Kp S' w w')(hS:∀b,S' b->¬(X b\/b=G.rb)\/(X b/\b≠G.k/\b≠G.x/\b≠0/\b≠1))(hP:Sp Q' txt' K' (λb=>X b\/b=G.rb) w')(hs:Q'.s=Q.s)(hl:Q'.L.length=Q.L.length)(hK:K'<1000000000000)(ht:∀y:Int,(G.st:Int)<=y->y<(G.st:Int)+(G.len:Int)->txt' y=txt y):QL G Q' txt' K' X w':=by
 have uy:=h.rbX
 have Bi:=h.rbB
 obtain⟨o,h⟩:=h
 have aA:=o.len
 refine⟨⟨hK,by rw[hl];exact o.fit,o.laid.zbK λk hk=>ht _ (by omega) (by omega),o.len⟩,h.re hk (λj hj=>?_) ⟨hP,?_,uy⟩⟩
 ·rcases hS j hj with e| e
  ·exact⟨λe2=>e (.inl (e2▸h.xk)),λe2=>e (.inl (e2▸h.xx)),λe2=>e (.inl (e2▸h.x1)),λe2=>e (.inl (e2▸h.x2))⟩
  ·exact e.2
 ·rw[hs];exact hk.ND Bi (λe=>(hS _ e).elim (λe=>e (.inr O)) (λe=>uy e.1))
theorem QL.zgb (h:QL G Q txt K X w)(hk:Kp S' w w')(hS:∀b,S' b->¬(X b\/b=G.rb))(bS:∀j,X j->Y j)(hY:∀j,Y j->X j\/(w.heap.size<=j/\j<w'.heap.size))(hP:Sp Q' txt' K' (λb=>Y b\/b=G.rb) w')(hs:Q'.s=Q.s)(hl:Q'.L.length=Q.L.length)(hK:K'<1000000000000)(ht:∀y:Int,(G.st:Int)<=y->y<(G.st:Int)+(G.len:Int)->txt' y=txt y):QL G Q' txt' K' Y w':=by
 have uy:=h.rbX
 have Bi:=h.rbB
 obtain⟨o,h⟩:=h
 have aA:=o.len
 have hI:(z89 (⟨hK,by rw[hl];exact o.fit,o.laid.zbK λk hk=>ht _ (by omega) (by omega),o.len⟩:StO Q' txt' K' G.st G.len (Wu G.p G.g G.E)) G.rb G.sum).inv Y w':=⟨hP,by rw[hs];exact hk.ND Bi (λe=>hS _ e (.inr O)),λe=>(hY _ e).elim uy (λe=>by have:=Bi.lt;omega)⟩
 refine⟨_,⟨h.ok,hk.ND h.ND (λe=>hS _ e (.inl h.xk)),hk.ND h.ix (λe=>hS _ e (.inl h.xx)),bS _ h.xk,bS _ h.xx,hI,λj hj=>?_,bS _ h.x1,bS _ h.x2,hk.ND h.gam (λe=>hS _ e (.inl h.x1)),hk.ND h.una (λe=>hS _ e (.inl h.x2))⟩⟩
 rcases hY j hj with e| e
 ·have:=h.lt j e;have:=hk.size;omega
 ·exact e.2
theorem QL.grow (h:QL G Q txt K X w)(hx:Ext w w')(hY:∀j,Y j->X j\/(w.heap.size<=j/\j<w'.heap.size))(bS:∀j,X j->Y j):QL G Q txt K Y w':=by
 obtain⟨o,h⟩:=h
 exact⟨o,h.grow hx hY bS⟩
theorem QL.ext (h:QL G Q txt K X w)(hx:Ext w w'):QL G Q txt K X w':=h.grow hx (λj hj=> .inl hj) λj hj=>hj
theorem QL.own (h:QL G Q txt K X w)(hk:Kp S' w w')(hS:∀j,S' j->X j/\j≠G.k/\j≠G.x/\j≠0/\j≠1):QL G Q txt K X w':=by
 obtain⟨o,h⟩:=h
 exact⟨o,h.own hk hS⟩
theorem QL.step (h:QL G Q txt K X w)(hk:Kp S' w w')(hS:∀j,S' j->X j/\j≠G.k/\j≠G.x/\j≠0/\j≠1)(hY:∀j,Y j->X j\/(w.heap.size<=j/\j<w'.heap.size))(bS:∀j,X j->Y j):QL G Q txt K Y w':=by
 obtain⟨o,h⟩:=h
 exact⟨o,h.step hk hS hY bS⟩
theorem QL.less (h:QL G Q txt K Y w)(bS:∀j,X j->Y j)(hx:X G.k/\X G.x/\X 0/\X 1):QL G Q txt K X w:=by
 obtain⟨o,h⟩:=h
 exact⟨o,h.less bS hx.1 hx.2.1 hx.2.2.1 hx.2.2.2⟩
theorem QL.more (h:QL G Q txt K X w)(hK:K<=K')(Fg:K'<1000000000000):QL G Q txt K' X w:=h.UX (S':=λ_=>False) (Kp.refl _ w) (λ_ e=>e.elim) (h.sp.more hK) O O Fg λ_ _ _=>rfl
theorem VB (h:QL G Q txt K X w):Oa prog 34 [ptr G.k 0] w λv w'=>v=I (G.g.length:Int)/\w'=w:=by
 obtain⟨o,h⟩:=h
 exact zbX h
theorem z4n {l bk bi v:Nat}(jn:G.g.length<50)(hv:v<G.g.length)(h:QL G Q txt K X w)(gW:NM w bk [ptr G.k 0] 29)(zW:NM w bi [I (v:Int)] 3)(Z:Nat->Prop)(hZ:∀j,Z j->X j)(J:(Nat->Prop)->Nat->World->Prop)(F:World->Prop)
  (h0:∀(Y:Nat->Prop) (w':World),(∀j,X j->Y j)->(∀j,Y j->X j\/w.heap.size<=j)->QL G Q txt K Y w'->Kp (λj=>¬X j) w w'->J Y 0 w')
  (hround:∀(Y:Nat->Prop) (i s:Nat) (w':World),(∀j,X j->Y j)->(∀j,Y j->X j\/w.heap.size<=j)->(NS G.g v)[i]? =some s->J Y i w'->z1p prog l [Oe s,I 0] w' λr w''=>(r= .bool true/\J Y (i+1) w''/\Kp (λj=>¬Y j\/Z j) w' w'')\/(r= .bool false/\F w'')):
  Oa prog 113 [.func (.yield l) #[] #[],ptr bk 0,ptr bi 0] w λr w'=>r= .tuple #[]/\((∃Y,(∀j,X j->Y j)/\(∀j,Y j->X j\/w.heap.size<=j)/\J Y (NS G.g v).length w')\/F w'):=by
 obtain⟨o,h⟩:=h
 exact z4G jn hv h gW zW Z hZ J F (λY w' h1 h2 h3 h4=>h0 Y w' h1 h2 ⟨o,h3⟩ h4) hround
end
end Go.Proofs.YtfgjaafcgghnoaaGreatDoor
namespace Go.Proofs.YtfgjaafcgghnoaaGreatDoor
open Go Go.RowKit
end Go.Proofs.YtfgjaafcgghnoaaGreatDoor
