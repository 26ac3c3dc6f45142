/- Merged by program. -/
import Derived.Test.YtgdkbagngobdlaaGreatDoorZs6
import Derived.Shelf.Strings.Repeat
import Derived.Test.YtgdkbagngobdlaaGreatDoorProg
import Derived.Room.AppendFits
import Derived.Lib.UnsafeStr
import Derived.Deep.SlicePairs
set_option linter.all false
set_option maxRecDepth 1000000
set_option maxHeartbeats 16000000
namespace Go.Proofs.YtgdkbagngobdlaaGreatDoor
open Go Go.RowKit Go.Proofs.Tryz
section
variable {w w' w0:World}{P P0 P':Qz}{S':Nat->Prop}{txt:Int->NY}{K:Nat}
theorem z8k {b x:Nat}{t:NY}{d:Bool}{x0:Value}(fI:b≠x)(hb:O9 w b (pgC t d) 218)(hx:O9 w x [x0] 9):Oy prog 127 [ptr b 0,ptr x 0] w λv w2=>v= .tuple #[]/\O9 w2 b (pgC t d) 218/\O9 w2 x [S t] 9/\Kp (λj=>j=x) w w2:=by
 replace hb:O9 w b [S t,.bool d,I 0] 218:=hb
 refine NP (e:=[(0,_),(1,_)]) func127 O ntmps127 O O$ NW O$ NT O$ OH O$ Og UG O$ Og z2w O$ qV (O6 U9 O O hb O)$ Oe O (PV ZF O O O hx (by simp)) ?_
 rintro w1 ⟨ad,aK⟩
 refine NU$ PE func127 O ?_
 exact⟨_,rfl,rfl,aK.NX hb fI,ad,aK⟩
theorem z5q {b x:Nat}{t s:NY}{d:Bool}(fI:b≠x)(hb:O9 w b (pgC t d) 218)(hx:O9 w x [S s] 9):Oy prog 145 [ptr b 0,ptr x 0] w λv w2=>v= .tuple #[]/\O9 w2 b (pgC s true) 218/\O9 w2 x [S s] 9/\Kp (λj=>j=b) w w2:=by
 replace hb:O9 w b [S t,.bool d,I 0] 218:=hb
 refine NP (e:=[(0,_),(1,_)]) func145 O ntmps145 O O$ NW O$ NT O$ qV (O6 U9 O O hx O)$ qV (Rt (cs:=[_,_]) z6y O zil O O)$ OH O$ Og UG O$ Oe O (P4 (news:=[S s,.bool true]) z6y O O O O hb (by simp)) ?_
 rintro w1 ⟨bK,aK⟩
 refine NU$ PE func145 O ?_
 exact⟨_,rfl,rfl,bK,aK.NX hx (λe=>fI e.symm),aK⟩
theorem z5l (hm:Tl w P)(hI:V7 P txt K)(hK:K<1000000000000){no:Int}(h0:0<=no)(h1:no<(P.L.length:Int)):Oy prog 84 [ptr P.s 0,I no] w λv w'=>v= .tuple #[S (txt no),I 0]/\∃P',Tp w P w' P'/\V7 P' txt K/\P.Same P':=by
 refine NP (e:=[(0,_),(1,_)]) func84 O ntmps84 O O$ qN O$ O5 O O (QU (cs:=[_]) ZF O) ?_
 rintro _ w1 ⟨x,rfl,hx,ad,hB⟩
 have cY:=hm.r ad
 have ew:∀i,¬P.cp i x:=hm.new (by omega)
 refine NZ O$ py$ qN O$ NT O$ Om zd3 O (YP cY.m hI.down) ?_
 rintro _ w1 ⟨rfl,rfl⟩
 refine Oc O$ qM O$ NT O$ Pz O O$ NU$ It O$ An$ qN O$ Od O O$ qV (ymf (first:=[]) (caps:=[.tmp 4]) O O)$ Om zde O (YK cY hI hK h0 h1 none (λt e=>by cases e) (by omega) ew hB zgj (λw1 b t d fI hb hx=>z8k fI hb hx)) ?_
 rintro _ w2 ⟨rfl,am,P',dv,cO,dc,zC⟩
 rw[Yk] at cO
 replace am:O9 w2 x [S (txt no)] 9:=am
 refine Oc O$ qM O$ qV (O6 U9 O O am O)$ NT O$ Oe O (PV ZF O O O am (by simp)) ?_
 rintro w3 ⟨au,aw⟩
 replace au:O9 w3 x [S (txt no)] 9:=au
 refine NZ O$ Oz func84 (.cell1 U9 O O ((au).cell _) (.tmp O .nil)) ?_
 exact⟨_,rfl,rfl,P',dv.loc aw (λj e=>by rw[show j=x from e];exact⟨.inr (by omega),zC⟩),cO,dc⟩
theorem z9g (hm:Tl w P)(hI:V7 P txt K)(hK:K<1000000000000){no:Int}(h0:0<=no)(h1:no<(P.L.length:Int))(t:NY)(ht:t.length=512):Oy prog 105 [ptr P.s 0,I no,S t] w λv w'=>v=I 0/\∃P',Tp w P w' P'/\V7 P' (YB txt no (some t)) (K+1)/\P.Same P':=by
 refine NP (e:=[(0,_),(1,_),(2,_)]) func105 O ntmps105 O O$ qN O$ O5 O O (Qr O (cs:=[S t]) O) ?_
 rintro _ w1 ⟨x,rfl,hx,ad,hB⟩
 have cY:=hm.r ad
 have ew:∀i,¬P.cp i x:=hm.new (by omega)
 refine NZ O$ py$ qN O$ NT O$ Om zd3 O (YP cY.m hI.down) ?_
 rintro _ w1 ⟨rfl,rfl⟩
 refine Oc O$ qM O$ NT O$ Pz O O ?_
 have hg:=Ext.Ob w1
 refine NU$ It O$ An$ py$ py$ Qj (λw'=>Ext w1 w') O$ qT 0 O (λ_ h=>O6 U9 O O (h.NX hB) O) hg$ O0 1 O (Sr U9 O) hg$ Oj 2 O O (hg)$ RW 3 O z3a O (z0d (cY.m.ext' hg) hI.N) ?_
 rintro _ w2 ⟨rfl,rfl⟩
 refine⟨hg,?_⟩
 refine O0 4 O (yne O O) hg$ TH$ qE$ It O$ An$ qN O$ Od O O$ qV (ymf (first:=[]) (caps:=[.tmp 5]) O O)$ Om zde O (YK (cY.ext hg) hI hK h0 h1 (some t) (λs e=>by cases e;exact ht) (by omega) ew (hg.NX hB) zid (λw1 b t2 d fI hb hx=>z5q fI hb hx)) ?_
 rintro _ w2 ⟨rfl,am,P',dv,cO,dc,zC⟩
 refine NZ O$ NV func105 O ?_
 exact⟨_,rfl,rfl,P',dv,cO,dc⟩
theorem z5D (hm:Tl w P){a n:Nat}(hp:Pre P.L a)(cT:1<=n)(oS:a+n<=P.L.length):Oy prog 67 [ptr P.s 0,I (n:Int)] w λv w'=>v= .tuple #[.agg #[I (a:Int),I (n:Int)],I 0]/\Tp w P w' {P with L:=Pv P.L a n true}:=by
 refine NP (e:=[(0,_),(1,_)]) func67 O ntmps67 O O$ qN O$ O5 O O (QU (cs:=[_,_]) Qf O) ?_
 rintro _ w1 ⟨x,rfl,hx,ad,hB⟩
 have cY:=hm.r ad
 have ew:∀i,¬P.cp i x:=hm.new (by omega)
 have kz:=cY.m.cells
 refine NZ O$ py$ qN O$ NT O$ qV (Pt X7 O O)$ NU$ It O$ An$ qN O$ NT O$ OH O$ Og z2t O$ qV (O6 U51 O O kz O)$ NT O ?_
 refine Om ziY O (z4m cY.m.ext hp cT oS) ?_
 rintro _ w2 ⟨rfl,eg,aq⟩
 have dv:=cY.exM eg aq
 have am:=aq.NX hB (λe=>ew 2 (.inr e))
 refine qV (QL (v:= .agg #[I (a:Int),I (n:Int)]) O O)$ qV (QL (v:=I 0) O O)$ Oe O (P4 (news:=[I (a:Int),I (n:Int)]) Qf O O O O am (by simp)) ?_
 rintro w3 ⟨au,aw⟩
 replace au:O9 w3 x [I (a:Int),I (n:Int)] 119:=au
 refine NZ O$ Oz func67 (.cell Wj O Qf O (O9.cells (n:=2) au (news:=[_,_]) O) O (.tmp O .nil)) ?_
 refine⟨_,rfl,rfl,dv.loc aw (λj e=>by
  rw[show j=x from e];refine⟨.inr (by omega),λi e2=>?_⟩
  match i,e2 with
  |0,e2=>exact ew 0 e2
  |1,e2=>exact ew 1 e2
  |2,e2=>exact ew 2 e2
  |3,e2=>exact ew 3 e2
  |4,e2=>exact ew 4 e2
  |5,e2=>exact ew 5 e2)⟩
theorem V7.Pw (h:V7 P txt K){L':List Bool}(hl:L'.length=P.L.length):V7 {P with L:=L'} txt K:=
 ⟨h.aok,h.asz,h.keys,h.nd,λg hg=>by rw[hl];exact h.rng g hg,h.tx,h.cl,λx h0 h1=>by rw[hl] at h1;exact h.out x h0 h1,λx h0 h1=>by rw[hl] at h1;exact h.len x h0 h1,h.down,h.due,h.B.trans hl.symm,h.N,h.ca,h.cc,h.RE⟩
theorem z8I {d m gi:Nat}{L:List Bool}{Fd:Nat->Prop}(hd:Vh w d (Dev.fresh L.length 1) Fd)(he:Wz w m gi L)(Bg:¬Fd m/\¬Fd gi)(n:Nat)(cT:1<=n)(jB:n<=1000):Oy prog 34 [ptr d 0,I (n:Int),ptr m 0] w λv w'=>∃P,v= .tuple #[ptr P.s 0,I 0]/\Tl w' P/\V7 P (λ_=>zeros 512) 0/\P.m=m/\P.gi=gi/\P.L=L/\(∀b,P.fp b->Fd b\/b=m\/b=gi\/w.heap.size<=b)/\Ext w w':=by
 refine NP (e:=[(0,_),(1,_),(2,_)]) func34 O ntmps34 O O$ qN O$ Oc O$ NZ O$ py$ NQ$ qN O$ NT O$ qV (Pt U28 O O)$ Od O O$ qV (Pt U51 O O)$ OU O O$ NZ O$ It O ?_
 refine qN O$ NT O$ Py O O$ OR$ Od O O$ PD O O$ OR$ OU O O$ NZ O$ It O$ An$ NS$ qN O$ NT O ?_
 refine Om zko O (zbb n cT (by omega) w) ?_
 rintro _ w1 ⟨c,V,p,rfl,kO,fQ,ad⟩
 refine NT O$ qV (QL (v:=ptr c 0) O O)$ qV (QL (v:=I 0) O O)$ Oc O$ NZ O$ OD.qb (e:=[(0,_),(1,_),(2,_),(6,_),(7,_),(8,_),(9,_)]) ?_
 refine py$ qN O$ NT O$ Pz O O$ NU$ It O$ An$ qN O$ Od O O$ NT O$ O5 O O (pmm) ?_
 rintro _ w2 ⟨pm,rfl,L4,ae,cx⟩
 have my:RN KI w2 pm []:=RN.new cx
 have lpm:=my.lt
 refine NT O$ qV (Rt (cs:=[_,_,_,_,_,_,_]) zes O zjK O O)$ qV (Rt (cs:=[_,_,_,_,_,_,_,_,_,_,_,_]) ziW O zib O O)$ O5 O O (Qr O (cs:=plC ⟨0,d,m,gi,c,pm,p,n,V,Dev.fresh L.length 1,z4Q n,[],L,Fd,0,0,0⟩) O) ?_
 rintro _ w3 ⟨s,rfl,hs,ah,au⟩
 refine Oc O$ NZ O$ NV func34 O ?_
 have z1:=ad.size
 have z2:=ae.size
 have ee:=ae.trans ah
 have da:=ad.trans ee
 have vp:=kO.ext ee
 have uf:∀{b:Nat},RP c V p b->b<w1.heap.size:=kO.lt
 have EU:=hd.lt
 have ltm:=he.ltm
 have ltg:=he.ltg
 refine⟨_,rfl,⟨s,d,m,gi,c,pm,p,n,V,Dev.fresh L.length 1,z4Q n,[],L,Fd,0,0,0⟩,rfl,⟨au,hd.ext da,he.ext da,vp,my.ext ah,(λg hg=>by cases hg),List.nodup_nil,?_⟩,⟨zcB cT,jB,λx=>?_,List.nodup_nil,(λg hg=>by cases hg),(λg hg=>by cases hg),(λg hg=>by cases hg),λx _ _ _=>rfl,λx _ _=>by simp[zeros],rfl,rfl,rfl,rfl,Int.le_refl _,Nat.le_refl _,Nat.zero_le _⟩,rfl,rfl,rfl,λb ⟨i,hb⟩=>?_,da⟩
 ·intro i j ne b hb bU
  have cls:∀i,Qz.cp ⟨s,d,m,gi,c,pm,p,n,V,Dev.fresh L.length 1,z4Q n,[],L,Fd,0,0,0⟩ i b->(i=0/\b=s)\/(i=1/\Fd b/\b<w.heap.size)\/(i=2/\(b=m\/b=gi)/\b<w.heap.size)\/(i=3/\w.heap.size<=b/\b<w1.heap.size)\/(i=4/\b=pm):=λi hb=>by
   match i,hb with
   |0,e=>exact .inl ⟨rfl,e⟩
   |1,e=>exact .inr (.inl ⟨rfl,e,EU b e⟩)
   |2,e=>exact .inr (.inr (.inl ⟨rfl,e,by have e':b=m\/b=gi:=e;omega⟩))
   |3,e=>exact .inr (.inr (.inr (.inl ⟨rfl,fQ b e,uf e⟩)))
   |4,e=>exact .inr (.inr (.inr (.inr ⟨rfl,e⟩)))
   |5,⟨g,hg,e⟩=>cases hg
  have h1:=cls i hb;have h2:=cls j bU;rcases h1 with⟨e,h1⟩|⟨e,h1,vm⟩|⟨e,h1,vm⟩|⟨e,h1,vm⟩|⟨e,h1⟩<;>rcases h2 with⟨f,h2⟩|⟨f,h2,Ia⟩|⟨f,h2,Ia⟩|⟨f,h2,Ia⟩|⟨f,h2⟩<;>first|omega|skip
  ·rcases h2 with e| e
   ·exact Bg.1 (e▸h1)
   ·exact Bg.2 (e▸h1)
  ·rcases h1 with e| e
   ·exact Bg.1 (e▸h2)
   ·exact Bg.2 (e▸h2)
 ·constructor
  ·intro e;cases e
  ·intro e;rcases e with e|e<;>cases e
 ·match i,hb with
  |0,e=>exact .inr (.inr (.inr (by have:b=s:=e;omega)))
  |1,e=>exact .inl e
  |2,e=>rcases e with e|e;exact .inr (.inl e);exact .inr (.inr (.inl e))
  |3,e=>exact .inr (.inr (.inr (fQ b e)))
  |4,e=>exact .inr (.inr (.inr (by have:b=pm:=e;omega)))
  |5,⟨g,hg,e⟩=>cases hg
end
theorem z9d {l:List (Int×NY)}{n:Int}{t:NY}(h:VF l n=some t):∃x∈l,x.2=t:=by
 unfold VF at h
 obtain⟨x,hx,e⟩:=Option.map_eq_some_iff.1 h
 exact⟨x,List.mem_reverse.1 (List.mem_of_find?_eq_some hx),e⟩
theorem Dev.Ok.zcz {D:Dev}(h:D.Ok)(n:Int):(D.now n).length=512*D.N:=by
 unfold Dev.now
 cases hl:VF D.cache n with
 |none=>exact h.kept n
 | some t =>
   obtain⟨x,hx,rfl⟩:=z9d hl;exact(h.cache x hx).2.2
section
variable {w w' w0:World}{P P0 P':Qz}{S':Nat->Prop}{txt:Int->NY}{K:Nat}
theorem V7.zfx (h:V7 P txt K)(ay:P.D.Ok){k:Int}:V7 {P with A:=P.A.drop k,l:=RM P.l k} (λx=>if x=k then P.D.now k else txt x) K:=by
 have hk:=z04 h.nd k
 have dp:=S3 P.l k
 have bF:=Arc.z8o h.aok k
 have Be:=h.ca
 have EH:=h.cc
 have zm:R5 (RM P.l k)<=R5 P.l:=dp.countP_le
 have gC:∀q∈RM P.l k,q∈P.l/\q.k≠k:=λq hq=>⟨dp.subset hq,((hk q.k).1 (List.mem_map.2 ⟨q,hq,rfl⟩)).2⟩
 refine⟨h.aok.drop k,h.asz,λx=>by dsimp only;rw[hk,bF,h.keys],(dp.map _).nodup h.nd,λq hq=>h.rng q (gC q hq).1,λq hq=>?_,λq hq hd=>?_,λx h0 h1 hx=>?_,λx h0 h1=>?_,h.down,h.due,h.B,h.N,by dsimp only;omega,by dsimp only;omega,h.RE⟩
 ·rw[if_neg (gC q hq).2];exact h.tx q (gC q hq).1
 ·rw[if_neg (gC q hq).2];exact h.cl q (gC q hq).1 hd
 ·dsimp only at h1 hx⊢;rw[bF,not_and] at hx;by_cases e:x=k
  ·rw[if_pos e,e]
  ·rw[if_neg e];exact h.out x h0 h1 λe2=>hx e2 e
 ·dsimp only at h1⊢;by_cases e:x=k
  ·rw[if_pos e,ay.zcz,h.N]
  ·rw[if_neg e];exact h.len x h0 h1
theorem V7.QX (h:V7 P txt K)(hA:P'.A=P.A)(hl:P'.l=P.l)(hD:P'.D=P.D)(hL:P'.L=P.L):V7 P' txt K:=by
 obtain⟨a1,a2,a3,a4,a5,a6,a7,a8,a9,b1,b2,b3,b4,b5,b6,b7⟩:=h
 constructor<;>simp only[hA,hl,hD,hL]<;>assumption
theorem Tl.dok (h:Tl w P):P.D.Ok:=by
 obtain⟨m,kp,ca,h1,-⟩:=h.dev
 exact h1.ok
theorem z82 (l:List Pg)(k:Int):(k∉l.map (·.k)/\Ql (TS l) k=none)\/∃q∈l,q.k=k/\Ql (TS l) k=some (ptr q.b 0):=by
 induction l with
 |nil=>exact .inl ⟨by simp,rfl⟩
 | cons g l ih =>
   show _\/_;by_cases h:k=g.k
   ·exact .inr ⟨g,List.mem_cons_self,h.symm,if_pos h⟩
   ·have e:Ql (TS (g::l)) k=Ql (TS l) k:=if_neg h;rw[e];rcases ih with⟨a,b⟩|⟨q,a,b,c⟩
    ·exact .inl ⟨by simp[h] at a⊢;exact a,b⟩
    ·exact .inr ⟨q,List.mem_cons_of_mem _ a,b,c⟩
theorem z5E (hm : Tl w P)(hI : V7 P txt K){s n : Nat}(cT : 1 <= n)(eE : s + n <= P.L.length) : Oy prog 117 [ptr P.s 0, .agg #[I (s : Int), I (n : Int)]] w λv w' => v = I 0 /\ ∃ P' txt', Tp w P w' P' /\ V7 P' txt' K /\ (∀ x : Int, x < (s : Int) \/ (s : Int) + (n : Int) <= x -> txt' x = txt x) /\ P.Same P' := by
 have en:=hm.ext.n
 have kz:=hm.cells
 refine NP (e:=[(0,_),(1,_)]) func117 O ntmps117 O O$ qN O$ O5 O O (Qr O (cs:=[I (s:Int),I (n:Int)]) O) ?_
 rintro _ w1 ⟨b3,rfl,f7,ad,au⟩
 have cY:=hm.r ad
 have pQ:∀i,¬P.cp i b3:=hm.new (by omega)
 have js:=ad.NX kz
 have hg:=Ext.Ob w1
 have fu:=VG (cY.m.dev.ext hg)
 rw[hI.B] at fu
 refine NZ O$ py$ NQ$ qN O$ NT O$ qV (Pt X7 O O)$ NZ O$ It O$ qN O$ NT O$ OH O$ Og z7r O$ qV (O6 U4 O O js O)$ NZ O ?_
 refine It O$ py$ Qj (λw'=>Ext w1 w') O$ O0 0 O (OG Qh O) hg$ qT 1 O (λ_ h=>(O6 U3 O O (h.NX au) O)) hg$ O0 2 O (ZR O O) hg$ TH$ Oj 3 O O (hg)$ O0 4 O (OG Qc O) hg$ qT 5 O (λ_ h=>(O6 U3 O O (h.NX au) O)) hg$ O0 6 O (ZR O O) hg$ TH$ O0 7 O (TA O O) hg$ Oj 8 O O (hg) ?_
 refine O0 9 O (OG Qc O) hg$ qT 10 O (λ_ h=>(O6 U3 O O (h.NX au) O)) hg$ Oj 11 O O (hg)$ O0 12 O (Pq O) hg$ O0 13 O (OG Ua O) hg$ qT 14 O (λ_ h=>(O6 U28 O O (h.NX js) O)) hg$ RW 15 O z4x O (fu) ?_
 rintro _ w2 ⟨rfl,rfl⟩
 refine⟨hg,?_⟩
 refine O0 16 O (yge O O) hg$ TH$ O0 17 O (TA O O) hg$ Oj 18 O O (hg)$ O0 19 O (OG Qh O) hg$ qT 20 O (λ_ h=>(O6 U3 O O (h.NX au) O)) hg$ Oj 21 O O (hg)$ O0 22 O (Pq O) hg$ O0 23 O (OG Ua O) hg$ qT 24 O (λ_ h=>(O6 U28 O O (h.NX js) O)) hg$ O0 26 O (OG Qc O) hg$ qT 27 O (λ_ h=>(O6 U3 O O (h.NX au) O)) hg$ RW 25 O z4x O (fu) ?_
 rintro _ w2 ⟨rfl,rfl⟩
 refine⟨hg,?_⟩
 refine O0 28 O (Ww O O (by omega)) hg$ O0 29 O (Xq O O) hg$ TH$ O0 30 O (TA O O) hg$ O0 31 O (Qq O) hg ?_
 obtain⟨w2,mz⟩:∃w2,w1.drew=w2:=⟨_,rfl⟩
 rw[mz] at hg⊢
 have db:=hg.NX au
 have dv:=cY.ext hg
 have i6:=hg.NX js
 have l3:=db.lt
 refine qE$ OD.qb (e:=[(0,_),(3,_),(4,_),(16,_)]) ?_
 refine It O$ An$ NS$ py$ qN O$ Og Qh O$ qV (O6 U3 O O db O)$ NT O$ NU$ NQ$ Qm (α:=Nat) (0) (λi=>[(0,ptr P.s 0),(3,ptr b3 0),(49,I (n:Int)),(50,I (i:Int))]) (λi w'=>Ext w2 w'/\i<=n) (λi=>n-i) ?hI ?hround
 case hI=>exact⟨Ext.refl _,Nat.zero_le _⟩
 case hround =>
  rintro i w3 ⟨ah,hi⟩ ih;have co:=dv.ext ah;have kA:=ah.NX i6;have eC:=ah.NX db;have ag:=Ext.Ob w3
  try dsimp only
  refine qN O$ Py O O$ NU$ py$ O8 O (λh0=>?_)$ λh0=>?_
  ·refine An$ py$ NQ$ qN O$ NT O$ NZ O$ py$ Qj (λw'=>Ext w3 w') O$ Oj 0 O O (ag)$ O0 1 O (Pq O) ag$ O0 2 O (OG UP O) ag$ qT 3 O (λ_ h=>(O6 Y0 O O (h.NX kA) O)) ag$ O0 4 O (OG Qc O) ag$ qT 5 O (λ_ h=>(O6 U3 O O (h.NX eC) O)) ag ?_;refine Oj 6 O O (ag)$ O0 7 O (TK O O (by omega)) ag ?_;rw[show(s:Int)+(i:Int)=((s+i:Nat):Int) by omega];refine qT 8 O (λ_ hS=>ylk (k:=((s+i:Nat):Int)) (K:=KI) Y0 (Rj U3) z9K O O (co.m.ext' hS).mp.l) ag ?_;rcases z82 P.l ((s+i:Nat):Int) with⟨-,dz⟩|⟨q,hq,-,dz⟩
   ·rw[dz];refine O0 9 O (Qq O) ag$ qE$ qN O$ NT O$ qV (z2V ziP O O)$ NT O$ qS$ qS$ qS$ qS$ qS$ OU O O$ NU$ It O ?_;refine An$ NS$ NW O$ P6 O O$ NT O$ NU ?_;exact(ih (i+1) _ ⟨ah.trans ag,by omega⟩ (by omega)).qb
   ·rw[dz];have qY:=(ag.NX (co.m.pg q hq):O9 w3.drew q.b [S q.t,.bool q.d,I 0] 218);refine O0 9 O (Qq O) ag$ qE$ qN O$ NT O$ qV (z2V ziP O O)$ Od O O$ OH O$ Og zcf O$ qV (O6 U3 O O qY O)$ PD O O$ OR$ PT O O$ NU$ It O ?_;refine An$ NS$ NW O$ P6 O O$ NT O$ NU ?_;exact(ih (i+1) _ ⟨ah.trans ag,by omega⟩ (by omega)).qb
  ·have aV : i = n := by omega
   subst aV;refine O4 O$ py$ qN O$ Og Qh O$ qV (O6 U3 O O eC O)$ NT O$ NU$ NQ$ Qm (α:=Nat×Qz×(Int->NY)) ((0,P,txt)) (λy=>[(0,ptr P.s 0),(3,ptr b3 0),(73,I (i:Int)),(74,I (y.1:Int))]) (λy w'=>Tp w P w' y.2.1/\V7 y.2.1 y.2.2 K/\y.1<=i/\P.Same y.2.1/\(∀x:Int,x<(s:Int)\/(s:Int)+(i:Int)<=x->y.2.2 x=txt x)/\O9 w' b3 [I (s:Int),I (i:Int)] 119/\∀j,¬y.2.1.cp j b3) (λy=>i-y.1) ?hI ?hround
   case hI=>exact⟨co,hI,Nat.zero_le _,⟨rfl,rfl,rfl,rfl,rfl,rfl,rfl,rfl,rfl⟩,λx _=>rfl,eC,pQ⟩
   case hround =>
    rintro⟨j,Pj,tj⟩ w4 ⟨bH,kZ,hj,bZ,iY,eh,nO⟩ ih2;dsimp only at bH kZ hj bZ iY eh nO ih2⊢;have eL:=bH.m.cells;rw[bZ.s] at eL;have af:=Ext.Ob w4;have dT:=Ext.Ob w4.drew
    try dsimp only
    refine qN O$ Py O O$ NU$ py$ O8 O (λh2=>?_)$ λh2=>?_
    ·refine An$ py$ NQ$ qN O$ NT O$ NZ O$ py$ Oo [8] (λw'=>Ext w4 w') (by kernel_rfl) O$ OW 0 O O (af)$ Ot 1 O (Pq O) af$ Ot 2 O (OG UP O) af$ qL 3 O (λ_ h=>(O6 Y0 O O (h.NX eL) O)) af$ Ot 4 O (OG Qc O) af$ qL 5 O (λ_ h=>(O6 U3 O O (h.NX eh) O)) af ?_;refine OW 6 O O (af)$ Ot 7 O (TK O O (by omega)) af$ S8 [8] ?_;rw[show(s:Int)+(j:Int)=((s+j:Nat):Int) by omega];refine qO 8$ z9I (i:=8) O O (zeE (k:=((s+j:Nat):Int)) (K:=KI) Y0 (Rj U3) O O (bH.ext af).m.mp O) ?_;rintro _ w5 ⟨vH,ak⟩;refine⟨trivial,?_⟩;rw[z1P] at vH;have ck:=(bH.ext af).del (S3 _ _) vH ak;have cV:=ak.NX (af.NX eh) (nO 4);have jr:=ck.m.cells;dsimp only at jr;rw[bZ.s] at jr;have cm:=Ext.Ob w5;have cD:=ck.ext cm;refine qE$ Oo [8] (λw'=>Ext w5 w') (by kernel_rfl) O$ OW 0 O O (cm)$ Ot 1 O (Pq O) cm$ Ot 2 O (OG z73 O) cm$ qL 3 O (λ_ h=>(O6 zb8 O O (h.NX jr) O)) cm$ Ot 4 O (OG Qc O) cm$ qL 5 O (λ_ h=>(O6 U3 O O (h.NX cV) O)) cm$ OW 6 O O (cm)$ Ot 7 O (TK O O (by omega)) cm$ S8 [8] ?_;rw[show(s:Int)+(j:Int)=((s+j:Nat):Int) by omega];refine RW 8 O zhW O (z7F cD.m.arc (k:=((s+j:Nat):Int))) ?_;rintro _ w6 ⟨⟨z,rfl⟩,V6,rO⟩;refine⟨trivial,?_⟩;have zu:=cD.arc rO;have lF:=rO.k.NX (cm.NX cV) (nO 3);refine qE$ NS$ NW O$ P6 O O$ NT O$ NU ((ih2 (j+1,_,_) _ ⟨zu,(kZ.zfx bH.m.dok (k:=((s+j:Nat):Int))).QX O O O O,by dsimp only;omega,⟨bZ.s,bZ.d,bZ.m,bZ.gi,bZ.c,bZ.pm,bZ.p,bZ.fr,bZ.L⟩,λx hx=>?_,lF,λi2 e=>?_⟩ (by dsimp only;omega)).qb)
     ·show(if x=((s+j:Nat):Int) then Pj.D.now ((s+j:Nat):Int) else tj x)=txt x;rw[if_neg (by omega)];exact iY x hx
     ·match i2,e with
      |0,e=>exact nO 0 e
      |1,e=>exact nO 1 e
      |2,e=>exact nO 2 e
      | 3, e =>
        rcases rO.fp b3 e with e| e
        ·exact nO 3 e
        ·have:=(cm.NX cV).lt;omega
      |4,e=>exact nO 4 e
      |5,⟨q,hq,e⟩=>exact nO 5 ⟨q,(S3 _ _).subset hq,e⟩
    ·have rz:j=i:=by omega
     subst rz;refine O4 O$ qN O$ NZ O$ NV func117 O ?_;exact⟨_,rfl,rfl,Pj,tj,bH,kZ,iY,bZ⟩
theorem z6b (hm:Tl w P)(hI:V7 P txt K){s n:Nat}(cT:1<=n)(dc:2<=s)(eE:s+n<=P.L.length)(hc:∀i,s<=i->i<s+n->P.L[i]? =some true):Oy prog 75 [ptr P.s 0,.agg #[I (s:Int),I (n:Int)]] w λv w'=>v=I 0/\∃P' txt',Tp w P w' {P' with L:=Pv P.L s n false}/\V7 {P' with L:=Pv P.L s n false} txt' K/\(∀x:Int,x<(s:Int)\/(s:Int)+(n:Int)<=x->txt' x=txt x)/\P.Same P':=by
 refine NP (e:=[(0,_),(1,_)]) func75 O ntmps75 O O$ qN O$ O5 O O (Qr O (cs:=[I (s:Int),I (n:Int)]) O) ?_
 rintro _ w1 ⟨b3,rfl,f7,ad,au⟩
 have cY:=hm.r ad
 have pQ:∀i,¬P.cp i b3:=hm.new (by omega)
 refine NZ O$ py$ qN O$ NT O$ qV (OE (news:=[I (s:Int),I (n:Int)]) Wj O Qf O (O9.cells (n:=2) au O) O)$ Om zhE O (z5E cY.m hI cT eE) ?_
 rintro _ w2 ⟨rfl,P',txt',dv,cO,iY,bZ⟩
 have l3:=au.lt
 have db:=dv.k.NX au (λ⟨i,e⟩=>pQ i e)
 have ug:=cY.trans dv
 have i6:=ug.m.cells
 rw[bZ.s] at i6
 refine Oc O$ qM O$ NT O$ Pz O O ?_
 have aa:=Ext.Ob w2
 have kY:=(ug.ext aa).m.ext
 rw[bZ.L] at kY
 refine NU$ It O$ An$ py$ Oo [5,6] (λw'=>Ext w2 w') (by kernel_rfl) O$ OW 0 O O (aa)$ Ot 1 O (Pq O) aa$ Ot 2 O (OG z2t O) aa$ qL 3 O (λ_ h=>O6 U51 O O (h.NX i6) O) aa$ qL 4 O (λ_ h=>OE (news:=[I (s:Int),I (n:Int)]) Wj O Qf O (O9.cells (n:=2) (h.NX db) O) O) aa$ S8 [5]$ RW 5 O ziG O (z6h kY s n cT dc eE hc) ?_
 rintro _ w3 ⟨rfl,tI,ao⟩
 refine⟨trivial,?_⟩
 have co:=(ug.ext aa).exM tI ao
 refine O0 6 O (Qq O) trivial$ qE$ NV func75 O ?_
 exact⟨_,rfl,rfl,P',txt',co,cO.Pw (by rw[Pl eE,bZ.L]),iY,bZ⟩
end
def Sp (Q:Qz)(txt:Int->NY)(K:Nat)(X:Nat->Prop)(w:World):Prop:=∃P,Tl w P/\V7 P txt K/\Q.Same P/\∀b,P.fp b->¬X b
section
variable {w w' w0:World}{Q Q' P P':Qz}{X Y S':Nat->Prop}{txt txt':Int->NY}{K K':Nat}
theorem Sp.step (h:Sp Q txt K X w)(hk:Kp S' w w')(hS:∀b,S' b->X b)(hY:∀b,Y b->X b\/w.heap.size<=b):Sp Q txt K Y w':=by
 obtain⟨P,hm,hI,hs,hf⟩:=h
 refine⟨P,hm.kp hk λb hb e=>hf b hb (hS b e),hI,hs,λb hb e=>?_⟩
 rcases hY b e with e| e
 ·exact hf b hb e
 ·have:=hm.lt hb;omega
theorem Sp.ext (h:Sp Q txt K X w)(hx:Ext w w')(hY:∀b,Y b->X b\/w.heap.size<=b):Sp Q txt K Y w':=h.step (S':=λ_=>False) hx (λ_ e=>e.elim) hY
theorem Sp.ext' (h:Sp Q txt K X w)(hx:Ext w w'):Sp Q txt K X w':=h.ext hx λ_ e=> .inl e
theorem Sp.own (h:Sp Q txt K X w)(hk:Kp S' w w')(hS:∀b,S' b->X b):Sp Q txt K X w':=h.step hk hS λ_ e=> .inl e
theorem Sp.of (hf:∀b,P.fp b->¬X b)(hX:∀b,X b->b<w.heap.size)(hr:Tp w P w' P')(hI:V7 P' txt' K')(hs:Q'.Same P'):Sp Q' txt' K' X w'/\Kp (λb=>¬X b) w w':=
 ⟨⟨P',hr.m,hI,hs,λb hb e=>by
  rcases hr.fp b hb with h| h
  ·exact hf b h e
  ·have:=hX b e;omega⟩,hr.k.Of hf⟩
theorem V7.more (h:V7 P txt K)(hK:K<=K'):V7 P txt K':=by
 obtain⟨a1,a2,a3,a4,a5,a6,a7,a8,a9,b1,b2,b3,b4,b5,b6,b7⟩:=h
 exact⟨a1,a2,a3,a4,a5,a6,a7,a8,a9,b1,b2,b3,b4,by omega,by omega,b7⟩
theorem Sp.more (h:Sp Q txt K X w)(hK:K<=K'):Sp Q txt K' X w:=by
 obtain⟨P,hm,hI,hs,hf⟩:=h
 exact⟨P,hm,hI.more hK,hs,hf⟩
theorem Sp.less (h:Sp Q txt K X w)(hY:∀b,Y b->X b):Sp Q txt K Y w:=by
 obtain⟨P,hm,hI,hs,hf⟩:=h
 exact⟨P,hm,hI,hs,λb hb e=>hf b hb (hY b e)⟩
theorem Sp.size (h:Sp Q txt K X w):Oy prog 66 [ptr Q.s 0] w λv w'=>v=I 512/\w'=w:=by
 obtain⟨P,hm,hI,hs,-⟩:=h
 rw[<-hs.s]
 exact z0d hm hI.N
theorem Sp.dev (h:Sp Q txt K X w):Oy prog 143 [ptr Q.s 0] w λv w'=>v=ptr Q.d 0/\w'=w:=by
 obtain⟨P,hm,hI,hs,-⟩:=h
 rw[<-hs.s,<-hs.d]
 exact z88 hm
theorem Sp.blocks (h:Sp Q txt K X w):Oy prog 144 [ptr Q.d 0] w λv w'=>v=I (Q.L.length:Int)/\w'=w:=by
 obtain⟨P,hm,hI,hs,-⟩:=h
 have hb:=VG hm.dev
 rw[hI.B] at hb
 rw[<-hs.d,<-hs.L]
 exact hb
theorem Sp.map (h:Sp Q txt K X w):Oy prog 17 [ptr Q.s 0] w λv w'=>v=ptr Q.m 0/\w'=w:=by
 obtain⟨P,hm,hI,hs,-⟩:=h
 rw[<-hs.s,<-hs.m]
 exact z83 hm
theorem Sp.room (h:Sp Q txt K X w){a:Nat}(hp:Pre Q.L a)(ha:a<Q.L.length):Oy prog 18 [ptr Q.m 0] w λv w'=>v=I ((Q.L.length-a:Nat):Int)/\Ext w w':=by
 obtain⟨P,hm,hI,hs,-⟩:=h
 rw[<-hs.m]
 rw[<-hs.L] at hp ha⊢
 exact z5c hm.ext hp ha
theorem Sp.z0s (h:Sp Q txt K X w){x:Int}(h0:0<=x)(h1:x<(Q.L.length:Int)):(txt x).length=512:=by
 obtain⟨P,hm,hI,hs,-⟩:=h
 exact hI.len x h0 (by rw[hs.L];exact h1)
theorem Sp.n (h:Sp Q txt K X w):Q.L.length<=4096:=by
 obtain⟨P,hm,hI,hs,-⟩:=h
 rw[<-hs.L]
 exact hm.ext.n
theorem Sp.read (h:Sp Q txt K X w)(hX:∀b,X b->b<w.heap.size)(hK:K<1000000000000){no:Int}(h0:0<=no)(h1:no<(Q.L.length:Int)):Oy prog 84 [ptr Q.s 0,I no] w λv w'=>v= .tuple #[S (txt no),I 0]/\Sp Q txt K X w'/\Kp (λb=>¬X b) w w':=by
 obtain⟨P,hm,hI,hs,hf⟩:=h
 rw[<-hs.s]
 refine(z5l hm hI hK h0 (by rw[hs.L];exact h1)).mono λv w' ⟨hv,P',hr,zD,nQ⟩=>⟨hv,Sp.of hf hX hr zD (hs.trans nQ)⟩
theorem Sp.write (h:Sp Q txt K X w)(hX:∀b,X b->b<w.heap.size)(hK:K<1000000000000){no:Int}(h0:0<=no)(h1:no<(Q.L.length:Int))(t:NY)(ht:t.length=512):Oy prog 105 [ptr Q.s 0,I no,S t] w λv w'=>v=I 0/\Sp Q (YB txt no (some t)) (K+1) X w'/\Kp (λb=>¬X b) w w':=by
 obtain⟨P,hm,hI,hs,hf⟩:=h
 rw[<-hs.s]
 refine(z9g hm hI hK h0 (by rw[hs.L];exact h1) t ht).mono λv w' ⟨hv,P',hr,zD,nQ⟩=>⟨hv,Sp.of hf hX hr zD (hs.trans nQ)⟩
def Qz.Pw (Q:Qz)(L:List Bool):Qz:={Q with L:=L}
theorem Qz.Same.Pw (h:Q.Same P)(L:List Bool):(Q.Pw L).Same {P with L:=L}:=⟨h.s,h.d,h.m,h.gi,h.c,h.pm,h.p,h.fr,rfl⟩
theorem Sp.take (h:Sp Q txt K X w)(hX:∀b,X b->b<w.heap.size){a n:Nat}(hp:Pre Q.L a)(cT:1<=n)(oS:a+n<=Q.L.length):Oy prog 67 [ptr Q.s 0,I (n:Int)] w λv w'=>v= .tuple #[.agg #[I (a:Int),I (n:Int)],I 0]/\Sp (Q.Pw (Pv Q.L a n true)) txt K X w'/\Kp (λb=>¬X b) w w':=by
 obtain⟨P,hm,hI,hs,hf⟩:=h
 rw[<-hs.s]
 rw[<-hs.L] at hp oS
 refine(z5D hm hp cT oS).mono λv w' ⟨hv,hr⟩=>⟨hv,?_⟩
 rw[<-hs.L]
 exact Sp.of hf hX hr (hI.Pw (by rw[Pl oS])) (hs.Pw _)
theorem Sp.zjH (h:Sp Q txt K X w)(hX:∀b,X b->b<w.heap.size){s n:Nat}(cT:1<=n)(dc:2<=s)(eE:s+n<=Q.L.length)(hc:∀i,s<=i->i<s+n->Q.L[i]? =some true):Oy prog 75 [ptr Q.s 0,.agg #[I (s:Int),I (n:Int)]] w λv w'=>v=I 0/\∃txt',Sp (Q.Pw (Pv Q.L s n false)) txt' K X w'/\(∀x:Int,x<(s:Int)\/(s:Int)+(n:Int)<=x->txt' x=txt x)/\Kp (λb=>¬X b) w w':=by
 obtain⟨P,hm,hI,hs,hf⟩:=h
 rw[<-hs.s]
 rw[<-hs.L] at eE hc
 refine(z6b hm hI cT dc eE hc).mono λv w' ⟨hv,P',txt',hr,zD,iY,nQ⟩=>⟨hv,txt',?_⟩
 obtain⟨h1,h2⟩:=Sp.of hf hX hr zD ((hs.trans nQ).Pw _)
 rw[<-hs.L]
 exact⟨h1,iY,h2⟩
end
open Go.Proofs Go.Shelf
def z3k:Go.Shelf.Ren:=⟨fun|105=>114|212=>151|99=>152|165=>153|166=>86|170=>154|169=>87|263=>186|264=>162|206=>187|240=>128|241=>188|276=>169|277=>217|n=>n,fun|9=>9|3=>3|4=>4|20=>20|0=>0|46=>110|109=>248|5=>5|72=>175|76=>178|51=>106|146=>296|53=>23|148=>259|70=>173|37=>105|75=>177|127=>220|164=>268|80=>180|n=>n,fun|n=>n⟩
theorem zeU:Go.Proofs.Lays.n105 prog z3k:={
 mixed:=by kernel_rfl
 f99:=func152.trans (congrArg some (by kernel_rfl))
 f105:=func114.trans (congrArg some (by kernel_rfl))
 f165:=func153.trans (congrArg some (by kernel_rfl))
 f166:=func86.trans (congrArg some (by kernel_rfl))
 f169:=func87.trans (congrArg some (by kernel_rfl))
 f170:=func154.trans (congrArg some (by kernel_rfl))
 f206:=func187.trans (congrArg some (by kernel_rfl))
 f212:=func151.trans (congrArg some (by kernel_rfl))
 f240:=func128.trans (congrArg some (by kernel_rfl))
 f241:=func188.trans (congrArg some (by kernel_rfl))
 f263:=func186.trans (congrArg some (by kernel_rfl))
 f264:=func162.trans (congrArg some (by kernel_rfl))
 f276:=func169.trans (congrArg some (by kernel_rfl))
 f277:=func217.trans (congrArg some (by kernel_rfl))
 t0:=underlying0
 a0:=isAgg0
 z0:=sizeOf0
 v0:=zeroValue0
 t3:=underlying3
 a3:=isAgg3
 z3:=sizeOf3
 v3:=zeroValue3
 t4:=underlying4
 a4:=isAgg4
 z4:=sizeOf4
 v4:=zeroValue4
 t5:=underlying5
 a5:=isAgg5
 z5:=sizeOf5
 v5:=zeroValue5
 t9:=underlying9
 a9:=isAgg9
 z9:=sizeOf9
 v9:=zeroValue9
 t20:=underlying20
 a20:=isAgg20
 z20:=sizeOf20
 v20:=zeroValue20
 t37:=underlying105
 a37:=isAgg105
 z37:=sizeOf105
 v37:=zeroValue105
 t46:=underlying110
 a46:=isAgg110
 z46:=sizeOf110
 v46:=zeroValue110
 t51:=underlying106
 a51:=isAgg106
 z51:=sizeOf106
 v51:=zeroValue106
 t53:=underlying23
 a53:=isAgg23
 z53:=sizeOf23
 v53:=zeroValue23
 t70:=underlying173
 a70:=isAgg173
 z70:=sizeOf173
 v70:=zeroValue173
 t72:=underlying175
 a72:=isAgg175
 z72:=sizeOf175
 v72:=zeroValue175
 t75:=underlying177
 a75:=isAgg177
 z75:=sizeOf177
 v75:=zeroValue177
 t76:=underlying178
 a76:=isAgg178
 z76:=sizeOf178
 v76:=zeroValue178
 t109:=underlying248
 a109:=isAgg248
 z109:=sizeOf248
 v109:=zeroValue248
 t127:=underlying220
 a127:=isAgg220
 z127:=sizeOf220
 v127:=zeroValue220
 t146:=underlying296
 a146:=isAgg296
 z146:=sizeOf296
 v146:=zeroValue296
 t148:=underlying259
 a148:=isAgg259
 z148:=sizeOf259
 v148:=zeroValue259
 t164:=underlying268
 a164:=isAgg268
 z164:=sizeOf268
 v164:=zeroValue268}
/-! ### A builder of strings -/
theorem zen:Builder.Extra prog z3k where
 sizeBuilder:=by kernel_rfl
 liesBuilder:=by kernel_rfl
 t5:=by kernel_rfl
 a5:=λ_=>by kernel_rfl
 z5:=λ_=>by kernel_rfl
 v5:=λw=>TI.zero (w:=w) Us
 infoByte:=by kernel_rfl
 cellsByte:=by kernel_rfl
 sizeByte:=by kernel_rfl
 neB5:=by decide
section
variable {w:World}
end
theorem z6V (l:NY):∀n,Lib.repeatL l n=(List.replicate n l).flatten
 |0=>rfl
 |n+1=>by rw[Lib.repeatL,z6V l n];rfl
theorem W4 (l:NY)(n:Nat)(hl:l.length<=100)(hn:n<=1000000)(w:World):Oy prog 114 [S l,I (n:Int)] w λv w'=>v=S (List.replicate n l).flatten/\Ext w w':=by
 have h2:n*l.length<=1000000*100:=Nat.mul_le_mul hn hl
 have:=Any.strings_Repeat zeU zen ⟨l.toArray⟩ n w (by omega) (by rw[S6,Nat.mul_comm];omega)
 refine Calls.mono this λ_ _ ⟨he,hw⟩=>⟨_,he,?_,Ext.zba hw⟩
 show Value.string ⟨(Lib.repeatL l n).toArray⟩=_
 rw[z6V]
def To (w n:Nat):NY:=(List.range w).map λk=>UInt8.ofNat (n / 2^(8*(w-1-k)))
theorem Ph (w n:Nat):(To w n).length=w:=by simp[To]
theorem zbq (w n:Nat):To (w+1) n=UInt8.ofNat (n / 2^(8*w))::To w n:=by
 unfold To
 rw[List.range_succ_eq_map,List.map_cons,List.map_map]
 congr 1
 refine List.map_congr_left λk hk=>?_
 show UInt8.ofNat (n / 2^(8*(w+1-1-(k+1))))=_
 rw[show w+1-1-(k+1)=w-1-k by omega]
theorem Yg:∀(w n:Nat),On (To w n)=Ov (8*w) n
 |0,n=>rfl
 | w + 1, n => by
   rw[zbq,SO,Yg w n,show 8*(w+1)=8+8*w by omega,R8]
   congr 1
   refine VD ?_;have:(UInt8.ofNat (n / 2^(8*w))).toNat=n / 2^(8*w)%256:=by simp
   rw[this];omega
theorem Zr {w n:Nat}(h:n<2^(8*w)):OK (On (To w n))=n:=by
 rw[Yg,Pk,Nat.mod_eq_of_lt h]
theorem z7p (s:NY):To s.length (OK (On s))=s:=by
 have h1:On (To s.length (OK (On s)))=On s:=by
  rw[Yg];have:=z05 (On s);rw[bitsT_length] at this;exact this
 have inj : ∀ a b : NY, a.length = b.length -> On a = On b -> a = b := λa => by
  induction a with
  | nil => intro b hb _; cases b with
    |nil=>rfl
    |cons=>cases hb
  | cons c a ih =>
    intro b hb he
    cases b with
    |nil=>cases hb
    | cons d b =>
      rw[SO,SO] at he;obtain⟨e1,e2⟩:=List.append_inj he (by rw[bitsN_length,bitsN_length]);rw[ih b (by simpa using hb) e2]
      congr 1
      have:=congrArg OK e1;rw[Pk,Pk] at this;have h3:=c.toNat_lt;have h4:=d.toNat_lt;exact UInt8.toNat_inj.1 (by omega)
 exact inj _ _ (Ph _ _) h1
def Laid (txt:Int->NY)(a:Nat)(T:NY):Prop:=∀k,512*k<T.length->(txt ((a+k:Nat):Int)).take (T.length-512*k)=(T.drop (512*k)).take 512
section
variable {txt txt':Int->NY}{a n:Nat}{T:NY}
theorem Laid.piece (h:Laid txt a T){off n:Nat}(h1:off+n<=T.length)(h2:n<=512-off%512):((txt ((a+off / 512:Nat):Int)).drop (off%512)).take n=(T.drop off).take n:=by
 by_cases hn:n=0
 ·subst hn;simp
 have hk:=h (off / 512) (by omega)
 have e:=congrArg (λl=>(l.drop (off%512)).take n) hk
 try dsimp only at e
 rw[List.drop_take,List.take_take,Nat.min_eq_left (by omega),List.drop_take,List.take_take,List.drop_drop,Nat.min_eq_left (by omega),show 512*(off / 512)+off%512=off by omega] at e
 exact e
theorem Laid.QX (h:Laid txt a T)(e:∀k,512*k<T.length->txt' ((a+k:Nat):Int)=txt ((a+k:Nat):Int)):Laid txt' a T:=λk hk=>by rw[e k hk];exact h k hk
theorem Laid.of (h:∀k,512*k<T.length->(txt ((a+k:Nat):Int)).length=512/\∃r,txt ((a+k:Nat):Int)=(T.drop (512*k)).take 512++r):Laid txt a T:=λk hk=>by
 obtain⟨hl,r,e⟩:=h k hk
 have h1:((T.drop (512*k)).take 512).length=min 512 (T.length-512*k):=by simp
 rw[e,List.length_append,h1] at hl
 rw[e]
 by_cases hc:T.length-512*k<=512
 ·exact List.take_left' (by rw[h1];omega)
 ·have:r=[]:=List.eq_nil_of_length_eq_zero (by omega);rw[this,List.append_nil,List.take_of_length_le (by rw[h1];omega)]
end
def VcT (txt:Int->NY)(st width each:Nat)(xs:List Nat):Prop:=∀i x,xs[i]? =some x->((txt ((st+i / each:Nat):Int)).drop (i%each*width)).take width=To width x/\x<2^(8*width)
theorem z0V (a b c:NY){k n:Nat}(hn:k+n<=a.length):((a++b++c).drop k).take n=(a.drop k).take n:=by
 rw[List.append_assoc,List.drop_append_of_le_length (by omega),List.take_append_of_le_length (by rw[List.length_drop];omega)]
section
variable {txt txt':Int->NY}{st width each:Nat}{xs:List Nat}
theorem VcT.QX (h:VcT txt st width each xs)(e:∀i,i<xs.length->txt' ((st+i / each:Nat):Int)=txt ((st+i / each:Nat):Int)):VcT txt' st width each xs:=λi x hx=>by
 have hi:i<xs.length:=by
  rcases Nat.lt_or_ge i xs.length with h| h
  ·exact h
  ·rw[List.getElem?_eq_none h] at hx;cases hx
 rw[e i hi]
 exact h i x hx
theorem VcT.set (h:VcT txt st width each xs)(he:1<=each){i x:Nat}(hx:x<2^(8*width))(hi:i<xs.length){t:NY}(ht:txt ((st+i / each:Nat):Int)=t)(hl:i%each*width+width<=t.length):VcT (YB txt ((st+i / each:Nat):Int) (some (t.take (i%each*width)++To width x++t.drop (i%each*width+width)))) st width each (xs.set i x):=λj y hy=>by
 by_cases hb:j / each=i / each
 ·rw[hb,Ri];show((t.take (i%each*width)++To width x++t.drop (i%each*width+width)).drop (j%each*width)).take width=_/\_;have aZ:(t.take (i%each*width)).length=i%each*width:=by rw[List.length_take];omega
  by_cases gP:j=i
  ·subst gP;rw[List.getElem?_set_self hi] at hy;cases hy;refine⟨?_,hx⟩;rw[List.append_assoc,List.drop_left' aZ,List.take_left' (Ph _ _)]
  ·rw[List.getElem?_set_ne (λe=>gP e.symm)] at hy;obtain⟨h1,h2⟩:=h j y hy;refine⟨?_,h2⟩;rw[hb,ht] at h1;rw[<-h1];have tw:=Nat.div_add_mod i each;have qU:=Nat.div_add_mod j each;rw[hb] at qU;have bP:j%each≠i%each:=λe=>gP (by omega);rcases Nat.lt_or_gt_of_ne bP with oZ|Nw
   ·have hm:(j%each+1)*width<=i%each*width:=Nat.mul_le_mul_right _ (by omega);rw[Nat.add_mul,Nat.one_mul] at hm;rw[z0V _ _ _ (by omega),List.drop_take,List.take_take,Nat.min_eq_left (by omega)]
   ·have hm:(i%each+1)*width<=j%each*width:=Nat.mul_le_mul_right _ (by omega);rw[Nat.add_mul,Nat.one_mul] at hm;rw[List.drop_append,List.drop_of_length_le (by rw[List.length_append,aZ,Ph];omega),List.nil_append,List.length_append,aZ,Ph,List.drop_drop,show i%each*width+width+(j%each*width-(i%each*width+width))=j%each*width by omega]
 ·have gP:j≠i:=λe=>hb (by rw[e]);rw[List.getElem?_set_ne (λe=>gP e.symm)] at hy;rw[QB _ _ (by omega)];exact h j y hy
theorem z0Q {l z:NY}{w:Nat}(hl:l.length=w):∀(e k:Nat),k<e->(((List.replicate e l).flatten++z).drop (k*w)).take w=l
 |0,k,h=>by omega
 | e + 1, 0, h => by
   rw[Nat.zero_mul,List.drop_zero,List.replicate_succ,List.flatten_cons,List.append_assoc]
   exact List.take_left' hl
 | e + 1, k + 1, h => by
   rw[List.replicate_succ,List.flatten_cons,List.append_assoc,List.drop_append,List.drop_of_length_le (by rw[hl,Nat.add_mul];omega),List.nil_append,hl,Nat.add_mul,Nat.one_mul,Nat.add_sub_cancel];exact z0Q hl e k (by omega)
theorem VcT.fill {n x:Nat}(hx:x<2^(8*width))(he:1<=each)(h:∀i,i<n->∃z,txt ((st+i / each:Nat):Int)=(List.replicate each (To width x)).flatten++z):VcT txt st width each (List.replicate n x):=λi y hy=>by
 rw[List.getElem?_replicate] at hy
 split at hy
 ·rename_i hi
  cases hy;obtain⟨z,e⟩:=h i hi;rw[e];exact⟨z0Q (Ph _ _) each _ (Nat.mod_lt _ he),hx⟩
 ·cases hy
def SE (width n:Nat)(s:NY):List Nat:=(List.range n).map λi=>OK (On ((s.drop (i*width)).take width))
theorem Q7 (width n:Nat)(s:NY):(SE width n s).length=n:=by simp[SE]
end
def z0L (n wd k:Nat):List Value:=(List.range wd).map λi=>if i<k then Rb (UInt8.ofNat (n / 2^(8*(wd-1-i)))) else .int .u8 0
@[simp] theorem beTo_length (n wd k:Nat):(z0L n wd k).length=wd:=by simp[z0L]
theorem z1X (n wd:Nat):z0L n wd 0=List.replicate wd (.int .u8 0):=by
 apply List.ext_getElem<;>simp[z0L]
theorem z3m (n wd:Nat):z0L n wd wd=(To wd n).map Rb:=by
 simp only[z0L,To,List.map_map]
 apply List.map_congr_left
 intro i hi
 rw[if_pos (by simpa using hi)];rfl
theorem z3A (n wd k:Nat)(h:k<wd):(z0L n wd k).set (0+k*1) (.int .u8 ((n / 2^(8*(wd-1-k))%256:Nat):Int))=z0L n wd (k+1):=by
 apply List.ext_getElem
 ·simp
 ·intro j h1 h2;have hj:j<wd:=by simpa using h2
  simp only[z0L,List.getElem_set,List.getElem_map,List.getElem_range];by_cases DJ:j=k
  ·subst DJ;simp[Rb]
  ·rw[if_neg (by omega)];by_cases aZ:j<k
   ·rw[if_pos aZ,if_pos (by omega)]
   ·rw[if_neg aZ,if_neg (by omega)]
theorem YR (n wd:Nat)(w:World)(hn:n<18446744073709551616)(oQ:wd<=8):Oy prog 109 [u64v n,I (wd:Int)] w λv w'=>v=S (To wd n)/\Ext w w':=by
 have dF:maxLen=9223372036854775807:=rfl
 refine NP (e:=[(0,_),(1,_)]) func109 O ntmps109 O O$ qN O$ Oc O$ qM O$ NT O$ O5 O O (pmk (c:=wd) (n:=wd) Pc Us O O O (by omega) (by omega) (by omega)) ?_
 rintro _ w1 ⟨b1,rfl,⟨bK,ad,ai⟩,-⟩
 refine NZ O$ py$ qN O$ NT O$ Qx Pc O$ NT O$ NU$ NQ ?_
 rw[<-z1X n wd] at ai
 refine Qm (α:=Nat) (0) (λk=>[(0,u64v n),(1,I (wd:Int)),(5,.slice (some ⟨b1,0,none⟩) wd wd),(10,I (wd:Int)),(11,I (k:Int))]) (λk w'=>k<=wd/\O9 w' b1 (z0L n wd k) 5/\Ext w w') (λk=>wd-k) ?hI ?hround
 case hI=>exact⟨by omega,ai,ad⟩
 case hround=>
  rintro k w2 ⟨hk,am,ae⟩ ih
  try dsimp only
  refine qN O$ Py O O$ NU$ py$ O8 O (λaZ=>?_)$ λaZ=>?_
  ·have EV:k<wd:=by omega
   refine An$ py$ NQ$ qN O$ NT O$ NZ O$ NW O$ Od O O$ Od O O$ Qp O O$ NT O$ Qp O O$ qV (Xa O O (by omega)) ?_;rw[show(8:Int)*(((wd:Int)-1)-(k:Int))=((8*(wd-1-k):Nat):Int) from by omega];refine qV (R9 (8*(wd-1-k)) (2^(8*(wd-1-k))) O O (by simp only[IntKind.bits];omega) O) ?_;refine qV (z3c O Qy U5)$ qV (P7 Pc Us O O (by omega))$ Oe O (PV Us O O O am (by simp;omega)) ?_;rintro w3 ⟨au,aw⟩;rw[z3A n wd k EV] at au;refine NU$ NS$ NW O$ P6 O O$ NT O$ NU ?_;exact(ih (k+1) w3 ⟨by omega,au,ae.NR aw (λi hi=>by rw[hi,bK];exact Nat.le_refl _)⟩ (by omega)).qb
  ·have:k=wd:=by omega
   subst this;rw[z3m] at am;refine O4 O$ qN O$ NT O$ qV (z18 (l:=To k n) Pc U5 U9 O am (by rw[List.drop_zero];exact List.take_of_length_le (by rw[List.length_map,Ph];omega)) (by simp[To])) ?_;refine NZ O$ NV func109 O ?_;exact⟨_,rfl,rfl,ae⟩
theorem z1f (s:NY)(hs:s.length<=8)(w:World):Oy prog 110 [S s] w λv w'=>v=u64v (OK (On s))/\Ext w w':=by
 refine NP (e:=[(0,_)]) func110 O ntmps110 O O$ qN O$ NZ O$ py$ qN O$ NT O$ O5 O O (z5t U9 Pc U5 O) ?_
 rintro _ w1 ⟨b7,c7,rest,rfl,⟨jQ,ad,ai⟩,AU⟩
 refine Qx Pc O$ NT O$ NU$ NQ$ Qm (α:=Nat) (0) (λi=>[(2,u64v (OK (On (s.take i)))),(6,.slice (some ⟨b7,0,none⟩) s.length c7),(7,I (s.length:Int)),(8,I (i:Int))]) (λi w'=>w'=w1/\i<=s.length) (λi=>s.length-i) ?hI ?hround
 case hI=>exact⟨rfl,Nat.zero_le _⟩
 case hround=>
  rintro i w2 ⟨rfl,hi⟩ ih
  try dsimp only
  refine qN O$ Py O O$ NU$ py$ O8 O (λh0=>?_)$ λh0=>?_
  ·obtain⟨c,hc⟩:∃c,s[i]? =some c:=⟨_,List.getElem?_eq_getElem (by omega)⟩;have cQ:=c.toNat_lt;have eT:=Xu hc
   have aZ:OK (On (s.take i))<72057594037927936:=by
    have h1:=Q8 (On (s.take i));rw[bitsT_length,List.length_take] at h1;have h2:2^(8*min i s.length)<=2^56:=Nat.pow_le_pow_right (by decide) (by omega);omega
   have aW:w2.cell? ⟨b7,0+i*1,none⟩=some (Rb c):=by
    rw[ai.cell,Nat.zero_add,Nat.mul_one,List.getElem?_append_left (by rw[List.length_map];omega),List.getElem?_map,hc];rfl
   refine An$ py$ NQ$ qN O$ qV (P7 Pc Us O O (by omega))$ qV (OC U5 O O aW) ?_
   generalize OK (On (s.take i))=q at eT aZ
   refine NZ O$ NW O$ NT O$ qV (PX 8 256 O O (by decide) O)$ NT O$ qV ((z1a O U5 Qy (by decide)))$ qV (Yf O O (by omega) (by omega)) ?_
   have mm:(q*256%18446744073709551616 |||c.toNat)=OK (On (s.take (i+1))):=by
    rw[eT,Nat.mod_eq_of_lt (by omega),Nat.mul_comm q];exact(Nat.two_pow_add_eq_or_of_lt (i:=8) cQ q).symm
   rw[mm];refine NZ O$ NS$ NW O$ P6 O O$ NT O$ NU ?_;exact(ih (i+1) _ ⟨rfl,by omega⟩ (by omega)).qb
  ·have bX:i=s.length:=by omega
   subst bX;rw[List.take_length];refine O4 O$ qN O$ NT O$ NZ O$ NV func110 O ?_;exact⟨_,rfl,rfl,ad⟩
def vcC (n width each st len s:Nat)(cl:Bool):List Value:=[I (n:Int),I (width:Int),I (each:Int),I (st:Int),I (len:Int),ptr s 0,.bool cl]
def QD (n each:Nat):Nat:=max 1 ((n+each-1) / each)
structure SS (Q:Qz)(txt:Int->NY)(vb width st:Nat)(xs:List Nat)(w:World):Prop where
 NX:O9 w vb (vcC xs.length width (512 / width) st (QD xs.length (512 / width)) Q.s false) 157
 wd:width=1\/width=2\/width=4\/width=8
 t:VcT txt st width (512 / width) xs
 n:xs.length<=4194304
 fit:st+QD xs.length (512 / width)<=Q.L.length
theorem z2g {n each:Nat}(he:1<=each){i:Nat}(hi:i<n):i / each<QD n each:=by
 unfold QD
 have h1:i / each<=(n-1) / each:=Nat.div_le_div_right (by omega)
 have h2:(n+each-1) / each=(n-1) / each+1:=by
  rw[show n+each-1=(n-1)+each by omega,Nat.add_div_right _ (by omega)]
 omega
section
variable {w w':World}{Q Q':Qz}{txt txt':Int->NY}{vb width st:Nat}{xs ys:List Nat}{S':Nat->Prop}
theorem SS.e (h:SS Q txt vb width st xs w):64<=512 / width/\512 / width<=512/\512 / width*width=512/\1<=width/\width<=8:=by
 rcases h.wd with e|e|e|e<;>subst e<;>decide
theorem SS.kp (h:SS Q txt vb width st xs w)(hk:Kp S' w w')(hn:¬S' vb):SS Q txt vb width st xs w':=⟨hk.NX h.NX hn,h.wd,h.t,h.n,h.fit⟩
theorem SS.ext (h:SS Q txt vb width st xs w)(hx:Ext w w'):SS Q txt vb width st xs w':=h.kp (S':=λ_=>False) hx id
theorem SS.QX (h:SS Q txt vb width st xs w)(e:∀y:Int,(st:Int)<=y->y<(st:Int)+(QD xs.length (512 / width):Int)->txt' y=txt y):SS Q txt' vb width st xs w:=
 ⟨h.NX,h.wd,h.t.QX λi hi=>by
  have:=z2g (each:=512 / width) (by have:=h.e;omega) hi
  generalize i / (512 / width)=q at this⊢
  exact e _ (by omega) (by omega),h.n,h.fit⟩
theorem SS.q (h:SS Q txt vb width st xs w)(hs:Q'.s=Q.s)(hl:Q'.L.length=Q.L.length):SS Q' txt vb width st xs w:=⟨by rw[hs];exact h.NX,h.wd,h.t,h.n,by rw[hl];exact h.fit⟩
theorem SS.lt (h:SS Q txt vb width st xs w):vb<w.heap.size:=h.NX.lt
theorem SS.at_ (h:SS Q txt vb width st xs w){i:Nat}(hi:i<xs.length):st+i / (512 / width)<Q.L.length/\i%(512 / width)*width+width<=512/\i / (512 / width)<QD xs.length (512 / width):=by
 obtain⟨h1,h2,h3,h4,h5⟩:=h.e
 have h6:=z2g (each:=512 / width) (by omega) hi
 have h7:=h.fit
 have h8:(i%(512 / width)+1)*width<=512 / width*width:=Nat.mul_le_mul_right _ (Nat.mod_lt _ (by omega))
 rw[Nat.add_mul,Nat.one_mul] at h8
 refine⟨by omega,by omega,h6⟩
theorem SS.cells (h:SS Q txt vb width st xs w):O9 w vb [I (xs.length:Int),I (width:Int),I ((512 / width:Nat):Int),I (st:Int),I (QD xs.length (512 / width):Int),ptr Q.s 0,.bool false] 157:=h.NX
def VcW (Q:Qz)(txt:Int->NY)(K:Nat)(X:Nat->Prop)(vb width st:Nat)(ys:List Nat)(w w':World):Prop:=
 ∃txt',Sp Q txt' K X w'/\SS Q txt' vb width st ys w'/\(∀y:Int,y<(st:Int)\/(st:Int)+(QD ys.length (512 / width):Int)<=y->txt' y=txt y)/\Kp (λb=>¬X b) w w'
end
end Go.Proofs.YtgdkbagngobdlaaGreatDoor
namespace Go.Proofs.YtgdkbagngobdlaaGreatDoor.Sums
def bit (c:Nat):Nat:=if c%2=1 then(c / 2)^^^2197175160 else c / 2
def zdk (c:Nat):Nat:=bit (bit (bit (bit (bit (bit (bit (bit c)))))))
def byte (c:Nat)(b:UInt8):Nat:=zdk (c^^^b.toNat)
def raw (c:Nat)(l:List UInt8):Nat:=l.foldl byte c
def neg (c:Nat):Nat:=4294967295^^^c
def on (c:Nat)(l:List UInt8):Nat:=neg (raw (neg c) l)
def crc (l:List UInt8):Nat:=on 0 l
def be4 (n:Nat):List UInt8:=[UInt8.ofNat (n / 16777216),UInt8.ofNat (n / 65536),UInt8.ofNat (n / 256),UInt8.ofNat n]
@[simp] theorem be4_length (n:Nat):(be4 n).length=4:=rfl
def head (k:UInt8)(p:List UInt8):List UInt8:=k::be4 p.length
def frame (k:UInt8)(p:List UInt8):List UInt8:=head k p++be4 (crc (head k p++p))++p
@[simp] theorem head_length (k:UInt8) (p:List UInt8):(head k p).length=5:=rfl
theorem zbh (c:Nat):(c / 2)^^^(2197175160&&&((4294967296-(c&&&1))%4294967296))=bit c:=by
 have h1:c&&&1=c%2:=Nat.and_two_pow_sub_one_eq_mod c 1
 rw[h1]
 unfold bit
 by_cases h:c%2=1
 ·rw[if_pos h,h]
  congr 1
 ·have h0:c%2=0:=by omega
  rw[if_neg h,h0];simp
theorem XN {a b:Nat}(ha:a<4294967296)(hb:b<4294967296):a^^^b<4294967296:=Nat.xor_lt_two_pow (n:=32) ha hb
theorem UN {c:Nat}(h:c<4294967296):bit c<4294967296:=by
 unfold bit
 split
 ·exact XN (by omega) (by omega)
 ·omega
theorem z9N {c:Nat}(h:c<4294967296):zdk c<4294967296:=UN (UN (UN (UN (UN (UN (UN (UN h)))))))
theorem z7y {c:Nat}(h:c<4294967296)(b:UInt8):byte c b<4294967296:=z9N (XN h (by have:=b.toNat_lt;omega))
theorem zb4:∀(l:List UInt8) {c:Nat},c<4294967296->raw c l<4294967296
 |[],_,h=>h
 |b::l,_,h=>zb4 l (z7y h b)
theorem z4X {c:Nat}(h:c<4294967296):neg c<4294967296:=XN (by omega) h
theorem ze3 {c:Nat}(l:List UInt8)(h:c<4294967296):on c l<4294967296:=z4X (zb4 l (z4X h))
theorem zeR (l:List UInt8):crc l<4294967296:=ze3 l (by omega)
theorem z5f (c:Nat)(a b:List UInt8):raw c (a++b)=raw (raw c a) b:=List.foldl_append ..
/-! ### The step is linear -/
/-! ### Linear maps, by their table -/
def iter (L:Nat->Nat):Nat->Nat->Nat
 |0,x=>x
 |n+1,x=>iter L n (L x)
/-! ### Frames -/
@[simp] theorem frame_length (k:UInt8) (p:List UInt8):(frame k p).length=9+p.length:=by simp[frame];omega
/-! ### A byte that is turned is told -/
theorem getD_take (s:List UInt8)(n i:Nat)(h:i<n):(s.take n).getD i 0=s.getD i 0:=by simp[List.getD,h]
def z9G (s:List UInt8)(i:Nat)(d:UInt8):List UInt8:=s.set i (s.getD i 0^^^d)
@[simp] theorem turned_length (s:List UInt8) (i:Nat) (d:UInt8):(z9G s i d).length=s.length:=by simp[z9G]
end Go.Proofs.YtgdkbagngobdlaaGreatDoor.Sums
namespace Go.Proofs.YtgdkbagngobdlaaGreatDoor
open Go Go.RowKit Go.Proofs.Tryz
set_option linter.unusedVariables false
abbrev U (n:Nat):Value:= .int .u32 (n:Int)
theorem zaP (c:Nat)(b:UInt8)(p:Nat)(T:TypeId)(w:World)(hB:O9 w p [U c] T)(hc:c<4294967296):
  Oy prog 146 [Rb b,ptr p 0] w λv w'=>v= .tuple #[]/\O9 w' p [U (Sums.byte c b)] T/\Kp (λk=>k=p) w w':=by
 have hb:=b.toNat_lt
 have hx:=Sums.XN hc (show b.toNat<4294967296 by omega)
 refine NP (e:=[(0,_),(1,_)]) func146 O ntmps146 O O$ qN O$ qV (O6 OJ O O hB O)$ NT O$ qV ((z1a O U5 OJ (by decide)))$ qV (ze5 O O (by omega) (by omega))$ Oe O (PV O7 O O O hB (by simp)) ?_
 rintro w1 ⟨ai,aK⟩
 refine qM O$ NT O$ NU$ NQ$ Qm (α:=Nat×Nat) ((0,c^^^b.toNat)) (λx=>[(0,Rb b),(1,ptr p 0),(7,I (x.1:Int))]) (λx w'=>x.1<=8/\x.2<4294967296/\Sums.iter Sums.bit (8-x.1) x.2=Sums.byte c b/\O9 w' p [U x.2] T/\Kp (λk=>k=p) w w') (λx=>8-x.1) ?hI ?hround
 case hI=>exact⟨by omega,hx,rfl,ai,aK⟩
 case hround=>
  rintro⟨k,d⟩ w2 ⟨aS,hd,hs,am,aq⟩ ih
  try dsimp only
  refine qN O$ Py O O$ NU$ py$ O8 O (λaZ=>?_)$ λaZ=>?_
  ·have jM:d&&&1<4294967296:=Nat.lt_of_le_of_lt Nat.and_le_right (by omega);have uh:(4294967296-(d&&&1))%4294967296<4294967296:=Nat.mod_lt _ (by omega);have j5:2197175160&&&((4294967296-(d&&&1))%4294967296)<4294967296:=Nat.lt_of_le_of_lt Nat.and_le_left (by omega);refine An$ py$ NQ$ NW O$ qV (O6 OJ O O am O)$ qV (R9 1 2 O O (by decide) O)$ qV (O6 OJ O O am O)$ qV (zeh O O (by omega) (by omega))$ qV (zie O (by omega))$ qV (zeh O O (by omega) (by omega))$ qV (ze5 O O (by omega) (by omega))$ Oe O (PV O7 O O O am (by simp)) ?_;rintro w3 ⟨au,aw⟩;refine NU$ NS$ NW O$ P6 O O$ NT O$ NU ?_;simp only[List.set_cons_zero] at au;rw[Sums.zbh] at au;refine(ih (k+1,Sums.bit d) w3 ⟨by dsimp only at*;omega,Sums.UN hd,?_,au,aq.trans aw⟩ (by dsimp only at*;omega)).qb;have h8:8-k=(8-(k+1))+1:=by dsimp only at*;omega
   dsimp only at hs⊢;rw[h8] at hs;exact hs
  ·refine O4 O$ PE func146 O ?_;have hk:k=8:=by dsimp only at*;omega
   subst hk;refine⟨_,rfl,rfl,?_,aq⟩;have:d=Sums.byte c b:=hs;rw[<-this];exact am
theorem zfe {l:List UInt8}{rest:List Value}{k:Nat}(h:k<l.length):(l.map Rb++rest)[0+k*1]? =some (Rb (l.getD k 0)):=by
 rw[Nat.zero_add,Nat.mul_one,List.getElem?_append_left (by simpa using h)]
 simp[h,List.getD]
theorem z0W (c:Nat)(l:List UInt8)(k:Nat)(h:k<l.length):Sums.raw c (l.take (k+1))=Sums.byte (Sums.raw c (l.take k)) (l.getD k 0):=by
 rw[List.take_succ_eq_append_getElem h,Sums.z5f]
 simp[Sums.raw,List.getD,h]
theorem zbv (c:Nat)(l:List UInt8)(w:World)(hc:c<4294967296)(hl:l.length<=9223372036854775807):
  Oy prog 108 [U c,S l] w λv w'=>v=U (Sums.on c l)/\Ext w w':=by
 refine NP (e:=[(0,_),(1,_)]) func108 O ntmps108 O O$ qN O$ O5 O O (Qr O O) ?_
 rintro _ w1 ⟨b1,rfl,bK,ad,ai⟩
 refine Oc O$ qM O$ qV (O6 OJ O O ai O)$ qV (ze4 O (by omega))$ Oe O (PV O7 O O O ai (by simp)) ?_
 rintro w2 ⟨am,aq⟩
 simp only[List.set_cons_zero] at am
 have ae:Ext w w2:=ad.NR aq (λi hi=>by rw[hi,bK];exact Nat.le_refl _)
 refine qM O$ qV (ymf (first:=[]) (caps:=[.tmp 2]) O O)$ NZ O$ py$ qN O$ NT O$ O5 O O (z5t U9 Pc U5 O) ?_
 rintro _ w3 ⟨b3,cap,rest,rfl,⟨f7,ah,au⟩,jO⟩
 refine Qx Pc O$ NT O$ NU$ NQ ?_
 have bP:b3≠b1:=by have:=am.lt;omega
 refine Qm (α:=Nat×Nat) ((0,Sums.neg c)) (λx=>[(2,ptr b1 0),(5,.func (.func 146) #[] #[ptr b1 0]),(12,.slice (some ⟨b3,0,none⟩) l.length cap),(13,I (l.length:Int)),(14,I (x.1:Int))]) (λx w'=>x.1<=l.length/\x.2<4294967296/\x.2=Sums.raw (Sums.neg c) (l.take x.1)/\O9 w' b1 [U x.2] 106/\O9 w' b3 (l.map Rb++rest) 5/\Ext w w') (λx=>l.length-x.1) ?hI ?hround
 case hI=>exact⟨by simp,Sums.z4X hc,rfl,ah.NX am,au,ae.trans ah⟩
 case hround=>
  rintro⟨k,d⟩ w4 ⟨hk,hd,hs,aI,aG,az⟩ ih;dsimp only at hk hd hs aI
  try dsimp only
  refine qN O$ Py O O$ NU$ py$ O8 O (λaZ=>?_)$ λaZ=>?_
  ·have ig:k<l.length:=by omega
   refine An$ py$ NQ$ qN O$ qV (P7 Pc Us O O (by omega))$ qV (O6 U5 O O aG (zfe ig))$ NZ O$ NW O$ Od O O$ PG O O (R0 ziR O O) (zaP d (l.getD k 0) b1 _ w4 aI hd) ?_;rintro _ w5 ⟨rfl,aO,aP⟩;refine NU$ NS$ NW O$ P6 O O$ NT O$ NU ((ih (k+1,Sums.byte d (l.getD k 0)) w5 ⟨ig,Sums.z7y hd _,?_,aO,aP.NX aG bP,az.NR aP (λi hi=>by rw[hi,bK];exact Nat.le_refl _)⟩ (by dsimp only;omega)).qb);rw[z0W _ _ _ ig,<-hs]
  ·refine O4 O$ qN O$ qV (O6 OJ O O aI O)$ qV (ze4 O (by omega))$ NZ O$ NV func108 O (⟨_,rfl,?_,az⟩);have jC:k=l.length:=by omega
   subst jC;rw[List.take_length] at hs;show U (Sums.neg d)=_;rw[hs]
   rfl
theorem z6B (l:List UInt8)(w:World)(hl:l.length<=9223372036854775807):
  Oy prog 102 [S l] w λv w'=>v=U (Sums.crc l)/\Ext w w':=by
 refine NP (e:=[(0,_)]) func102 O ntmps102 O O$ qN O$ Oc O$ qM O$ NT O$ Om zed O (zbv 0 l _ (by omega) hl) ?_
 rintro _ w1 ⟨rfl,ad⟩
 refine NZ O$ NV func102 O ?_
 exact⟨_,rfl,rfl,ad⟩
theorem ZH (s:NY):Lib.strCells ⟨s.toArray⟩=s.map Rb:=by simp[Lib.strCells,Rb]
section
variable {P:Program}{e:Env}{d:Option Nat}{ty t tu tn el:TypeId}{pos:String}{aft:Array Edge}{g:Option (Nat×Bool)}{x y:Operand}{w w':World}{n k:Nat}{v:Value}{cs:List Value}{s:NY}{kn:IntKind}{za:Int}
theorem z4s (ht:P.underlying t=some (.slice el))(hu:P.underlying tu=some .string)(hs:TI P el (.int .u8 0) 1 1)(hv:Sl w v el 1 n cs)(hb:n+s.length<=140737488355328):
  ∃v' w',(Builtin.append_ #[t,tu] ty #[v,S s]).run P w= .ok v' w'/\Sl w' v' el 1 (n+s.length) (cs++s.map Rb)/\Kp (λk=>v.ownBlock=some k) w w'/\(∀g,v'.ownBlock=some g->v.ownBlock=some g\/w.heap.size<=g):=by
 have dF:maxLen=9223372036854775807:=rfl
 obtain⟨i,hi,oX,jK,qQ⟩:=hs
 have e1:=S6 s
 have e2:=ZH s
 rcases id hv.2 with⟨rfl,rfl⟩|⟨g,cap,cur,rfl,Ib,hg,jz,mD,fP,Ic⟩
 ·have hx:cs=[]:=List.eq_nil_of_length_eq_zero (by simpa using hv.1);subst hx;obtain⟨v',w',hr,ho,hg,-⟩:=Lib.run_append_own_string (P:=P) w w.heap.size t tu ty el i ht hu hi oX jK qQ (.slice none 0 0) 0 [] (World.ownsRow_nil w w.heap.size el 1) ⟨s.toArray⟩ (by rw[e1];omega) (by rw[e1];exact hb) (Nat.le_refl _);rw[e1,e2] at ho;refine⟨v',w',hr,⟨ho.1,?_⟩,Kp.Tu hg,λg hg=> .inr (World.ownsRow.lt ho g hg).1⟩;rcases ho.2 with Lu|⟨g,cap2,cur2,lE,bU,dv⟩
  ·exact .inl Lu
  ·exact .inr ⟨g,cap2,cur2,lE,Nat.zero_le _,dv⟩
 ·by_cases fB:n+s.length<=cap
  ·by_cases hc:0<cap
   ·obtain⟨w',hr,ho,cM⟩:=Lib.run_append_fits_string (P:=P) w 0 t tu ty el i ht hu hi jK (some ⟨g,0,none⟩) n cap cs hv ⟨s.toArray⟩ hc (by rw[e1];exact fB);rw[e1,e2] at ho;rw[e1] at hr;exact⟨_,w',hr,ho,Kp.Tu cM,λg' cM=> .inl (by simpa[Value.ownBlock] using cM)⟩
   ·obtain⟨v',w',hr,ho,cM,-⟩:=Lib.run_append_own_string (P:=P) w 0 t tu ty el i ht hu hi oX jK qQ (.slice (some ⟨g,0,none⟩) n cap) n cs hv ⟨s.toArray⟩ (by rw[e1];omega) (by rw[e1];exact hb) (Nat.zero_le _);have Lv:s=[]:=List.eq_nil_of_length_eq_zero (by omega);subst Lv;have dv:=Lib.run_append_room_string (P:=P) w t tu ty el i ht hu hi jK g n cap cur hg ⟨[].toArray⟩ (by rw[e1];exact fB) (by rw[e1];simp only[Nat.mul_one] at fP;simp only[List.length_nil];omega);rw[dv] at hr;cases hr;rw[e1,e2] at ho;exact⟨_,_,dv,ho,Kp.Tu cM,λg' cM=> .inl (by simpa[Value.ownBlock] using cM)⟩
  ·obtain⟨v',w',hr,ho,cM,-⟩:=Lib.run_append_own_string (P:=P) w 0 t tu ty el i ht hu hi oX jK qQ (.slice (some ⟨g,0,none⟩) n cap) n cs hv ⟨s.toArray⟩ (by rw[e1];omega) (by rw[e1];exact hb) (Nat.zero_le _);have dv:=Lib.run_append_grow_string (P:=P) w t tu ty el i (.int .u8 0) ht hu hi oX ⟨g,0,none⟩ n cap cs (by rw[jK];exact hv.1) (World.ownsRow.cells hv (g:=g) O) ⟨s.toArray⟩ (by rw[e1];omega) (by rw[e1];omega) (by rw[e1];exact growslice_fits (by omega) (by rw[qQ];omega));rw[dv] at hr;cases hr;rw[e1,e2] at ho;refine⟨_,_,dv,by rw[<-e1] at ho⊢;exact ho,Kp.Tu cM,λg' cM=> .inr ?_⟩;simp[Value.ownBlock] at cM;omega
theorem zfs (ht:P.underlying t=some (.slice el))(hu:P.underlying tu=some .string)(hs:TI P el (.int .u8 0) 1 1)(hx:look e x=some v)(hy:look e y=some (S s))(hv:Sl w v el 1 n cs)(hb:n+s.length<=140737488355328):
  Yp P e ⟨d,.call ⟨.builtin .append,#[x,y],#[t,tu]⟩,ty,pos,aft,g⟩ w λv' w'=>Sl w' v' el 1 (n+s.length) (cs++s.map Rb)/\Kp (λk=>v.ownBlock=some k) w w'/\(∀g,v'.ownBlock=some g->v.ownBlock=some g\/w.heap.size<=g):=by
 obtain⟨v',w',hr,nI⟩:=z4s (P:=P) (ty:=ty) ht hu hs hv hb
 refine⟨v',w',fun ρ hρ=>?_,nI⟩
 simp[execOp,resolve,invoke,builtin,hρ _ _ hx,hρ _ _ hy,hr]
theorem z32 (k:Nat):Builtin.zeroCells (Value.int .u8 0).cells k=(Lib.strCells ⟨(zeros k).toArray⟩).toArray:=by
 rw[ZH]
 apply Array.ext'
 rw[WE (.int .u8 0) k O]
 simp[zeros,Rb]
theorem zha [s8:RV za k](ht:P.underlying t=some (.slice el))(hn:P.underlying tn=some (.int kn))(hu:P.underlying tu=some .string)(hs:TI P el (.int .u8 0) 1 1)(hx:look e x=some v)(hy:look e y=some (I za))(hv:Sl w v el 1 n cs)(hb:n+k<=140737488355328):
  Yp P e ⟨d,.call ⟨.builtin .append,#[x,y],#[t,tn]⟩,ty,pos,aft,g⟩ w λv' w'=>Sl w' v' el 1 (n+k) (cs++(zeros k).map Rb)/\Kp (λk=>v.ownBlock=some k) w w'/\(∀g,v'.ownBlock=some g->v.ownBlock=some g\/w.heap.size<=g):=by
 obtain⟨rfl⟩:=s8
 have hl:(zeros k).length=k:=by simp[zeros]
 obtain⟨v',w',hr,h1,h2⟩:=z4s (P:=P) (ty:=ty) (s:=zeros k) ht hu hs hv (by rw[hl];exact hb)
 rw[hl] at h1
 have he:(Builtin.append_ #[t,tn] ty #[v,I (k:Int)]).run P w= .ok v' w':=by
  rw[<-hr];obtain⟨i,hi,oX,jK,qQ⟩:=hs;have hw:IntKind.i64.wrap (k:Int)=k:=by rw[IntKind.wrap_i64];omega
  have uh:¬((k:Int)<0):=by omega
  have Id:¬(281474976710656<(k:Int)*(i.bytes:Int)):=by rw[qQ];omega
  have hf:=λw=>Lib.run_firstCells_string (P:=P) w i.size ⟨(zeros k).toArray⟩;have cE:(ByteArray.mk (zeros k).toArray).size=k:=by rw[S6,hl]
  rw[cE] at hf
  obtain⟨a,c,Lw⟩:∃a c,v= .slice a n c:=by
   rcases hv.2 with⟨rfl,rfl⟩|⟨g,cap,cur,rfl,_⟩
   ·exact⟨_,_,rfl⟩
   ·exact⟨_,_,rfl⟩
  subst Lw;have ui:k=0->(Lib.strCells ⟨(zeros k).toArray⟩).toArray=#[]:=λe=>by subst e;rfl
  have Lx:c<=maxLen/\n<=c:=by
   rcases hv.2 with⟨h,h'⟩|⟨g,cap,cur,h,_,_,h1,h2,_⟩
   ·cases h;exact⟨by simp[maxLen],by omega⟩
   ·cases h;exact⟨h2,h1⟩
  have bM:n+k<=c\/¬(281474976710656<Builtin.nextslicecap (n+k) c*i.bytes):=by
   by_cases hr:n+k<=c
   ·exact .inl hr
   ·have:=growslice_fits (need:=n+k) (old:=c) (bytes:=i.bytes) (by omega) (by rw[qQ];omega);exact .inr (by omega)
  have EW:¬(9223372036854775807<((n:Int)+(k:Int))):=by omega
  by_cases hk:k=0
  ·subst hk;have e0:=ui O;have iU:n<=c:=Lx.2;have mP:IntKind.i64.wrap 0=0:=by rw[IntKind.wrap_i64];omega
   have fQ:=hf w;rw[jK,e0] at fQ;simp[Builtin.append_,run_underlying ht,run_underlying hn,run_underlying hu,sizeOf,typeInfo,zeroValue,hi,oX,jK,asInt,asIntOf,mP,Builtin.lenOf,cE,iU,fQ]
  ·have bB:=z32 k;have oz:∀w,(Builtin.firstCells 1 k (.string ⟨(zeros k).toArray⟩)).run P w= .ok (Builtin.zeroCells (Value.int .u8 0).cells k) w:=λw=>by rw[bB];have:=hf w;rw[jK] at this;exact this
   have fK:¬(k*i.size=0):=by rw[jK];omega
   by_cases hr:n+k<=c
   ·simp[Builtin.append_,run_underlying ht,run_underlying hn,run_underlying hu,sizeOf,typeInfo,zeroValue,hi,oX,jK,asInt,asIntOf,hw,uh,Id,Builtin.lenOf,cE,hr,oz,hk]
   ·have EX:=bM.resolve_left hr;simp[Builtin.append_,run_underlying ht,run_underlying hn,run_underlying hu,sizeOf,typeInfo,zeroValue,hi,oX,jK,asInt,asIntOf,hw,uh,Id,Builtin.lenOf,cE,hr,oz,hk,EW,EX]
 refine⟨v',w',fun ρ hρ=>?_,h1,h2⟩
 simp[execOp,resolve,invoke,builtin,hρ _ _ hx,hρ _ _ hy,he]
end
/-! ### Writers -/
def swC (s st len:Nat)(rest:Value)(at' n:Nat)(sum:Nat)(put:Value)(dn:Bool):List Value:=[ptr s 0,I (st:Int),I (len:Int),rest,I (at':Int),I (n:Int),U sum,put,.bool dn]
section
variable {w w':World}{Q:Qz}{txt:Int->NY}{K:Nat}{X:Nat->Prop}
theorem z2F (n:Nat)(hn:n<=2000000)(w:World):Oy prog 65 [I 512,I (n:Int)] w λv w'=>v= .tuple #[I (((n+523) / 512:Nat):Int),I 0]/\w'=w:=by
 refine NP (e:=[(0,_),(1,_)]) func65 O ntmps65 O O$ qN O$ Oc O$ NZ O$ py$ qN O$ NT O$ Py O O$ OR$ Od O O$ PD O O$ OR$ OU O O$ Od O O ?_
 refine qV (yre O O (by omega))$ Pz O O$ OR$ OU O O$ Od O O$ Py O O$ OR$ OU O O$ Od O O$ NT O$ qV (Xa O O (by omega))$ Qp O O$ PD O O$ OR ?_
 refine OU O O$ NU$ OD.qb (e:=[(0,_),(1,_),(4,_),(5,_),(27,_)]) ?_
 refine It O$ An$ qN O$ NT O$ P6 O O$ NT O$ P6 O O$ Qp O O$ NT O$ qV (UH O O (by omega))$ Oc O$ NZ O ?_
 rw[show((n:Int)+12+512-1) / 512=(((n+523) / 512:Nat):Int) by omega]
 refine NV func65 O ?_
 exact⟨_,rfl,rfl,rfl⟩
theorem YQ (h:Sp Q txt K X w){st len:Nat}(h1:1<=len)(h2:st+len<=Q.L.length):Oy prog 103 [.agg #[ptr Q.s 0,I (st:Int),I (len:Int)]] w λv w'=>v=I 0/\Ext w w':=by
 have en:=h.n
 refine NP (e:=[(0,_)]) func103 O ntmps103 O O$ qN O$ O5 O O (Qr O (cs:=[ptr Q.s 0,I (st:Int),I (len:Int)]) O) ?_
 rintro _ w1 ⟨b1,rfl,bK,ad,ai⟩
 have hP:=h.ext' ad
 have hg:=Ext.Ob w1
 have Ie:=(hP.ext' hg).dev
 have If:=(hP.ext' hg).blocks
 refine NZ O$ py$ NQ$ qN O$ Og TV O$ qV (O6 X7 O O ai O)$ qV (Pt X7 O O)$ NZ O$ It O$ py$ Qj (λw'=>Ext w1 w') O$ O0 0 O (OG Tc O) hg$ O0 1 O (OG Qh O) hg$ qT 2 O (λ_ h=>O6 U3 O O (h.NX ai) O) hg ?_
 refine O0 3 O (ZR O O) hg$ TH$ Oj 4 O O (hg)$ O0 5 O (OG Tc O) hg$ O0 6 O (OG Qc O) hg$ qT 7 O (λ_ h=>O6 U3 O O (h.NX ai) O) hg$ O0 8 O (ZR O O) hg$ TH$ O0 9 O (TA O O) hg$ Oj 10 O O (hg)$ O0 11 O (OG Tc O) hg$ O0 12 O (OG Qc O) hg$ qT 13 O (λ_ h=>O6 U3 O O (h.NX ai) O) hg$ O0 14 O (OG TV O) hg ?_
 refine qT 15 O (λ_ h=>O6 X7 O O (h.NX ai) O) hg$ RW 16 O zds O (Ie) ?_
 rintro _ w2 ⟨rfl,rfl⟩
 refine⟨hg,?_⟩
 refine RW 17 O z4x O (If) ?_
 rintro _ w2 ⟨rfl,rfl⟩
 refine⟨hg,?_⟩
 refine O0 18 O (yge O O) hg$ TH$ O0 19 O (TA O O) hg$ Oj 20 O O (hg)$ O0 21 O (OG Tc O) hg$ O0 22 O (OG Qh O) hg$ qT 23 O (λ_ h=>O6 U3 O O (h.NX ai) O) hg$ O0 24 O (OG TV O) hg$ qT 25 O (λ_ h=>O6 X7 O O (h.NX ai) O) hg$ O0 28 O (OG Tc O) hg$ O0 29 O (OG Qc O) hg$ qT 30 O (λ_ h=>O6 U3 O O (h.NX ai) O) hg$ RW 26 O zds O (Ie) ?_
 rintro _ w2 ⟨rfl,rfl⟩
 refine⟨hg,?_⟩
 refine RW 27 O z4x O (If) ?_
 rintro _ w2 ⟨rfl,rfl⟩
 refine⟨hg,?_⟩
 refine O0 31 O (Ww O O (by omega)) hg$ O0 32 O (Xq O O) hg$ TH$ O0 33 O (TA O O) hg$ O0 34 O (Qq O) hg$ qE$ OD.qb (e:=[(2,_),(7,_)]) ?_
 refine It O$ An$ NS$ qN O$ NZ O$ NV func103 O ?_
 exact⟨_,rfl,rfl,ad.trans hg⟩
theorem ZT (h:Sp Q txt K X w){st len:Nat}(h2:len<=100000):Oy prog 111 [.agg #[ptr Q.s 0,I (st:Int),I (len:Int)]] w λv w'=>v=I ((len:Int)*512-12)/\Ext w w':=by
 refine NP (e:=[(0,_)]) func111 O ntmps111 O O$ qN O$ O5 O O (Qr O (cs:=[ptr Q.s 0,I (st:Int),I (len:Int)]) O) ?_
 rintro _ w1 ⟨b1,rfl,bK,ad,ai⟩
 have hP:=h.ext' ad
 have hg:=Ext.Ob w1
 have Ly:=(hP.ext' hg).size
 refine NZ O$ py$ Qj (λw'=>Ext w1 w') O$ O0 0 O (OG Tc O) hg$ O0 1 O (OG Qh O) hg$ qT 2 O (λ_ h=>O6 U3 O O (h.NX ai) O) hg$ O0 3 O (OG TV O) hg$ qT 4 O (λ_ h=>O6 X7 O O (h.NX ai) O) hg$ RW 5 O z3a O (Ly) ?_
 rintro _ w2 ⟨rfl,rfl⟩
 refine⟨hg,?_⟩
 refine O0 6 O (Xa O O (by omega)) hg$ O0 7 O (Ww O O (by omega)) hg$ O0 8 O (Qq O) hg$ qE$ NV func111 O ?_
 exact⟨_,rfl,rfl,ad.trans hg⟩
theorem XU {wb s st len at' n sum:Nat}{rest put:Value}(hB:O9 w wb (swC s st len rest at' n sum put false) 200):Oy prog 106 [ptr wb 0] w λv w'=>v=I 0/\w'=w:=by
 replace hB:O9 w wb [ptr s 0,I (st:Int),I (len:Int),rest,I (at':Int),I (n:Int),U sum,put,.bool false] 200:=hB
 refine NP (e:=[(0,_)]) func106 O ntmps106 O O$ qN O$ NZ O$ py$ NQ$ qN O$ NT O$ qV (Pt z2q O O)$ NZ O$ It O$ qN O$ NT O$ OH O$ Og Xl O ?_
 refine qV (O6 U4 O O hB O)$ NZ O$ It O$ An$ NS$ qN O$ NZ O$ NV func106 O ?_
 exact⟨_,rfl,rfl,rfl⟩
theorem z2W (h:Sp Q txt K X w){wb st len at' n sum:Nat}{rest put:Value}(h2:len<=100000)(hn:n<=100000000)(hB:O9 w wb (swC Q.s st len rest at' n sum put false) 200):Oy prog 107 [ptr wb 0] w λv w'=>v=I ((len:Int)*512-12-(n:Int))/\Ext w w':=by
 replace hB:O9 w wb [ptr Q.s 0,I (st:Int),I (len:Int),rest,I (at':Int),I (n:Int),U sum,put,.bool false] 200:=hB
 have hg:=Ext.Ob w
 have Lz:=ZT (h.ext' hg) (st:=st) h2
 refine NP (e:=[(0,_)]) func107 O ntmps107 O O$ qN O$ NZ O$ py$ qN O$ NT O$ qV (Pt z2q O O)$ Od O O$ OH O$ Og Xl O$ qV (O6 U4 O O hB O)$ OU O O$ NU$ It O ?_
 refine An$ py$ Qj (λw'=>Ext w w') O$ Oj 0 O O (hg)$ O0 1 O (Pq O) hg$ O0 2 O (OG VT O) hg$ qT 3 O (λ_ h=>OE zcc O Wq O (O9.cells (n:=3) (h.NX hB) (news:=[_,_,_]) O) O) hg$ Oj 5 O O (hg)$ O0 6 O (Pq O) hg$ O0 7 O (OG Zt O) hg$ qT 8 O (λ_ h=>O6 U3 O O (h.NX hB) O) hg$ RW 4 O zem O (Lz) ?_
 rintro _ w2 ⟨rfl,ae⟩
 refine⟨(hg.trans ae),?_⟩
 refine O0 9 O (Ww O O (by omega)) ((hg.trans ae))$ O0 10 O (Qq O) ((hg.trans ae))$ qE$ NV func107 O ?_
 exact⟨_,rfl,rfl,hg.trans ae⟩
end
def ZV (bs bx bw:Nat):Value:= .func (.func 104) #[] #[ptr bs 0,ptr bx 0,ptr bw 0]
structure SwM (s st len wb bs bx bw:Nat)(rest:Value)(at' n sum:Nat)(w:World):Prop where
 wr:O9 w wb (swC s st len rest at' n sum (ZV bs bx bw) false) 200
 sb:O9 w bs [ptr s 0] 29
 xb:O9 w bx [I (st:Int),I (len:Int)] 119
 pb:O9 w bw [ptr wb 0] 145
 ne:bs≠wb/\bx≠wb/\bw≠wb
section
variable {w w':World}{Q:Qz}{txt:Int->NY}{K:Nat}{X S':Nat->Prop}{s st len wb bs bx bw at' n sum:Nat}{rest:Value}
theorem SwM.kp (h:SwM s st len wb bs bx bw rest at' n sum w)(hk:Kp S' w w')(h1:¬S' wb)(h2:¬S' bs)(h3:¬S' bx)(h4:¬S' bw):SwM s st len wb bs bx bw rest at' n sum w':=
 ⟨hk.NX h.wr h1,hk.NX h.sb h2,hk.NX h.xb h3,hk.NX h.pb h4,h.ne⟩
theorem SwM.ext (h:SwM s st len wb bs bx bw rest at' n sum w)(hx:Ext w w'):SwM s st len wb bs bx bw rest at' n sum w':=h.kp (S':=λ_=>False) hx id id id id
theorem SwM.re {rest2:Value}{at2 n2 sum2:Nat}(h:SwM s st len wb bs bx bw rest at' n sum w)(hk:Kp (λb=>b=wb) w w')(hB:O9 w' wb (swC s st len rest2 at2 n2 sum2 (ZV bs bx bw) false) 200):SwM s st len wb bs bx bw rest2 at2 n2 sum2 w':=
 ⟨hB,hk.NX h.sb h.ne.1,hk.NX h.xb h.ne.2.1,hk.NX h.pb h.ne.2.2,h.ne⟩
theorem SwM.cells (h:SwM s st len wb bs bx bw rest at' n sum w):O9 w wb [ptr s 0,I (st:Int),I (len:Int),rest,I (at':Int),I (n:Int),U sum,ZV bs bx bw,.bool false] 200:=h.wr
theorem Yl (hP:Sp Q txt K X w)(hX:∀b,X b->b<w.heap.size)(hK:K<1000000000000)(h:SwM Q.s st len wb bs bx bw rest at' n sum w)(aV:X wb/\X bs/\X bx/\X bw)(mB:st+at'<Q.L.length)(t:NY)(ht:t.length=512):
  Oy prog 104 [S t,ptr bs 0,ptr bx 0,ptr bw 0] w λv w'=>v=I 0/\Sp Q (YB txt ((st+at':Nat):Int) (some t)) (K+1) X w'/\SwM Q.s st len wb bs bx bw rest (at'+1) n sum w'/\Kp (λb=>¬X b\/b=wb) w w':=by
 have en:=hP.n
 have kz:=h.sb
 have j0:=h.xb
 have mc:=h.pb
 have hB:=h.cells
 have hg:=Ext.Ob w
 refine NP (e:=[(0,_),(1,_),(2,_),(3,_)]) func104 O ntmps104 O O$ qN O$ NZ O$ py$ Qj (λw'=>Kp (λb=>¬X b) w w') O$ qT 0 O (λ_ hS=>(O6 X7 O O (hS.NX kz (λe=>e aV.2.1)) O)) (hg.kp)$ O0 1 O (OG Qc O) (hg.kp)$ qT 2 O (λ_ hS=>(O6 U3 O O (hS.NX j0 (λe=>e aV.2.2.1)) O)) (hg.kp)$ qT 3 O (λ_ hS=>(O6 z2q O O (hS.NX mc (λe=>e aV.2.2.2)) O)) (hg.kp)$ O0 4 O (Pq O) (hg.kp)$ O0 5 O (OG XQ O) (hg.kp)$ qT 6 O (λ_ hS=>(O6 U3 O O (hS.NX hB (λe=>e aV.1)) O)) (hg.kp)$ O0 7 O (TK O O (by omega)) (hg.kp)$ Oj 8 O O (hg.kp) ?_
 rw[show(st:Int)+(at':Int)=((st+at':Nat):Int) by omega]
 refine RW 9 O zbA O ((hP.ext' hg).write (λb hb=>by have:=hX b hb;have:=hg.size;omega) hK (no:=((st+at':Nat):Int)) (by omega) (by omega) t ht) ?_
 rintro _ w1 ⟨rfl,jJ,aK⟩
 refine⟨hg.kp.trans aK,?_⟩
 have iI:Kp (λb=>¬X b) w w1:=hg.kp.trans aK
 have h1:=h.kp iI (λe=>e aV.1) (λe=>e aV.2.1) (λe=>e aV.2.2.1) (λe=>e aV.2.2.2)
 have ai:=h1.cells
 have EY:=h1.pb
 have iH:∀b,X b->b<w1.heap.size:=λb hb=>by have:=hX b hb;have:=iI.size;omega
 refine O0 10 O (Qq O) (hg.kp.trans aK)$ qE$ qN O$ qV ((O6 z2q O O EY O))$ OH O$ Og XQ O$ qV ((O6 U3 O O ai O))$ P6 O O$ OH O$ Og XQ O$ Oe O (PV Pb O O O ai (by simp)) ?_
 rintro w2 ⟨am,aq⟩
 have ez:O9 w2 wb (swC Q.s st len rest (at'+1) n sum (ZV bs bx bw) false) 200:=am
 have h2:=h1.re aq ez
 have zE:=h2.cells
 have zF:=h2.pb
 have aa:=Ext.Ob w2
 have ft:=jJ.own aq (λb e=>by rw[e];exact aV.1)
 refine NU$ py$ Oo [11] (λw'=>Ext w2 w') (by kernel_rfl) O$ qL 0 O (λ_ h=>(O6 z2q O O (h.NX zF) O)) aa$ qL 1 O (λ_ h=>(O6 z2q O O (h.NX zF) O)) aa$ Ot 2 O (Pq O) aa$ Ot 3 O (OG Xl O) aa$ qL 4 O (λ_ h=>(O6 U4 O O (h.NX zE) O)) aa$ OW 5 O O (aa)$ OW 6 O O (aa)$ Ot 7 O (yne O O) aa$ Ot 8 O (TA O O) aa$ Ot 9 O (Pq O) aa$ Ot 10 O (OG Xl O) aa ?_
 refine S8 [11] ?_
 have au:=aa.NX zE
 refine qO 11$ OP (i:=11) O O (PV Vg O O O au (by simp)) ?_
 rintro w3 ⟨nL,aw⟩
 refine⟨trivial,?_⟩
 refine qE$ OD.qb (e:=[(5,_),(6,_)]) ?_
 refine qN O$ NT O$ NZ O$ NV func104 O ?_
 have h3:=(h2.ext aa).re aw (show O9 w3 wb (swC Q.s st len rest (at'+1) n sum (ZV bs bx bw) false) 200 from nL)
 exact⟨_,rfl,rfl,(ft.ext' aa).own aw (λb e=>by rw[e];exact aV.1),h3,((iI.Of λb e=> .inl e).trans (aq.Of λb e=> .inr e)).trans (aa.kp.trans (aw.Of λb e=> .inr e))⟩
end
section
variable {P:Program}{e:Env}{d:Option Nat}{ty t t' el:TypeId}{pos:String}{aft:Array Edge}{g:Option (Nat×Bool)}{x:Operand}{w:World}{l:NY}{v:Value}
theorem zeZ (hs:P.underlying t=some (.slice el))(he:P.underlying el=some (.int .u8))(hd:P.underlying t'=some .string)(hx:look e x=some v)(hr:Rd w v 1 l.length (l.map Rb))(hl:0<l.length):
  Y P e ⟨d,.convert t t' x,ty,pos,aft,g⟩ (S l) w w:=fun ρ hρ=>by
 rcases hr.2 with⟨⟨ca,c⟩,hv,h0⟩|⟨b,off,cap,hv,hc⟩
 ·omega
 ·subst hv;have hr:=run_convert_bytes_back (P:=P) w t t' el ⟨b,off,none⟩ cap l hs he hd (λj hj=>by rw[Qv];exact hc j _ (by simp[hj,Rb]));simp[execOp,hρ _ _ hx,hr]
end
section
variable {w w':World}{Q:Qz}{txt:Int->NY}{K:Nat}{X S':Nat->Prop}{s st len wb bs bx bw at' n sum:Nat}{rest:Value}
theorem z2d (hP:Sp Q txt K X w){st len:Nat}(h1:1<=len)(h2:st+len<=Q.L.length):
  Oy prog 68 [ptr Q.s 0,.agg #[I (st:Int),I (len:Int)]] w λv w'=>∃wb bs bx bw sum,v= .tuple #[ptr wb 0,I 0]/\sum<4294967296/\SwM Q.s st len wb bs bx bw (.slice none 0 0) 0 0 sum w'/\(w.heap.size<=wb/\w.heap.size<=bs/\w.heap.size<=bx/\w.heap.size<=bw)/\Ext w w':=by
 have ve:Sums.crc []<4294967296:=Sums.zeR _
 obtain⟨c0,uj⟩:∃c0,Sums.crc []=c0:=⟨_,rfl⟩
 rw[uj] at ve
 refine NP (e:=[(0,_),(1,_)]) func68 O ntmps68 O O$ qN O$ O5 O O (Qr O (cs:=[ptr Q.s 0]) O) ?_
 rintro _ w1 ⟨bs,rfl,tK,ad,kz⟩
 refine O5 O O (Qr O (cs:=[I (st:Int),I (len:Int)]) O) ?_
 rintro _ w2 ⟨bx,rfl,fI,ae,j0⟩
 have i6:=ae.NX kz
 have LA:=hP.ext' (ad.trans ae)
 have aj:=Ext.Ob w2
 have bB:=aj.size
 refine Oc O$ NZ O$ py$ OX (λe' w'=>∃wb bw,e'=[(2,ptr bs 0),(3,ptr bx 0),(6,ptr bw 0)]/\O9 w' wb [ptr Q.s 0,I (st:Int),I (len:Int),.slice none 0 0,I 0,I 0,U c0,.nilFunc,.bool false] 200/\O9 w' bw [ptr wb 0] 145/\Ext w2 w'/\w2.heap.size<=wb/\w2.heap.size<=bw/\wb≠bw) ?cF$ λcF=>?cR
 case cF=>
  rintro e' w3 ⟨wb,bw,rfl,au,kk,ah,nD,EZ,bP⟩;have lbs:=kz.lt;have lbx:=j0.lt;have ee:=ae.size;have eN:=LA.ext' ah;refine py$ qN O$ qV ((O6 z2q O O kk O))$ OH O$ Og VT O$ qV ((OE zcc O Wq O (O9.cells (n:=3) au (news:=[_,_,_]) O) O))$ Om ze8 O (YQ eN h1 h2) ?_;rintro _ w4 ⟨rfl,az⟩;have lT:=az.NX kk;have aI:=az.NX au;refine Oc O$ qM O$ NT O$ Pz O O$ NU$ It O$ An$ qN O$ qV ((O6 z2q O O lT O))$ qV (ymf (first:=[]) (caps:=[.tmp 2,.tmp 3,.tmp 6]) O O)$ OH O$ Og ZB O$ Oe O (PV zeL O O O aI (by simp)) ?_;rintro w5 ⟨aG,ak⟩;have B1:=ak.NX lT (λe=>bP e.symm);refine qM O$ qV (O6 z2q O O B1 O)$ Oc O$ NZ O$ NV func68 O ?_;have iA:Ext w2 w5:=(ah.trans az).NR ak (λj e=>by omega);refine⟨_,rfl,wb,bs,bx,bw,c0,rfl,ve,⟨aG,iA.NX i6,iA.NX j0,B1,⟨by omega,by omega,λe=>bP e.symm⟩⟩,⟨by omega,by omega,by omega,by omega⟩,(ad.trans ae).trans iA⟩
 case cR=>
 refine Oo [7] (λw'=>Ext w2 w') (by kernel_rfl) O$ qL 0 O (λ_ h=>(O6 X7 O O (h.NX i6) O)) aj$ qL 1 O (λ_ hS=>(OE Wj O Qf O (O9.cells (n:=2) (hS.NX j0) (news:=[_,_]) O) O)) aj$ Ot 2 O (Rt (cs:=[_,_,_]) Wq O zej O O) aj$ WD (i:=3) (j:=6) (by kernel_rfl) ?_ ?_
 ·refine QQ (i:=3) O O O (yc (args:=[.const (Value.string (⟨#[]⟩))]) zdm O) (z6B [] _ (by simp)) ?_;rintro _ w3 ⟨rfl,ah⟩;refine⟨aj.trans ah,?_⟩;rw[uj];have aj:=aj.trans ah
  try have aO:=ah.NX aO
  have bB:=Nat.le_trans bB ah.size;refine Ot 4 O (Rt (cs:=[_,_,_,_,_,_,_,_,_]) zdO O zdU O O) aj$ WD (i:=5) (j:=6) (by kernel_rfl) ?_ ?_
  ·refine PC (i:=5) O O O (Qr O (cs:=[ptr Q.s 0,I (st:Int),I (len:Int),.slice none 0 0,I 0,I 0,U c0,.nilFunc,.bool false]) O) ?_;rintro _ w5 ⟨wb,rfl,nD,aR,aG⟩;refine⟨aj.trans aR,?_⟩;have aj:=aj.trans aR
   try have aO:=aR.NX aO
   have tf:w2.heap.size<=wb:=by omega
   have bB:=Nat.le_trans bB aR.size;refine Qg (i:=6) (by kernel_rfl)$ PC (i:=6) O O O (QU (cs:=[_]) z1M O) ?_;rintro _ w6 ⟨bw,rfl,EZ,aH,aO⟩;refine⟨aj.trans aH,?_⟩;have aj:=aj.trans aH
   try have aG:=aH.NX aG
   have zH:w2.heap.size<=bw:=by omega
   have bB:=Nat.le_trans bB aH.size;refine S8 [7]$ qO 7$ OP (i:=7) O O (PV z1M O O O aO (by simp)) ?_;rintro w7 ⟨bN,aD⟩;refine⟨trivial,?_⟩;refine qE ?_;replace bN:O9 w7 bw [ptr wb 0] 145:=bN
   have jt:wb≠bw:=by
    intro e;have h5:=aG;rw[e] at h5;obtain⟨fz,h5,-⟩:=h5;obtain⟨fz6,h6,-⟩:=aO;rw[h5] at h6;cases h6
   have jT:=aD.NX aG jt;exact(cF _ _ ⟨wb,bw,rfl,jT,bN,aj.NR aD (λj e=>by omega),tf,zH,jt⟩).qb
  ·refine PC (i:=6) O O O (QU (cs:=[_]) z1M O) ?_;rintro _ w6 ⟨bw,rfl,EZ,aH,aO⟩;refine⟨aj.trans aH,?_⟩;have aj:=aj.trans aH
   try have aG:=aH.NX aG
   have zH:w2.heap.size<=bw:=by omega
   have bB:=Nat.le_trans bB aH.size;refine Qg (i:=5) (by kernel_rfl)$ PC (i:=5) O O O (Qr O (cs:=[ptr Q.s 0,I (st:Int),I (len:Int),.slice none 0 0,I 0,I 0,U c0,.nilFunc,.bool false]) O) ?_;rintro _ w5 ⟨wb,rfl,nD,aR,aG⟩;refine⟨aj.trans aR,?_⟩;have aj:=aj.trans aR
   try have aO:=aR.NX aO
   have tf:w2.heap.size<=wb:=by omega
   have bB:=Nat.le_trans bB aR.size;refine S8 [7]$ qO 7$ OP (i:=7) O O (PV z1M O O O aO (by simp)) ?_;rintro w7 ⟨bN,aD⟩;refine⟨trivial,?_⟩;refine qE ?_;replace bN:O9 w7 bw [ptr wb 0] 145:=bN
   have jt:wb≠bw:=by
    intro e;have h5:=aG;rw[e] at h5;obtain⟨fz,h5,-⟩:=h5;obtain⟨fz6,h6,-⟩:=aO;rw[h5] at h6;cases h6
   have jT:=aD.NX aG jt;exact(cF _ _ ⟨wb,bw,rfl,jT,bN,aj.NR aD (λj e=>by omega),tf,zH,jt⟩).qb
 ·refine PC (i:=6) O O O (QU (cs:=[_]) z1M O) ?_;rintro _ w6 ⟨bw,rfl,EZ,aH,aO⟩;refine⟨aj.trans aH,?_⟩;have aj:=aj.trans aH
  try have aG:=aH.NX aG
  have zH:w2.heap.size<=bw:=by omega
  have bB:=Nat.le_trans bB aH.size;refine Qg (i:=3) (by kernel_rfl)$ QQ (i:=3) O O O (yc (args:=[.const (Value.string (⟨#[]⟩))]) zdm O) (z6B [] _ (by simp)) ?_;rintro _ w3 ⟨rfl,ah⟩;refine⟨aj.trans ah,?_⟩;rw[uj];have aj:=aj.trans ah
  try have aO:=ah.NX aO
  have bB:=Nat.le_trans bB ah.size;refine Ot 4 O (Rt (cs:=[_,_,_,_,_,_,_,_,_]) zdO O zdU O O) aj$ Qg (i:=5) (by kernel_rfl)$ PC (i:=5) O O O (Qr O (cs:=[ptr Q.s 0,I (st:Int),I (len:Int),.slice none 0 0,I 0,I 0,U c0,.nilFunc,.bool false]) O) ?_;rintro _ w5 ⟨wb,rfl,nD,aR,aG⟩;refine⟨aj.trans aR,?_⟩;have aj:=aj.trans aR
  try have aO:=aR.NX aO
  have tf:w2.heap.size<=wb:=by omega
  have bB:=Nat.le_trans bB aR.size;refine S8 [7]$ qO 7$ OP (i:=7) O O (PV z1M O O O aO (by simp)) ?_;rintro w7 ⟨bN,aD⟩;refine⟨trivial,?_⟩;refine qE ?_;replace bN:O9 w7 bw [ptr wb 0] 145:=bN
  have jt:wb≠bw:=by
   intro e;have h5:=aG;rw[e] at h5;obtain⟨fz,h5,-⟩:=h5;obtain⟨fz6,h6,-⟩:=aO;rw[h5] at h6;cases h6
  have jT:=aD.NX aG jt;exact(cF _ _ ⟨wb,bw,rfl,jT,bN,aj.NR aD (λj e=>by omega),tf,zH,jt⟩).qb
end
section
variable {w w':World}{Q:Qz}{txt:Int->NY}{K:Nat}{X S':Nat->Prop}{st len wb bs bx bw at' n sum:Nat}{rest:Value}{T:NY}
theorem z8Y (T:NY)(k:Nat):((T.drop (512*k)).map Rb).drop 512=(T.drop (512*(k+1))).map Rb:=by
 rw[<-List.map_drop,List.drop_drop]
 congr 2
def SwI (Q:Qz)(txt:Int->NY)(K:Nat)(X:Nat->Prop)(st len wb bs bx bw:Nat)(T:NY)(sum:Nat)(w:World)(k:Nat)(w':World):Prop:=
 ∃txt' rest,Sp Q txt' (K+k) (λb=>X b\/rest.ownBlock=some b) w'/\SwM Q.s st len wb bs bx bw rest k T.length sum w'/\Sl w' rest 5 1 (T.length-512*k) ((T.drop (512*k)).map Rb)/\(∀j,j<k->txt' ((st+j:Nat):Int)=(T.drop (512*j)).take 512)/\(∀y:Int,y<(st:Int)\/(st:Int)+(k:Int)<=y->txt' y=txt y)/\Kp (λb=>¬X b\/b=wb) w w'/\(∀b,rest.ownBlock=some b->w.heap.size<=b)
theorem z33 (hP:Sp Q txt K X w)(hX:∀b,X b->b<w.heap.size)(hK:K<=100000000000)(h:SwM Q.s st len wb bs bx bw (.slice none 0 0) 0 0 sum w)(g8:sum<4294967296)(aV:X wb/\X bs/\X bx/\X bw)(bM:st+len<=Q.L.length)(h1:1<=len)(hT:T.length<=len*512-12):
  Oy prog 69 [ptr wb 0,S T] w λv w'=>v=I 0/\∃sum',sum'<4294967296/\SwI Q txt K X st len wb bs bx bw T sum' w (T.length / 512) w':=by
 have dF:maxLen=9223372036854775807:=rfl
 have en:=hP.n
 refine NP (e:=[(0,_),(1,_)]) func69 O ntmps69 O O$ qN O$ NZ O$ py$ qN O$ NT O$ Om zel O (XU h.wr) ?_
 rintro _ w ⟨rfl,rfl⟩
 refine Oc O$ qM O$ NT O$ Pz O O$ NU$ It O$ An$ py$ qN O$ NT O$ qV (Sr U9 O)$ NT O$ Om zgn O (z2W hP (by omega) (by omega) h.wr) ?_
 rintro _ w1 ⟨rfl,ad⟩
 have jJ:=hP.ext' ad
 have dm:=h.ext ad
 have ai:=dm.cells
 refine PD O O$ OR$ NU$ It O$ An$ qN O$ NT O$ OH O$ Og Zt O$ qV (O6 U3 O O ai O)$ NT O$ qV (Sr U9 O)$ P6 O O$ OH O ?_
 refine Og Zt O ?_
 rw[show((0:Nat):Int)+(T.length:Int)=(T.length:Int) by omega]
 refine Oe O (PV Pb O O O ai (by simp)) ?_
 rintro w2 ⟨am,aq⟩
 have dc:=dm.re aq (show O9 w2 wb (swC Q.s st len (.slice none 0 0) 0 T.length sum (ZV bs bx bw) false) 200 from am)
 have ft:=jJ.own aq (λb e=>by rw[e];exact aV.1)
 have ez:=dc.cells
 refine qM O$ Od O O$ OH O$ Og z2i O$ qV (O6 OJ O O ez O)$ NT O$ Om zed O (zbv sum T _ g8 (by omega)) ?_
 rintro _ w3 ⟨rfl,ah⟩
 have rQ:=Sums.ze3 T g8
 obtain⟨sum3,iO⟩:∃sum3,Sums.on sum T=sum3:=⟨_,rfl⟩
 rw[iO] at rQ⊢
 have oK:=dc.ext ah
 have au:=oK.cells
 refine OH O$ Og z2i O$ Oe O (PV O7 O O O au (by simp)) ?_
 rintro w4 ⟨aI,ao⟩
 have vg:=oK.re ao (show O9 w4 wb (swC Q.s st len (.slice none 0 0) 0 T.length sum3 (ZV bs bx bw) false) 200 from aI)
 have iW:=(ft.ext' ah).own ao (λb e=>by rw[e];exact aV.1)
 have fj:=vg.cells
 refine NU$ OD.qb (e:=[(0,_),(1,_),(4,_)]) ?_
 refine qN O$ Od O O$ OH O$ Og S0 O$ qV (O6 Pc O O fj O)$ NT O$ O5 O O (zfs Pc U9 Us O O (Sl.nil w4 _ 1) (by omega)) ?_
 rintro v5 w5 ⟨dH,ak,na⟩
 simp only[List.nil_append,Nat.zero_add] at dH
 replace ak:Ext w4 w5:=ak.Of (λb e=>by cases e)
 have uk:∀b,v5.ownBlock=some b->w4.heap.size<=b:=λb e=>(na b e).elim (λe=>by cases e) id
 obtain⟨a5,c5,rfl,-⟩:=dH.rd.shape
 have oC:=vg.ext ak
 have aG:=oC.cells
 have bO:Kp (λb=>¬X b\/b=wb) w w5:=(((ad.kp.trans (aq.Of λb e=> .inr e)).trans ah.kp).trans (ao.Of λb e=> .inr e)).trans ak.kp
 have z4:w.heap.size<=w4.heap.size:=by have:=ad.size;have:=aq.size;have:=ah.size;have:=ao.size;omega
 have lwb:=aG.lt
 have lwb0:=hX _ aV.1
 refine OH O$ Og S0 O$ Oe O (PV Va O O O aG (by simp)) ?_
 rintro w6 ⟨aO,aP⟩
 have Ew:=oC.re aP (show O9 w6 wb (swC Q.s st len (.slice a5 T.length c5) 0 T.length sum3 (ZV bs bx bw) false) 200 from aO)
 have ik:Sp Q txt K (λb=>X b\/(Value.slice a5 T.length c5).ownBlock=some b) w6:=(iW.ext ak (λb e=>e.imp id (uk b))).own aP (λb e=> .inl (by rw[e];exact aV.1))
 have ev:=dH.kp aP (λb hb e=>by have:=uk b hb;omega)
 have mL:=Ew.cells
 have iD:=bO.trans (aP.Of λb e=>Or.inr e)
 refine qM O$ NT O$ OH O$ Og VT O$ Og TV O$ qV (O6 X7 O O mL O)$ Om z3a O (ik.size) ?_
 rintro _ w6 ⟨rfl,rfl⟩
 refine NZ O$ py$ NQ$ Qm (α:=Nat) (0) (λk=>[(0,ptr wb 0),(6,I 512)]) (λk w'=>k<=T.length / 512/\SwI Q txt K X st len wb bs bx bw T sum3 w k w') (λk=>T.length / 512-k) ?hI ?hround
 case hI=>exact⟨Nat.zero_le _,txt,_,ik,Ew,ev,λj hj=>by omega,λy hy=>rfl,iD,λb hb=>by have:=uk b hb;omega⟩
 case hround=>
  rintro k w8 ⟨hk,txt1,rest,mv,xc,dX,iY,Ig,aS,kL⟩ ih;obtain⟨a8,c8,rfl,-⟩:=dX.rd.shape;have cn:=xc.cells;have Hp:=aS.size
  try dsimp only
  refine py$ qN O$ NT O$ OH O$ Og S0 O$ qV (O6 Pc O O cn O)$ Qx Pc O$ NT O$ SB O O$ NU$ O8 O (λh0=>?_)$ λh0=>?_
  ·have LB:512*k+512<=T.length:=by omega
   rcases dX.shape with⟨e,rG⟩|⟨gb,cc,e,EH⟩
   ·omega
   cases e;have KN:=kL gb O;have hg:=Ext.Ob w8;have eO:((T.drop (512*k)).take 512).length=512:=by rw[List.length_take,List.length_drop];omega
   have F0:Rd w8 (.slice (some ⟨gb,0,none⟩) 512 c8) 1 ((T.drop (512*k)).take 512).length (((T.drop (512*k)).take 512).map Rb):=by
    rw[eO,List.map_take];exact Sk dX.rd (by omega)
   have LC:∀b,(X b\/(Value.slice (some ⟨gb,0,none⟩) (T.length-512*k) c8).ownBlock=some b)->b<w8.heap.size:=λb hb=>by
    rcases hb with e| e
    ·have:=hX b e;omega
    ·exact dX.lt e
   refine An$ NQ$ py$ py$ Oo [11,12] (λw'=>Ext w8 w') (by kernel_rfl) O$ OW 0 O O (hg)$ Ot 1 O (Pq O) hg$ Ot 2 O (OG ZB O) hg$ qL 3 O (λ_ h=>O6 U60 O O (h.NX cn) O) hg$ OW 4 O O (hg)$ Ot 5 O (Pq O) hg$ Ot 6 O (OG S0 O) hg$ qL 7 O (λ_ h=>O6 Pc O O (h.NX cn) O) hg$ OW 8 O O (hg) ?_;refine Ot 9 O (zaF Pc Us O O (by omega)) hg$ qL 10 O (λ_ hS=>zeZ (l:=(T.drop (512*k)).take 512) Pc U5 U9 O (F0.ext hS) (by omega)) hg$ S8 [11]$ qO 11$ Vb (i:=11) O O O (R0 zaa O O) (Yl (mv.ext' hg) (λb hb=>by have:=LC b hb;have:=hg.size;omega) (by omega) (xc.ext hg) ⟨.inl aV.1,.inl aV.2.1,.inl aV.2.2.1,.inl aV.2.2.2⟩ (by omega) ((T.drop (512*k)).take 512) eO) ?_;rintro _ w9 ⟨rfl,vL,Bf,aL⟩;refine⟨trivial,?_⟩;refine O0 12 O (Qq O) trivial$ qE$ qN O$ NT O$ Pz O O ?_;have cL:=Bf.cells;have ul:=hg.kp.trans aL
   have wo:=dX.kp ul (λb hb e=>by
    rcases e with e| e
    ·exact e (.inr hb)
    ·have e1:gb=b:=PJ hb
     omega)
   have Hq:=ul.size;refine NU$ It O$ An$ NW O$ Od O O$ OH O$ Og S0 O$ qV (O6 Pc O O cL O)$ NT O$ qV (WL Pc Us O O (by omega) (by omega))$ O5 O O (pap Pc Us O (by decide) O O (Sl.nil w9 _ 1) (RF (i:=512) wo.rd (by omega) (by omega)) (λc hc=>by obtain⟨z,-,rfl⟩:=List.mem_map.1 (List.mem_of_mem_drop hc);rfl) (by omega) (by omega)) ?_;rintro v10 w10 ⟨bz,ar,bj,-⟩;rw[List.nil_append,z8Y,Nat.zero_add,show T.length-512*k-512=T.length-512*(k+1) by omega] at bz;replace ar:Ext w9 w10:=ar.Of (λb e=>by cases e);have nY:∀b,v10.ownBlock=some b->w9.heap.size<=b:=λb e=>(bj b e).elim (λe=>by cases e) id;obtain⟨a10,c10,rfl,-⟩:=bz.rd.shape;have zI:=Bf.ext ar;have dr:=zI.cells;refine OH O$ Og S0 O$ Oe O (PV Va O O O dr (by simp)) ?_;rintro w11 ⟨aX,aY⟩;have F9:=zI.re aY (show O9 w11 wb (swC Q.s st len (.slice a10 (T.length-512*(k+1)) c10) (k+1) T.length sum3 (ZV bs bx bw) false) 200 from aX);have Fa:Sp Q (YB txt1 ((st+k:Nat):Int) (some ((T.drop (512*k)).take 512))) (K+k+1) (λb=>X b\/(Value.slice a10 (T.length-512*(k+1)) c10).ownBlock=some b) w11:=(vL.ext ar (λb e=>e.elim (λe=> .inl (.inl e)) (λe=> .inr (nY b e)))).own aY (λb e=> .inl (by rw[e];exact aV.1));have sH:=bz.kp aY (λb hb e=>by have:=nY b hb;omega);refine NU$ NS ((ih (k+1) w11 ⟨by omega,_,_,Fa,F9,sH,λj hj=>?_,λy hy=>?_,?_,λb hb=>by have:=nY b hb;omega⟩ (by omega)).qb)
   ·by_cases e:j=k
    ·subst e;exact Ri _ _ _
    ·rw[QB _ _ (by omega)];exact iY j (by omega)
   ·rw[QB _ _ (by omega)];exact Ig y (by omega)
   ·refine(aS.NR ul λb e=>?_).trans (ar.kp.trans (aY.Of λb e=> .inr e));rcases e with e| e
    ·by_cases hb:X b
     ·exact absurd (.inl hb) e
     ·exact .inr (.inl hb)
    ·exact .inr (.inr e)
  ·have LD:k=T.length / 512:=by omega
   subst LD;refine O4 O$ qN O$ NZ O$ NV func69 O ?_;exact⟨_,rfl,rfl,sum3,rQ,txt1,_,mv,xc,dX,iY,Ig,aS,kL⟩
end
section
variable {w w':World}{Q:Qz}{txt:Int->NY}{K:Nat}{X S':Nat->Prop}{st len wb bs bx bw at' n sum:Nat}{rest:Value}{T:NY}
def Ws (n sum:Nat):NY:=To 8 n++To 4 sum
theorem z2H (n sum:Nat):(Ws n sum).length=12:=by simp[Ws,Ph]
theorem z3M (hP:Sp Q txt K (λb=>X b\/rest.ownBlock=some b) w)(hX:∀b,X b->b<w.heap.size)(hK:K<=200000000000)(h:SwM Q.s st len wb bs bx bw rest (T.length / 512) T.length sum w)(g8:sum<4294967296)(aV:X wb/\X bs/\X bx/\X bw)(bM:st+len<=Q.L.length)(aF:len=(T.length+523) / 512)
  (hS:Sl w rest 5 1 (T.length%512) ((T.drop (512*(T.length / 512))).map Rb)) (bP:∀b,rest.ownBlock=some b->¬X b) (iY:∀j,j<T.length / 512->txt ((st+j:Nat):Int)=(T.drop (512*j)).take 512):
  Oy prog 70 [ptr wb 0] w λv w'=>v=I 0/\∃txt',Sp Q txt' (K+2) X w'/\(∀j,512*j<T.length->∃z,txt' ((st+j:Nat):Int)=(T.drop (512*j)).take 512++z)/\(∃z,txt' ((st+(len-1):Nat):Int)=z++Ws T.length sum/\z.length=500)/\(∀y:Int,y<(st:Int)\/(st:Int)+(len:Int)<=y->txt' y=txt y)/\Kp (λb=>¬X b\/b=wb) w w':=by
 have dF:maxLen=9223372036854775807:=rfl
 have en:=hP.n
 obtain⟨a0,c0,rfl,-⟩:=hS.rd.shape
 have hB:=h.cells
 have LE:∀b,(Value.slice a0 (T.length%512) c0).ownBlock=some b->b<w.heap.size:=λb hb=>hS.lt hb
 have hg:=Ext.Ob w
 refine NP (e:=[(0,_)]) func70 O ntmps70 O O$ qN O$ NZ O$ py$ qN O$ NT O$ Om zel O (XU h.wr) ?_
 rintro _ w ⟨rfl,rfl⟩
 refine Oc O$ qM O$ NT O$ Pz O O$ NU$ It O$ An$ qN O$ NT O$ OH O$ Og VT O$ Og TV O$ qV (O6 X7 O O hB O)$ Om z3a O (hP.size) ?_
 rintro _ w ⟨rfl,rfl⟩
 refine NZ O$ py$ py$ OX (λe' w'=>∃q,e'=[(0,ptr wb 0),(4,I 512),(38,.bool q)]/\(q=true↔T.length / 512<len-1)/\Ext w w') ?dV$ λdV=>?fU
 case dV=>
  rintro e' w1 ⟨q,rfl,hq,ad⟩;have jJ:=hP.ext' ad;have h1:=h.ext ad;have j3:=hS.ext ad;have ai:=h1.cells;have il:=ad.size;refine OX (λe' w'=>e'=[(0,ptr wb 0),(4,I 512)]/\∃txt1 rest1 at1 l,Sp Q txt1 (K+1) (λb=>X b\/rest1.ownBlock=some b) w'/\SwM Q.s st len wb bs bx bw rest1 at1 T.length sum w'/\Sl w' rest1 5 1 l.length (l.map Rb)/\l.length<=500/\(∀b,rest1.ownBlock=some b->¬X b)/\l=T.drop (512*(len-1))/\(∀j,j<len-1->512*j<T.length->∃z,txt1 ((st+j:Nat):Int)=(T.drop (512*j)).take 512++z)/\(∀y:Int,y<(st:Int)\/(st:Int)+(len:Int)<=y->txt1 y=txt y)/\Kp (λb=>¬X b\/b=wb) w w') ?av$ λav=>?dW
  case av=>
   rintro e' w2 ⟨rfl,txt1,rest1,at1,l,ft,h2,cA,HD,fR,hl,Fb,Fc,aq⟩;obtain⟨a2,c2,rfl,-⟩:=cA.rd.shape;have am:=h2.cells;have aa:=Ext.Ob w2;have mI:=aq.size;refine py$ Qj (λw'=>Kp (λb=>(Value.slice a2 l.length c2).ownBlock=some b) w2 w') O$ Oj 0 O O (aa.kp)$ O0 1 O (Pq O) (aa.kp)$ O0 2 O (OG S0 O) (aa.kp)$ qT 3 O (λ_ h=>O6 Pc O O (h.NX am (λe=>fR _ e aV.1)) O) (aa.kp)$ Oj 4 O O (aa.kp)$ O0 5 O (Ww O O (by omega)) (aa.kp)$ Oj 6 O O (aa.kp)$ O0 7 O (Pq O) (aa.kp)$ O0 8 O (OG S0 O) (aa.kp)$ qT 9 O (λ_ h=>O6 Pc O O (h.NX am (λe=>fR _ e aV.1)) O) (aa.kp)$ O0 10 O (RJ Pc O) (aa.kp)$ O0 11 O (Ww O O (by omega)) (aa.kp) ?_;rw[show(512:Int)-12-(l.length:Int)=((500-l.length:Nat):Int) by omega];refine qO 12$ R3 (i:=12) O O O (zha Pc U3 U9 Us O O (cA.ext aa) (by omega)) ?_;rintro v3 w3 ⟨cj,aw,nq⟩;refine⟨aa.kp.trans aw,?_⟩;have zJ:l.length+(500-l.length)=500:=by omega
   rw[zJ,<-List.map_append] at cj;obtain⟨a3,c3,rfl,-⟩:=cj.rd.shape;have dD:=aa.kp.trans aw
   have eX:∀b,(Value.slice a3 500 c3).ownBlock=some b->¬X b:=λb hb e=>by
    rcases nq b hb with e2|e2
    ·exact fR b e2 e
    ·have:=hX b e;have:=aa.size;omega
   have eN:Sp Q txt1 (K+1) (λb=>X b\/(Value.slice a3 500 c3).ownBlock=some b) w3:=ft.step dD (λb e=> .inr e) (λb e=>e.elim (λe=> .inl (.inl e)) (λe=>(nq b e).imp .inr (λe=>by have:=aa.size;omega)));have h3:=h2.kp dD (λe=>fR _ e aV.1) (λe=>fR _ e aV.2.1) (λe=>fR _ e aV.2.2.1) (λe=>fR _ e aV.2.2.2);have au:=h3.cells;have ct:Kp (λb=>¬X b\/b=wb) w w3:=aq.NR dD (λb e=> .inr (.inl (fR b e)));refine O0 13 O (Qq O) (aa.kp.trans aw)$ qE$ qN O$ Od O O$ OH O$ Og VT O$ Og Tc O$ Og Qh O$ qV (O6 U3 O O au O)$ Qp O O$ OH O$ Og XQ O ?_;rw[show(len:Int)-1=((len-1:Nat):Int) by omega];refine Oe O (PV Pb O O O au (by simp)) ?_;rintro w4 ⟨aI,ao⟩;have h4:=h3.re ao (show O9 w4 wb (swC Q.s st len (.slice a2 l.length c2) (len-1) T.length sum (ZV bs bx bw) false) 200 from aI);have iW:=eN.own ao (λb e=> .inl (by rw[e];exact aV.1));have dl:=cj.kp ao (λb hb e=>eX b hb (by rw[e];exact aV.1));have fj:=h4.cells;have af:=Ext.Ob w4;have fk:=ct.trans (ao.Of λb e=>Or.inr e);have ib:=Ph 8 T.length;have fV:=Ph 4 sum;have qs:(l++zeros (500-l.length)).length=500:=by rw[List.length_append,show(zeros (500-l.length)).length=500-l.length by simp[zeros]];omega
   rw[List.length_append] at qs;refine NU$ OD.qb (e:=[(0,_),(6,_)]) ?_;refine py$ Oo [20,21] (λw'=>Ext w4 w') (by kernel_rfl) O$ OW 0 O O (af)$ Ot 1 O (Pq O) af$ Ot 2 O (OG ZB O) af$ qL 3 O (λ_ h=>O6 U60 O O (h.NX fj) O) af$ OW 4 O O (af)$ OW 6 O O (af)$ Ot 7 O (Pq O) af$ Ot 8 O (OG Zt O) af$ qL 9 O (λ_ h=>O6 U3 O O (h.NX fj) O) af$ Ot 10 O ((Pf O U3 Qy (by omega))) af$ OW 13 O O (af)$ Ot 14 O (Pq O) af ?_;refine Ot 15 O (OG z2i O) af$ qL 16 O (λ_ h=>O6 OJ O O (h.NX fj) O) af$ Ot 17 O (Pf O OJ Qy (by omega)) af$ qL 5 O (λ_ h=>zeZ (l:=l++zeros (500-l.length)) Pc U5 U9 O (by rw[List.length_append,qs];exact dl.rd.ext h) (by rw[List.length_append];omega)) af ?_;refine Qg (i:=11) (by kernel_rfl)$ QQ (i:=11) O O O (yc zdL O) (YR T.length 8 _ (by omega) (by omega)) ?_;rintro _ w5 ⟨rfl,aR⟩;refine⟨af.trans aR,?_⟩;refine Ot 12 O (VB O O (by first|omega|(simp;done)|(simp;omega))) (af.trans aR) ?_;refine Qg (i:=18) (by kernel_rfl)$ QQ (i:=18) O O O (yc zdL O) (YR sum 4 _ (by omega) (by omega)) ?_;rintro _ w6 ⟨rfl,aH⟩;refine⟨(af.trans aR).trans aH,?_⟩;have cN:=(af.trans aR).trans aH
   have mC:∀b,(X b\/(Value.slice a3 500 c3).ownBlock=some b)->b<w6.heap.size:=λb hb=>by
    have:=cN.size;have:=ao.size;have:=dD.size;rcases hb with e| e
    ·have:=hX b e;omega
    ·have:=cj.lt e;omega
   refine Ot 19 O (VB O O (by first|omega|(simp;done)|(simp;omega))) ((af.trans aR).trans aH) ?_;refine S8 [20] ?_;have lM:(l++zeros (500-l.length)++To 8 T.length++To 4 sum).length=512:=by rw[List.length_append,List.length_append,List.length_append,qs,Ph,Ph]
   refine qO 20$ Vb (i:=20) O O O (R0 zaa O O) (Yl (iW.ext' cN) mC (by omega) (h4.ext cN) ⟨.inl aV.1,.inl aV.2.1,.inl aV.2.2.1,.inl aV.2.2.2⟩ (by omega) _ lM) ?_;rintro _ w7 ⟨rfl,kC,h7,aD⟩;refine⟨trivial,?_⟩;have bN:=h7.cells;refine O0 21 O (Qq O) trivial$ qE$ qN O$ NT O$ OH O$ Og Xl O$ Oe O (PV Vg O O O bN (by simp)) ?_;rintro w8 ⟨cn,aS⟩;have mv:=(kC.own aS (λb e=> .inl (by rw[e];exact aV.1))).less (Y:=X) (λb e=> .inl e);refine NU$ OD.qb (e:=[(7,_)]) ?_;refine qN O$ NT O$ NZ O$ NV func70 O (⟨_,rfl,rfl,_,mv,λj hj=>?_,⟨l++zeros (500-l.length),?_,by rw[List.length_append,qs]⟩,λy hy=>?_,?_⟩)
   ·by_cases e:j=len-1
    ·subst e;refine⟨zeros (500-l.length)++To 8 T.length++To 4 sum,?_⟩;rw[Ri];show l++_++_++_=_;rw[<-hl,List.take_of_length_le (by omega)];simp only[List.append_assoc]
    ·obtain⟨z,hz⟩:=Fb j (by omega) hj;exact⟨z,by rw[QB _ _ (by omega)];exact hz⟩
   ·rw[Ri];show _++_++_=_;unfold Ws;simp only[List.append_assoc]
   ·rw[QB _ _ (by omega)];exact Fc y hy
   ·refine((fk.trans cN.kp).NR aD λb e=>?_).trans (aS.Of λb e=> .inr e);rcases e with e| e
    ·by_cases hb:X b
     ·exact absurd (.inl hb) e
     ·exact .inr (.inl hb)
    ·exact .inr (.inr e)
  case dW=>
   refine Po O (λdM=>?_)$ λdM=>?_
   ·have xU:=hq.1 dM;have hr:500<T.length%512/\T.length / 512=len-2/\2<=len:=by omega
    have aT:=Ext.Ob w1;refine py$ py$ Oo [17,18] (λw'=>Kp (λb=>(Value.slice a0 (T.length%512) c0).ownBlock=some b) w1 w') (by kernel_rfl) O$ OW 0 O O (aT.kp)$ Ot 1 O (Pq O) (aT.kp)$ Ot 2 O (OG ZB O) (aT.kp)$ qL 3 O (λ_ h=>O6 U60 O O (h.NX ai (λe=>bP _ e aV.1)) O) (aT.kp)$ OW 4 O O (aT.kp)$ Ot 5 O (Pq O) (aT.kp)$ Ot 6 O (OG S0 O) (aT.kp)$ qL 7 O (λ_ h=>O6 Pc O O (h.NX ai (λe=>bP _ e aV.1)) O) (aT.kp)$ OW 8 O O (aT.kp)$ OW 9 O O (aT.kp)$ Ot 10 O (Pq O) (aT.kp) ?_;refine Ot 11 O (OG S0 O) (aT.kp)$ qL 12 O (λ_ h=>O6 Pc O O (h.NX ai (λe=>bP _ e aV.1)) O) (aT.kp)$ Ot 13 O (RJ Pc O) (aT.kp)$ Ot 14 O (Ww O O (by omega)) (aT.kp) ?_;rw[show(512:Int)-((T.length%512:Nat):Int)=((512-T.length%512:Nat):Int) by omega];refine Qg (i:=15) (by kernel_rfl)$ PC (i:=15) O O O (zha Pc U3 U9 Us O O (j3.ext aT) (by omega)) ?_;rintro v2 w2 ⟨cA,aq,oz⟩;refine⟨aT.kp.trans aq,?_⟩;rw[show T.length%512+(512-T.length%512)=512 by omega,<-List.map_append] at cA;have qs:(T.drop (512*(T.length / 512))++zeros (512-T.length%512)).length=512:=by rw[List.length_append,List.length_drop,show(zeros (512-T.length%512)).length=512-T.length%512 by simp[zeros]];omega
    refine Qg (i:=16) (by kernel_rfl)$ zdp (i:=16) O O O (zeZ (l:=T.drop (512*(T.length / 512))++zeros (512-T.length%512)) Pc U5 U9 O (by rw[qs];exact cA.rd) (by omega)) (aT.kp.trans aq) ?_;have bc:=aT.kp.trans aq;have ft:Sp Q txt K X w2:=jJ.step bc (λb e=> .inr e) (λb e=> .inl (.inl e));have h2:=h1.kp bc (λe=>bP _ e aV.1) (λe=>bP _ e aV.2.1) (λe=>bP _ e aV.2.2.1) (λe=>bP _ e aV.2.2.2);have mI:=bc.size;refine S8 [17]$ qO 17$ Vb (i:=17) O O O (R0 zaa O O) (Yl ft (λb hb=>by have:=hX b hb;omega) (by omega) h2 aV (by omega) _ qs) ?_;rintro _ w3 ⟨rfl,eN,h3,aw⟩;refine⟨trivial,?_⟩;have au:=h3.cells;refine O0 18 O (Qq O) trivial$ qE$ qN O$ NT O$ Pz O O$ NU$ It O$ An$ NW O$ NT O$ OH O$ Og S0 O$ Oe O (PV Va O O O au (by simp)) ?_;rintro w4 ⟨aI,ao⟩;have h4:=h3.re ao (show O9 w4 wb (swC Q.s st len (.slice none 0 0) (T.length / 512+1) T.length sum (ZV bs bx bw) false) 200 from aI);have iW:=eN.own ao (λb e=>by rw[e];exact aV.1);have jA:(T.drop (512*(T.length / 512))).take 512=T.drop (512*(T.length / 512)):=List.take_of_length_le (by rw[List.length_drop];omega);refine NU$ OD.qb (e:=[(0,_),(4,_)]) ?_;refine(av _ _ ⟨rfl,_,.slice none 0 0,_,[],iW.less (λb e=>e.elim id (λe=>by cases e)),h4,Sl.nil w4 _ 1,Nat.zero_le _,(λb e=>by cases e),(List.drop_of_length_le (by omega)).symm,λj hj kM=>?_,λy hy=>?_,?_⟩).qb
    ·by_cases e:j=T.length / 512
     ·subst e;exact⟨zeros (512-T.length%512),by rw[Ri,jA];rfl⟩
     ·exact⟨[],by rw[QB _ _ (by omega),List.append_nil];exact iY j (by omega)⟩
    ·rw[QB _ _ (by omega)]
    ·refine((ad.kp.NR bc λb e=> .inr (.inl (bP b e))).trans aw).trans (ao.Of λb e=> .inr e)
   ·have xU:¬T.length / 512<len-1:=λe=>by rw[hq.2 e] at dM;cases dM
    have LF:T.length / 512=len-1:=by omega
    have fJ:(T.drop (512*(T.length / 512))).length=T.length%512:=by rw[List.length_drop];omega
    refine An ((av _ _ ⟨rfl,txt,.slice a0 (T.length%512) c0,T.length / 512,T.drop (512*(T.length / 512)),jJ.more (by omega),h1,by rw[fJ];exact j3,by omega,bP,by rw[LF],λj hj kM=>⟨[],by rw[List.append_nil];exact iY j (by omega)⟩,λy hy=>rfl,ad.kp⟩).qb)
 case fU=>
  refine Qj (λw'=>Ext w w') O$ Oj 0 O O (hg)$ O0 1 O (Pq O) hg$ O0 2 O (OG XQ O) hg$ qT 3 O (λ_ h=>O6 U3 O O (h.NX hB) O) hg$ Oj 4 O O (hg)$ O0 5 O (Pq O) hg$ O0 6 O (OG VT O) hg$ O0 7 O (OG Tc O) hg$ O0 8 O (OG Qh O) hg$ qT 9 O (λ_ h=>O6 U3 O O (h.NX hB) O) hg$ O0 10 O (Ww O O (by omega)) hg ?_;rw[show(len:Int)-1=((len-1:Nat):Int) by omega];rcases Nat.lt_or_ge (T.length / 512) (len-1) with hq|hq
  ·refine O0 11 O (ZR O O) hg$ T4$ Oj 12 O O (hg)$ Oj 13 O O (hg)$ O0 14 O (Pq O) hg$ O0 15 O (OG S0 O) hg$ qT 16 O (λ_ h=>O6 Pc O O (h.NX hB) O) hg$ O0 17 O (RJ Pc O) hg$ O0 18 O (Xq O O) hg$ T4$ O0 19 O (TL O O) hg$ qE$ OD.qb (e:=[(0,_),(2,_),(4,_),(38,_)]) ?_;exact(dV _ _ ⟨true,rfl,⟨λ_=>hq,λ_=>rfl⟩,hg⟩).qb
  ·refine O0 11 O (ZR O O) hg$ TH$ Oj 12 O O (hg)$ qJ 13 O (hg)$ qJ 14 O (hg)$ qJ 15 O (hg)$ qJ 16 O (hg)$ qJ 17 O (hg)$ qJ 18 O (hg)$ O0 19 O (TA O O) hg$ qE$ OD.qb (e:=[(0,_),(2,_),(4,_),(38,_)]) ?_;exact(dV _ _ ⟨false,rfl,⟨λe=>(by cases e),λe=>by omega⟩,hg⟩).qb
end
open Go.Shelf
def BdM (w:World)(b:Nat)(l:NY)(v:Value):Prop:=(∃p,(p= .pointer none\/p=ptr b 0)/\O9 w b [p,v] 175)/\Sl w v 5 1 l.length (l.map Rb)/\v.ownBlock≠some b
section
variable {w w':World}{b:Nat}{l s:NY}{v:Value}{S':Nat->Prop}
theorem BdM.kp (h:BdM w b l v)(hk:Kp S' w w')(h1:¬S' b)(h2:∀g,v.ownBlock=some g->¬S' g):BdM w' b l v:=by
 obtain⟨⟨p,hp,hB⟩,hS,hn⟩:=h
 exact⟨⟨p,hp,hk.NX hB h1⟩,hS.kp hk h2,hn⟩
theorem BdM.new (h:O9 w b [.pointer none,.slice none 0 0] 175):BdM w b [] (.slice none 0 0):=⟨⟨_,.inl O,h⟩,Sl.nil w _ 1,λe=>by cases e⟩
theorem O9.shape {cs:List Value}{T:TypeId}(h:O9 w b cs T):w.shape? b=some (T,cs.length):=by
 obtain⟨fz,hb,-⟩:=h
 simp[World.shape?,hb]
theorem zaT (h:BdM w b l v):Oy prog 128 [ptr b 0] w λr w'=>r= .tuple #[]/\BdM w' b l v/\Kp (λk=>k=b) w w':=by
 obtain⟨⟨p,hp,hB⟩,hS,hn⟩:=h
 rcases hp with rfl|rfl
 ·refine Calls.mono (Any.Builder_copyCheck_fresh {zeU with} zen.toX72 b w (hB.cell 0) hB.shape (hB.free (i:=0) (by simp))) λ_ _ ⟨he,hw⟩=>⟨_,he,rfl,?_,?_⟩
  ·rw[hw];have hk:=SK w b 0 (ptr b 0);exact⟨⟨_,.inr O,VC hB 0 (ptr b 0)⟩,hS.kp hk (λg hg e=>hn (e▸hg)),hn⟩
  ·rw[hw];exact SK w b 0 _
 ·exact Calls.mono (Any.Builder_copyCheck_used {zeU with} zen.toX72 b w (hB.cell 0)) λ_ _ ⟨he,hw⟩=>⟨_,he,rfl,by rw[hw];exact⟨⟨_,.inr O,hB⟩,hS,hn⟩,by rw[hw];exact Kp.refl _ _⟩
theorem zaO (h:BdM w b l v)(s:NY)(hl:l.length+s.length<=140737488355328):Oy prog 86 [ptr b 0,S s] w λ_ w'=>∃v',BdM w' b (l++s) v'/\Kp (λk=>k=b\/v.ownBlock=some k) w w'/\(∀g,v'.ownBlock=some g->v.ownBlock=some g\/w.heap.size<=g):=by
 refine NP (e:=[(0,_),(1,_)]) func86 O ntmps86 O O$ qN O$ Oc O$ Oc O$ qM O$ NT O$ Om ziJ O (zaT h) ?_
 rintro _ w1 ⟨rfl,⟨⟨p,hp,ai⟩,j3,cT⟩,aK⟩
 have il:=aK.size
 have l1:=ai.lt
 refine qM O$ Od O O$ OH O$ Og Zv O$ qV (O6 Pc O O ai O)$ NT O$ O5 O O (zfs Pc U9 Us O O j3 hl) ?_
 rintro v2 w2 ⟨cA,aq,ql⟩
 have am:=aq.NX ai cT
 have mI:=aq.size
 have jB:v2.ownBlock≠some b:=λe=>by
  rcases ql b e with e| e
  ·exact cT e
  ·omega
 refine OH O$ Og Zv O$ Oe O (PV Va O O (VR cA) am (by simp)) ?_
 rintro w3 ⟨au,aw⟩
 refine qM O$ NT O$ qV (Sr U9 O)$ Oc O$ NZ O$ NV func86 O ?_
 rw[<-List.length_append,<-List.map_append] at cA
 refine⟨_,rfl,v2,⟨⟨p,hp,au⟩,cA.kp aw (λg hg e=>jB (e▸hg)),jB⟩,((aK.Of λk e=> .inl e).trans (aq.Of λk e=> .inr e)).trans (aw.Of λk e=> .inl e),λg hg=>(ql g hg).imp id λe=>by omega⟩
theorem z9s (w:World)(a:Addr)(n:Nat):Kp (λk=>k=a.block) w (w.freeze a n):=by
 by_cases h0:n=0
 ·subst h0;rw[show w.freeze a 0=w by simp[World.freeze]];exact Kp.refl _ w
 ·unfold World.freeze;rw[if_neg h0]
  exact⟨rfl,rfl,rfl,by simp,λk _ hn=>by
   simp only[Array.getElem?_modify]
   rw[if_neg (λh=>hn h.symm)]⟩
section
variable {P:Program}{e:Env}{d:Option Nat}{ty t it el:TypeId}{pos:String}{aft:Array Edge}{g:Option (Nat×Bool)}{x y:Operand}{n c:Nat}{a:Option Addr}
theorem zkl (hx:look e x=some (.slice a n c))(hc:a≠none->c≠0):Y P e ⟨d,.call ⟨.builtin .unsafeSliceData,#[x],#[t]⟩,ty,pos,aft,g⟩ (.pointer a) w w:=fun ρ hρ=>by
 have hr:∀w,(Builtin.unsafeSliceData_ #[t] ty #[.slice a n c]).run P w= .ok (.pointer a) w:=λw=>by
  cases a with
  |none=>rfl
  |some a=>exact Lib.run_unsafeSliceData_row (P:=P) w #[t] ty a n c (hc (by simp))
 simp[execOp,resolve,invoke,builtin,hρ _ _ hx,hr]
theorem zk4 (hp:P.underlying t=some (.pointer el))(hc:P.cellsOf el=1)(hx:look e x=some (.pointer a))(hy:look e y=some (I (l.length:Int)))(hS:Sl w (.slice a l.length c) el 1 l.length (l.map Rb))(EW:l.length<=9223372036854775807)(h0:l=[]\/∃g,a=some ⟨g,0,none⟩):
  Yp P e ⟨d,.call ⟨.builtin .unsafeString,#[x,y],#[t,it]⟩,ty,pos,aft,g⟩ w λr w'=>r=S l/\Kp (λk=>(Value.slice a l.length c).ownBlock=some k) w w':=by
 by_cases hl:l=[]
 ·subst hl;have hr:=Lib.run_unsafeString_none (P:=P) w t it ty a;refine⟨_,w,fun ρ hρ=>?_,rfl,Kp.refl _ _⟩;have h1:=hρ _ _ hx;have h2:ρ y= .int .i64 0:=hρ _ _ hy;simp[execOp,resolve,invoke,builtin,h1,h2,hr]
  rfl
 ·obtain⟨b,rfl⟩:=h0.resolve_left hl;obtain⟨cur,gO,jz,mD,aF,jN⟩:=hS.row;have aW:=World.ownsRow.cells hS (g:=b) O;simp only[Nat.mul_one] at aF jN
  have hr:=Lib.run_unsafeString_row (P:=P) w t it ty el hp hc b cur.length (by unfold TR at gO;simp[World.shape?,gO]) l hl (by omega) EW (λj x hj=>by
   have:=aW j (Rb x) (by rw[List.getElem?_map,hj];rfl)
   exact this)
  refine⟨_,_,fun ρ hρ=>?_,rfl,(z9s w ⟨b,0,none⟩ l.length).Of λk e=>by rw[show k=b from e];rfl⟩;simp[execOp,resolve,invoke,builtin,hρ _ _ hx,hρ _ _ hy,hr]
end
theorem z7Y (h:BdM w b l v)(h0:l=[]->v= .slice none 0 0)(hl:l.length<=140737488355328):Oy prog 87 [ptr b 0] w λr w'=>r=S l/\Kp (λk=>v.ownBlock=some k) w w':=by
 obtain⟨⟨p,hp,hB⟩,hS,hn⟩:=h
 obtain⟨a,c,rfl,ha⟩:=hS.rd.shape
 have hg:=Ext.Ob w
 have B6:l=[]\/∃g,a=some ⟨g,0,none⟩:=by
  rcases hS.shape with⟨e,h1⟩|⟨g,cap,e,h1⟩
  ·exact .inl (List.eq_nil_of_length_eq_zero h1)
  ·cases e;exact .inr ⟨g,rfl⟩
 have ve:a≠none->c≠0:=λe=>by
  by_cases po:l=[]
  ·have:=h0 po
   injection this with e1 _ _
   exact absurd e1 e
  ·have rL:l.length≠0:=by simpa using po
   rcases hS.shape with⟨_,h1⟩|⟨g,cap,e2,h1⟩
   ·omega
   ·cases e2;omega
 refine NP (e:=[(0,_)]) func87 O ntmps87 O O$ qN O$ NZ O$ py$ Oo [10,11] (λw'=>Ext w w') (by kernel_rfl) O$ OW 0 O O (hg)$ Ot 1 O (Pq O) hg$ Ot 2 O (OG Zv O) hg$ qL 3 O (λ_ h=>O6 Pc O O (h.NX hB) O) hg$ OW 5 O O (hg)$ Ot 6 O (Pq O) hg$ Ot 7 O (OG Zv O) hg$ qL 8 O (λ_ h=>O6 Pc O O (h.NX hB) O) hg$ Ot 9 O (RJ Pc O) hg ?_
 refine Ot 4 O (zkl O ve) hg$ S8 [10]$ qO 10$ R3 (i:=10) O O O (zk4 zjg (by kernel_rfl) O O (hS.ext hg) (by omega) B6) ?_
 rintro _ w1 ⟨rfl,aK⟩
 refine⟨trivial,?_⟩
 refine O0 11 O (Qq O) trivial$ qE$ NV func87 O ?_
 exact⟨_,rfl,rfl,hg.kp.trans aK⟩
end
def srC (s st len n sum:Nat):List Value:=[ptr s 0,I (st:Int),I (len:Int),I (n:Int),U sum]
section
variable {w w':World}{Q:Qz}{txt:Int->NY}{K:Nat}{X S':Nat->Prop}{st len n sum rb:Nat}{T:NY}
theorem z4U (hP:Sp Q txt K X w)(hX:∀b,X b->b<w.heap.size)(hK:K<1000000000000)(h1:1<=len)(bM:st+len<=Q.L.length)(hn:n<=len*512-12)(g8:sum<4294967296)(hf:∃z,txt ((st+(len-1):Nat):Int)=z++Ws n sum/\z.length=500):
  Oy prog 71 [ptr Q.s 0,.agg #[I (st:Int),I (len:Int)]] w λv w'=>∃rb,v= .tuple #[ptr rb 0,I 0]/\O9 w' rb (srC Q.s st len n sum) 205/\w.heap.size<=rb/\Sp Q txt K (λb=>X b\/b=rb) w'/\Kp (λb=>¬X b) w w':=by
 have en:=hP.n
 obtain⟨z,hz,rk⟩:=hf
 have lM:=z2H n sum
 refine NP (e:=[(0,_),(1,_)]) func71 O ntmps71 O O$ qN O$ O5 O O (Qr O (cs:=[I (st:Int),I (len:Int)]) O) ?_
 rintro _ w1 ⟨bx,rfl,fI,ad,j0⟩
 refine Oc O$ Oc O$ qM O$ NT O$ qV (OE (news:=[I (st:Int),I (len:Int)]) Wj O Qf O (j0.cells (n:=2) O) O)$ qV (Rt (cs:=[_,_,_]) Wq O zej O O)$ qV (Rt (cs:=[_,_,_,_,_]) zgA O zi7 O O)$ O5 O O (Qr O (cs:=[ptr Q.s 0,I (st:Int),I (len:Int),I 0,U 0]) O) ?_
 rintro _ w2 ⟨rb,rfl,Hu,ae,am⟩
 have aJ:=ad.trans ae
 have Fe:=ae.NX j0
 have z1:=ad.size
 have z2:=ae.size
 have ft:Sp Q txt K (λb=>X b\/b=rb) w2:=hP.ext aJ (λb e=>e.imp id λe=>by omega)
 refine NZ O$ py$ qN O$ NT O$ OH O$ Og XS O$ qV (OE zcc O Wq O (O9.cells (n:=3) am (news:=[_,_,_]) O) O)$ Om ze8 O (YQ ft h1 bM) ?_
 rintro _ w3 ⟨rfl,ah⟩
 have eN:=ft.ext' ah
 have au:=ah.NX am
 have zK:=ah.NX Fe
 have z3:=ah.size
 have l2:=am.lt
 have dQ:=eN.read (λb hb=>by
  rcases hb with e| e
  ·have:=hX b e;omega
  ·omega) hK (no:=((st+(len-1):Nat):Int)) (by omega) (by omega)
 rw[hz] at dQ
 refine Oc O$ qM O$ NT O$ Pz O O$ NU$ It O$ An$ qN O$ NT O$ Og Qc O$ qV (O6 U3 O O zK O)$ Og Qh O$ qV (O6 U3 O O zK O)$ P6 O O ?_
 refine Qp O O ?_
 rw[show(st:Int)+(len:Int)-1=((st+(len-1):Nat):Int) by omega]
 refine Om zca O (dQ) ?_
 rintro _ w4 ⟨rfl,iW,ao⟩
 have aI:=ao.NX au (λe=>e (.inr O))
 refine NT O$ P9 O O$ P9 O O$ Oc O$ NZ O$ OD.qb (e:=[(4,_),(5,_),(6,_),(8,_),(9,_)]) ?_
 refine py$ qN O$ NT O$ Pz O O$ NU$ It O$ An$ qN O$ Od O O$ qV (Sr U9 O) ?_
 rw[show((z++Ws n sum).length:Int)=512 by rw[List.length_append,lM,rk];rfl]
 refine Qp O O ?_
 rw[show(512:Int)-12=((500:Nat):Int) by omega]
 refine qV (YW (m:=500) U9 O O (by rw[List.length_append,lM,rk];omega)) ?_
 rw[show(z++Ws n sum).drop 500=Ws n sum from List.drop_left' rk]
 refine Oc O$ qM O$ NT O$ qV (z1R (m:=8) U9 O O (by rw[lM];omega)) ?_
 rw[show(Ws n sum).take 8=To 8 n from List.take_left' (Ph _ _)]
 have si:OK (On (To 8 n))=n:=Zr (by omega)
 have Ff:OK (On (To 4 sum))=sum:=Zr (by omega)
 have ib:=Ph 8 n
 have fV:=Ph 4 sum
 refine Om zdq O (z1f (To 8 n) (by omega) _) ?_
 rintro _ w5 ⟨rfl,aR⟩
 rw[si]
 have aG:=aR.NX aI
 have gT:=iW.ext' aR
 refine NZ O$ py$ qN O$ Od O O$ OH O$ Og XS O$ qV (OE zcc O Wq O (O9.cells (n:=3) aG (news:=[_,_,_]) O) O)$ Om zem O (ZT gT (by omega)) ?_
 rintro _ w6 ⟨rfl,aH⟩
 have aO:=aH.NX aG
 have ik:=gT.ext' aH
 refine qV ((Pf O U3 Qy (by omega)))$ PD O O$ OR$ NU$ OD.qb (e:=[(4,_),(5,_),(6,_),(10,_),(11,_),(54,_)]) ?_
 refine It O$ An$ qN O$ Od O O$ NT O$ qV (OT O Qy U3 (by omega))$ NT O$ qV (YW (m:=8) U9 O O (by rw[lM];omega)) ?_
 rw[show(Ws n sum).drop 8=To 4 sum from List.drop_left' (Ph _ _)]
 refine Om zdq O (z1f (To 4 sum) (by omega) _) ?_
 rintro _ w7 ⟨rfl,bV⟩
 rw[Ff]
 have bN:=bV.NX aO
 refine qV (z0H O Qy OJ)$ OH O$ Og ZA O$ Oe O (PV Pb O O O bN (by simp)) ?_
 rintro w8 ⟨cn,aS⟩
 replace cn:O9 w8 rb [ptr Q.s 0,I (st:Int),I (len:Int),I (n:Int),U 0] 205:=cn
 refine OH O$ Og zcN O ?_
 rw[Nat.mod_eq_of_lt (show sum<2^32 by omega)]
 refine Oe O (PV O7 O O O cn (by simp)) ?_
 rintro w9 ⟨cL,aL⟩
 refine qM O$ NT O$ Oc O$ NZ O$ NV func71 O ?_
 have vL:=(((ik.ext' bV).own aS (λb e=> .inr e)).own aL (λb e=> .inr e))
 refine⟨_,rfl,rb,rfl,cL,by omega,vL,?_⟩
 have Fg:Kp (λb=>¬X b) w w4:=((aJ.trans ah).kp (S:=λb=>¬X b)).trans (ao.Of λb e e2=>e (.inl e2))
 refine(((Fg.trans (aR.trans (aH.trans bV)).kp).NR aS λb e=> .inl (by omega)).NR aL λb e=> .inl (by omega))
theorem z84 (hB:O9 w rb (srC Q.s st len n sum) 205):Oy prog 305 [ptr rb 0] w λv w'=>v=I (n:Int)/\w'=w:=by
 replace hB:O9 w rb [ptr Q.s 0,I (st:Int),I (len:Int),I (n:Int),U sum] 205:=hB
 refine NP (e:=[(0,_)]) func305 O ntmps305 O O$ qN O$ NZ O$ py$ qN O$ NT O$ qV (Pt zch O O)$ NU$ It O$ An$ qN O$ NT O$ OH O$ Og ZA O ?_
 refine qV (O6 U3 O O hB O)$ NZ O$ NV func305 O ?_
 exact⟨_,rfl,rfl,rfl⟩
theorem z9Z (hP:Sp Q txt K (λb=>X b\/b=rb) w)(hX:∀b,X b->b<w.heap.size)(um:¬X rb)(hK:K<1000000000000)(bM:st+len<=Q.L.length)(hL:Laid txt st T)(hB:O9 w rb (srC Q.s st len T.length sum) 205)(hT:T.length<=len*512)(off n:Nat)(ho:off+n<=T.length):
  Oy prog 306 [ptr rb 0,I (off:Int),I (n:Int)] w λv w'=>v= .tuple #[S ((T.drop off).take n),I 0]/\Sp Q txt K (λb=>X b\/b=rb) w'/\O9 w' rb (srC Q.s st len T.length sum) 205/\Kp (λb=>¬X b) w w':=by
 have en:=hP.n
 have lrb:=hB.lt
 replace hB:O9 w rb [ptr Q.s 0,I (st:Int),I (len:Int),I (T.length:Int),U sum] 205:=hB
 refine NP (e:=[(0,_),(1,_),(2,_)]) func306 O ntmps306 O O$ qN O$ Oc O$ NZ O$ py$ NQ$ qN O$ NT O$ qV (Pt zch O O)$ NZ O$ It O$ qN O$ NT O$ Py O O ?_
 refine OR$ Od O O$ Py O O$ OR$ OU O O$ Od O O$ NT O$ OH O$ Og ZA O$ qV (O6 U3 O O hB O)$ PD O O$ OR$ OU O O$ Od O O ?_
 refine NT O$ OH O$ Og ZA O$ qV (O6 U3 O O hB O)$ NT O$ Qp O O$ PD O O$ OR$ OU O O$ NZ O$ OD.qb (e:=[(0,_),(1,_),(2,_),(6,_),(7,_),(15,_)]) ?_
 refine It O$ An$ NS$ qN O$ NT O$ OH O$ Og XS O$ Og TV O$ qV (O6 X7 O O hB O)$ Om z3a O (hP.size) ?_
 rintro _ w ⟨rfl,rfl⟩
 refine Oc O$ qM O$ O5 O O (QU (cs:=[_,_]) zgL O) ?_
 rintro _ w1 ⟨bb,rfl,p5,ad,Ba⟩
 have Fh:=BdM.new Ba
 have z1:=ad.size
 refine NU$ py$ NQ$ Qm (α:=Nat×Value) ((0,Value.slice none 0 0)) (λy=>[(0,ptr rb 0),(1,I ((off+y.1:Nat):Int)),(2,I ((n-y.1:Nat):Int)),(8,I 512),(9,ptr bb 0)]) (λy w'=>y.1<=n/\BdM w' bb ((T.drop off).take y.1) y.2/\(y.1=0->y.2= .slice none 0 0)/\(∀g,y.2.ownBlock=some g->w.heap.size<=g)/\Sp Q txt K (λb=>(X b\/b=rb)\/b=bb\/y.2.ownBlock=some b) w'/\Kp (λb=>¬(X b\/b=rb)) w w') (λy=>n-y.1) ?hI ?hround
 case hI=>exact⟨Nat.zero_le _,Fh,λ_=>rfl,λg hg=>(by cases hg),hP.ext ad (λb e=>e.imp id λe=>e.elim (λe=>by omega) (λe=>by cases e)),ad.kp⟩
 case hround=>
  rintro⟨m,v⟩ w2 ⟨hm,rK,Ih,dP,ft,aq⟩ ih;dsimp only at hm rK Ih dP ft ih⊢;have am:=aq.NX hB (λe=>e (.inr O));have hg:=Ext.Ob w2;have z2:=aq.size;have lbb:bb<w2.heap.size:=by obtain⟨⟨p,hp,hb⟩,-,-⟩:=rK;exact hb.lt
  have oZ:∀b,((X b\/b=rb)\/b=bb\/v.ownBlock=some b)->b<w2.heap.size:=λb hb=>by
   rcases hb with(e|e)|e| e
   ·have:=hX b e;omega
   ·omega
   ·omega
   ·exact rK.2.1.lt e
  try dsimp only
  refine py$ qN O$ NT O$ PD O O$ NU$ O8 O (λh0=>?_)$ λh0=>?_
  ·obtain⟨q,hq⟩:∃q,min (n-m) (512-(off+m)%512)=q:=⟨_,rfl⟩;have eO:=ft.z0s (x:=((st+(off+m) / 512:Nat):Int)) (by omega) (by omega);have lz:=hL.piece (off:=off+m) (n:=q) (by omega) (by omega);have dQ:=(ft.ext' hg).read (λb hb=>by have:=oZ b hb;have:=hg.size;omega) hK (no:=((st+(off+m) / 512:Nat):Int)) (by omega) (by omega);obtain⟨t,ht⟩:∃t,txt ((st+(off+m) / 512:Nat):Int)=t:=⟨_,rfl⟩;rw[ht] at eO lz dQ;refine An$ NQ$ py$ Qj (λw'=>Kp (λb=>¬((X b\/b=rb)\/b=bb\/v.ownBlock=some b)) w2 w') O$ Oj 0 O O (hg.kp)$ O0 1 O (Pq O) (hg.kp)$ O0 2 O (OG XS O) (hg.kp)$ O0 3 O (OG TV O) (hg.kp)$ qT 4 O (λ_ hS=>O6 X7 O O (hS.NX am (λe=>e (.inl (.inr O)))) O) (hg.kp)$ Oj 5 O O (hg.kp)$ O0 6 O (Pq O) (hg.kp)$ O0 7 O (OG XS O) (hg.kp)$ O0 8 O (OG Tc O) (hg.kp)$ O0 9 O (OG Qc O) (hg.kp) ?_;refine qT 10 O (λ_ hS=>O6 U3 O O (hS.NX am (λe=>e (.inl (.inr O)))) O) (hg.kp)$ Oj 11 O O (hg.kp)$ Oj 12 O O (hg.kp)$ O0 13 O (UH O O (by omega)) (hg.kp)$ O0 14 O (TK O O (by omega)) (hg.kp) ?_;rw[show(st:Int)+((off+m:Nat):Int) / 512=((st+(off+m) / 512:Nat):Int) by omega];refine RW 15 O zca O (dQ) ?_;rintro _ w3 ⟨rfl,eN,aw⟩;refine⟨hg.kp.trans aw,?_⟩;have dD:=hg.kp.trans aw;have Fi:=rK.kp dD (λe=>e (.inr (.inl O))) (λg hg e=>e (.inr (.inr hg)));refine Oj 16 O O (hg.kp.trans aw)$ O0 17 O (QL O O) (hg.kp.trans aw)$ O0 18 O (QL O O) (hg.kp.trans aw)$ O0 19 O (Qq O) (hg.kp.trans aw)$ O0 20 O (Qq O) (hg.kp.trans aw)$ qE$ py$ qN O$ NT O$ Pz O O$ NU$ It O$ An$ qN O ?_;refine Od O O$ NT O$ qV (yre O O (by omega)) ?_;rw[show((off+m:Nat):Int)%512=(((off+m)%512:Nat):Int) by omega];refine qV (YW U9 O O (by omega))$ Oc O$ qM O$ Od O O$ NT O$ qV (Sr U9 O)$ qV (ymi O O) ?_;rw[show min ((n-m:Nat):Int) ((t.drop ((off+m)%512)).length:Int)=((q:Nat):Int) by rw[List.length_drop];omega];refine qV (z1R (m:=q) U9 O O (by rw[List.length_drop];omega)) ?_;rw[lz];have Dp:((T.drop (off+m)).take q).length=q:=by rw[List.length_take,List.length_drop];omega
   have iq:((T.drop off).take m).length<=m:=by rw[List.length_take];omega
   refine Oc O$ qM O$ NT O$ Om zjo O (zaO Fi ((T.drop (off+m)).take q) (by omega)) ?_;rintro _ w4 ⟨v4,Fj,ao,vh⟩;have z3:=dD.size;refine qM O$ Od O O$ qV (Sr U9 O) ?_;rw[Dp];refine P6 O O$ NZ O$ NW O$ Od O O$ qV (Sr U9 O) ?_;rw[Dp];refine Qp O O$ NZ O$ NS ?_;rw[show((off+m:Nat):Int)+(q:Int)=((off+(m+q):Nat):Int) by omega,show((n-m:Nat):Int)-(q:Int)=((n-(m+q):Nat):Int) by omega];refine(ih (m+q,v4) _ ⟨by dsimp only;omega,?_,λe=>by dsimp only at e;omega,λg hg=>(vh g hg).elim (dP g) (λe=>by omega),?_,?_⟩ (by dsimp only;omega)).qb
   ·dsimp only;rw[List.take_add,List.drop_drop];exact Fj
   ·exact eN.step ao (λb e=> .inr e) (λb e=>by
     rcases e with e|e| e
     ·exact .inl (.inl e)
     ·exact .inl (.inr (.inl e))
     ·exact(vh b e).imp (λe=> .inr (.inr e)) id)
   ·refine(aq.trans (dD.Of λb e e2=>e (.inl e2))).NR ao λb e=> .inl ?_;rcases e with e| e
    ·omega
    ·exact dP b e
  ·have Fk:m=n:=by omega
   subst Fk;refine O4 O$ qN O$ Om zkj O (z7Y rK (λe=>Ih (by have:=congrArg List.length e;rw[List.length_take,List.length_drop,List.length_nil] at this;omega)) (by rw[List.length_take,List.length_drop];omega)) ?_;rintro _ w3 ⟨rfl,aw⟩;refine Oc O$ NZ O$ NV func306 O ?_;have ct:Kp (λb=>¬(X b\/b=rb)) w w3:=aq.NR aw (λb e=> .inl (dP b e));exact⟨_,rfl,rfl,ft.step aw (λb e=> .inr (.inr e)) (λb e=> .inl (.inl e)),ct.NX hB (λe=>e (.inr O)),ct.Of λb e e2=>e (.inl e2)⟩
end
section
variable {t:TypeId}{u:Value}{p:PA}{g:List (List Nat)}{E:List (Nat×Nat)}{R:Src t u (WT p g E)}{k x:Nat}{X Y S:Nat->Prop}{w w':World}
theorem z5u (k v:Nat)(w:World):Oy prog 160 [ptr k 0,I (v:Int)] w λr w'=>∃bk bi,r= .func (.func 195) #[] #[ptr bk 0,ptr bi 0]/\O9 w' bk [ptr k 0] 30/\O9 w' bi [I (v:Int)] 3/\w.heap.size<=bk/\w.heap.size<=bi/\Ext w w':=by
 refine NP (e:=[(0,_),(1,_)]) func160 O ntmps160 O O$ qN O$ O5 O O (Qr O (cs:=[ptr k 0]) O) ?_
 rintro _ w1 ⟨bk,rfl,gR,ad,vC⟩
 refine O5 O O (Qr O (cs:=[I (v:Int)]) O) ?_
 rintro _ w2 ⟨bi,rfl,qt,ae,Fl⟩
 refine Oc O$ qM O$ qV (ymf (first:=[]) (caps:=[.tmp 2,.tmp 3]) O O)$ NZ O$ NV func160 O ?_
 have:=ad.size
 exact⟨_,rfl,bk,bi,rfl,ae.NX vC,Fl,by omega,by omega,ad.trans ae⟩
theorem z5d {l bk bi v:Nat}(jg:g.length<50)(hv:v<g.length)(h:TP R k x X w)(gR:O9 w bk [ptr k 0] 30)(qt:O9 w bi [I (v:Int)] 3)(Z:Nat->Prop)(hZ:∀j,Z j->X j)(J:(Nat->Prop)->Nat->World->Prop)(F:World->Prop)
  (h0:∀(Y:Nat->Prop) (w':World),(∀j,X j->Y j)->(∀j,Y j->X j\/w.heap.size<=j)->TP R k x Y w'->Kp (λj=>¬X j) w w'->J Y 0 w')
  (hround:∀(Y:Nat->Prop) (i s:Nat) (w':World),(∀j,X j->Y j)->(∀j,Y j->X j\/w.heap.size<=j)->(Oh g v)[i]? =some s->J Y i w'->z2k prog l [OB s,I 0] w' λr w''=>(r= .bool true/\J Y (i+1) w''/\Kp (λj=>¬Y j\/Z j) w' w'')\/(r= .bool false/\F w'')):
  Oy prog 195 [.func (.yield l) #[] #[],ptr bk 0,ptr bi 0] w λr w'=>r= .tuple #[]/\((∃Y,(∀j,X j->Y j)/\(∀j,Y j->X j\/w.heap.size<=j)/\J Y (Oh g v).length w')\/F w'):=by
 have aZ:=h.lt
 have fL:(Oh g v).length<=g.length:=by
  unfold Oh;rw[List.getElem?_eq_getElem hv];exact h.ok.gr.len (List.getElem_mem hv)
 refine NP (e:=[(0,_),(1,_),(2,_)]) func195 O ntmps195 O O$ qN O$ qV ((O6 U30 O O gR O))$ qV ((O6 U3 O O qt O))$ Om zii O (z5a jg hv h) ?_
 rintro _ w1 ⟨vv,rfl,j3,fQ,h1,aK⟩
 have dQ:=j3.rd
 obtain⟨a,c,rfl,ha⟩:=dQ.shape
 refine NT O$ qV (QL (v:= .slice a (Oh g v).length c) O O)$ qV (QL (v:=I 0) O O)$ Oc O$ NZ O$ py$ qN O$ NT O$ Pz O O$ NU$ It O$ An$ qN O$ NT O ?_
 refine Qx OA O$ NT O$ NU$ NQ ?_
 obtain⟨Y,hY⟩:∃Y:Nat->Prop,(λj=>X j\/(Value.slice a (Oh g v).length c).ownBlock=some j)=Y:=⟨_,rfl⟩
 rw[hY] at h1
 have cI:∀j,X j->Y j:=λj hj=>by rw[<-hY];exact .inl hj
 have qu:∀j,Y j->X j\/w.heap.size<=j:=λj hj=>by
  rw[<-hY] at hj;exact hj.imp id (fQ j)
 have Ii:∀j,(Value.slice a (Oh g v).length c).ownBlock=some j->Y j/\¬Z j:=λj hj=>⟨by rw[<-hY];exact .inr hj,λe=>by have h2:=fQ j hj;have h3:=aZ j (hZ j e);omega⟩
 refine Qm (α:=Nat) (0) (λi=>[(0,.func (.yield l) #[] #[]),(19,.slice a (Oh g v).length c),(20,I ((Oh g v).length:Int)),(21,I (i:Int))]) (λi w'=>i<=(Oh g v).length/\J Y i w'/\Rd w' (.slice a (Oh g v).length c) 1 (Oh g v).length ((Oh g v).map OB)) (λi=>(Oh g v).length-i) ?hI ?hround
 case hI=>exact⟨Nat.zero_le _,h0 Y w1 cI qu h1 aK,dQ⟩
 case hround=>
  rintro i w2 ⟨hi,hJ,zL⟩ ih
  try dsimp only
  refine qN O$ Py O O$ NU$ py$ O8 O (λhq=>?_)$ λhq=>?_
  ·obtain⟨s,hs⟩:∃s,(Oh g v)[i]? =some s:=⟨_,List.getElem?_eq_getElem (by omega)⟩;rcases zL.2 with⟨⟨ca,cc⟩,fY,rG⟩|⟨b,off,cap,fY,hc⟩
   ·omega
   cases fY;have aW:w2.cell? ⟨b,off+i*1,none⟩=some (OB s):=hc (i*1) _ (by rw[Nat.mul_one,List.getElem?_map,hs];rfl);refine An$ py$ NQ$ qN O$ qV (P7 OA O7 O O (by omega))$ qV (OC OJ O O aW)$ Oc O$ qM O$ Od O O$ z6k O O (yy O O) (hround Y i s w2 cI qu hs hJ) ?_;rintro r w3 fP;rcases fP with⟨rfl,LG,aw⟩|⟨rfl,hF⟩
   ·refine qV ((Rn O))$ NU$ It O$ An$ NS$ NW O$ P6 O O$ NT O$ NU ?_;exact(ih (i+1) _ ⟨by omega,LG,zL.kp aw (λj hj e=>e.elim (λe=>e (Ii j hj).1) (Ii j hj).2)⟩ (by omega)).qb
   ·refine qV ((Rn O))$ NU$ Oa O$ NV func195 O ?_;exact⟨_,rfl,rfl,.inr hF⟩
  ·have bX:i=(Oh g v).length:=by omega
   subst bX;refine O4 O$ PE func195 O ?_;exact⟨_,rfl,rfl,.inl ⟨Y,cI,qu,hJ⟩⟩
end
structure StO (Q:Qz)(txt:Int->NY)(K st len:Nat)(T:NY):Prop where
 k:K<1000000000000
 fit:st+len<=Q.L.length
 laid:Laid txt st T
 len:T.length<=len*512
def z8r {Q:Qz}{txt:Int->NY}{K st len:Nat}{T:NY}(o:StO Q txt K st len T)(rb sum:Nat):Src 148 (ptr rb 0) T where
 inv X w:=Sp Q txt K (λb=>X b\/b=rb) w/\O9 w rb (srC Q.s st len T.length sum) 205/\¬X rb
 fl:=305
 fr:=306
 cl:=zhP
 cr:=zh7
 ml:=by kernel_rfl
 mr:=by kernel_rfl
 ext:=λh hx hY=>⟨h.1.ext hx λb e=>e.elim (λe=>(hY b e).elim (λe=> .inl (.inl e)) .inr) (λe=> .inl (.inr e)),hx.NX h.2.1,λe=>(hY _ e).elim h.2.2 (λe=>by have:=h.2.1.lt;omega)⟩
 step:=λh hk hS hY=>⟨h.1.step hk (λb e=> .inl (hS b e)) λb e=>e.elim (λe=>(hY b e).elim (λe=> .inl (.inl e)) .inr) (λe=> .inl (.inr e)),hk.NX h.2.1 (λe=>h.2.2 (hS _ e)),λe=>(hY _ e).elim h.2.2 (λe=>by have:=h.2.1.lt;omega)⟩
 len:=λh=>(z84 (Q:=Q) h.2.1).mono λv w' ⟨hv,hw⟩=>⟨hv,by rw[hw];exact Ext.refl _⟩
 rd:=λoff n h hX B4=>(z9Z h.1 hX h.2.2 o.k o.fit o.laid h.2.1 o.len off n B4).mono λv w' ⟨hv,h1,h2,h3⟩=>⟨hv,⟨h1,h2,h.2.2⟩,h3⟩
section
variable {t:TypeId}{u:Value}{p:PA}{g:List (List Nat)}{E:List (Nat×Nat)}{k x:Nat}{X Y S:Nat->Prop}{w w':World}
theorem TP.re {R R':Src t u (WT p g E)}(h:TP R k x X w)(hk:Kp S w w')(hS:∀j,S j->j≠k/\j≠x/\j≠2/\j≠3)(hI:R'.inv X w'):TP R' k x X w':=
 ⟨h.ok,hk.NX h.NX (λe=>(hS _ e).1 O),hk.NX h.ix (λe=>(hS _ e).2.1 O),h.xk,h.xx,hI,λj hj=>by have:=h.lt j hj;have:=hk.size;omega,h.x1,h.x2,hk.NX h.gam (λe=>(hS _ e).2.2.1 O),hk.NX h.una (λe=>(hS _ e).2.2.2 O)⟩
theorem z58 {Q:Qz}{txt:Int->NY}{K st len rb sum:Nat}(hp:S1 p g E)(o:StO Q txt K st len (WT p g E))(hI:(z8r o rb sum).inv X w)(hX:∀j,X j->j<w.heap.size)(x1:X 2)(x2:X 3)(hG:O9 w 2 (RB .gamma) 317)(hU:O9 w 3 (RB .unary) 317):
  Oy prog 72 [ptr rb 0] w λv w'=>∃k x,v= .tuple #[ptr k 0,I 0]/\w.heap.size<=k/\w.heap.size<=x/\TP (z8r o rb sum) k x (λj=>X j\/j=x\/j=k) w'/\Kp (λj=>¬X j) w w':=by
 refine NP (e:=[(0,_)]) func72 O ntmps72 O O$ qN O$ Oc O$ NZ O$ py$ qN O$ NT O$ qV (Pt zch O O)$ NU$ It O$ An$ qN O$ NT O$ qV (zfZ zch (λ_ h=>by cases h) rfl) ?_
 refine Om zhv O (z4K hp (z8r o rb sum) hI hX) ?_
 rintro _ w1 ⟨k,x,rfl,ai,am,hx,hk,bP,m9,aK⟩
 refine P9 O O$ P9 O O$ Oc O$ NZ O$ NV func72 O ?_
 have z1:=aK.size
 have l1:=ai.lt
 have l2:=am.lt
 refine⟨_,rfl,k,x,rfl,hk,hx,⟨hp,ai,am,.inr (.inr O),.inr (.inl O),m9,λj hj=>?_,.inl x1,.inl x2,aK.NX hG (λe=>e x1),aK.NX hU (λe=>e x2)⟩,aK⟩
 rcases hj with e|e| e
 ·have:=hX j e;omega
 ·omega
 ·omega
end
theorem zcM {n each:Nat}(he:1<=each):max (1:Int) (((n:Int)+(each:Int)-1) / (each:Int))=((QD n each:Nat):Int):=by
 unfold QD
 rw[show(n:Int)+(each:Int)-1=((n+each-1:Nat):Int) by omega]
 have h:((n+each-1:Nat):Int) / (each:Int)=(((n+each-1) / each:Nat):Int):=rfl
 rw[h]
 generalize (n+each-1) / each=q
 omega
section
variable {w w':World}{Q:Qz}{txt:Int->NY}{K:Nat}{X:Nat->Prop}{vb width st each n:Nat}{xs:List Nat}
abbrev shV (n width each:Nat):Value:= .agg #[I (n:Int),I (width:Int),I (each:Int)]
theorem Xw (n width each:Nat)(he:1<=each/\each<=512)(hn:n<=4194304)(w:World):Oy prog 73 [shV n width each] w λv w'=>v=I (QD n each:Int)/\Ext w w':=by
 refine NP (e:=[(0,_)]) func73 O ntmps73 O O$ qN O$ O5 O O (Qr O (cs:=[I (n:Int),I (width:Int),I (each:Int)]) O) ?_
 rintro _ w1 ⟨b1,rfl,bK,ad,ai⟩
 refine Oc O$ qM O$ Og Zj O$ qV (O6 U3 O O ai O)$ Og Xi O$ qV (O6 U3 O O ai O)$ P6 O O$ Qp O O$ Og Xi O$ qV (O6 U3 O O ai O)$ qV (UH O O (by omega))$ qV (yma O O)$ NZ O ?_
 rw[zcM he.1]
 refine NV func73 O ?_
 exact⟨_,rfl,rfl,ad⟩
theorem z0f (n width each x:Nat)(hw:width=1\/width=2\/width=4\/width=8)(hx:x<2^(8*width))(w:World):Oy prog 113 [shV n width each,u64v x] w λv w'=>v= .bool true/\Ext w w':=by
 refine NP (e:=[(0,_),(1,_)]) func113 O ntmps113 O O$ qN O$ O5 O O (Qr O (cs:=[I (n:Int),I (width:Int),I (each:Int)]) O) ?_
 rintro _ w1 ⟨b1,rfl,bK,ad,ai⟩
 refine Oc O$ qM O$ Og UC O$ qV (O6 U3 O O ai O) ?_
 by_cases h8:width=8
 ·refine Qe O O$ Qs$ NT O$ qS$ qS$ qS$ qS$ qS$ qS$ PT O O$ NZ O$ NV func113 O ?_;exact⟨_,rfl,rfl,ad⟩
 ·have LH:8*width<=32:=by omega
  have hp:1*2^(8*width)%18446744073709551616=2^(8*width):=by
   have:=Nat.pow_le_pow_right (show 0<2 by decide) LH;rw[Nat.one_mul,Nat.mod_eq_of_lt (by omega)]
  refine Qe O O$ OR$ Od O O$ Og UC O$ qV (O6 U3 O O ai O)$ qV (Xa O O (by omega)) ?_;rw[show(8:Int)*(width:Int)=((8*width:Nat):Int) by omega];refine qV (PX (8*width) (2^(8*width)) O O (by omega) O) ?_;rw[hp]
  generalize 2^(8*width)=P at hx⊢
  refine Py O O$ Qs$ OU O O$ NZ O$ NV func113 O ?_;exact⟨_,rfl,rfl,ad⟩
theorem WI (n width each x:Nat)(hw:width<=8)(hx:x<18446744073709551616)(w:World):Oy prog 115 [shV n width each,u64v x] w λv w'=>v=S (To width x)/\Ext w w':=by
 have dF:maxLen=9223372036854775807:=rfl
 refine NP (e:=[(0,_),(1,_)]) func115 O ntmps115 O O$ qN O$ O5 O O (Qr O (cs:=[I (n:Int),I (width:Int),I (each:Int)]) O) ?_
 rintro _ w0 ⟨b0,rfl,yI,gY,ic⟩
 refine Oc O$ qM O$ Og UC O$ qV (O6 U3 O O ic O)$ O5 O O (pmk (c:=width) (n:=width) Pc Us O O O (by omega) (by omega) (by omega)) ?_
 rintro _ w1 ⟨b1,rfl,⟨bK,ad,ai⟩,-⟩
 refine NZ O$ py$ qN O$ NT O$ Qx Pc O$ NT O$ NU$ NQ ?_
 rw[<-z1X x width] at ai
 have l0:=ic.lt
 refine Qm (α:=Nat) (0) (λk=>[(1,u64v x),(2,ptr b0 0),(5,.slice (some ⟨b1,0,none⟩) width width),(11,I (width:Int)),(12,I (k:Int))]) (λk w'=>k<=width/\O9 w' b1 (z0L x width k) 5/\O9 w' b0 [I (n:Int),I (width:Int),I (each:Int)] 155/\Ext w0 w') (λk=>width-k) ?hI ?hround
 case hI=>exact⟨by omega,ai,ad.NX ic,ad⟩
 case hround=>
  rintro k w2 ⟨hk,am,zM,ae⟩ ih
  try dsimp only
  refine qN O$ Py O O$ NU$ py$ O8 O (λaZ=>?_)$ λaZ=>?_
  ·have EV:k<width:=by omega
   refine An$ py$ NQ$ qN O$ NT O$ NZ O$ NW O$ Od O O$ NT O$ Og UC O$ qV (O6 U3 O O zM O)$ Qp O O$ NT O$ Qp O O ?_;refine qV (Xa O O (by omega)) ?_;rw[show(8:Int)*(((width:Int)-1)-(k:Int))=((8*(width-1-k):Nat):Int) from by omega];refine qV (R9 (8*(width-1-k)) (2^(8*(width-1-k))) O O (by simp only[IntKind.bits];omega) O) ?_;refine qV (z3c O Qy U5)$ qV (P7 Pc Us O O (by omega))$ Oe O (PV Us O O O am (by simp;omega)) ?_;rintro w3 ⟨au,aw⟩;rw[z3A x width k EV] at au;refine NU$ NS$ NW O$ P6 O O$ NT O$ NU ?_;exact(ih (k+1) w3 ⟨by omega,au,aw.NX zM (by omega),ae.NR aw (λi hi=>by rw[hi,bK];exact Nat.le_refl _)⟩ (by omega)).qb
  ·have:k=width:=by omega
   subst this;rw[z3m] at am;refine O4 O$ qN O$ NT O$ qV (z18 (l:=To k x) Pc U5 U9 O am (by rw[List.drop_zero];exact List.take_of_length_le (by rw[List.length_map,Ph];omega)) (by simp[To])) ?_;refine NZ O$ NV func115 O ?_;exact⟨_,rfl,rfl,gY.trans ae⟩
theorem T3 (h:SS Q txt vb width st xs w):Oy prog 82 [ptr vb 0] w λv w'=>v=I 0/\w'=w:=by
 have hB:=h.cells
 refine NP (e:=[(0,_)]) func82 O ntmps82 O O$ qN O$ NZ O$ py$ NQ$ qN O$ NT O$ qV (Pt U98 O O)$ NZ O$ It O$ qN O$ NT O$ OH O$ Og z6G O ?_
 refine qV (O6 U4 O O hB O)$ NZ O$ It O$ An$ NS$ qN O$ NZ O$ NV func82 O ?_
 exact⟨_,rfl,rfl,rfl⟩
theorem z2R (h:SS Q txt vb width st xs w){i:Nat}(hi:i<xs.length)(hn:Q.L.length<=4096):Oy prog 83 [ptr vb 0,I (i:Int)] w λv w'=>v= .tuple #[I ((st+i / (512 / width):Nat):Int),I ((i%(512 / width)*width:Nat):Int)]/\Ext w w':=by
 have hB:=h.cells
 have hg:=Ext.Ob w
 obtain⟨e1,e2,e3,e4,e5⟩:=h.e
 obtain⟨a1,a2,a3⟩:=h.at_ hi
 have ju:=h.n
 have hd:((i:Nat):Int) / ((512 / width:Nat):Int)=((i / (512 / width):Nat):Int):=rfl
 have hm:((i:Nat):Int)%((512 / width:Nat):Int)=((i%(512 / width):Nat):Int):=rfl
 have Ey:((i%(512 / width):Nat):Int)*(width:Int)=((i%(512 / width)*width:Nat):Int):=by rw[Int.natCast_mul]
 have eT:(st:Int)+((i / (512 / width):Nat):Int)=((st+i / (512 / width):Nat):Int):=by rw[Int.natCast_add]
 generalize i / (512 / width)=q at*
 generalize i%(512 / width)=r at*
 generalize 512 / width=each at*
 refine NP (e:=[(0,_),(1,_)]) func83 O ntmps83 O O$ qN O$ Oc O$ NZ O$ py$ Qj (λw'=>Ext w w') O$ Oj 0 O O (hg)$ O0 1 O (Pq O) hg$ O0 2 O (OG ZC O) hg$ O0 3 O (OG Qc O) hg$ qT 4 O (λ_ h=>O6 U3 O O (h.NX hB) O) hg$ Oj 5 O O (hg)$ Oj 6 O O (hg)$ O0 7 O (Pq O) hg ?_
 refine O0 8 O (OG R6 O) hg$ O0 9 O (OG Xi O) hg$ qT 10 O (λ_ h=>O6 U3 O O (h.NX hB) O) hg$ Oj 13 O O (hg)$ Oj 14 O O (hg)$ O0 15 O (Pq O) hg$ O0 16 O (OG R6 O) hg$ O0 17 O (OG Xi O) hg$ qT 18 O (λ_ h=>O6 U3 O O (h.NX hB) O) hg$ Oj 20 O O (hg)$ O0 21 O (Pq O) hg$ O0 22 O (OG R6 O) hg$ O0 23 O (OG UC O) hg$ qT 24 O (λ_ h=>O6 U3 O O (h.NX hB) O) hg ?_
 refine O0 11 O (UH O O (by omega)) hg ?_
 rw[hd]
 refine O0 12 O (TK O O (by omega)) hg$ O0 26 O (Qq O) hg ?_
 rw[eT]
 refine O0 19 O (yre O O (by omega)) hg ?_
 rw[hm]
 refine O0 25 O (Xa O O (by rw[Ey];omega)) hg ?_
 rw[Ey]
 refine O0 27 O (Qq O) hg$ qE$ OD.qb (e:=[(4,_),(5,_)]) ?_
 refine NV func83 O ?_
 exact⟨_,rfl,rfl,hg⟩
end
section
variable {w w':World}{Q:Qz}{txt:Int->NY}{K:Nat}{X:Nat->Prop}{vb width st each n:Nat}{xs:List Nat}
theorem SS.zi4 (h:SS Q txt vb width st xs w){i x:Nat}(hi:xs[i]? =some x):x<2^(8*width)/\x<18446744073709551616:=by
 have h1:=(h.t i x hi).2
 have:=Nat.pow_le_pow_right (show 0<2 by decide) (show 8*width<=64 by have:=h.e;omega)
 exact⟨h1,by omega⟩
theorem Yn (hP:Sp Q txt K X w)(hX:∀b,X b->b<w.heap.size)(hK:K<1000000000000)(hv:SS Q txt vb width st xs w)(eI:X vb){i x:Nat}(hi:xs[i]? =some x):
  Oy prog 48 [ptr vb 0,I (i:Int)] w λv w'=>v= .tuple #[u64v x,I 0]/\Sp Q txt K X w'/\Kp (λb=>¬X b) w w':=by
 have en:=hP.n
 have aV:i<xs.length:=by
  rcases Nat.lt_or_ge i xs.length with h| h
  ·exact h
  ·rw[List.getElem?_eq_none h] at hi;cases hi
 have mB:=z2R hv aV en
 obtain⟨a1,a2,a3⟩:=hv.at_ aV
 have Bh:=(hv.t i x hi).1
 have md:=(hv.zi4 hi).1
 have eO:=hP.z0s (x:=((st+i / (512 / width):Nat):Int)) (Int.natCast_nonneg _) (Int.ofNat_lt.2 a1)
 have ju:=hv.n
 have Ny:=hv.e.2.2.2.2
 have nZ:∀w1,Ext w w1->Oy prog 84 [ptr Q.s 0,I ((st+i / (512 / width):Nat):Int)] w1 λv w'=>v= .tuple #[S (txt ((st+i / (512 / width):Nat):Int)),I 0]/\Sp Q txt K X w'/\Kp (λb=>¬X b) w1 w':=λw1 ad=>(hP.ext' ad).read (λb hb=>by have:=hX b hb;have:=ad.size;omega) hK (Int.natCast_nonneg _) (Int.ofNat_lt.2 a1)
 generalize i / (512 / width)=q at*
 generalize i%(512 / width)=r at*
 generalize ho:r*width=o at*
 obtain⟨t,ht⟩:∃t,txt ((st+q:Nat):Int)=t:=⟨_,rfl⟩
 rw[ht] at Bh eO nZ
 have hB:=hv.cells
 refine NP (e:=[(0,_),(1,_)]) func48 O ntmps48 O O$ qN O$ Oc O$ NZ O$ py$ qN O$ NT O$ Om zaM O (T3 hv) ?_
 rintro _ w ⟨rfl,rfl⟩
 refine Oc O$ qM O$ NT O$ Pz O O$ NU$ It O$ An$ py$ qN O$ NT O$ Py O O$ OR$ Od O O$ NT O ?_
 refine OH O$ Og R6 O$ Og Zj O$ qV (O6 U3 O O hB O)$ SB O O$ OR$ OU O O$ NU$ It O$ An$ qN O$ Od O O$ Om zi2 O (mB) ?_
 rintro _ w1 ⟨rfl,ad⟩
 have ai:=ad.NX hB
 refine NT O$ P9 O O$ P9 O O$ Oc O$ NZ O$ OD.qb (e:=[(0,_),(4,_),(5,_),(7,_),(8,_)]) ?_
 refine qN O$ NT O$ OH O$ Og We O$ qV (O6 X7 O O ai O)$ NT O$ Om zca O (nZ w1 ad) ?_
 rintro _ w2 ⟨rfl,ft,aq⟩
 have am:=aq.NX ai (λe=>e eI)
 refine NT O$ P9 O O$ P9 O O$ Oc O$ NZ O$ py$ qN O$ NT O$ Pz O O$ NU$ It O$ An$ qN O$ NZ O ?_
 refine py$ qN O$ Od O O$ Od O O$ OH O$ Og R6 O$ Og UC O$ qV (O6 U3 O O am O)$ P6 O O ?_
 rw[show(o:Int)+(width:Int)=((o+width:Nat):Int) by omega]
 refine qV (zfF (m:=o) (n:=o+width) U9 O O O (by omega)) ?_
 rw[show o+width-o=width by omega,Bh]
 have fu:=Ph width x
 obtain⟨s,hs⟩:∃s,To width x=s:=⟨_,rfl⟩
 have je:OK (On s)=x:=by rw[<-hs];exact Zr md
 rw[hs] at fu⊢
 refine O5 O O (z5t U9 Pc U5 O) ?_
 rintro _ w3 ⟨b7,c7,rest,rfl,⟨jQ,ah,au⟩,AU⟩
 refine Qx Pc O$ NT O$ NU$ OD.qb (e:=[(4,_),(5,_),(11,_),(58,_),(59,_),(60,_)]) ?_
 refine NQ$ Qm (α:=Nat) (0) (λi=>[(11,u64v (OK (On (s.take i)))),(58,.slice (some ⟨b7,0,none⟩) s.length c7),(59,I (s.length:Int)),(60,I (i:Int))]) (λi w'=>w'=w3/\i<=s.length) (λi=>s.length-i) ?hI ?hround
 case hI=>exact⟨rfl,Nat.zero_le _⟩
 case hround=>
  rintro i w4 ⟨rfl,hi⟩ ih
  try dsimp only
  refine qN O$ Py O O$ NU$ py$ O8 O (λh0=>?_)$ λh0=>?_
  ·obtain⟨c,hc⟩:∃c,s[i]? =some c:=⟨_,List.getElem?_eq_getElem (by omega)⟩;have cQ:=c.toNat_lt;have eT:=Xu hc
   have aZ:OK (On (s.take i))<72057594037927936:=by
    have h1:=Q8 (On (s.take i));rw[bitsT_length,List.length_take] at h1;have h2:2^(8*min i s.length)<=2^56:=Nat.pow_le_pow_right (by decide) (by omega);omega
   have aW:w4.cell? ⟨b7,0+i*1,none⟩=some (Rb c):=by
    rw[au.cell,Nat.zero_add,Nat.mul_one,List.getElem?_append_left (by rw[List.length_map];omega),List.getElem?_map,hc];rfl
   refine An$ py$ NQ$ qN O$ qV (P7 Pc Us O O (by omega))$ qV (OC U5 O O aW) ?_
   generalize OK (On (s.take i))=q at eT aZ
   refine NZ O$ NW O$ NT O$ qV (PX 8 256 O O (by decide) O)$ NT O$ qV ((z1a O U5 Qy (by decide)))$ qV (Yf O O (by omega) (by omega)) ?_
   have mm:(q*256%18446744073709551616 |||c.toNat)=OK (On (s.take (i+1))):=by
    rw[eT,Nat.mod_eq_of_lt (by omega),Nat.mul_comm q];exact(Nat.two_pow_add_eq_or_of_lt (i:=8) cQ q).symm
   rw[mm];refine NZ O$ NS$ NW O$ P6 O O$ NT O$ NU ?_;exact(ih (i+1) _ ⟨rfl,by omega⟩ (by omega)).qb
  ·have bX:i=s.length:=by omega
   subst bX;rw[List.take_length,je];refine O4 O$ qN O$ NT O$ Oc O$ NZ O$ NV func48 O ?_;exact⟨_,rfl,rfl,ft.ext' ah,(ad.kp.trans aq).trans ah.kp⟩
theorem z1v (hP:Sp Q txt K X w)(hX:∀b,X b->b<w.heap.size)(hK:K<1000000000000)(hv:SS Q txt vb width st xs w)(eI:X vb){i x:Nat}(hi:i<xs.length)(hx:x<2^(8*width)):
  Oy prog 121 [ptr vb 0,I (i:Int),u64v x] w λv w'=>v=I 0/\VcW Q txt (K+1) X vb width st (xs.set i x) w w':=by
 have en:=hP.n
 have mB:∀w1,Ext w w1->Oy prog 83 [ptr vb 0,I (i:Int)] w1 λv w'=>v= .tuple #[I ((st+i / (512 / width):Nat):Int),I ((i%(512 / width)*width:Nat):Int)]/\Ext w1 w':=λw1 ad=>z2R (hv.ext ad) hi en
 obtain⟨a1,a2,a3⟩:=hv.at_ hi
 obtain⟨e1,e2,e3,e4,e5⟩:=hv.e
 have md:x<18446744073709551616:=by
  have:=Nat.pow_le_pow_right (show 0<2 by decide) (show 8*width<=64 by omega);omega
 have eO:=hP.z0s (x:=((st+i / (512 / width):Nat):Int)) (Int.natCast_nonneg _) (Int.ofNat_lt.2 a1)
 have ju:=hv.n
 obtain⟨t,ht⟩:∃t,txt ((st+i / (512 / width):Nat):Int)=t:=⟨_,rfl⟩
 have dJ:=hv.t.set (by omega) hx hi ht (by rw[ht] at eO;omega)
 have nZ:∀w1,Ext w w1->Oy prog 84 [ptr Q.s 0,I ((st+i / (512 / width):Nat):Int)] w1 λv w'=>v= .tuple #[S (txt ((st+i / (512 / width):Nat):Int)),I 0]/\Sp Q txt K X w'/\Kp (λb=>¬X b) w1 w':=λw1 ad=>(hP.ext' ad).read (λb hb=>by have:=hX b hb;have:=ad.size;omega) hK (Int.natCast_nonneg _) (Int.ofNat_lt.2 a1)
 have g7:(xs.set i x).length=xs.length:=by simp
 have hB:=hv.cells
 have oQ:=hv.wd
 have bM:=hv.fit
 rw[ht] at eO nZ
 have Fn:∀w',O9 w' vb [I (xs.length:Int),I (width:Int),I ((512 / width:Nat):Int),I (st:Int),I (QD xs.length (512 / width):Int),ptr Q.s 0,.bool false] 157->SS Q (YB txt ((st+i / (512 / width):Nat):Int) (some (t.take (i%(512 / width)*width)++To width x++t.drop (i%(512 / width)*width+width)))) vb width st (xs.set i x) w':=λw' hb=>⟨by rw[g7];exact hb,oQ,dJ,by rw[g7];exact ju,by rw[g7];exact bM⟩
 clear dJ
 have mA:st+i / (512 / width)<Q.L.length:=a1
 generalize i / (512 / width)=q at*
 generalize i%(512 / width)=r at*
 generalize ho:r*width=o at*
 have fu:=Ph width x
 have qd:(t.take o++To width x++t.drop (o+width)).length=512:=by rw[List.length_append,List.length_append,List.length_take,List.length_drop,fu];omega
 refine NP (e:=[(0,_),(1,_),(2,_)]) func121 O ntmps121 O O$ qN O$ NZ O$ py$ qN O$ NT O$ Om zaM O (T3 hv) ?_
 rintro _ w ⟨rfl,rfl⟩
 refine Oc O$ qM O$ NT O$ Pz O O$ NU$ It O$ An$ py$ qN O$ NT O$ Py O O$ OR$ Od O O$ NT O ?_
 refine OH O$ Og R6 O$ Og Zj O$ qV (O6 U3 O O hB O)$ SB O O$ OR$ OU O O$ Od O O$ OH O$ Og R6 O$ qV (OE z8N O XA O (O9.cells (n:=3) hB (news:=[_,_,_]) O) O)$ NT O$ Om ze6 O (z0f xs.length width (512 / width) x oQ hx w) ?_
 rintro _ w1 ⟨rfl,ad⟩
 have ai:=ad.NX hB
 refine qV ((Rn O))$ OU O O$ NU$ OD.qb (e:=[(0,_),(1,_),(2,_),(6,_),(36,_)]) ?_
 refine It O$ An$ qN O$ Od O O$ Om zi2 O (mB w1 ad) ?_
 rintro _ w2 ⟨rfl,ae⟩
 have am:=ae.NX ai
 refine NT O$ P9 O O$ P9 O O$ Oc O$ Oc O$ qM O$ NT O$ OH O$ Og We O$ qV (O6 X7 O O am O)$ NT O$ Om zca O (nZ w2 (ad.trans ae)) ?_
 rintro _ w3 ⟨rfl,eN,aw⟩
 have au:=aw.NX am (λe=>e eI)
 have ag:=Ext.Ob w3
 have ct:Kp (λb=>¬X b) w w3:=(ad.trans ae).kp.trans aw
 have aZ:(t.take o).length=o:=by rw[List.length_take];omega
 have LI:(t.drop (o+width)).length=512-(o+width):=by rw[List.length_drop];omega
 refine NT O$ P9 O O$ P9 O O$ Oc O$ NZ O$ py$ qN O$ NT O$ Pz O O$ NU$ OD.qb (e:=[(0,_),(2,_),(6,_),(8,_),(9,_),(10,_),(11,_),(53,_)]) ?_
 refine It O$ An$ py$ Qj (λw'=>Kp (λb=>¬X b) w3 w') O$ Oj 0 O O (ag.kp)$ O0 1 O (Pq O) (ag.kp)$ O0 2 O (OG We O) (ag.kp)$ qT 3 O (λ_ h=>O6 X7 O O (h.NX au (λe=>e eI)) O) (ag.kp)$ Oj 4 O O (ag.kp)$ Oj 5 O O (ag.kp)$ Oj 6 O O (ag.kp)$ O0 7 O (z1R U9 O O (by omega)) (ag.kp)$ Oj 8 O O (ag.kp)$ O0 9 O (Pq O) (ag.kp) ?_
 refine O0 10 O (OG R6 O) (ag.kp)$ qT 11 O (λ_ hS=>OE z8N O XA O (O9.cells (n:=3) (hS.NX au (λe=>e eI)) (news:=[_,_,_]) O) O) (ag.kp)$ Oj 12 O O (ag.kp)$ Oj 15 O O (ag.kp)$ Oj 16 O O (ag.kp)$ Oj 17 O O (ag.kp)$ O0 18 O (Pq O) (ag.kp)$ O0 19 O (OG R6 O) (ag.kp)$ O0 20 O (OG UC O) (ag.kp)$ qT 21 O (λ_ h=>O6 U3 O O (h.NX au (λe=>e eI)) O) (ag.kp)$ O0 22 O (TK O O (by omega)) (ag.kp) ?_
 rw[show(o:Int)+(width:Int)=((o+width:Nat):Int) by omega]
 refine O0 23 O (YW U9 O O (by omega)) (ag.kp)$ RW 13 O zaX O (WI _ _ _ x e5 md _) ?_
 rintro _ w4 ⟨rfl,az⟩
 refine⟨ag.kp.trans az.kp,?_⟩
 have cz:=ag.trans az
 refine O0 14 O (VB O O (by first|omega|(simp;done)|(simp;omega))) (ag.kp.trans az.kp) ?_
 refine O0 24 O (VB O O (by rw[List.length_append,aZ,fu,LI];omega)) (ag.kp.trans az.kp) ?_
 refine RW 25 O zbA O ((eN.ext' cz).write (λb hb=>by have:=hX b hb;have:=ct.size;have:=cz.size;omega) hK (no:=((st+q:Nat):Int)) (by omega) (by omega) _ qd) ?_
 rintro _ w5 ⟨rfl,gT,ak⟩
 refine⟨cz.kp.trans ak,?_⟩
 have jv:Kp (λb=>¬X b) w3 w5:=cz.kp.trans ak
 refine O0 26 O (Qq O) (cz.kp.trans ak)$ qE$ OD.qb (e:=[(6,_)]) ?_
 refine NV func121 O ?_
 exact⟨_,rfl,rfl,_,gT,Fn w5 (jv.NX au (λe=>e eI)),λy hy=>QB _ _ (by rw[g7] at hy;omega),ct.trans jv⟩
end
section
variable {w w':World}{Q:Qz}{txt:Int->NY}{K:Nat}{X:Nat->Prop}{vb width st each n:Nat}{xs:List Nat}
theorem z3g (hP:Sp Q txt K X w)(hX:∀b,X b->b<w.heap.size)(hK:K<=900000000000)(hv:SS Q txt vb width st xs w)(eI:X vb){f:Nat}(p8:CF prog f)(caps:List Value)(NX:Nat->NY)(aF:∀b,(NX b).length<=512)
  (hf:∀(b:Nat) (w1:World),b<QD xs.length (512 / width)->Kp (λb=>¬X b) w w1->Oy prog f ([I (b:Int)]++caps) w1 λv w2=>v=S (NX b)/\Ext w1 w2):
  Oy prog 88 [ptr vb 0,.func (.func f) #[] caps.toArray] w λv w'=>v=I 0/\∃txt',Sp Q txt' (K+QD xs.length (512 / width)) X w'/\Kp (λb=>¬X b) w w'/\(∀b,b<QD xs.length (512 / width)->txt' ((st+b:Nat):Int)=NX b++zeros (512-(NX b).length))/\(∀y:Int,y<(st:Int)\/(st:Int)+(QD xs.length (512 / width):Int)<=y->txt' y=txt y):=by
 have dF:maxLen=9223372036854775807:=rfl
 have en:=hP.n
 have hB:=hv.cells
 have bM:=hv.fit
 have ju:=hv.n
 obtain⟨e1,e2,e3,e4,e5⟩:=hv.e
 have tK:=Xw xs.length width (512 / width) ⟨by omega,e2⟩ ju w
 obtain⟨N,hN⟩:∃N,QD xs.length (512 / width)=N:=⟨_,rfl⟩
 rw[hN] at hB bM tK hf⊢
 refine NP (e:=[(0,_),(1,_)]) func88 O ntmps88 O O$ qN O$ NZ O$ py$ qN O$ NT O$ OH O$ Og R6 O$ qV (OE z8N O XA O (O9.cells (n:=3) hB (news:=[_,_,_]) O) O)$ Om zhp O (tK) ?_
 rintro _ w1 ⟨rfl,ad⟩
 refine NT O$ NU$ NQ$ Qm (α:=Nat) (0) (λk=>[(0,ptr vb 0),(1,.func (.func f) #[] caps.toArray),(12,I (N:Int)),(13,I (k:Int))]) (λk w'=>k<=N/\Kp (λb=>¬X b) w w'/\∃txt',Sp Q txt' (K+k) X w'/\(∀b,b<k->txt' ((st+b:Nat):Int)=NX b++zeros (512-(NX b).length))/\(∀y:Int,y<(st:Int)\/(st:Int)+(k:Int)<=y->txt' y=txt y)) (λk=>N-k) ?hI ?hround
 case hI=>exact⟨Nat.zero_le _,ad.kp,txt,hP.ext' ad,λb hb=>by omega,λy _=>rfl⟩
 case hround=>
  rintro k w2 ⟨hk,aq,txt2,ft,Ij,pY⟩ ih;have am:=aq.NX hB (λe=>e eI)
  try dsimp only
  refine qN O$ Py O O$ NU$ py$ O8 O (λh0=>?_)$ λh0=>?_
  ·have Fo:k<N:=by omega
   refine An$ py$ NQ$ qN O$ NT O$ Oc O$ qM O$ Od O O$ PG O O (R0 p8 O O) (hf k w2 Fo aq) ?_;rintro _ w3 ⟨rfl,ah⟩;have au:=ah.NX am;have eN:=ft.ext' ah;have ag:=Ext.Ob w3;have hl:=aF k;have ct:=aq.trans ah.kp;obtain⟨t,ht⟩:∃t,NX k=t:=⟨_,rfl⟩;rw[ht] at hl⊢;have hz:(zeros (512-t.length)).length=512-t.length:=by simp[zeros]
   have cE:=eN.size;have zh:∀w4,Ext w3 w4->Oy prog 66 [ptr Q.s 0] w4 λv w'=>v=I 512/\w'=w4:=λw4 hx=>(eN.ext' hx).size;refine NZ O$ py$ Qj (λw'=>Kp (λb=>¬X b) w3 w') O$ Oj 0 O O (ag.kp)$ O0 1 O (Pq O) (ag.kp)$ O0 2 O (OG We O) (ag.kp)$ qT 3 O (λ_ h=>O6 X7 O O (h.NX au (λe=>e eI)) O) (ag.kp)$ Oj 4 O O (ag.kp)$ O0 5 O (Pq O) (ag.kp)$ O0 6 O (OG ZC O) (ag.kp)$ O0 7 O (OG Qc O) (ag.kp)$ qT 8 O (λ_ h=>O6 U3 O O (h.NX au (λe=>e eI)) O) (ag.kp)$ Oj 9 O O (ag.kp)$ O0 10 O (TK O O (by omega)) (ag.kp) ?_;refine Oj 11 O O (ag.kp)$ Oj 12 O O (ag.kp)$ O0 13 O (Pq O) (ag.kp)$ O0 14 O (OG We O) (ag.kp)$ qT 15 O (λ_ h=>O6 X7 O O (h.NX au (λe=>e eI)) O) (ag.kp)$ Oj 17 O O (ag.kp)$ O0 18 O (Sr U9 O) (ag.kp)$ RW 16 O z3a O (zh _ ag) ?_;rintro _ w4 ⟨rfl,rfl⟩;refine⟨ag.kp,?_⟩;refine O0 19 O (Ww O O (by omega)) (ag.kp) ?_;rw[show(512:Int)-(t.length:Int)=((512-t.length:Nat):Int) by omega];refine qO 20$ R3 (i:=20) O O O (pmk (c:=512-t.length) (n:=512-t.length) Pc Us O O O (by omega) (by omega) (by omega)) ?_;rintro _ w4 ⟨b4,rfl,⟨fV,az,aI⟩,-⟩;refine⟨ag.kp.trans az.kp,?_⟩;have cz:=ag.trans az;refine qO 21$ zep (i:=21) O O O (z18 (l:=zeros (512-t.length)) Pc U5 U9 O aI (Z2 _) hz) (cz.kp)$ O0 22 O (VB O O (by rw[hz];omega)) (cz.kp) ?_;have qd:(t++zeros (512-t.length)).length=512:=by rw[List.length_append,hz];omega
   rw[show(st:Int)+(k:Int)=((st+k:Nat):Int) by omega];refine RW 23 O zbA O ((eN.ext' cz).write (λb hb=>by have:=hX b hb;have:=ct.size;have:=cz.size;omega) (by omega) (no:=((st+k:Nat):Int)) (by omega) (by omega) _ qd) ?_;rintro _ w5 ⟨rfl,gT,ak⟩;refine⟨cz.kp.trans ak,?_⟩;have jv:Kp (λb=>¬X b) w3 w5:=cz.kp.trans ak;refine O0 24 O (Qq O) (cz.kp.trans ak)$ qE$ qN O$ NT O$ Pz O O$ NU$ It O$ An$ NS$ NW O$ P6 O O$ NT O$ NU ((ih (k+1) w5 ⟨by omega,ct.trans jv,_,gT,λb hb=>?_,λy hy=>?_⟩ (by omega)).qb)
   ·by_cases e:b=k
    ·subst e;rw[Ri,ht];rfl
    ·rw[QB _ _ (by omega)];exact Ij b (by omega)
   ·rw[QB _ _ (by omega)];exact pY y (by omega)
  ·have Fo:k=N:=by omega
   subst Fo;refine O4 O$ qN O$ NZ O$ NV func88 O ?_;exact⟨_,rfl,rfl,txt2,ft,aq,Ij,pY⟩
theorem z3C (l:NY):∀n,((List.replicate n l).flatten).length=n*l.length
 |0=>by simp
 |n+1=>by rw[List.replicate_succ,List.flatten_cons,List.length_append,z3C l n,Nat.add_mul];omega
theorem z3T {bf:Nat}{s:NY}(b:Nat)(hB:O9 w bf [S s] 9):Oy prog 116 ([I (b:Int)]++[ptr bf 0]) w λv w2=>v=S s/\Ext w w2:=by
 show Oy _ _ [I (b:Int),ptr bf 0] _ _
 refine NP (e:=[(0,_),(1,_)]) func116 O ntmps116 O O$ qN O$ Oc O$ qM O$ qV (O6 U9 O O hB O)$ NZ O$ NV func116 O ?_
 exact⟨_,rfl,rfl,Ext.refl _⟩
theorem z5O (hP:Sp Q txt K X w)(hX:∀b,X b->b<w.heap.size)(hK:K<=900000000000)(hv:SS Q txt vb width st xs w)(eI:X vb){x:Nat}(hx:x<2^(8*width)):
  Oy prog 74 [ptr vb 0,u64v x] w λv w'=>v=I 0/\VcW Q txt (K+QD xs.length (512 / width)) X vb width st (List.replicate xs.length x) w w':=by
 have hB:=hv.cells
 have ju:=hv.n
 obtain⟨e1,e2,e3,e4,e5⟩:=hv.e
 have md:x<18446744073709551616:=by
  have:=Nat.pow_le_pow_right (show 0<2 by decide) (show 8*width<=64 by omega);omega
 have fu:=Ph width x
 have lM:(List.replicate (512 / width) (To width x)).flatten.length=512:=by
  rw[z3C,fu];exact e3
 refine NP (e:=[(0,_),(1,_)]) func74 O ntmps74 O O$ qN O$ NZ O$ py$ qN O$ NT O$ Om zaM O (T3 hv) ?_
 rintro _ w ⟨rfl,rfl⟩
 refine Oc O$ qM O$ NT O$ Pz O O$ NU$ It O$ An$ py$ qN O$ NT O$ OH O$ Og R6 O$ qV (OE z8N O XA O (O9.cells (n:=3) hB (news:=[_,_,_]) O) O)$ NT O ?_
 refine Om ze6 O (z0f xs.length width (512 / width) x hv.wd hx w) ?_
 rintro _ w1 ⟨rfl,ad⟩
 have ai:=ad.NX hB
 have aT:=Ext.Ob w1
 refine qV ((Rn O))$ NU$ It O$ An$ py$ OX (λe' w'=>∃bf,e'=[(0,ptr vb 0),(6,ptr bf 0)]/\O9 w' bf [S (List.replicate (512 / width) (To width x)).flatten] 9/\Ext w1 w'/\w1.heap.size<=bf) ?cF$ λcF=>?cR
 case cF=>
  rintro e' w2 ⟨bf,rfl,cZ,ae,Fp⟩;have aJ:=ad.trans ae;have il:=ad.size;have ft:Sp Q txt K (λb=>X b\/b=bf) w2:=hP.ext aJ (λb e=>e.imp id λe=>by omega);have lbf:=cZ.lt;have hw:=z3g ft (λb hb=>by rcases hb with e|e;(have:=hX b e;have:=aJ.size;omega);omega) hK (hv.ext aJ) (.inl eI) zfV [ptr bf 0] (λ_=>(List.replicate (512 / width) (To width x)).flatten) (λ_=>by rw[lM];omega) (λb w3 _ aw=>z3T b (aw.NX cZ (λe=>e (.inr O))));refine qN O$ NT O$ qV (ymf (first:=[]) (caps:=[.tmp 6]) O O)$ Om zkr O (hw) ?_;rintro _ w3 ⟨rfl,txt3,eN,aw,pN,qv⟩;refine NZ O$ NV func74 O ?_;have cU:Kp (λb=>¬X b) w1 w3:=ae.kp.trans (aw.Of λb e e2=>e (.inl e2));have g7:(List.replicate xs.length x).length=xs.length:=List.length_replicate;refine⟨_,rfl,rfl,txt3,eN.less (λb e=> .inl e),⟨?_,hv.wd,VcT.fill hx (by omega) (λi hi=>?_),by rw[g7];exact ju,by rw[g7];exact hv.fit⟩,λy hy=>qv y (by rw[g7] at hy;exact hy),ad.kp.trans cU⟩
  ·rw[g7];exact(ad.kp.trans cU).NX hB (λe=>e eI)
  ·have u9:=z2g (each:=512 / width) (by omega) hi;exact⟨_,pN _ u9⟩
 case cR=>
  have aj:=aT;have bB:=aj.size;refine Oo [13] (λw'=>Ext w1 w') (by kernel_rfl) O$ OW 0 O O (aj)$ Ot 1 O (Pq O) aj$ Ot 2 O (OG R6 O) aj$ qL 3 O (λ_ h=>OE z8N O XA O (O9.cells (n:=3) (h.NX ai) (news:=[_,_,_]) O) O) aj$ OW 4 O O (aj)$ OW 6 O O (aj)$ Ot 7 O (Pq O) aj$ Ot 8 O (OG R6 O) aj$ Ot 9 O (OG Xi O) aj$ qL 10 O (λ_ h=>O6 U3 O O (h.NX ai) O) aj$ WD (i:=5) (j:=12) (by kernel_rfl) ?_ ?_
  ·refine QQ (i:=5) O O O (yc zaX O) (WI _ _ _ x e5 md _) ?_;rintro _ w5 ⟨rfl,aR⟩;refine⟨aj.trans aR,?_⟩;have aj:=aj.trans aR
   try have bh:=aR.NX bh
   have bB:=Nat.le_trans bB aR.size;refine WD (i:=11) (j:=12) (by kernel_rfl) ?_ ?_
   ·refine QQ (i:=11) O O O (yc z71 O) (W4 (To width x) (512 / width) (by omega) (by omega) _) ?_;rintro _ w11 ⟨rfl,aQ⟩;refine⟨aj.trans aQ,?_⟩;have aj:=aj.trans aQ
    try have bh:=aQ.NX bh
    have bB:=Nat.le_trans bB aQ.size;refine Qg (i:=12) (by kernel_rfl)$ PC (i:=12) O O O (QU (cs:=[_]) ZF O) ?_;rintro _ w12 ⟨bf,rfl,Fp,aB,bh⟩;refine⟨aj.trans aB,?_⟩;have aj:=aj.trans aB;have o3:w1.heap.size<=bf:=by omega
    have bB:=Nat.le_trans bB aB.size;refine S8 [13]$ qO 13$ OP (i:=13) O O (PV ZF O O O bh (by simp)) ?_;rintro w13 ⟨eH,cU⟩;refine⟨trivial,?_⟩;refine qE$ OD.qb (e:=[(0,_),(4,_),(6,_)]) ?_;exact(cF _ _ ⟨bf,rfl,eH,aj.NR cU (λj e=>by omega),o3⟩).qb
   ·refine PC (i:=12) O O O (QU (cs:=[_]) ZF O) ?_;rintro _ w12 ⟨bf,rfl,Fp,aB,bh⟩;refine⟨aj.trans aB,?_⟩;have aj:=aj.trans aB;have o3:w1.heap.size<=bf:=by omega
    have bB:=Nat.le_trans bB aB.size;refine Qg (i:=11) (by kernel_rfl)$ QQ (i:=11) O O O (yc z71 O) (W4 (To width x) (512 / width) (by omega) (by omega) _) ?_;rintro _ w11 ⟨rfl,aQ⟩;refine⟨aj.trans aQ,?_⟩;have aj:=aj.trans aQ
    try have bh:=aQ.NX bh
    have bB:=Nat.le_trans bB aQ.size;refine S8 [13]$ qO 13$ OP (i:=13) O O (PV ZF O O O bh (by simp)) ?_;rintro w13 ⟨eH,cU⟩;refine⟨trivial,?_⟩;refine qE$ OD.qb (e:=[(0,_),(4,_),(6,_)]) ?_;exact(cF _ _ ⟨bf,rfl,eH,aj.NR cU (λj e=>by omega),o3⟩).qb
  ·refine PC (i:=12) O O O (QU (cs:=[_]) ZF O) ?_;rintro _ w12 ⟨bf,rfl,Fp,aB,bh⟩;refine⟨aj.trans aB,?_⟩;have aj:=aj.trans aB;have o3:w1.heap.size<=bf:=by omega
   have bB:=Nat.le_trans bB aB.size;refine Qg (i:=5) (by kernel_rfl)$ QQ (i:=5) O O O (yc zaX O) (WI _ _ _ x e5 md _) ?_;rintro _ w5 ⟨rfl,aR⟩;refine⟨aj.trans aR,?_⟩;have aj:=aj.trans aR
   try have bh:=aR.NX bh
   have bB:=Nat.le_trans bB aR.size;refine Qg (i:=11) (by kernel_rfl)$ QQ (i:=11) O O O (yc z71 O) (W4 (To width x) (512 / width) (by omega) (by omega) _) ?_;rintro _ w11 ⟨rfl,aQ⟩;refine⟨aj.trans aQ,?_⟩;have aj:=aj.trans aQ
   try have bh:=aQ.NX bh
   have bB:=Nat.le_trans bB aQ.size;refine S8 [13]$ qO 13$ OP (i:=13) O O (PV ZF O O O bh (by simp)) ?_;rintro w13 ⟨eH,cU⟩;refine⟨trivial,?_⟩;refine qE$ OD.qb (e:=[(0,_),(4,_),(6,_)]) ?_;exact(cF _ _ ⟨bf,rfl,eH,aj.NR cU (λj e=>by omega),o3⟩).qb
end
section
variable {w w':World}{Q:Qz}{txt:Int->NY}{K:Nat}{X:Nat->Prop}{vb width st each n:Nat}{xs:List Nat}
end
section
variable {w w':World}{Q:Qz}{txt:Int->NY}{K:Nat}{X:Nat->Prop}{vb width st each n:Nat}{xs:List Nat}
theorem z41 (hP:Sp Q txt K X w)(hX:∀b,X b->b<w.heap.size)(hv:SS Q txt vb width st xs w)(eI:X vb)(dc:2<=st)(hc:∀i,st<=i->i<st+QD xs.length (512 / width)->Q.L[i]? =some true):
  Oy prog 80 [ptr vb 0] w λv w'=>v=I 0/\∃txt',Sp (Q.Pw (Pv Q.L st (QD xs.length (512 / width)) false)) txt' K X w'/\(∀y:Int,y<(st:Int)\/(st:Int)+(QD xs.length (512 / width):Int)<=y->txt' y=txt y)/\Kp (λb=>¬X b\/b=vb) w w':=by
 have hB:=hv.cells
 have bM:=hv.fit
 have jp:1<=QD xs.length (512 / width):=Nat.le_max_left _ _
 have hg:=Ext.Ob w
 have LJ:=(hP.ext' hg).zjH (λb hb=>by have:=hX b hb;have:=hg.size;omega) jp dc bM hc
 generalize QD xs.length (512 / width)=N at*
 refine NP (e:=[(0,_)]) func80 O ntmps80 O O$ qN O$ NZ O$ py$ qN O$ NT O$ Om zaM O (T3 hv) ?_
 rintro _ w ⟨rfl,rfl⟩
 refine Oc O$ qM O$ NT O$ Pz O O$ NU$ It O$ An$ py$ py$ Qj (λw'=>Kp (λb=>¬X b) w w') O$ Oj 0 O O (hg.kp)$ O0 1 O (Pq O) (hg.kp)$ O0 2 O (OG We O) (hg.kp)$ qT 3 O (λ_ h=>O6 X7 O O (h.NX hB (λe=>e eI)) O) (hg.kp) ?_
 refine Oj 4 O O (hg.kp)$ O0 5 O (Pq O) (hg.kp)$ O0 6 O (OG ZC O) (hg.kp)$ qT 7 O (λ_ hS=>OE Wj O Qf O (O9.cells (n:=2) (hS.NX hB (λe=>e eI)) (news:=[_,_]) O) O) (hg.kp)$ RW 8 O zk9 O (LJ) ?_
 rintro _ w1 ⟨rfl,txt1,jJ,iV,aK⟩
 refine⟨hg.kp.trans aK,?_⟩
 have iI:=hg.kp.trans aK
 have ai:=iI.NX hB (λe=>e eI)
 refine O0 9 O (Qq O) (hg.kp.trans aK)$ qE$ qN O$ NT O$ Pz O O$ NU$ It O$ An$ qN O$ NT O$ OH O$ Og z6G O$ Oe O (PV Vg O O O ai (by simp)) ?_
 rintro w2 ⟨am,aq⟩
 refine qM O$ NZ O$ NV func80 O ?_
 exact⟨_,rfl,rfl,txt1,jJ.own aq (λb e=>by rw[e];exact eI),iV,(iI.Of λb e=> .inl e).trans (aq.Of λb e=> .inr e)⟩
theorem VcT.any {txt:Int->NY}{st width each n:Nat}(he:1<=each)(hw:each*width<=512)(h:∀i,i<n->(txt ((st+i / each:Nat):Int)).length=512):∃xs:List Nat,xs.length=n/\VcT txt st width each xs:=by
 refine⟨(List.range n).map λi=>OK (On (((txt ((st+i / each:Nat):Int)).drop (i%each*width)).take width)),by simp,λi x hx=>?_⟩
 rw[List.getElem?_map] at hx
 by_cases hi:i<n
 ·rw[List.getElem?_range hi] at hx;cases hx;have hl:=h i hi;have hm:(i%each+1)*width<=each*width:=Nat.mul_le_mul_right _ (Nat.mod_lt _ he);rw[Nat.add_mul,Nat.one_mul] at hm
  have aF:(((txt ((st+i / each:Nat):Int)).drop (i%each*width)).take width).length=width:=by
   rw[List.length_take,List.length_drop,hl];omega
  refine⟨?_,?_⟩
  ·have hb:=z7p (((txt ((st+i / each:Nat):Int)).drop (i%each*width)).take width);rw[aF] at hb;exact hb.symm
  ·have h1:=Q8 (On (((txt ((st+i / each:Nat):Int)).drop (i%each*width)).take width));rw[bitsT_length,aF] at h1;exact h1
 ·rw[List.getElem?_eq_none (by simpa using hi)] at hx;cases hx
theorem z8P (hP:Sp Q txt K X w)(hX:∀b,X b->b<w.heap.size)(hK:K<=800000000000){a:Nat}(hp:Pre Q.L a)(n width:Nat)(hn:n<=4194304)(oQ:width=1\/width=2\/width=4\/width=8)(bM:a+QD n (512 / width)<=Q.L.length):
  Oy prog 39 [ptr Q.s 0,I (n:Int),I (width:Int)] w λv w'=>∃vb txt',v= .tuple #[ptr vb 0,I 0]/\w.heap.size<=vb/\Sp (Q.Pw (Pv Q.L a (QD n (512 / width)) true)) txt' (K+QD n (512 / width)) (λb=>X b\/b=vb) w'/\SS (Q.Pw (Pv Q.L a (QD n (512 / width)) true)) txt' vb width a (List.replicate n 0) w'/\(∀y:Int,y<(a:Int)\/(a:Int)+(QD n (512 / width):Int)<=y->txt' y=txt y)/\Kp (λb=>¬X b) w w':=by
 have jp:1<=QD n (512 / width):=Nat.le_max_left _ _
 have en:=hP.n
 obtain⟨e1,e2,e3,e4,e5⟩:64<=512 / width/\512 / width<=512/\512 / width*width=512/\1<=width/\width<=8:=by
  rcases oQ with e|e|e|e<;>subst e<;>decide
 have fJ:(Pv Q.L a (QD n (512 / width)) true).length=Q.L.length:=Pl bM
 refine NP (e:=[(0,_),(1,_),(2,_)]) func39 O ntmps39 O O$ qN O$ Oc O$ NZ O$ py$ NQ$ qN O$ NT O$ qV (Pt X7 O O)$ NZ O$ It O$ py$ OX (λe' w'=>w'=w/\e'=[(0,ptr Q.s 0),(1,I (n:Int)),(2,I (width:Int)),(15,.bool false)]) ?av$ λav=>?dW
 case av=>
  rintro e' w' ⟨rfl,rfl⟩;refine It O$ An$ NS$ qN O$ Od O O$ NT O$ Om z3a O (hP.size) ?_;rintro _ w' ⟨rfl,rfl⟩;refine NT O$ qV (UH O O (by omega)) ?_;rw[show(512:Int) / (width:Int)=((512 / width:Nat):Int) from rfl];refine qV (Rt (cs:=[_,_,_]) XA O zg1 O O)$ NT O$ qV (Rt (cs:=[_,_,_,_,_,_,_]) ziZ O zhR O O)$ O5 O O (Qr O (cs:=[I (n:Int),I (width:Int),I ((512 / width:Nat):Int),I 0,I 0,ptr Q.s 0,.bool false]) O) ?_;rintro _ w1 ⟨vb,rfl,eI,ad,ai⟩;refine Oc O$ qM O$ Od O O$ OH O$ Og R6 O$ qV (OE z8N O XA O (O9.cells (n:=3) ai (news:=[_,_,_]) O) O)$ Om zhp O (Xw n width (512 / width) ⟨by omega,e2⟩ hn _) ?_;rintro _ w2 ⟨rfl,ae⟩;have aJ:=ad.trans ae;have am:=ae.NX ai;have z1:=ad.size;have z2:=ae.size;have l1:=ai.lt;have ft:Sp Q txt K (λb=>X b\/b=vb) w2:=hP.ext aJ (λb e=>e.imp id λe=>by omega)
  have gN:∀b,(X b\/b=vb)->b<w2.heap.size:=λb hb=>by
   rcases hb with e| e
   ·have:=hX b e;have:=aJ.size;omega
   ·omega
  obtain⟨N,hN⟩:∃N,QD n (512 / width)=N:=⟨_,rfl⟩;rw[hN] at jp bM fJ⊢;refine Om zgs O (ft.take gN hp jp bM) ?_;rintro _ w3 ⟨rfl,eN,aw⟩;have au:=aw.NX am (λe=>e (.inr O));have z3:=aw.size;refine NT O$ P9 O O$ P9 O O$ O5 O O (QU (cs:=[_,_]) Qf O) ?_;rintro _ w4 ⟨b9,rfl,oF,az,aI⟩;refine Oe O (P4 (news:=[I (a:Int),I (N:Int)]) Qf O O O O aI (by simp)) ?_;rintro w5 ⟨aG,ak⟩;replace aG:O9 w5 b9 [I (a:Int),I (N:Int)] 119:=aG;have bT:Ext w3 w5:=az.NR ak (λj e=>by omega);have cV:=bT.NX au;have gT:=eN.ext' bT;refine NZ O$ OD.qb (e:=[(0,_),(8,_),(9,_),(10,_)]) ?_;refine py$ qN O$ NT O$ Pz O O$ NU$ It O$ An$ qN O$ NT O$ qV (OE Wj O Qf O (O9.cells (n:=2) aG (news:=[_,_]) O) O)$ OH O$ Og ZC O$ Oe O (P4 (news:=[I (a:Int),I (N:Int)]) Qf O O O O cV (by simp)) ?_;rintro w6 ⟨aO,aP⟩;replace aO:O9 w6 vb [I (n:Int),I (width:Int),I ((512 / width:Nat):Int),I (a:Int),I (N:Int),ptr Q.s 0,.bool false] 157:=aO;have ik:=gT.own aP (λb e=> .inr e);have aF:(Q.Pw (Pv Q.L a N true)).L.length=Q.L.length:=fJ
  obtain⟨xs,eR,Bh⟩:=VcT.any (txt:=txt) (st:=a) (width:=width) (each:=512 / width) (n:=n) (by omega) (by omega) (λi hi=>by
   have u9:=z2g (each:=512 / width) (by omega) hi;rw[hN] at u9
   generalize i / (512 / width)=q at u9⊢
   exact ik.z0s (by omega) (by rw[aF];omega))
  have LK:SS (Q.Pw (Pv Q.L a N true)) txt vb width a xs w6:=⟨by rw[eR,hN];exact aO,oQ,Bh,by omega,by rw[eR,hN,aF];exact bM⟩
  have mC:∀b,(X b\/b=vb)->b<w6.heap.size:=λb hb=>by
   have:=gN b hb;have:=bT.size;have:=aP.size;omega
  have rR:=z5O ik mC (by omega) LK (.inr O) (x:=0) (Nat.two_pow_pos _);rw[eR,hN] at rR;refine NU$ py$ qN O$ NT O$ Om zju O (rR) ?_;rintro _ w7 ⟨rfl,hW⟩;obtain⟨txt7,kC,AX,LL,aD⟩:=hW;refine Oc O$ qM O$ NT O$ Pz O O$ NU$ It O$ An$ qN O$ NT O$ Oc O$ NZ O$ NV func39 O ?_;have g7:(List.replicate n 0).length=n:=List.length_replicate;refine⟨_,rfl,vb,txt7,rfl,by omega,kC,AX,λy hy=>LL y (by rw[g7,hN];exact hy),?_⟩;have ct:Kp (λb=>¬X b) w' w3:=aJ.kp.trans (aw.Of λb e e2=>e (.inl e2));exact((ct.trans bT.kp).NR aP (λb e=> .inl (by omega))).trans (aD.Of λb e e2=>e (.inl e2))
 case dW=>
  rcases oQ with rfl|rfl|rfl|rfl
  ·refine NW O$ NT O$ Py O O$ OR$ Od O O$ PD O O$ OR$ OU O O$ Od O O$ Pz O O$ OR$ NT O$ qS$ qS ?_;refine OU O O$ NT O$ qS$ qS$ OU O O$ NT O$ qS$ qS$ OU O O$ OU O O$ NZ O$ OD.qb (e:=[(0,_),(1,_),(2,_),(6,_),(7,_),(15,_)]) ?_;exact(av _ _ ⟨rfl,rfl⟩).qb
  ·refine NW O$ NT O$ Py O O$ OR$ Od O O$ PD O O$ OR$ OU O O$ Od O O$ Pz O O$ Qs$ Od O O$ Pz O O$ OR ?_;refine PT O O$ NT O$ qS$ qS$ OU O O$ NT O$ qS$ qS$ OU O O$ OU O O$ NZ O$ OD.qb (e:=[(0,_),(1,_),(2,_),(6,_),(7,_),(15,_)]) ?_;exact(av _ _ ⟨rfl,rfl⟩).qb
  ·refine NW O$ NT O$ Py O O$ OR$ Od O O$ PD O O$ OR$ OU O O$ Od O O$ Pz O O$ Qs$ Od O O$ Pz O O$ Qs ?_;refine PT O O$ Od O O$ Pz O O$ OR$ PT O O$ NT O$ qS$ qS$ OU O O$ OU O O$ NZ O$ OD.qb (e:=[(0,_),(1,_),(2,_),(6,_),(7,_),(15,_)]) ?_;exact(av _ _ ⟨rfl,rfl⟩).qb
  ·refine NW O$ NT O$ Py O O$ OR$ Od O O$ PD O O$ OR$ OU O O$ Od O O$ Pz O O$ Qs$ Od O O$ Pz O O$ Qs ?_;refine PT O O$ Od O O$ Pz O O$ Qs$ PT O O$ Od O O$ Pz O O$ OR$ PT O O$ OU O O$ NZ O$ OD.qb (e:=[(0,_),(1,_),(2,_),(6,_),(7,_),(15,_)]) ?_;exact(av _ _ ⟨rfl,rfl⟩).qb
end
structure Gr where
 n:Nat
 succ:Nat->List Nat
 lt:∀v u,u∈succ v->u<n
theorem QW {g:List (List Nat)}(h:R7 g)(v u:Nat)(hu:u∈Oh g v):u<g.length:=by
 unfold Oh at hu
 cases e:g[v]? with
 |none=>rw[e] at hu;cases hu
 |some l=>rw[e] at hu;exact h.lt l (List.mem_of_getElem? e) u hu
abbrev Ds:=List (Option Nat)
section
variable {G:Gr}{r t:Nat}{d0 d:Nat->Option Nat}{A B:Nat->Nat->Prop}
end
section
variable {g:List (List Nat)}{r t:Nat}
end
/-! ### The same with a flag: whether there were some -/
/-! ### A run -/
structure BfS where
 t:Nat
 done:Bool
 d:Ds
section
variable {g:List (List Nat)}{h:R7 g}{r:Nat}{s:BfS}
end
theorem z6I {v:Nat}(h:v<=200000):Nat.log2 (v+1)<=17:=by
 have h1:=Nat.log2_self_le (n:=v+1) (by omega)
 have h3:2^Nat.log2 (v+1)<2^18:=by
  have:(2:Nat)^18=262144:=by decide
  omega
 have:=(Nat.pow_lt_pow_iff_right (by decide:1<2)).1 h3
 omega
theorem Wx.zc7 {k:Nat}{q:Cd×Nat}(h:Wx k q)(hk:1<=k/\k<=3):(q.1.enc q.2).length<=40:=by
 rw[Wc]
 rcases h with⟨e,h⟩|⟨e,h⟩|⟨e,h⟩
 ·rw[e];show q.2+1+0<=_;omega
 ·have:=z6I h;rw[e];show Nat.log2 (q.2+1)+1+Nat.log2 (q.2+1)<=_;omega
 ·have h3:=z6I h;have h4:Nat.log2 (q.2+1) / k<=Nat.log2 (q.2+1):=Nat.div_le_self _ _;have hm:Nat.log2 (q.2+1) / k*k<=Nat.log2 (q.2+1):=Nat.div_mul_le_self _ _
  have h5:(QG (q.2+1-2^(Nat.log2 (q.2+1) / k*k)) (2^(Nat.log2 (q.2+1) / k*k)*2^k-2^(Nat.log2 (q.2+1) / k*k))).2<=20:=by
   have h6:P3 (2^(Nat.log2 (q.2+1) / k*k)*2^k-2^(Nat.log2 (q.2+1) / k*k)-1)<=20:=by
    refine Qi ?_;have h7:=Nat.pow_le_pow_right (show 0<2 by decide) (show Nat.log2 (q.2+1) / k*k+k<=20 by omega);rw[Nat.pow_add] at h7;have:=Nat.two_pow_pos (Nat.log2 (q.2+1) / k*k);omega
   unfold QG;dsimp only;split
   ·show P3 _-1<=20;omega
   ·exact h6
  rw[e];show Nat.log2 (q.2+1) / k+1+(QG _ _).2<=_;omega
theorem z65 {p:Rf}(hp:p.PI)(hz:p.zeta<=3){x:Nat}(hx:x<65536){succ ref:List Nat}(hs:OQ succ)(hr:OQ ref){r:Nat}(jd:r<=p.Ou)(Ka:succ.length<=40)(AD:ref.length<=40):(Oq (QC p x succ ref r)).length<=6600:=by
 have ay:OQ (Ox succ ref):=hs.sub List.filter_sublist
 have fJ:(Ox succ ref).length<=succ.length:=List.length_filter_le _ _
 have h1:=(Se succ ref).z0S
 rw[List.length_map] at h1
 have h2:=z1J p.interval ay
 have h3:=(Ts p.interval (Ox succ ref)).length_le
 have aF:(QC p x succ ref r).length<=165:=by
  unfold QC;rw[List.length_cons];split
  ·simp
  rw[List.length_append,List.length_append];have e1:(if 0<p.Ou then [(Cd.unary,r)] else []).length<=1:=by split<;>simp
  have e2:(if 0<r then(Cd.gamma,(Qk succ ref).length-1)::Px 0 (Qk succ ref).dropLast else []).length<=42:=by
   split
   ·rw[List.length_cons,Sd,List.length_dropLast];omega
   ·simp
  have e3:(if Ox succ ref=[] then [] else(if 0<p.interval then(Cd.gamma,(P8 p.interval (Ox succ ref)).1.length)::OV x p.interval none (P8 p.interval (Ox succ ref)).1 else [])++OZ x p.zeta none (P8 p.interval (Ox succ ref)).2).length<=121:=by
   split
   ·simp
   ·rw[List.length_append,SA];split
    ·rw[List.length_cons,Ry];omega
    ·simp;omega
  omega
 have:=z1T (n:=40) (L:=QC p x succ ref r) (λq hq=>(Zh hp hx hs hr jd q hq).zc7 ⟨hp.2.2.1,hz⟩)
 omega
section
variable {p:PA}{g:List (List Nat)}{E:List (Nat×Nat)}
theorem zf7 (h:S1 p g E)(vM:g.length<=40)(hz:p.zeta<=3){i:Nat}(hi:i<g.length):(WK p g E i).length<=6600:=by
 unfold WK
 have tE:g[i]? =some g[i]:=List.getElem?_eq_getElem hi
 have ry:i<E.length:=by have:=h.pk.el;omega
 have Ik:E[i]? =some E[i]:=List.getElem?_eq_getElem ry
 have gW:=h.pk.ok.ent i _ Ik
 rw[tE,Ik]
 rw[tE] at gW
 show(Oq (QC p.list i g[i] (PN g i E[i].1) E[i].1)).length<=6600
 have h2:OQ (PN g i E[i].1)/\(PN g i E[i].1).length<=40:=by
  rcases W8 g i E[i].1 with e| e
  ·rw[e];exact⟨⟨List.Pairwise.nil,λy h=>(by cases h)⟩,Nat.zero_le _⟩
  ·exact⟨h.gr.ok _ e,by have:=h.gr.len e;omega⟩
 have jd:E[i].1<=p.list.Ou:=by
  rcases gW with e|⟨-,h3,-⟩
  ·rw[e];exact Nat.zero_le _
  ·exact h3
 have hm:g[i]∈g:=List.getElem_mem hi
 exact z65 h.PI.1 hz (by omega) (h.gr.ok _ hm) h2.1 jd (by have:=h.gr.len hm;omega) h2.2
theorem z9T (h:S1 p g E)(vM:g.length<=40)(hz:p.zeta<=3):∀n,n<=g.length->(PL p g E n).length<=n*6600
 |0,_=>by simp[PL]
 | n + 1, hn => by
   have:=z9T h vM hz n (by omega);have:=zf7 h vM hz (i:=n) (by omega);rw[Sc,List.length_append,Nat.add_mul];omega
theorem zcZ {n u:Nat}(hn:1<=n):(T0 n u).bits<=3*n:=by
 show(u-1) / 2^Xe n u+n<=_
 have h:u<2*n*2^Xe n u:=by
  unfold Xe;split
  ·rename_i e
   have:=(Nat.div_eq_zero_iff).1 e;omega
  ·rename_i e
   have h1:=VP (v:=u / n);have h2:=(Nat.div_lt_iff_lt_mul (by omega)).1 h1;have h3:1<=P3 (u / n):=by unfold P3;rw[if_neg e];omega
   rw[show P3 (u / n)=P3 (u / n)-1+1 by omega,Nat.pow_succ,Nat.mul_comm _ n,Nat.mul_comm _ 2,<-Nat.mul_assoc,Nat.mul_comm n 2] at h2;exact h2
 have h4:(u-1) / 2^Xe n u<2*n:=(Nat.div_lt_iff_lt_mul (Nat.two_pow_pos _)).2 (by omega)
 omega
theorem zbm (h:S1 p g E)(vM:g.length<=40)(hz:p.zeta<=3):(WT p g E).length<=36000:=by
 have h1:=z9T h vM hz g.length (Nat.le_refl _)
 have h2:g.length*6600<=40*6600:=Nat.mul_le_mul_right _ vM
 have h3:(pfm p g E).size<=2900:=by
  have hw:Xe (g.length+1) ((PL p g E g.length).length+1)<=30:=Yu (by omega);have hb:=zcZ (n:=g.length+1) (u:=(PL p g E g.length).length+1) (by omega);have hm:(g.length+1)*Xe (g.length+1) ((PL p g E g.length).length+1)<=41*30:=Nat.mul_le_mul (by omega) hw;show 12+((g.length+1)*Xe (g.length+1) ((PL p g E g.length).length+1)+7) / 8+((T0 (g.length+1) ((PL p g E g.length).length+1)).bits+7) / 8+4*((g.length+1+63) / 64)<=2900;omega
 rw[h.len]
 unfold Vj
 omega
end
structure GwP where
 p:PA
 g:List (List Nat)
 E:List (Nat×Nat)
 st:Nat
 len:Nat
 rb:Nat
 sum:Nat
 k:Nat
 x:Nat
def RQ (G:GwP)(Q:Qz)(txt:Int->NY)(K:Nat)(X:Nat->Prop)(w:World):Prop:=∃o:StO Q txt K G.st G.len (WT G.p G.g G.E),TP (z8r o G.rb G.sum) G.k G.x X w
section
variable {G:GwP}{w w':World}{Q Q':Qz}{txt txt':Int->NY}{K K':Nat}{X Y S':Nat->Prop}
theorem RQ.sp (h:RQ G Q txt K X w):Sp Q txt K (λb=>X b\/b=G.rb) w:=by obtain⟨o,h⟩:=h;exact h.inv.1
theorem RQ.rbB (h:RQ G Q txt K X w):O9 w G.rb (srC Q.s G.st G.len (WT G.p G.g G.E).length G.sum) 205:=by obtain⟨o,h⟩:=h;exact h.inv.2.1
theorem RQ.rbX (h:RQ G Q txt K X w):¬X G.rb:=by obtain⟨o,h⟩:=h;exact h.inv.2.2
theorem RQ.lt (h:RQ G Q txt K X w):∀b,X b->b<w.heap.size:=by obtain⟨o,h⟩:=h;exact h.lt
theorem RQ.lt1 (h:RQ G Q txt K X w):∀b,(X b\/b=G.rb)->b<w.heap.size:=λb hb=>hb.elim (h.lt b) (λe=>by rw[e];exact h.rbB.lt)
theorem RQ.z9m (h:RQ G Q txt K X w):K<1000000000000:=by obtain⟨o,h⟩:=h;exact o.k
theorem RQ.xk (h:RQ G Q txt K X w):X G.k/\X G.x/\X 2/\X 3:=by obtain⟨o,h⟩:=h;exact⟨h.xk,h.xx,h.x1,h.x2⟩
theorem RQ.ok (h:RQ G Q txt K X w):S1 G.p G.g G.E:=by obtain⟨o,h⟩:=h;exact h.ok
theorem RQ.Z8 (h:RQ G Q txt K X w)(hk:Kp S' w w')(hS:∀b,S' b->¬(X b\/b=G.rb)\/(X b/\b≠G.k/\b≠G.x/\b≠2/\b≠3))(hP:Sp Q' txt' K' (λb=>X b\/b=G.rb) w')(hs:Q'.s=Q.s)(hl:Q'.L.length=Q.L.length)(hK:K'<1000000000000)(ht:∀y:Int,(G.st:Int)<=y->y<(G.st:Int)+(G.len:Int)->txt' y=txt y):RQ G Q' txt' K' X w':=by
 have um:=h.rbX
 have Bi:=h.rbB
 obtain⟨o,h⟩:=h
 have aF:=o.len
 refine⟨⟨hK,by rw[hl];exact o.fit,o.laid.QX λk hk=>ht _ (by omega) (by omega),o.len⟩,h.re hk (λj hj=>?_) ⟨hP,?_,um⟩⟩
 ·rcases hS j hj with e| e
  ·exact⟨λe2=>e (.inl (e2▸h.xk)),λe2=>e (.inl (e2▸h.xx)),λe2=>e (.inl (e2▸h.x1)),λe2=>e (.inl (e2▸h.x2))⟩
  ·exact e.2
 ·rw[hs];exact hk.NX Bi (λe=>(hS _ e).elim (λe=>e (.inr O)) (λe=>um e.1))
theorem RQ.zcY (h:RQ G Q txt K X w)(hk:Kp S' w w')(hS:∀b,S' b->¬(X b\/b=G.rb))(cI:∀j,X j->Y j)(hY:∀j,Y j->X j\/(w.heap.size<=j/\j<w'.heap.size))(hP:Sp Q' txt' K' (λb=>Y b\/b=G.rb) w')(hs:Q'.s=Q.s)(hl:Q'.L.length=Q.L.length)(hK:K'<1000000000000)(ht:∀y:Int,(G.st:Int)<=y->y<(G.st:Int)+(G.len:Int)->txt' y=txt y):RQ G Q' txt' K' Y w':=by
 have um:=h.rbX
 have Bi:=h.rbB
 obtain⟨o,h⟩:=h
 have aF:=o.len
 have hI:(z8r (⟨hK,by rw[hl];exact o.fit,o.laid.QX λk hk=>ht _ (by omega) (by omega),o.len⟩:StO Q' txt' K' G.st G.len (WT G.p G.g G.E)) G.rb G.sum).inv Y w':=⟨hP,by rw[hs];exact hk.NX Bi (λe=>hS _ e (.inr O)),λe=>(hY _ e).elim um (λe=>by have:=Bi.lt;omega)⟩
 refine⟨_,⟨h.ok,hk.NX h.NX (λe=>hS _ e (.inl h.xk)),hk.NX h.ix (λe=>hS _ e (.inl h.xx)),cI _ h.xk,cI _ h.xx,hI,λj hj=>?_,cI _ h.x1,cI _ h.x2,hk.NX h.gam (λe=>hS _ e (.inl h.x1)),hk.NX h.una (λe=>hS _ e (.inl h.x2))⟩⟩
 rcases hY j hj with e| e
 ·have:=h.lt j e;have:=hk.size;omega
 ·exact e.2
theorem RQ.grow (h:RQ G Q txt K X w)(hx:Ext w w')(hY:∀j,Y j->X j\/(w.heap.size<=j/\j<w'.heap.size))(cI:∀j,X j->Y j):RQ G Q txt K Y w':=by
 obtain⟨o,h⟩:=h
 exact⟨o,h.grow hx hY cI⟩
theorem RQ.ext (h:RQ G Q txt K X w)(hx:Ext w w'):RQ G Q txt K X w':=h.grow hx (λj hj=> .inl hj) λj hj=>hj
theorem RQ.own (h:RQ G Q txt K X w)(hk:Kp S' w w')(hS:∀j,S' j->X j/\j≠G.k/\j≠G.x/\j≠2/\j≠3):RQ G Q txt K X w':=by
 obtain⟨o,h⟩:=h
 exact⟨o,h.own hk hS⟩
theorem RQ.step (h:RQ G Q txt K X w)(hk:Kp S' w w')(hS:∀j,S' j->X j/\j≠G.k/\j≠G.x/\j≠2/\j≠3)(hY:∀j,Y j->X j\/(w.heap.size<=j/\j<w'.heap.size))(cI:∀j,X j->Y j):RQ G Q txt K Y w':=by
 obtain⟨o,h⟩:=h
 exact⟨o,h.step hk hS hY cI⟩
theorem RQ.less (h:RQ G Q txt K Y w)(cI:∀j,X j->Y j)(hx:X G.k/\X G.x/\X 2/\X 3):RQ G Q txt K X w:=by
 obtain⟨o,h⟩:=h
 exact⟨o,h.less cI hx.1 hx.2.1 hx.2.2.1 hx.2.2.2⟩
theorem RQ.more (h:RQ G Q txt K X w)(hK:K<=K')(LM:K'<1000000000000):RQ G Q txt K' X w:=h.Z8 (S':=λ_=>False) (Kp.refl _ w) (λ_ e=>e.elim) (h.sp.more hK) O O LM λ_ _ _=>rfl
theorem XT (h:RQ G Q txt K X w):Oy prog 40 [ptr G.k 0] w λv w'=>v=I (G.g.length:Int)/\w'=w:=by
 obtain⟨o,h⟩:=h
 exact zcA h
theorem z5w {l bk bi v:Nat}(jg:G.g.length<50)(hv:v<G.g.length)(h:RQ G Q txt K X w)(gR:O9 w bk [ptr G.k 0] 30)(qt:O9 w bi [I (v:Int)] 3)(Z:Nat->Prop)(hZ:∀j,Z j->X j)(J:(Nat->Prop)->Nat->World->Prop)(F:World->Prop)
  (h0:∀(Y:Nat->Prop) (w':World),(∀j,X j->Y j)->(∀j,Y j->X j\/w.heap.size<=j)->RQ G Q txt K Y w'->Kp (λj=>¬X j) w w'->J Y 0 w')
  (hround:∀(Y:Nat->Prop) (i s:Nat) (w':World),(∀j,X j->Y j)->(∀j,Y j->X j\/w.heap.size<=j)->(Oh G.g v)[i]? =some s->J Y i w'->z2k prog l [OB s,I 0] w' λr w''=>(r= .bool true/\J Y (i+1) w''/\Kp (λj=>¬Y j\/Z j) w' w'')\/(r= .bool false/\F w'')):
  Oy prog 195 [.func (.yield l) #[] #[],ptr bk 0,ptr bi 0] w λr w'=>r= .tuple #[]/\((∃Y,(∀j,X j->Y j)/\(∀j,Y j->X j\/w.heap.size<=j)/\J Y (Oh G.g v).length w')\/F w'):=by
 obtain⟨o,h⟩:=h
 exact z5d jg hv h gR qt Z hZ J F (λY w' h1 h2 h3 h4=>h0 Y w' h1 h2 ⟨o,h3⟩ h4) hround
end
def GrR (w:World)(gb go:Nat)(g:List (List Nat)):Prop:=∀(v:Nat) (l:List Nat),g[v]? =some l->∃(a:Option Addr) (c:Nat),w.cell? ⟨gb,go+v*1,none⟩=some (.slice a l.length c)/\∀(i x:Nat),l[i]? =some x->∃lb lo,a=some ⟨lb,lo,none⟩/\w.cell? ⟨lb,lo+i*1,none⟩=some (OB x)
theorem OS {w w':World}{a:Addr}{u:Value}(hx:Ext w w')(h:w.cell? a=some u):w'.cell? a=some u:=by
 unfold World.cell? at h⊢
 cases hh:w.heap[a.block]? with
 |none=>rw[hh] at h;simp at h
 |some o=>rw[hx.heap hh id];rw[hh] at h;exact h
theorem GrR.ext {w w':World}{gb go:Nat}{g:List (List Nat)}(h:GrR w gb go g)(hx:Ext w w'):GrR w' gb go g:=λv l hl=>by
 obtain⟨a,c,h1,h2⟩:=h v l hl
 refine⟨a,c,OS hx h1,λi x hi=>?_⟩
 obtain⟨lb,lo,e,h3⟩:=h2 i x hi
 exact⟨lb,lo,e,OS hx h3⟩
theorem GrM.r {w:World}{v:Value}{g:List (List Nat)}(h:GrM w v g)(h1:1<=g.length):∃gb go gc,v= .slice (some ⟨gb,go,none⟩) g.length gc/\GrR w gb go g:=by
 obtain⟨vs,hr,hv⟩:=h.ex
 rcases hr.2 with⟨c,-,h0⟩|⟨gb,go,gc,e,hc⟩
 ·omega
 ·refine⟨gb,go,gc,e,λv l hl=>?_⟩;obtain⟨a,c,g1,g2,g3⟩:=hv v l hl;refine⟨a,c,by rw[Nat.mul_one];exact hc v _ g1,λi x hi=>?_⟩;rcases g3.2 with⟨c',-,h0⟩|⟨lb,lo,lc,e2,er⟩
  ·have:l=[]:=List.eq_nil_of_length_eq_zero h0;rw[this] at hi;cases hi
  ·cases e2;exact⟨lb,lo,rfl,by rw[Nat.mul_one];exact er i _ (by rw[List.getElem?_map,hi];rfl)⟩
/-! ### Distances -/
structure Yw (w:World)(bg B:Nat)(L:List (List Nat)):Prop where
 ex:∃vs:List Value,O9 w bg vs 49/\vs.length=L.length/\∀(i:Nat) (l:List Nat),L[i]? =some l->∃(a:Option Addr) (c:Nat),vs[i]? =some (.slice a l.length c)/\l.length<=c/\Rd w (.slice a l.length c) 1 l.length (l.map OB)/\∀b,(Value.slice a l.length c).ownBlock=some b->B<=b/\b≠bg
section
variable {w w':World}{bg B:Nat}{L:List (List Nat)}
theorem Yw.ext (h:Yw w bg B L)(hx:Ext w w'):Yw w' bg B L:=by
 obtain⟨vs,h1,h2,h3⟩:=h.ex
 refine⟨vs,hx.NX h1,h2,λi l hl=>?_⟩
 obtain⟨a,c,g1,g2,g3,g4⟩:=h3 i l hl
 exact⟨a,c,g1,g2,g3.ext hx,g4⟩
theorem Yw.new {n:Nat}(h:O9 w bg (List.replicate n (.slice none 0 0)) 49):Yw w bg B (List.replicate n []):=
 ⟨_,h,by simp,λi l hl=>by
  rw[List.getElem?_replicate] at hl;split at hl
  ·rename_i hi
   cases hl;exact⟨none,0,by rw[List.getElem?_replicate,if_pos hi];rfl,Nat.le_refl _,⟨rfl,.inl ⟨(none,0),rfl,rfl⟩⟩,λb hb=>by cases hb⟩
  ·cases hl⟩
theorem Yw.set (h:Yw w bg B L){f:Nat}{l:List Nat}{a:Option Addr}{c:Nat}(hk:Kp (λb=>b=bg) w w')(hB:∀vs,O9 w bg vs 49->O9 w' bg (vs.set (0+f*1) (.slice a l.length c)) 49)(hf:f<L.length)(iw:l.length<=c)(hr:Rd w (.slice a l.length c) 1 l.length (l.map OB))(ho:∀b,(Value.slice a l.length c).ownBlock=some b->B<=b/\b≠bg):Yw w' bg B (L.set f l):=by
 obtain⟨vs,h1,h2,h3⟩:=h.ex
 refine⟨_,hB vs h1,by simp[h2],λi l' hl=>?_⟩
 rw[Nat.zero_add,Nat.mul_one]
 by_cases e:f=i
 ·subst e;rw[List.getElem?_set_self hf] at hl;cases hl;exact⟨a,c,List.getElem?_set_self (by rw[h2];exact hf),iw,hr.kp hk (λb hb e=>(ho b hb).2 e),ho⟩
 ·rw[List.getElem?_set_ne e] at hl;obtain⟨a',c',g1,g2,g3,g4⟩:=h3 i l' hl;exact⟨a',c',by rw[List.getElem?_set_ne e];exact g1,g2,g3.kp hk (λb hb e=>(g4 b hb).2 e),g4⟩
theorem Yw.gr (h:Yw w bg B L):GrM w (.slice (some ⟨bg,0,none⟩) L.length L.length) L:=by
 obtain⟨vs,h1,h2,h3⟩:=h.ex
 refine⟨vs,⟨by rw[h2,Nat.mul_one],.inr ⟨bg,0,L.length,rfl,λj u hj=>by rw[h1.cell,Nat.zero_add];exact hj⟩⟩,λi l hl=>?_⟩
 obtain⟨a,c,g1,g2,g3,g4⟩:=h3 i l hl
 exact⟨a,c,g1,g2,g3⟩
theorem Yw.lt (h:Yw w bg B L):bg<w.heap.size:=by obtain⟨vs,h1,-⟩:=h.ex;exact h1.lt
theorem Yw.cell (h:Yw w bg B L){f:Nat}{l:List Nat}(hf:L[f]? =some l):∃(a:Option Addr) (c:Nat),w.cell? ⟨bg,0+f*1,none⟩=some (.slice a l.length c)/\l.length<=c/\Rd w (.slice a l.length c) 1 l.length (l.map OB)/\∀b,(Value.slice a l.length c).ownBlock=some b->B<=b/\b≠bg:=by
 obtain⟨vs,h1,h2,h3⟩:=h.ex
 obtain⟨a,c,g1,g2,g3,g4⟩:=h3 f l hf
 exact⟨a,c,by rw[h1.cell,Nat.zero_add,Nat.mul_one];exact g1,g2,g3,g4⟩
def EdR (w:World)(ea:Option Addr)(es:List (Nat×Nat)):Prop:=∀(i:Nat) (e:Nat×Nat),es[i]? =some e->e.1<4294967296/\e.2<4294967296/\∃eb eo,ea=some ⟨eb,eo,none⟩/\w.cell? ⟨eb,eo+i*2+0,none⟩=some (OB e.1)/\w.cell? ⟨eb,eo+i*2+1,none⟩=some (OB e.2)
theorem EdR.ext {ea:Option Addr}{es:List (Nat×Nat)}(h:EdR w ea es)(hx:Ext w w'):EdR w' ea es:=λi e he=>by
 obtain⟨h1,h2,eb,eo,h3,h4,h5⟩:=h i e he
 exact⟨h1,h2,eb,eo,h3,OS hx h4,OS hx h5⟩
end
theorem R7.insert {g:List (List Nat)}(h:R7 g){f x k:Nat}{s:List Nat}(hs:g[f]? =some s)(hx:x<g.length)(hk:k<=s.length)(h1:∀y∈s.take k,y<x)(h2:∀y∈s.drop k,x<y):R7 (g.set f (s.take k++[x]++s.drop k)):=by
 have hm:=List.mem_of_getElem? hs
 have uo:=h.ok s hm
 have aZ:=h.lt s hm
 have hn:=h.n
 refine⟨λl hl=>?_,λl hl y hy=>?_,by rw[List.length_set];exact h.n⟩
 ·rcases List.mem_or_eq_of_mem_set hl with e| e
  ·exact h.ok l e
  ·subst e;refine⟨?_,λy hy=>?_⟩
   ·have hr:List.Pairwise (·<·) s:=uo.YF;show List.Pairwise (·<·) _;rw[List.append_assoc,List.pairwise_append];refine⟨hr.sublist (List.take_sublist _ _),?_,λa ha b hb=>?_⟩
    ·rw[List.singleton_append,List.pairwise_cons];exact⟨h2,hr.sublist (List.drop_sublist _ _)⟩
    ·rw[List.singleton_append] at hb;rcases List.mem_cons.1 hb with e| e
     ·rw[e];exact h1 a ha
     ·exact Nat.lt_trans (h1 a ha) (h2 b e)
   ·rcases List.mem_append.1 hy with e| e
    ·rcases List.mem_append.1 e with e| e
     ·exact uo.lt y (List.mem_of_mem_take e)
     ·rw[List.mem_singleton.1 e];omega
    ·exact uo.lt y (List.mem_of_mem_drop e)
 ·rw[List.length_set];rcases List.mem_or_eq_of_mem_set hl with e| e
  ·exact h.lt l e y hy
  ·subst e;rcases List.mem_append.1 hy with e| e
   ·rcases List.mem_append.1 e with e| e
    ·exact aZ y (List.mem_of_mem_take e)
    ·rw[List.mem_singleton.1 e];exact hx
   ·exact aZ y (List.mem_of_mem_drop e)
theorem R7.empty {n:Nat}(hn:n<=60):R7 (List.replicate n []):=
 ⟨λl hl=>by rw[List.eq_of_mem_replicate hl];exact⟨List.Pairwise.nil,λy h=>(by cases h)⟩,λl hl y hy=>(by rw[List.eq_of_mem_replicate hl] at hy;cases hy),by simpa using hn⟩
end Go.Proofs.YtgdkbagngobdlaaGreatDoor
namespace Go.Proofs.YtgdkbagngobdlaaGreatDoor
open Go Go.ChangeShapes Go.WideShapes Go.ChangeAt Go.RowKit Go.Deep Go.Proofs.Tryz
section
variable {H:Type}{enc:TypeId×Value->H}{W:World}{sp:Nat->Bool}
theorem zap (n:Int)(h:(Lit.int .u32 n).wf=true):Value.int .u32 n=OB n.toNat/\n.toNat<4294967296:=by
 simp[Lit.wf,IntKind.min,IntKind.max,IntKind.signed,IntKind.bits] at h
 exact⟨by unfold OB;congr;omega,by omega⟩
theorem i64_in (n:Int)(h:(Lit.int .i64 n).wf=true): -9223372036854775808<=n/\n<=9223372036854775807:=by
 simp[Lit.wf,IntKind.min,IntKind.max,IntKind.signed,IntKind.bits] at h;omega
theorem z7G {w:World}{b off:Nat}{spot:Option Nat}{v:Value}(h:w.cell? ⟨b,off,spot⟩=some v):spot=none:=by
 unfold World.cell? at h
 split at h
 ·cases spot with
  |none=>rfl
  |some s=>simp at h
 ·cases h
theorem z5o {fuel:Nat}{v:Value}{x:DataW H×List MemPlace}(h:DataW.trod enc prog W 0 sp true fuel 22 [v]=some x)(hw:∀n∈x.1.weights prog 22,n<=reachBytes):∃(ea:Option Addr) (ec:Nat) (es:List (Nat×Nat)),v= .slice ea es.length ec/\EdR W ea es/\es.length<=9000000000000000000:=by
 rcases open_slice_pairs U22 zjX (by kernel_rfl) O O (by kernel_rfl) (by kernel_rfl) h with⟨hv,hx⟩|⟨a,len,cap,m,n,V0,V1,D0,D1,P0,P1,hv,-,hl,hm,B2,hx,oy⟩
 ·cases hv;exact⟨none,0,[],rfl,λi e he=>by simp at he,by simp⟩
 ·cases hv;have dF:maxLen=9223372036854775807:=rfl;have iq:len<=m:=by rw[B2];split<;>omega
  have hk:∀i,i<len->∃e:Nat×Nat,e.1<4294967296/\e.2<4294967296/\W.cell? (a.add (i*2))=some (OB e.1)/\W.cell? (a.add (i*2+1))=some (OB e.2):=λi hi=>by
   obtain⟨c0,c1,h0,h1⟩:=oy i (by omega);obtain⟨n0,e0,-,f0⟩:=DataW.trod_int OJ h0;obtain⟨n1,e1,-,f1⟩:=DataW.trod_int OJ h1;have e0:V0 i= .int .u32 n0:=by simpa using e0
   have e1:V1 i= .int .u32 n1:=by simpa using e1
   obtain⟨q0,b0⟩:=zap n0 f0;obtain⟨q1,b1⟩:=zap n1 f1;exact⟨(n0.toNat,n1.toNat),b0,b1,by rw[c0,e0,q0],by rw[c1,e1,q1]⟩
  obtain⟨E,hE⟩:∃E:Nat->Nat×Nat,∀i,i<len->(E i).1<4294967296/\(E i).2<4294967296/\W.cell? (a.add (i*2))=some (OB (E i).1)/\W.cell? (a.add (i*2+1))=some (OB (E i).2):=
   choose_lt (α:=Nat×Nat) (n:=len) (p:=λi e=>e.1<4294967296/\e.2<4294967296/\W.cell? (a.add (i*2))=some (OB e.1)/\W.cell? (a.add (i*2+1))=some (OB e.2)) hk
  refine⟨some a,cap,(List.range len).map E,by simp,λi e he=>?_,?_⟩
  ·rw[List.getElem?_map] at he;rcases Nat.lt_or_ge i len with hi|hi
   ·rw[List.getElem?_range hi] at he;obtain rfl:=PJ he;obtain⟨g1,g2,g3,g4⟩:=hE i hi;obtain⟨b,off,spot⟩:=a;have h3:=(hE 0 (by omega)).2.2.1;rw[Nat.zero_mul] at h3;simp only[Addr.add,if_true] at h3;obtain rfl:=z7G h3;rw[Qv] at g3 g4;exact⟨g1,g2,b,off,rfl,g3,by rw[Nat.add_assoc];exact g4⟩
   ·rw[List.getElem?_eq_none (by simpa using hi)] at he;cases he
  ·have oU:=hw ((len+(m-len))*8) (by rw[hx];simp[DataW.weights,U22,show prog.bytesOf 125=8 by kernel_rfl]);simp[reachBytes] at oU;simp;omega
end
section
variable {H:Type}{enc:TypeId×Value->H}{W:World}{sp:Nat->Bool}
theorem zfj (n:Int)(h:(Lit.int .u64 n).wf=true):Value.int .u64 n=u64v n.toNat/\n.toNat<18446744073709551616:=by
 simp[Lit.wf,IntKind.min,IntKind.max,IntKind.signed,IntKind.bits] at h
 exact⟨by unfold u64v;congr;omega,by omega⟩
theorem open_net8 {fuel:Nat}{cs:List Value}{x:DataW H×List MemPlace}(h:DataW.trod enc prog W 0 sp true fuel 25 cs=some x)(hw:∀n∈x.1.weights prog 25,n<=reachBytes):∃(n fr fo p ro:Int) (sd:Nat) (pl:Bool) (ea:Option Addr) (ec:Nat) (es:List (Nat×Nat)),cs=[I n,.slice ea es.length ec,.bool pl,I fr,I fo,I p,I ro,u64v sd]/\(-9223372036854775808<=n/\n<=9223372036854775807)/\(-9223372036854775808<=fr/\fr<=9223372036854775807)/\(-9223372036854775808<=fo/\fo<=9223372036854775807)/\(-9223372036854775808<=p/\p<=9223372036854775807)/\(-9223372036854775808<=ro/\ro<=9223372036854775807)/\sd<18446744073709551616/\EdR W ea es/\es.length<=9000000000000000000:=by
 obtain⟨xs,n,-,hx,hl,hlen,hf⟩:=DataW.trod_struct underlying25 h
 rw[show prog.cellsOf 25=8 by kernel_rfl] at hl
 match xs,hlen with
 |[y0,y1,y2,y3,y4,y5,y6,y7],_=>
 match cs,hl with
 | [c0, c1, c2, c3, c4, c5, c6, c7], _ =>
   have t0:=hf 0 _ O;have t1:=hf 1 _ O;have t2:=hf 2 _ O;have t3:=hf 3 _ O;have t4:=hf 4 _ O;have t5:=hf 5 _ O;have t6:=hf 6 _ O;have t7:=hf 7 _ O;simp only[show prog.cellsOf 22=1 by kernel_rfl,show prog.cellsOf 3=1 by kernel_rfl,show prog.cellsOf 4=1 by kernel_rfl,show prog.cellsOf 23=1 by kernel_rfl,List.drop,List.take,List.getElem?_cons_zero,List.getElem?_cons_succ] at t0 t1 t2 t3 t4 t5 t6 t7;obtain⟨n0,e0,-,w0⟩:=DataW.trod_int underlying3 t0;obtain⟨b2,e2,-,-⟩:=DataW.trod_bool underlying4 t2;obtain⟨n3,e3,-,w3⟩:=DataW.trod_int underlying3 t3;obtain⟨n4,e4,-,w4⟩:=DataW.trod_int underlying3 t4;obtain⟨n5,e5,-,w5⟩:=DataW.trod_int underlying3 t5;obtain⟨n6,e6,-,w6⟩:=DataW.trod_int underlying3 t6;obtain⟨n7,e7,-,w7⟩:=DataW.trod_int underlying23 t7;obtain⟨q7,hm7⟩:=zfj n7 w7;rw[q7] at e7;cases e0;cases e2;cases e3;cases e4;cases e5;cases e6;cases e7
   obtain⟨ea,ec,es,e1,hE,hes⟩:=z5o t1 (λn hn=>hw n (by
    rw[hx];simp only[DataW.weights,underlying25,DataW.weightsEach,List.map,List.mem_append]
    exact .inr (.inl hn)))
   subst e1;exact⟨n0,n3,n4,n5,n6,n7.toNat,b2,ea,ec,es,rfl,i64_in _ w0,i64_in _ w3,i64_in _ w4,i64_in _ w5,i64_in _ w6,hm7,hE,hes⟩
end
end Go.Proofs.YtgdkbagngobdlaaGreatDoor
