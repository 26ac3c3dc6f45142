/- Merged by program. -/
import Derived.Test.YtfgjaafcgghnoaaGreatDoorCPp8
import Derived.SizedLaws
import Derived.Carry
import Derived.ProofKit
import Derived.OpenShut
import Derived.ShutString
import Derived.ChangeOld
import Derived.Below
import Derived.Deep.SlicePairs
import Derived.LaidLaws
import Derived.MakeChecks
import Derived.Handed
set_option linter.all false
set_option maxRecDepth 1000000
set_option maxHeartbeats 16000000
namespace Go.Proofs.YtfgjaafcgghnoaaGreatDoor
open Go Go.RowKit Go.Proofs.Tryz
section
variable {w1 w w' w2:World}{g:List (List Nat)}{GS:Value}{W:Wd}{Y:Nat->Prop}{mb vb2 cap rr vb k:Nat}{s s':Sj}{cl cl':Bool}{S':Nat->Prop}
theorem TM.via {B n:Nat}(h:TM B GS n mb vb2 cap s cl w)(hk:Kp S' w w')(h1:¬S' mb)(h2:¬S' vb2):TM B GS n mb vb2 cap s cl w':=h.kp hk ⟨h1,h2⟩
theorem z73 {gb go gc:Nat}(ay:QQ g)(av:1<=g.length)(mG:GrR w1 gb go g)(M3:GrM w1 (.slice (some ⟨gb,go,none⟩) g.length gc) g)(ad:Ext w1 w)(hG:NM w1 0 (QX .gamma) 260)(hU:NM w1 1 (QX .unary) 260)(h:Y9 w1 g (.slice (some ⟨gb,go,none⟩) g.length gc) W Y mb vb2 cap rr vb s k w false)(eB:k<120)(kind n fr fo:Int)(tx:NH)(fit:Bool)(iZ: -9223372036854775808<=fr/\fr<=9223372036854775807)(uI: -9223372036854775808<=fo/\fo<=9223372036854775807):
  Oa prog 20 [.agg W.v.toArray,ptr rr 0,ptr mb 0,.slice (some ⟨gb,go,none⟩) g.length gc,.agg #[I kind,I n,I fr,I fo,S tx,.bool fit]] w λv w'=>∃(W':Wd) (Y':Nat->Prop) (rr' vb':Nat),v= .tuple #[.agg W'.v.toArray,ptr rr' 0,.bool true]/\Y9 w1 g (.slice (some ⟨gb,go,none⟩) g.length gc) W' Y' mb vb2 cap rr' vb' s (k+1) w' false/\(∀b,Y b->Y' b)/\(∀b,b<w.heap.size->b≠rr->b≠vb->b≠rr'/\b≠vb')/\(∀b,b<w.heap.size->b≠W.G.k->b≠W.G.x->b≠W'.G.k/\b≠W'.G.x)/\Kp (λb=>¬Y b\/b=rr\/b=vb) w w':=by
 cases h with
 |op txt K c hK m=>
 have hb:=c.b
 have fS:=c.n
 have ak:=c.gg
 have wq:=c.ym
 have Gb:=c.lo
 have M4:=c.k
 have hL:=c.L
 have sA:=c.a
 have eQ:=c.pre
 have Ga:=eQ.a2
 have n1:=c.nm mb (.inl O)
 have n2:=c.nm vb2 (.inr O)
 have lgG:=hG.lt
 have lgU:=hU.lt
 have M5:=c.rf.lo
 have M6:=c.rf.lts
 have Gc:=m.lts
 have Np:=m.g.xk
 have Nq:=m.xr
 have z1:=ad.size
 refine Nu (e:=[(0,_),(1,_),(2,_),(3,_),(4,_)]) func20 O ntmps20 O O$ qN O$ NK O O (PW O (cs:=W.v) O) ?_
 rintro _ wa ⟨b5,rfl,ff,Ia,aC⟩
 refine NK O O (PW O (cs:=[I kind,I n,I fr,I fo,S tx,.bool fit]) O) ?_
 rintro _ wb ⟨b9,rfl,mS,AE,cB⟩
 refine NK O O (Qk (cs:=[_,_,_,_,_]) Tv O) ?_
 rintro _ w4 ⟨b10,rfl,wR,aB,dD⟩
 have bU:=(Ia.trans AE).trans aB
 have za:=Ia.size
 have zb:=AE.size
 have z4:=aB.size
 have l5:=aC.lt
 have l9:=cB.lt
 have l10:=dD.lt
 have eS:NM w4 b5 [ptr W.d 0,ptr W.Q.s 0,ptr W.G.k 0,ptr W.T.k 0,I ((200-W.a:Nat):Int)] 31:=(AE.trans aB).ND aC
 have ju:=aB.ND cB
 obtain⟨Y5,Gd⟩:∃Y5:Nat->Prop,(λj=>Y j\/(w.heap.size<=j/\j<w4.heap.size))=Y5:=⟨_,rfl⟩
 have gM:∀j,Y j->Y5 j:=λj e=>by rw[<-Gd];exact .inl e
 have mH:∀j,w.heap.size<=j->j<w4.heap.size->Y5 j:=λj e e2=>by rw[<-Gd];exact .inr ⟨e,e2⟩
 have m4:QR SB W.G (W.Q.P5 (Pf W.Q.L W.a 1 true)) txt K Y5 rr vb W.a s w4:=m.grow bU (λj e=>by rw[<-Gd] at e;exact e) gM
 have f4:=c.rf.ext bU
 refine NQ O$ NQ O$ qM O$ Nz O$ NZ zda O (ZF m4 (by omega) (by omega)) ?_
 rintro _ w5 ⟨rfl,m5,ai⟩
 have mu:=ai.ND eS (λe=>e (.inl (mH _ (by omega) (by omega))))
 have jo:=ai.ND ju (λe=>e (.inl (mH _ (by omega) (by omega))))
 have sB:=ai.ND dD (λe=>e (.inl (mH _ (by omega) l10)))
 have f5:=f4.via ai (λe=>e (.inl (gM _ wq.1))) (λe=>e (.inl (gM _ wq.2)))
 have Ge:Kp (λb=>¬Y b\/b=rr\/b=vb) w w5:=bU.kp.trans (ai.NR λb e=> .inl λe2=>e (.inl (gM _ e2)))
 have uB:∀{w':World},Kp (λb=>¬Y b\/b=rr\/b=vb) w w'->Ext w1 w':=λhk=>ad.Nv hk λb e=>by
  rcases Nat.lt_or_ge b w1.heap.size with h| h
  ·rcases e with e|e| e
   ·exact absurd (c.top b h) e
   ·omega
   ·omega
  ·exact h
 refine Nz O$ ON O O$ ON O O$ NQ O$ NQ O$ qM O$ Nz O$ NZ zdG O (z0n f5 (by omega) (by omega) (by omega)) ?_
 rintro _ w6 ⟨rfl,aK⟩
 have uU:=Ge.trans aK.kp
 have aD:=uB uU
 refine Nz O$ ON O O$ ON O O$ NQ O$ NQ O$ qM O$ Nz O$ NZ zgw O (z1m ay av (mG.ext aD)) ?_
 rintro _ w7 ⟨mq,vq,cq,rfl,q7,bV⟩
 have z5:=ai.size
 have z6:=aK.size
 have z7:=bV.size
 have oU:=q7.lo
 have oV:=q7.lts
 obtain⟨Y7,Gf⟩:∃Y7:Nat->Prop,(λj=>Y5 j\/(w6.heap.size<=j/\j<w7.heap.size))=Y7:=⟨_,rfl⟩
 have gN:∀j,Y5 j->Y7 j:=λj e=>by rw[<-Gf];exact .inl e
 have m7:QR SB W.G (W.Q.P5 (Pf W.Q.L W.a 1 true)) txt K Y7 rr vb W.a s w7:=(m5.ext aK).grow bV (λj e=>by rw[<-Gf] at e;exact e) gN
 have dv:=aK.trans bV
 have f7:=f5.ext dv
 have hl:RJ g.length (crT s)=if s.t<=2*g.length+2/\s.level<=g.length+1 then some s else none:=zav (by rw[c.rf.len]) (by omega) (by omega) c.rf.lt
 have ql:=ZY q7 (by omega) (crT s)
 rw[hl] at ql
 have lE:Y7 b5/\Y7 b9/\Y7 b10:=⟨gN _ (mH _ (by omega) (by omega)),gN _ (mH _ (by omega) (by omega)),gN _ (mH _ (by omega) l10)⟩
 have Ib:Y7 mq/\Y7 vq:=by rw[<-Gf];exact⟨.inr ⟨oU.1,oV.1⟩,.inr ⟨oU.2,oV.2⟩⟩
 have gF:=m4.lts
 have q8m:∀{w8:World},Kp (λb=>b=mq\/b=vq) w7 w8->QR SB W.G (W.Q.P5 (Pf W.Q.L W.a 1 true)) txt K Y7 rr vb W.a s w8:=λhk=>m7.own hk λj e=>by
  rcases e with rfl|rfl
  ·exact⟨Ib.1,by omega,by omega,by omega,by omega,by omega,by omega⟩
  ·exact⟨Ib.2,by omega,by omega,by omega,by omega,by omega,by omega⟩
 refine NF O$ Of.qb (e:=[(1,_),(3,_),(5,_),(9,_),(10,_),(11,_),(12,_),(13,_),(14,_),(15,_),(16,_),(17,_)]) ?_
 refine py$ qN O$ Nz O$ P3 O O$ NT O O$ P3 O O$ OC O O$ NT O O$ Nz O$ qV (zix O O)$ Ox$ OC O O$ NB$ It O ?_
 refine An$ py$ qN O$ NT O O ?_
 by_cases pu:s.t<=2*g.length+2/\s.level<=g.length+1
 ·rw[if_pos pu] at ql hl;refine NZ zaY O (ql) ?_;rintro _ w8 ⟨rfl,q8,aV⟩;have m8:=q8m aV;have z8:=aV.size;have f8:=f7.via aV (by omega) (by omega);have nu:=aV.ND (dv.ND mu) (by omega);have my:=aV.ND (dv.ND jo) (by omega);have oW:=aV.ND (dv.ND sB) (by omega);have ru:Kp (λb=>¬Y b\/b=rr\/b=vb) w w8:=(uU.trans bV.kp).Nv aV λb e=> .inl (by omega);have uV:=uB ru;have Aj:=m8.lts;refine P3 O O$ NB$ Of.qb (e:=[(1,_),(3,_),(5,_),(9,_),(10,_),(11,_),(12,_),(13,_),(49,_)]) ?_;refine It O$ An$ qN O$ Nz O$ NO ze2 O$ qV (NJ U3 O O my O)$ NO ze1 O$ qV (NJ U3 O O my O)$ NZ cf7 O (z3C ay av fS (M3.ext uV) (uV.ND hG) (uV.ND hU) fr fo iZ uI) ?_;rintro _ w9 ⟨V,XV,rfl,hV,dE,Ic,M7,M8⟩;have z9:=dE.size;refine Nz O$ ON O O$ ON O O$ NK O O (Qk (cs:=[_,_,_,_,_]) Tv O) ?_;rintro _ wt ⟨b18,rfl,M9,uW,nQ⟩;have zt:=uW.size;refine NP O (OA (news:=V.v) Tv O O O O nQ (by simp)) ?_;rintro w11 ⟨Ak,bu⟩;have oX:NM w11 b18 [ptr V.d 0,ptr V.Q.s 0,ptr V.G.k 0,ptr V.T.k 0,I ((200-V.a:Nat):Int)] 31:=Ak;have z11:=bu.size;have l18:=nQ.lt;have l1811:=oX.lt;have il:Ext w8 w11:=(dE.trans uW).Nv bu λb e=>by omega
  have Al:=hV.hg.lt;have Am:=hV.hg.xk;have v1:=Al _ Am.1;have v2:=Al _ Am.2.1;have Ma:=hV.a;have Mb:=hV.L;have Nr:=hV.K;have Gg:=hV.gg;have Id:=hV.pre;have Mc:=hV.gs;have Md:=hV.ts;obtain⟨X3,jL⟩:∃X3:Nat->Prop,(λb=>(XV b/\b≠V.G.rb)\/b=b18)=X3:=⟨_,rfl⟩
  have g11:QL V.G V.Q V.txt V.K X3 w11:=by
   rw[<-jL];exact(hV.hg.grow uW (Y:=λb=>(XV b/\b≠V.G.rb)\/b=b18) (λj e=>e.imp id λe=>by omega) (λj e=> .inl e)).own bu λj e=>by subst e;exact⟨.inr O,by omega,by omega,by omega,by omega⟩
  have mI:∀j,j<w8.heap.size->X3 j:=λj hj=>by rw[<-jL];exact .inl ⟨(Ic j hj).1,(Ic j hj).2.1⟩
  have Ao:X3 b18:=by rw[<-jL];exact .inr O
  obtain⟨Y11,rv⟩:∃Y11:Nat->Prop,(λj=>Y7 j\/(w8.heap.size<=j/\j<w11.heap.size))=Y11:=⟨_,rfl⟩;have im:∀j,Y7 j->Y11 j:=λj e=>by rw[<-rv];exact .inl e
  have m11:QR SB W.G (W.Q.P5 (Pf W.Q.L W.a 1 true)) txt K (λj=>Y7 j\/(w8.heap.size<=j/\j<w11.heap.size)) rr vb W.a s w11:=m8.grow il (λj e=>e) (λj e=> .inl e);have f11:=f8.ext il;have lB:=il.ND nu;have uX:=il.ND oW;have uY:=Ext.NY w11;have Ns:(W.Q.P5 (Pf W.Q.L W.a 1 true)).L=Pf W.Q.L W.a 1 true:=rfl;have Ie:W.a+1<=W.Q.L.length:=by omega
  have m11':=m11;rw[rv] at m11';have dx:=Yv (m11'.ext uY) Ga (by show(Pf W.Q.L W.a 1 true)[W.a]? =some true;rw[TX Ie,if_pos ⟨by omega,by omega⟩]);obtain⟨Q2,AI⟩:∃Q2,(W.Q.P5 (Pf W.Q.L W.a 1 true)).P5 (Pf (W.Q.P5 (Pf W.Q.L W.a 1 true)).L W.a 1 false)=Q2:=⟨_,rfl⟩;have uZ:Q2.L=W.Q.L:=by rw[<-AI];show Pf (Pf W.Q.L W.a 1 true) W.a 1 false=_;rw[z7w eQ Ie]
  have vd:Q2.s=W.Q.s/\Q2.m=W.Q.m:=by rw[<-AI];exact⟨rfl,rfl⟩
  rw[AI] at dx
  have Gh:∀{w14:World} {txt14:Int->NH} (h:QL W.G Q2 txt14 K Y11 w14),Oa prog 13 [ptr W.Q.s 0] w14 λv w'=>v=ptr W.Q.m 0/\w'=w14:=λh=>by
   have:=h.sp.map;rw[vd.1,vd.2] at this;exact this
  have fJ:∀{w14:World} {txt14:Int->NH} (h:QL W.G Q2 txt14 K Y11 w14),Oa prog 14 [ptr W.Q.m 0] w14 λv w'=>v=I ((200-W.a:Nat):Int)/\Ext w14 w':=λh=>by
   have:=h.sp.room (by rw[uZ];exact eQ) (by rw[uZ];omega);rw[vd.2,uZ,hL] at this;exact this
  have cZ:∀{w12:World},Kp (λb=>¬Y11 b\/b=rr\/b=vb) w11.drew w12->Kp (λb=>¬Y11 b\/b=rr\/b=vb) w11 w12:=λhk=>uY.kp.trans hk;have me:∀{w12 w13:World},Kp (λb=>¬Y11 b\/b=rr\/b=vb) w11.drew w12->Ext w12 w13->Kp (λb=>¬Y11 b\/b=rr\/b=vb) w11 w13:=λhk hx=>(cZ hk).trans hx.kp;refine NF O$ py$ py$ PK (λw'=>Kp (λb=>¬Y11 b\/b=rr\/b=vb) w11 w') O$ NX 0 O O (uY.kp)$ Qv 1 O zdZ O (dx) ?_;rintro _ w12 ⟨rfl,txt12,g12,-,Me,aL⟩;refine⟨cZ aL,?_⟩;refine NG 2 O (yne O O) (cZ aL)$ S4$ NX 3 O O (cZ aL)$ NX 4 O O (cZ aL)$ NG 5 O ((Qr O)) (cZ aL) ?_;rw[show(!true)=false from rfl];refine NG 6 O (S6 O O) (cZ aL)$ NX 7 O O (cZ aL)$ NG 8 O (Og V7 O) (cZ aL)$ qT 9 O (λ_ hS=>NJ UM O O (hS.ND lB (λe=>e.elim (λe=>e (im _ lE.1)) (λe=>by omega))) O) (cZ aL) ?_;refine NG 12 O (Og zdY O) (cZ aL)$ qT 13 O (λ_ hS=>NJ U3 O O (hS.ND lB (λe=>e.elim (λe=>e (im _ lE.1)) (λe=>by omega))) O) (cZ aL) ?_;refine Qv 10 O zjb O (Gh g12) ?_;rintro _ wu ⟨rfl,rfl⟩;refine⟨cZ aL,?_⟩;refine Qv 11 O zgO O (fJ g12) ?_;rintro _ w13 ⟨rfl,aO⟩;refine⟨me aL aO,?_⟩;have eH:=me aL aO;rw[<-rv] at eH;obtain⟨t1,t2⟩:=zbc g11 il.size mI ⟨M7,M8⟩ m11 ⟨Aj.1,Aj.2.1⟩ eH;rw[rv] at eH;have z13:=eH.size;obtain⟨X4,vR⟩:∃X4:Nat->Prop,(λj=>X3 j\/(w11.heap.size<=j/\j<w13.heap.size))=X4:=⟨_,rfl⟩;rw[vR] at t1;have kK:∀j,X3 j->X4 j:=λj e=>by rw[<-vR];exact .inl e
  have f13:=f11.via eH (λe=>e.elim (λe=>e (im _ (gN _ (gM _ wq.1)))) (λe=>by omega)) (λe=>e.elim (λe=>e (im _ (gN _ (gM _ wq.2)))) (λe=>by omega));have kL:=t2.ND oX (by omega);have ve:=eH.ND uX (λe=>e.elim (λe=>e (im _ lE.2.2)) (λe=>by omega));refine NG 14 O (yne O O) (me aL aO)$ S4$ NG 15 O (S6 O O) (me aL aO)$ qE$ Of.qb (e:=[(10,_),(11,_),(12,_),(13,_),(18,_),(76,_)]) ?_;refine It O$ An$ qN O$ NO V7 O$ qV (NJ UM O O kL O)$ NO z4T O$ qV (NJ U29 O O kL O) ?_;have Gi:=XP t1 (by omega) (by rw[Gg];exact fS) Id (by omega) (by omega);refine NZ cf8 O (Gi) ?_;rintro _ w14 ⟨r',v',txt14,rfl,GD,fT,m14,Mf,eD⟩;have z14:=eD.size;obtain⟨Z,hZ⟩:∃Z:Nat->Prop,(λb=>X4 b\/b=r'\/b=v')=Z:=⟨_,rfl⟩;rw[hZ] at m14;have Ap:∀j,X4 j->Z j:=λj e=>by rw[<-hZ];exact .inl e
  have rx:∀j,j<w8.heap.size->Z j:=λj e=>Ap _ (kK _ (mI j e));have Mg:Z r'/\Z v':=by rw[<-hZ];exact⟨.inr (.inl O),.inr (.inr O)⟩
  have f14:=f13.via eD (λe=>e (kK _ (mI _ (by omega)))) (λe=>e (kK _ (mI _ (by omega))));have vf:=eD.ND kL (λe=>e (kK _ Ao));have vg:=eD.ND ve (λe=>e (kK _ (mI _ (by omega))));have de:=Ext.NY w14;have g9:=Zh (m14.ext de) (by omega) (crT s);rw[Gg,hl] at g9;have If:=m14.lts;have Az:b18≠r':=by omega
  refine Nz O$ ON O O$ ON O O$ NQ O$ NF O$ py$ O3 [10] (λw'=>Kp (λb=>¬Z b\/b=r') w14 w') (by kernel_rfl) O$ OS (i:=1) O (by kernel_rfl) O O (λ_=>Oq O) (de.kp)$ qL [3,4,5,6,7,8,9,10,11,12] 2 O (λ_ h=>Oq O) (de.kp)$ qL [4,5,6,7,8,9,10,11,12] 3 O (λ_ h=>yeq O O) (de.kp)$ qL [5,6,7,8,9,10,11,12] 4 O (λ_ h=>Oq O) (de.kp)$ qL [10,11,12] 0 O (λ_ hS=>Oh (news:=V.v) U31 O Tv O ((hS.ND vf (λe=>e.elim (λe=>e (Ap _ (kK _ Ao))) Az)).cells (n:=5) O) O) (de.kp)$ qL [7,8,9,10,11,12] 5 O (λ_ h=>Oq O) (de.kp)$ qL [7,8,9,10,11,12] 6 O (λ_ h=>Oq O) (de.kp) ?_;refine PC (i:=7) (by kernel_rfl)$ Qh (i:=7) O O O (yc zdL O) (g9) ?_;rintro _ w15 ⟨rfl,txt15,m15,Mh,ez⟩;refine⟨de.kp.trans ez,?_⟩;have eI:=de.kp.trans ez;have vh:=eI.ND vg (λe=>e.elim (λe=>e (rx _ (by omega))) (λe=>by omega));refine OS (i:=8) O (by kernel_rfl) O O (λ_=>yeq O O) (de.kp.trans ez)$ OS (i:=9) O (by kernel_rfl) O O (λ_=>Tu O O) (de.kp.trans ez)$ Rs [10]$ qO 10$ Ou (i:=10) O O (OA (news:=V.v) Tv O O O O vh (by simp)) ?_;rintro w16 ⟨eE,oY⟩;refine⟨trivial,?_⟩;have oZ:NM w16 b10 V.v 31:=eE;have m16:=m15.own oY λj e=>by subst e;exact⟨rx _ (by omega),by omega,by omega,by omega,by omega,by omega,by omega⟩
  have f15:=f14.via eI (λe=>e.elim (λe=>e (rx _ (by omega))) (λe=>by omega)) (λe=>e.elim (λe=>e (rx _ (by omega))) (λe=>by omega));have f16:=f15.via oY (by omega) (by omega);refine NG 11 O (PO O) trivial$ NG 12 O (PO O) trivial$ qE$ Of.qb (e:=[(10,_),(11,_),(12,_)]) ?_;refine O9 func20 (.cell U31 O Tv O (NM.cells (n:=5) oZ (news:=[_,_,_,_,_]) O) O (.tmp O (.tmp O .nil))) (⟨_,rfl,V,Z,r',v',rfl,.op txt15 (V.K+50+1) ⟨Gg,fS,Id,Ma,Mb,by omega,f16,⟨rx _ (by omega),rx _ (by omega)⟩,λj e=>?_,λb hb=>rx b (by omega),⟨by omega,by omega⟩,⟨by omega,by omega⟩,by omega,Mg⟩ (by omega) m16,λb hb=>rx b (by have:=m.g.lt b hb;omega),λb h1 h2 h3=>⟨by omega,by omega⟩,λb h1 h2 h3=>⟨by omega,by omega⟩,?_⟩)
  ·rcases e with rfl|rfl
   ·exact⟨by omega,by omega,by omega,by omega,by omega,by omega⟩
   ·exact⟨by omega,by omega,by omega,by omega,by omega,by omega⟩
  ·have e1:Kp (λb=>¬Y b\/b=rr\/b=vb) w w13:=(ru.trans il.kp).trans (eH.NR λb e=>e.imp (λe e2=>e (im _ (gN _ (gM _ e2)))) id);refine((e1.Nv eD λb e=>?_).Nv eI λb e=>?_).Nv oY λb e=> .inl (by omega)
   ·rcases Nat.lt_or_ge b w8.heap.size with h| h
    ·exact absurd (kK _ (mI b h)) e
    ·exact .inl (by omega)
   ·rcases Nat.lt_or_ge b w8.heap.size with h| h
    ·exact e.elim (λe=>absurd (rx b h) e) (λe=>by omega)
    ·exact .inl (by omega)
 ·rw[if_neg pu] at ql;refine NZ zaY O (ql) ?_;rintro _ w8 ⟨rfl,q8,aV⟩;have m8:=q8m aV;have f8:=f7.via aV (by omega) (by omega);have nu:=aV.ND (dv.ND mu) (by omega);have oW:=aV.ND (dv.ND sB) (by omega);have ru:Kp (λb=>¬Y b\/b=rr\/b=vb) w w8:=(uU.trans bV.kp).Nv aV λb e=> .inl (by omega);refine P3 O O$ NB$ Of.qb (e:=[(1,_),(3,_),(5,_),(9,_),(10,_),(11,_),(12,_),(13,_),(49,_)]) ?_;refine NI O$ qN O$ qV (Oh (news:=W.v) U31 O Tv O (nu.cells (n:=5) O) O)$ Nz O$ NP O (OA (news:=W.v) Tv O O O O oW (by simp)) ?_;rintro w9 ⟨Gj,aS⟩;have Aq:NM w9 b10 W.v 31:=Gj;have m9:=m8.own aS λj e=>by subst e;exact⟨lE.2.2,by omega,by omega,by omega,by omega,by omega,by omega⟩
  have f9:=f8.via aS (by omega) (by omega);refine NQ O$ NF O$ O9 func20 (.cell U31 O Tv O (NM.cells (n:=5) Aq (news:=[_,_,_,_,_]) O) O (.tmp O (.tmp O .nil))) ?_;exact⟨_,rfl,W,Y7,rr,vb,rfl,.op txt K ⟨ak,fS,eQ,sA,hL,c.st,f9,⟨gN _ (gM _ wq.1),gN _ (gM _ wq.2)⟩,c.nm,λb hb=>gN _ (gM _ (c.top b hb)),Gb,⟨by omega,by omega⟩,by omega,m9.xr⟩ (by omega) m9,λb hb=>gN _ (gM _ hb),λb h1 h2 h3=>⟨h2,h3⟩,λb h1 h2 h3=>⟨h2,h3⟩,ru.Nv aS λb e=> .inl (by omega)⟩
end
abbrev g5:List (List Nat):=[[1,2],[0,2],[0,1,3],[2],[]]
theorem zf1:QQ g5:=⟨λl hl=>by
 simp only[List.mem_cons,List.not_mem_nil,or_false] at hl
 rcases hl with rfl|rfl|rfl|rfl|rfl<;>exact⟨by decide,by decide⟩,by decide,by decide⟩
def crN (g:List (List Nat)):Nat->Sj
 |0=> .new g
 |i+1=>(crN g i).step g
theorem za2:∀i,i<5->(crN g5 i).done=false/\(crN g5 i).level<=100000/\(crN g5 i).t<=100000:=by decide
theorem zhC:XT (crN g5 5) 0= .tuple #[NW 2,I 0]:=by kernel_rfl
theorem zhJ:XT (crN g5 5) 3= .tuple #[NW 1,I 0]:=by kernel_rfl
theorem zhv:(crN g5 5).t=5/\(crN g5 5).done=true:=by decide
theorem YD {w:World}(hG:NM w 0 (QX .gamma) 260)(hU:NM w 1 (QX .unary) 260):Oa prog 15 [] w λv w'=>v= .bool true/\Ext w w':=by
 refine Nu (e:=[]) func15 O ntmps15 O O$ qN O$ NQ O$ qM O$ NK O O (Ur (cs:=[_,_]) (zs:=[Value.int .u32 0,Value.int .u32 0]) Ob NV O (by kernel_rfl) O O O (by decide)) ?_
 rintro _ w1 ⟨b1,rfl,⟨bN,ad,aj⟩,j7⟩
 refine NK O O (Ur (cs:=[_,_]) (zs:=[Value.int .u32 0,Value.int .u32 0]) Ob NV O (by kernel_rfl) O O O (by decide)) ?_
 rintro _ w2 ⟨b2,rfl,⟨bQ,ag,am⟩,cm⟩
 refine NK O O (Ur (cs:=[_,_,_]) (zs:=[Value.int .u32 0,Value.int .u32 0,Value.int .u32 0]) Ob NV O (by kernel_rfl) O O O (by decide)) ?_
 rintro _ w3 ⟨b3,rfl,⟨dF,ah,ar⟩,cz⟩
 refine NK O O (Ur (cs:=[_]) (zs:=[Value.int .u32 0]) Ob NV O (by kernel_rfl) O O O (by decide)) ?_
 rintro _ w4 ⟨b4,rfl,⟨ev,aB,aH⟩,ee⟩
 refine NK O O (Ur (cs:=[_,_,_,_,_]) (zs:=[Value.slice none 0 0,Value.slice none 0 0,Value.slice none 0 0,Value.slice none 0 0,Value.slice none 0 0]) SH QC O (by kernel_rfl) O O O (by decide)) ?_
 rintro _ w4' ⟨b4',rfl,⟨Mi,p8,eW⟩,Gk⟩
 have ln:GrM w4' (.slice (some ⟨b4',0,none⟩) 5 5) g5:=by
  refine⟨⟨_,Gk.rd,λi l hl=>?_⟩⟩
  match i,hl with
  | 0, hl =>
    cases hl
    exact⟨_,_,rfl,Nat.le_refl _,(((j7.rd.ext ag).ext ah).ext aB).ext p8⟩
  | 1, hl =>
    cases hl
    exact⟨_,_,rfl,Nat.le_refl _,((cm.rd.ext ah).ext aB).ext p8⟩
  | 2, hl =>
    cases hl
    exact⟨_,_,rfl,Nat.le_refl _,(cz.rd.ext aB).ext p8⟩
  | 3, hl =>
    cases hl
    exact⟨_,_,rfl,Nat.le_refl _,ee.rd.ext p8⟩
  | 4, hl =>
    cases hl
    exact⟨none,0,rfl,Nat.le_refl _,⟨rfl,.inl ⟨(none,0),rfl,rfl⟩⟩⟩
  |i+5,hl=>cases hl
 have bU:=(((ad.trans ag).trans ah).trans aB).trans p8
 have z4:=bU.size
 refine NZ cf7 O (z5Q (g:=g5) zf1 (by decide) (by decide) ln (bU.ND hG) (bU.ND hU) 2 0 (by decide) (by decide)) ?_
 rintro _ w5 ⟨W,XX,rfl,hW,aT,fK⟩
 have bM:=bU.trans aT
 have z5:=bM.size
 refine Nz O$ ON O O$ ON O O$ NK O O (Qk (cs:=[_,_,_,_,_]) Tv O) ?_
 rintro _ w6 ⟨b6,rfl,mN,aK,aR⟩
 have z6:=aK.size
 refine NP O (OA (news:=W.v) Tv O O O O aR (by simp)) ?_
 rintro w7 ⟨bj,ax⟩
 have fZ:NM w7 b6 [ptr W.d 0,ptr W.Q.s 0,ptr W.G.k 0,ptr W.T.k 0,I ((200-W.a:Nat):Int)] 31:=bj
 have l7:=bj.lt
 have z7:=ax.size
 have kE:=aK.kp.trans ax
 have gF:=hW.hg.lt
 have iW:=hW.hg.xk
 have i1:=gF _ iW.1
 have i2:=gF _ iW.2.1
 have i3:=gF _ iW.2.2.1
 have i4:=gF _ iW.2.2.2
 have uK:QL W.G W.Q W.txt W.K (λb=>(XX b/\b≠W.G.rb)\/b=b6) w7:=(hW.hg.grow aK (Y:=λb=>(XX b/\b≠W.G.rb)\/b=b6) (λj e=>e.imp id λe=>by have:=aR.lt;omega) (λj e=> .inl e)).own ax λj e=>by subst e;exact⟨.inr O,by omega,by omega,by omega,by omega⟩
 have Ar:∀b,b<w.heap.size->(XX b/\b≠W.G.rb)\/b=b6:=λb hb=> .inl ⟨(fK b (by omega)).1,(fK b (by omega)).2.1⟩
 have ak:=hW.gg
 have dL:W.G.g.length=5:=by rw[ak];rfl
 have ha:=hW.a
 have hL:=hW.L
 have Mj:=hW.K
 have Mk:=hW.gs
 have vw:=hW.ts
 refine NQ O$ qM O$ NO V7 O$ qV (NJ UM O O fZ O)$ NO z4T O$ qV (NJ U29 O O fZ O)$ NZ cf8 O (XP uK (by omega) (by omega) hW.pre (by omega) (by omega)) ?_
 rintro _ w8 ⟨rr,vb,txt8,rfl,lY,dl,h8,Bm,aV⟩
 rw[ak] at h8
 have Gl:=bM.trans aK
 have oQ:Ext w w8:=(Gl.Nv ax λb e=>by omega).Nv aV λb e=>by
  rcases Nat.lt_or_ge b w.heap.size with h| h
  ·exact absurd (Ar b h) e
  ·exact h
 obtain⟨Y,hY⟩:∃Y:Nat->Prop,(λb=>((XX b/\b≠W.G.rb)\/b=b6)\/b=rr\/b=vb)=Y:=⟨_,rfl⟩
 rw[hY] at h8
 have wv:∀b,b<w.heap.size->Y b/\b≠rr:=λb hb=>⟨by rw[<-hY];exact .inl (Ar b hb),by omega⟩
 obtain⟨Q,hQ⟩:∃Q,W.Q.P5 (Pf W.Q.L W.a 1 true)=Q:=⟨_,rfl⟩
 rw[hQ] at h8
 refine Nz O$ ON O O$ ON O O$ NQ O$ NF O$ py$ qN O$ Nz O$ qV ((Qr O)) ?_
 rw[show(!true)=false from rfl]
 refine NT O O$ P3 O O$ OC O O$ NB$ Of.qb (e:=[(0,_),(3,_),(36,_)]) ?_
 refine It O$ An$ py$ qN O$ NF O$ Nw$ Qb (α:=Nat) (0) (λi=>[(3,ptr rr 0),(5,I (i:Int))]) (λi w'=>i<=4/\(∃txt K,QR SB W.G Q txt K Y rr vb W.a (crN g5 i) w'/\K<=1000+3300*i)/\Ext w w') (λi=>4-i) ?hI ?hround
 case hI=>exact⟨Nat.zero_le _,⟨_,_,h8,by omega⟩,oQ⟩
 case hround=>
  rintro i w9 ⟨hi,⟨txt9,K9,h9,Nt⟩,dE⟩ ih;obtain⟨r1,r2,r3⟩:=za2 i (by omega);have s9:=z0b h9 (by omega) r2 r3 r1;rw[ak] at s9
  change Oa _ _ _ _ (λv w'=>v= .tuple #[.bool (crN g5 (i+1)).done,I 0]/\∃txt',QR SB W.G Q txt' (K9+3200) Y rr vb W.a (crN g5 (i+1)) w'/\_) at s9
  try dsimp only
  refine py$ qN O$ Nz O$ Pb O O$ NB$ NN O (λhq=>?_)$ λhq=>?_
  ·have lQ:i<4:=by omega
   rw[(za2 (i+1) (by omega)).1] at s9;refine An$ py$ Nw$ qN O$ Nz O$ NZ cf9 O (s9) ?_;rintro _ w10 ⟨rfl,txt10,fX,Gm,au⟩;refine Nz O$ ON O O$ ON O O$ NQ O$ NQ O$ qM O$ NT O O$ Nz O$ P3 O O$ OC O O$ NB$ It O$ An$ Ny ?_;refine NC O$ Nz O$ OI O O$ NF O ((ih (i+1) _ ⟨by omega,⟨_,_,fX,by omega⟩,dE.Nv au λb e=>?_⟩ (by omega)).qb);rcases Nat.lt_or_ge b w.heap.size with h| h
   ·exact e.elim (λe=>absurd (wv b h).1 e) (λe=>absurd e (wv b h).2)
   ·exact h
  ·have lQ:i=4:=by omega
   subst lQ;rw[show(crN g5 (4+1)).done=true from zhv.2] at s9;refine NL O$ qN O$ Nz O$ NZ cf9 O (s9) ?_;rintro _ w10 ⟨rfl,txt10,fX,Gm,au⟩
   have bE:Ext w w10:=dE.Nv au λb e=>by
    rcases Nat.lt_or_ge b w.heap.size with h| h
    ·exact e.elim (λe=>absurd (wv b h).1 e) (λe=>absurd e (wv b h).2)
    ·exact h
   have nq:=Yh fX 0;rw[show crN g5 (4+1)=crN g5 5 from rfl,zhC] at nq;refine Nz O$ ON O O$ ON O O$ NQ O$ NQ O$ qM O$ Nz O$ NZ zbp O (nq) ?_;rintro _ w11 ⟨rfl,pJ,bu⟩
   have aQ:Ext w w11:=bE.Nv bu λb e=>by
    rcases Nat.lt_or_ge b w.heap.size with h| h
    ·exact absurd (.inl (wv b h).1) e
    ·exact h
   have vF:=Yh pJ 3;rw[zhJ] at vF;refine Nz O$ ON O O$ ON O O$ NQ O$ NQ O$ qM O$ Nz O$ NZ zbp O (vF) ?_;rintro _ w12 ⟨rfl,CD,aL⟩
   have aI:Ext w w12:=aQ.Nv aL λb e=>by
    rcases Nat.lt_or_ge b w.heap.size with h| h
    ·exact absurd (.inl (wv b h).1) e
    ·exact h
   have fC:=YL CD;rw[zhv.1] at fC;refine Nz O$ ON O O$ ON O O$ NQ O$ NF O$ Of.qb (e:=[(3,_),(8,_),(9,_),(10,_),(11,_),(12,_),(13,_)]) ?_;refine qN O$ NT O O$ Nz O$ Px O O$ Pc O O$ NT O O$ Px O O$ Pc O O$ NT O O$ Px O O$ Pc O O$ NT O O$ Px O O$ PE ?_;refine Pc O O$ NT O O$ Px O O$ PE$ Pc O O$ NT O O$ NZ zgY O (fC) ?_;rintro _ w12 ⟨rfl,rfl⟩;refine Px O O$ PE$ Pc O O$ NF O$ Of.qb (e:=[(0,_)]) ?_;refine NA func15 O ?_;exact⟨_,rfl,rfl,aI⟩
end Go.Proofs.YtfgjaafcgghnoaaGreatDoor
namespace Go.Proofs.YtfgjaafcgghnoaaGreatDoor
open Go Go.RowKit
def insL (x:Nat):List Nat->List Nat
 |[]=>[x]
 |y::l=>if x<y then x::y::l else if x=y then y::l else y::insL x l
theorem ZG {x z:Nat}:∀{l:List Nat},z∈insL x l↔z=x\/z∈l
 |[]=>by simp[insL]
 | y :: l => by
   have ih:=ZG (x:=x) (z:=z) (l:=l);unfold insL;by_cases h1:x<y
   ·rw[if_pos h1];simp
   ·rw[if_neg h1];by_cases h2:x=y
    ·rw[if_pos h2];subst h2;simp
    ·rw[if_neg h2];simp only[List.mem_cons,ih];constructor
     ·rintro(e|e|e)
      ·exact .inr (.inl e)
      ·exact .inl e
      ·exact .inr (.inr e)
     ·rintro(e|e|e)
      ·exact .inr (.inl e)
      ·exact .inl e
      ·exact .inr (.inr e)
theorem z0W {x:Nat}:∀{l:List Nat},List.Pairwise (·<·) l->List.Pairwise (·<·) (insL x l)
 |[],_=>by simp[insL]
 | y :: l, h => by
   obtain⟨h1,h2⟩:=List.pairwise_cons.1 h;unfold insL;by_cases e1:x<y
   ·rw[if_pos e1];refine List.pairwise_cons.2 ⟨λz hz=>?_,h⟩;rcases List.mem_cons.1 hz with e| e
    ·omega
    ·have:=h1 z e;omega
   ·rw[if_neg e1];by_cases e2:x=y
    ·rw[if_pos e2];exact h
    ·rw[if_neg e2];refine List.pairwise_cons.2 ⟨λz hz=>?_,z0W h2⟩;rcases ZG.1 hz with e| e
     ·omega
     ·exact h1 z e
theorem z1c {v:Nat}:∀{l:List Nat} {i:Nat},i<=l.length->(∀(j y:Nat),j<i->l[j]? =some y->y<v)->(∀y:Nat,l[i]? =some y->v<=y)->insL v l=if l[i]? =some v then l else l.take i++v::l.drop i
 | [], i, hi, _, _ => by
   have:i=0:=by simpa using hi
   subst this
   rfl
 | x :: l, 0, _, _, h2 => by
   have hx:=h2 x O;unfold insL;by_cases e:v<x
   ·rw[if_pos e,if_neg (by simp;omega)]
    rfl
   ·have:v=x:=by omega
    subst this;rw[if_neg e,if_pos O]
    exact(if_pos O).symm
 | x :: l, i + 1, hi, h1, h2 => by
   have hx:=h1 0 x (by omega) O;have ih:=z1c (v:=v) (l:=l) (i:=i) (by simpa using hi) (λj y hj hy=>h1 (j+1) y (by omega) (by simpa using hy)) (λy hy=>h2 y (by simpa using hy));unfold insL;rw[if_neg (by omega),if_neg (by omega),ih];have e:(x::l)[i+1]? =l[i]? :=by simp
   rw[e];split
   ·rfl
   ·rfl
def z1s (g:List (List Nat))(e:Nat×Nat):List (List Nat):=g.set e.1 (insL e.2 (NS g e.1))
def z04 (n:Nat)(es:List (Nat×Nat)):List (List Nat):=es.foldl z1s (List.replicate n [])
theorem Y6 {g:List (List Nat)}{u v:Nat}{l:List Nat}(hu:u<g.length):NS (g.set u l) v=if u=v then l else NS g v:=by
 unfold NS
 by_cases e:u=v
 ·subst e;rw[List.getElem?_set_self hu,if_pos O];rfl
 ·rw[List.getElem?_set_ne e,if_neg e]
structure Y8 (n:Nat)(es:List (Nat×Nat))(g:List (List Nat)):Prop where
 len:g.length=n
 mem:∀v u,u∈NS g v↔(v,u)∈es
 Yf:∀v,List.Pairwise (·<·) (NS g v)
theorem Y8.new {n:Nat}:Y8 n [] (List.replicate n []):=by
 have e:∀v,NS (List.replicate n []) v=[]:=λv=>by
  unfold NS;rw[List.getElem?_replicate];split<;>rfl
 exact⟨by simp,λv u=>by rw[e];simp,λv=>by rw[e];exact List.Pairwise.nil⟩
theorem Y8.step {n:Nat}{es:List (Nat×Nat)}{g:List (List Nat)}(h:Y8 n es g){e:Nat×Nat}(he:e.1<n):Y8 n (es++[e]) (z1s g e):=by
 have hl:=h.len
 unfold z1s
 refine⟨by rw[List.length_set];exact hl,λv u=>?_,λv=>?_⟩
 ·rw[Y6 (by omega),List.mem_append,List.mem_singleton];by_cases e2:e.1=v
  ·rw[if_pos e2,ZG,h.mem,e2];constructor
   ·rintro(e3|e3)
    ·right;subst e3;subst e2;rfl
    ·exact .inl e3
   ·rintro(e3|e3)
    ·exact .inr e3
    ·left;rw[<-e3]
  ·rw[if_neg e2,h.mem];constructor
   ·exact .inl
   ·rintro(e3|e3)
    ·exact e3
    ·exact absurd (by rw[<-e3]) e2
 ·rw[Y6 (by omega)];split
  ·exact z0W (h.Yf _)
  ·exact h.Yf v
theorem zdn {n:Nat}{es:List (Nat×Nat)}(h:∀e∈es,e.1<n):Y8 n es (z04 n es):=by
 have key:∀(l p:List (Nat×Nat)) (g:List (List Nat)),Y8 n p g->(∀e∈l,e.1<n)->Y8 n (p++l) (l.foldl z1s g):=λl=>by
  induction l with
  |nil=>exact λp g hg _=>by rw[List.append_nil];exact hg
  | cons e l ih =>
    intro p g hg hl;rw[List.foldl_cons];have:=ih (p++[e]) _ (hg.step (hl e List.mem_cons_self)) (λx hx=>hl x (List.mem_cons_of_mem _ hx))
    rwa [List.append_assoc] at this
 exact key es [] _ Y8.new h
theorem Y8.gr {n:Nat}{es:List (Nat×Nat)}{g:List (List Nat)}(h:Y8 n es g)(hn:n<=60)(he:∀e∈es,e.2<n):QQ g:=by
 have hmem:∀l∈g,∃v,NS g v=l:=λl hl=>by
  obtain⟨v,hv,e⟩:=List.getElem_of_mem hl;exact⟨v,by unfold NS;rw[List.getElem?_eq_getElem hv,e];rfl⟩
 have hlt:∀l∈g,∀y∈l,y<g.length:=λl hl y hy=>by
  obtain⟨v,rfl⟩:=hmem l hl;rw[h.len];exact he _ ((h.mem v y).1 hy)
 refine⟨λl hl=>⟨?_,λy hy=>?_⟩,hlt,by rw[h.len];exact hn⟩
 ·obtain⟨v,rfl⟩:=hmem l hl;exact h.Yf v
 ·have:=hlt l hl y hy;rw[h.len] at this;omega
theorem Y8.sym {n:Nat}{es:List (Nat×Nat)}{g:List (List Nat)}(h:Y8 n es g)(h1:∀a b,(a,b)∈es->(b,a)∈es)(h2:∀a,(a,a)∉es):zdI g:=
 ⟨λu v hu=>(h.mem u v).2 (h1 v u ((h.mem v u).1 hu)),λv hv=>h2 v ((h.mem v v).1 hv)⟩
def z3P (g:List (List Nat)):List (Nat×Nat):=(List.range g.length).flatMap λu=>(NS g u).flatMap λx=>if x=u then [] else [(x,u),(u,x)]
theorem WW {g:List (List Nat)}(hg:QQ g)(a b:Nat):(a,b)∈z3P g↔a≠b/\(b∈NS g a\/a∈NS g b):=by
 have hl:∀{u x:Nat},x∈NS g u->u<g.length:=fun {u x} hx=>by
  rcases Nat.lt_or_ge u g.length with e| e
  ·exact e
  ·unfold NS at hx;rw[List.getElem?_eq_none e] at hx;cases hx
 unfold z3P
 simp only[List.mem_flatMap,List.mem_range]
 constructor
 ·rintro⟨u,hu,x,hx,h⟩;split at h
  ·cases h
  ·rename_i hxu
   simp only[List.mem_cons,List.not_mem_nil,or_false,Prod.mk.injEq] at h;rcases h with⟨rfl,rfl⟩|⟨rfl,rfl⟩
   ·exact⟨hxu,.inr hx⟩
   ·exact⟨λe=>hxu e.symm,.inl hx⟩
 ·rintro⟨hab,h|h⟩
  ·exact⟨a,hl h,b,h,by rw[if_neg (λe=>hab e.symm)];simp⟩
  ·exact⟨b,hl h,a,h,by rw[if_neg hab];simp⟩
def z9R (g:List (List Nat)):List (List Nat):=z04 g.length (z3P g)
theorem zbn {g:List (List Nat)}(hg:QQ g):QQ (z9R g)/\zdI (z9R g)/\(z9R g).length=g.length:=by
 have hb:∀e∈z3P g,e.1<g.length/\e.2<g.length:=λe he=>by
  obtain⟨a,b⟩:=e;obtain⟨-,h|h⟩:=(WW hg a b).1 he
  ·refine⟨?_,RY hg a b h⟩;rcases Nat.lt_or_ge a g.length with e| e
   ·exact e
   ·unfold NS at h;rw[List.getElem?_eq_none e] at h;cases h
  ·refine⟨RY hg b a h,?_⟩;rcases Nat.lt_or_ge b g.length with e| e
   ·exact e
   ·unfold NS at h;rw[List.getElem?_eq_none e] at h;cases h
 have hI:=zdn (n:=g.length) (es:=z3P g) (λe he=>(hb e he).1)
 exact⟨hI.gr hg.n (λe he=>(hb e he).2),hI.sym (λa b h=>by
  rw[WW hg] at h⊢
  exact⟨λe=>h.1 e.symm,h.2.symm⟩) (λa h=>((WW hg a a).1 h).1 O),hI.len⟩
end Go.Proofs.YtfgjaafcgghnoaaGreatDoor
namespace Go.Proofs.YtfgjaafcgghnoaaGreatDoor
open Go Go.RowKit Go.Proofs.Tryz
theorem zc3 {w:World}{s:List Nat}{v:Nat}(Ml:s.length<=1000000){a:Option Addr}{c:Nat}(iC:s.length<=c)(hr:Rd w (.slice a s.length c) 1 s.length (s.map Oe)):Oa prog 84 [.slice a s.length c,Oe v] w λr w'=>∃a' c',r= .slice a' (insL v s).length c'/\(insL v s).length<=c'/\Rd w' (.slice a' (insL v s).length c') 1 (insL v s).length ((insL v s).map Oe)/\(∀b,(Value.slice a' (insL v s).length c').ownBlock=some b->(Value.slice a s.length c).ownBlock=some b\/w.heap.size<=b)/\Ext w w':=by
 have eJ:maxLen=9223372036854775807:=rfl
 have aX:∀{k y:Nat},s[k]? =some y->∃lb lo,a=some ⟨lb,lo,none⟩/\w.cell? ⟨lb,lo+k*1,none⟩=some (Oe y):=fun {k y} hy=>by
  have ig:k<s.length:=by
   rcases Nat.lt_or_ge k s.length with h| h
   ·exact h
   ·rw[List.getElem?_eq_none h] at hy;cases hy
  rcases hr.2 with⟨⟨ca,cc⟩,fT,s7⟩|⟨lb,lo,cap,fT,dx⟩
  ·omega
  cases fT;exact⟨lb,lo,rfl,dx (k*1) _ (by rw[Nat.mul_one,List.getElem?_map,hy];rfl)⟩
 refine Nu (e:=[(0,_),(1,_)]) func84 O ntmps84 O O$ qN O$ NQ O$ qM O$ NF O$ py$ Nw$ QW (λe' w'=>∃k:Nat,e'=[(0,.slice a s.length c),(1,Oe v),(5,I (k:Int))]/\k<=s.length/\(∀j y,j<k->s[j]? =some y->y<v)/\(∀y,s[k]? =some y->v<=y)/\w'=w) ?jG$ λjG=>?uH
 case jG =>
  rintro e' w3 ⟨k,rfl,hk,i6,iO,rfl⟩;have XL:=z1c hk i6 iO;refine py$ py$ Oy (λe' w'=>∃q,e'=[(0,.slice a s.length c),(1,Oe v),(5,I (k:Int)),(31,.bool q)]/\(q=true↔s[k]? =some v)/\w'=w3) ?eC$ λeC=>?iR
  case eC =>
   rintro e' w4 ⟨q,rfl,pF,rfl⟩;refine OV O (λrk=>?_)$ λrk=>?_
   ·rw[if_pos (pF.1 rk)] at XL;rw[XL];refine qN O$ Nz O$ NF O$ NA func84 O ?_;exact⟨_,rfl,a,c,rfl,iC,hr,λb hb=> .inl hb,Ext.refl _⟩
   ·rw [if_neg (λe => by rw [pF.2 e] at rk; cases rk)] at XL; have ak := Ext.NY w4; have bB := ak.size
    have lD:((s.take k++[v])++s.drop k).length=s.length+1:=by
     rw[List.length_append,List.length_append,List.length_take,List.length_drop,List.length_singleton];omega
    have dm:∀(l:List Nat),∀c∈l.map Oe,c.oneCell'=true:=λl c hc=>by obtain⟨z,-,rfl⟩:=List.mem_map.1 hc;rfl
    have jU:(s.take k).length=k:=by rw[List.length_take];omega
    have vC:(s.drop k).length=s.length-k:=List.length_drop ..;refine An$ py$ PK (λw'=>Ext w4 w') O$ NX 1 O O (ak)$ NX 2 O O (ak)$ NX 5 O O (ak)$ NX 8 O O (ak)$ NX 9 O O (ak)$ NG 3 O (z9D Ob NV O O (by omega)) ak$ NG 10 O (WA Ob NV O O hk iC) ak$ zhw (i:=0) (j:=6) (by kernel_rfl) ?_ ?_
    ·refine QO (i:=0) O O O (Ur (cs:=[]) (zs:=[]) Ob NV O (by kernel_rfl) O O O (by decide)) ?_;rintro v6 w6 ⟨b6,rfl,⟨mN,aK,aR⟩,fh⟩;refine⟨ak.trans aK,?_⟩;have wj:w4.heap.size<=b6:=by omega
     have lb6:=aR.lt;have ak:=ak.trans aK
     try have bT:=bT.ext aK
     have bB:=Nat.le_trans bB aK.size;refine zhw (i:=4) (j:=6) (by kernel_rfl) ?_ ?_
     ·refine QO (i:=4) O O O (pap Ob NV O (by decide) O O fh ((S1 (i:=k) hr hk).ext ak) (λc hc=>dm s c (List.mem_of_mem_take hc)) (by omega) (by omega)) ?_;rintro v10 w10 ⟨bz,au,aZ,-⟩;refine⟨ak.Nv au (λj e=>by have e:b6=j:=Pz e;omega),?_⟩;have ak:=ak.Nv au (λj e=>by have e:b6=j:=Pz e;omega)
      try have bT:=bT.kp au (λj hj e=>by have e:b6=j:=Pz e;have hj:b16=j:=Pz hj;omega)
      have aZ:∀j,v10.ownBlock=some j->w4.heap.size<=j:=λj hj=>by rcases aZ j hj with e|e;(have e:b6=j:=Pz e;omega);omega
      have bB:=Nat.le_trans bB au.size;have oG:=λ(j:Nat) (hj:v10.ownBlock=some j)=>bz.lt hj;refine qO 6$ QO (i:=6) O O O (Ur (cs:=[_]) (zs:=[Value.int .u32 0]) Ob NV O (by kernel_rfl) O O O (by decide)) ?_;rintro v16 w16 ⟨b16,rfl,⟨oH,aD,eE⟩,bT⟩;refine⟨ak.trans aD,?_⟩;have oI:w4.heap.size<=b16:=by omega
      have ak:=ak.trans aD
      try have fh:=fh.ext aD
      try have bz:=bz.ext aD
      have lb16:=eE.lt;have bB:=Nat.le_trans bB aD.size;refine qO 7$ QO (i:=7) O O O (pap Ob NV O (by decide) O O bz bT.rd (λc hc=>dm [v] c hc) (by omega) (by omega)) ?_;rintro v17 w17 ⟨ew,bR,bJ,-⟩;refine⟨ak.Nv bR (λj e=>aZ j e),?_⟩;have ak:=ak.Nv bR (λj e=>aZ j e);have bJ:∀j,v17.ownBlock=some j->w4.heap.size<=j:=λj hj=>by rcases bJ j hj with e|e;exact aZ j e;omega
      have bB:=Nat.le_trans bB bR.size;refine qO 11$ QO (i:=11) O O O (pap Ob NV O (by decide) O O ew ((R4 (i:=k) hr hk iC).ext ak) (λc hc=>dm s c (List.mem_of_mem_drop hc)) (by omega) (by omega)) ?_;rintro v21 w21 ⟨bP,dP,cO,-⟩;refine⟨ak.Nv dP (λj e=>bJ j e),?_⟩;have ak:=ak.Nv dP (λj e=>bJ j e);have cO:∀j,v21.ownBlock=some j->w4.heap.size<=j:=λj hj=>by rcases cO j hj with e|e;exact bJ j e;omega
      refine NG 12 O (PO O) ak$ qE ?_;rw[show 0+k+1+(s.length-k)=(insL v s).length by rw[XL,List.length_append,List.length_cons,jU,vC];omega,show([]++List.take k (s.map Oe)++[Oe v]++List.drop k (s.map Oe))=(insL v s).map Oe by rw[XL];simp[List.map_take,List.map_drop]] at bP;obtain⟨ra,rc,rfl,-⟩:=bP.rd.shape
      have oJ:(insL v s).length<=rc:=by
       rcases bP.shape with⟨e1,e2⟩|⟨gg,cc,e1,e2⟩
       ·omega
       ·cases e1;exact e2
      refine NA func84 O ?_;exact⟨_,rfl,ra,rc,rfl,oJ,bP.rd,λb hb=> .inr (cO b hb),ak⟩
     ·refine QO (i:=6) O O O (Ur (cs:=[_]) (zs:=[Value.int .u32 0]) Ob NV O (by kernel_rfl) O O O (by decide)) ?_;rintro v16 w16 ⟨b16,rfl,⟨oH,aD,eE⟩,bT⟩;refine⟨ak.trans aD,?_⟩;have oI:w4.heap.size<=b16:=by omega
      have ak:=ak.trans aD
      try have fh:=fh.ext aD
      try have bz:=bz.ext aD
      have lb16:=eE.lt;have bB:=Nat.le_trans bB aD.size;refine qO 4$ QO (i:=4) O O O (pap Ob NV O (by decide) O O fh ((S1 (i:=k) hr hk).ext ak) (λc hc=>dm s c (List.mem_of_mem_take hc)) (by omega) (by omega)) ?_;rintro v10 w10 ⟨bz,au,aZ,-⟩;refine⟨ak.Nv au (λj e=>by have e:b6=j:=Pz e;omega),?_⟩;have ak:=ak.Nv au (λj e=>by have e:b6=j:=Pz e;omega)
      try have bT:=bT.kp au (λj hj e=>by have e:b6=j:=Pz e;have hj:b16=j:=Pz hj;omega)
      have aZ:∀j,v10.ownBlock=some j->w4.heap.size<=j:=λj hj=>by rcases aZ j hj with e|e;(have e:b6=j:=Pz e;omega);omega
      have bB:=Nat.le_trans bB au.size;have oG:=λ(j:Nat) (hj:v10.ownBlock=some j)=>bz.lt hj;refine qO 7$ QO (i:=7) O O O (pap Ob NV O (by decide) O O bz bT.rd (λc hc=>dm [v] c hc) (by omega) (by omega)) ?_;rintro v17 w17 ⟨ew,bR,bJ,-⟩;refine⟨ak.Nv bR (λj e=>aZ j e),?_⟩;have ak:=ak.Nv bR (λj e=>aZ j e);have bJ:∀j,v17.ownBlock=some j->w4.heap.size<=j:=λj hj=>by rcases bJ j hj with e|e;exact aZ j e;omega
      have bB:=Nat.le_trans bB bR.size;refine qO 11$ QO (i:=11) O O O (pap Ob NV O (by decide) O O ew ((R4 (i:=k) hr hk iC).ext ak) (λc hc=>dm s c (List.mem_of_mem_drop hc)) (by omega) (by omega)) ?_;rintro v21 w21 ⟨bP,dP,cO,-⟩;refine⟨ak.Nv dP (λj e=>bJ j e),?_⟩;have ak:=ak.Nv dP (λj e=>bJ j e);have cO:∀j,v21.ownBlock=some j->w4.heap.size<=j:=λj hj=>by rcases cO j hj with e|e;exact bJ j e;omega
      refine NG 12 O (PO O) ak$ qE ?_;rw[show 0+k+1+(s.length-k)=(insL v s).length by rw[XL,List.length_append,List.length_cons,jU,vC];omega,show([]++List.take k (s.map Oe)++[Oe v]++List.drop k (s.map Oe))=(insL v s).map Oe by rw[XL];simp[List.map_take,List.map_drop]] at bP;obtain⟨ra,rc,rfl,-⟩:=bP.rd.shape
      have oJ:(insL v s).length<=rc:=by
       rcases bP.shape with⟨e1,e2⟩|⟨gg,cc,e1,e2⟩
       ·omega
       ·cases e1;exact e2
      refine NA func84 O ?_;exact⟨_,rfl,ra,rc,rfl,oJ,bP.rd,λb hb=> .inr (cO b hb),ak⟩
    ·refine QO (i:=6) O O O (Ur (cs:=[_]) (zs:=[Value.int .u32 0]) Ob NV O (by kernel_rfl) O O O (by decide)) ?_;rintro v16 w16 ⟨b16,rfl,⟨oH,aD,eE⟩,bT⟩;refine⟨ak.trans aD,?_⟩;have oI:w4.heap.size<=b16:=by omega
     have ak:=ak.trans aD
     try have fh:=fh.ext aD
     try have bz:=bz.ext aD
     have lb16:=eE.lt;have bB:=Nat.le_trans bB aD.size;refine qO 0$ QO (i:=0) O O O (Ur (cs:=[]) (zs:=[]) Ob NV O (by kernel_rfl) O O O (by decide)) ?_;rintro v6 w6 ⟨b6,rfl,⟨mN,aK,aR⟩,fh⟩;refine⟨ak.trans aK,?_⟩;have wj:w4.heap.size<=b6:=by omega
     have lb6:=aR.lt;have ak:=ak.trans aK
     try have bT:=bT.ext aK
     have bB:=Nat.le_trans bB aK.size;refine qO 4$ QO (i:=4) O O O (pap Ob NV O (by decide) O O fh ((S1 (i:=k) hr hk).ext ak) (λc hc=>dm s c (List.mem_of_mem_take hc)) (by omega) (by omega)) ?_;rintro v10 w10 ⟨bz,au,aZ,-⟩;refine⟨ak.Nv au (λj e=>by have e:b6=j:=Pz e;omega),?_⟩;have ak:=ak.Nv au (λj e=>by have e:b6=j:=Pz e;omega)
     try have bT:=bT.kp au (λj hj e=>by have e:b6=j:=Pz e;have hj:b16=j:=Pz hj;omega)
     have aZ:∀j,v10.ownBlock=some j->w4.heap.size<=j:=λj hj=>by rcases aZ j hj with e|e;(have e:b6=j:=Pz e;omega);omega
     have bB:=Nat.le_trans bB au.size;have oG:=λ(j:Nat) (hj:v10.ownBlock=some j)=>bz.lt hj;refine qO 7$ QO (i:=7) O O O (pap Ob NV O (by decide) O O bz bT.rd (λc hc=>dm [v] c hc) (by omega) (by omega)) ?_;rintro v17 w17 ⟨ew,bR,bJ,-⟩;refine⟨ak.Nv bR (λj e=>aZ j e),?_⟩;have ak:=ak.Nv bR (λj e=>aZ j e);have bJ:∀j,v17.ownBlock=some j->w4.heap.size<=j:=λj hj=>by rcases bJ j hj with e|e;exact aZ j e;omega
     have bB:=Nat.le_trans bB bR.size;refine qO 11$ QO (i:=11) O O O (pap Ob NV O (by decide) O O ew ((R4 (i:=k) hr hk iC).ext ak) (λc hc=>dm s c (List.mem_of_mem_drop hc)) (by omega) (by omega)) ?_;rintro v21 w21 ⟨bP,dP,cO,-⟩;refine⟨ak.Nv dP (λj e=>bJ j e),?_⟩;have ak:=ak.Nv dP (λj e=>bJ j e);have cO:∀j,v21.ownBlock=some j->w4.heap.size<=j:=λj hj=>by rcases cO j hj with e|e;exact bJ j e;omega
     refine NG 12 O (PO O) ak$ qE ?_;rw[show 0+k+1+(s.length-k)=(insL v s).length by rw[XL,List.length_append,List.length_cons,jU,vC];omega,show([]++List.take k (s.map Oe)++[Oe v]++List.drop k (s.map Oe))=(insL v s).map Oe by rw[XL];simp[List.map_take,List.map_drop]] at bP;obtain⟨ra,rc,rfl,-⟩:=bP.rd.shape
     have oJ:(insL v s).length<=rc:=by
      rcases bP.shape with⟨e1,e2⟩|⟨gg,cc,e1,e2⟩
      ·omega
      ·cases e1;exact e2
     refine NA func84 O ?_;exact⟨_,rfl,ra,rc,rfl,oJ,bP.rd,λb hb=> .inr (cO b hb),ak⟩
  case iR=>
   refine NC O$ NT O O$ Q0 Ob O ?_;by_cases pq:k<s.length
   ·obtain⟨y,hy⟩:∃y,s[k]? =some y:=⟨_,List.getElem?_eq_getElem (by omega)⟩;obtain⟨lb,lo,rfl,uG⟩:=aX hy;refine Pb O O$ PE$ NT O O$ Nz O$ qV (OH Ob NV O O (by omega))$ qV (Oi OX O O uG)$ Nz O ?_;by_cases sH:y=v
    ·refine Px O O$ PE$ Pc O O$ NB ?_;exact(eC _ _ ⟨true,rfl,⟨λ_=>by rw[hy,sH],λ_=>rfl⟩,rfl⟩).qb
    ·refine Px O O$ Ox$ Pc O O$ NB ?_;exact(eC _ _ ⟨false,rfl,⟨λe=>(by cases e),λe=>by rw[hy] at e;exact absurd (Pz e) sH⟩,rfl⟩).qb
   ·refine Pb O O$ Ox$ Nz O$ qS$ qS$ qS$ qS$ qS$ qS$ OC O O$ NB ?_;exact(eC _ _ ⟨false,rfl,⟨λe=>(by cases e),λe=>by rw[List.getElem?_eq_none (by omega)] at e;cases e⟩,rfl⟩).qb
 case uH=>
  refine Qb (α:=Nat) (0) (λk=>[(0,.slice a s.length c),(1,Oe v),(5,I (k:Int))]) (λk w'=>k<=s.length/\(∀j y,j<k->s[j]? =some y->y<v)/\w'=w) (λk=>s.length-k) ?hI ?hround
  case hI=>exact⟨Nat.zero_le _,λj y hj=>absurd hj (Nat.not_lt_zero _),rfl⟩
  case hround=>
   rintro k w3 ⟨hk,i6,rfl⟩ ih2
   try dsimp only
   refine py$ qN O$ NT O O$ Q0 Ob O ?_;by_cases ig:k<s.length
   ·obtain⟨y,hy⟩:∃y,s[k]? =some y:=⟨_,List.getElem?_eq_getElem ig⟩;obtain⟨lb,lo,rfl,uG⟩:=aX hy;refine Pb O O$ PE$ NT O O$ Nz O$ qV (OH Ob NV O O (by omega))$ qV (Oi OX O O uG)$ Nz O ?_;by_cases Bj:y<v
    ·refine Pb O O$ PE$ Pc O O$ NB$ NI O$ An$ Nw$ NC O$ Nz O$ OI O O$ NF O$ Ny ((ih2 (k+1) _ ⟨by omega,λj z hj hz=>?_,rfl⟩ (by omega)).qb);by_cases e:j=k
     ·subst e;rw[hy] at hz;cases hz;exact Bj
     ·exact i6 j z (by omega) hz
    ·refine Pb O O$ Ox$ Pc O O$ NB$ It O$ NL O ?_;exact(jG _ _ ⟨k,rfl,hk,i6,λz hz=>(by rw[hy] at hz;cases hz;omega),rfl⟩).qb
   ·refine Pb O O$ Ox$ Nz O$ qS$ qS$ qS$ qS$ qS$ qS$ OC O O$ NB$ It O$ NL O ?_;exact(jG _ _ ⟨k,rfl,hk,i6,λz hz=>(by rw[List.getElem?_eq_none (by omega)] at hz;cases hz),rfl⟩).qb
theorem z9T (n:Nat)(es:List (Nat×Nat)):(z04 n es).length=n:=by
 have key:∀(l:List (Nat×Nat)) (g:List (List Nat)),(l.foldl z1s g).length=g.length:=λl=>by
  induction l with
  |nil=>exact λ_=>rfl
  |cons e l ih=>intro g;rw[List.foldl_cons,ih];unfold z1s;rw[List.length_set]
 unfold z04
 rw[key,List.length_replicate]
theorem z2O {x:Nat}:∀{l:List Nat},(insL x l).length<=l.length+1
 |[]=>Nat.le_refl _
 | y :: l => by
   unfold insL;have:=z2O (x:=x) (l:=l);split
   ·exact Nat.le_refl _
   ·split<;>simp<;>omega
theorem z7B {w:World}{n:Nat}(cY:1<=n)(hn:n<=60){ea:Option Addr}{ec:Nat}{es:List (Nat×Nat)}(pw:es.length<=100000)(hb:∀e∈es,e.1<n/\e.2<n)(hE:EdR w ea es):Oa prog 51 [I (n:Int),.slice ea es.length ec] w λv w'=>∃bg,v= .tuple #[.slice (some ⟨bg,0,none⟩) n n,I 0]/\XM w' bg w.heap.size (z04 n es)/\Ext w w':=by
 have eJ:maxLen=9223372036854775807:=rfl
 refine Nu (e:=[(0,_),(1,_)]) func51 O ntmps51 O O$ qN O$ NQ O$ NF O$ py$ qN O$ Nz O$ Pb O O$ Ox$ NT O O$ P9 O O$ Ox$ OC O O$ NB ?_
 refine It O$ An$ qN O$ Nz O$ NK O O (pmk (c:=n) (n:=n) SH QC O O O (by omega) (by omega) (by omega)) ?_
 rintro _ w1 ⟨bg,rfl,⟨HJ,ad,aj⟩,-⟩
 have kQ:XM w1 bg w.heap.size (List.replicate n []):=XM.new aj
 refine NF O$ py$ qN O$ NF O$ Nw$ Qb (α:=Nat) (0) (λi=>[(0,I (n:Int)),(1,.slice ea es.length ec),(6,.slice (some ⟨bg,0,none⟩) n n),(7,I (i:Int))]) (λi w'=>i<=es.length/\XM w' bg w.heap.size (z04 n (es.take i))/\(∀v,(NS (z04 n (es.take i)) v).length<=i)/\Ext w w') (λi=>es.length-i) ?hI ?hround
 case hI=>exact⟨Nat.zero_le _,kQ,λv=>by
  rw[List.take_zero];show(NS (List.replicate n []) v).length<=0;unfold NS;rw[List.getElem?_replicate]
  split<;>exact Nat.le_refl _,ad⟩
 case hround=>
  rintro i w2 ⟨hi,cA,vT,ag⟩ ih
  try dsimp only
  refine py$ qN O$ NT O O$ Q0 U22 O$ Pb O O$ NB$ NN O (λhq=>?_)$ λhq=>?_
  ·have cu:i<es.length:=by omega
   obtain⟨e,he⟩:∃e,es[i]? =some e:=⟨_,List.getElem?_eq_getElem cu⟩;obtain⟨b1,b2⟩:=hb e (List.mem_of_getElem? he);obtain⟨e1,e2,eb,eo,rfl,dH,eM⟩:=(hE.ext ag) i e he
   have ek:z04 n (es.take (i+1))=z1s (z04 n (es.take i)) e:=by
    unfold z04;rw[OB he,List.foldl_append];rfl
   obtain⟨g,hg⟩:∃g,z04 n (es.take i)=g:=⟨_,rfl⟩;have dL:g.length=n:=by rw[<-hg];exact z9T _ _
   rw[hg] at cA vT ek
   have HS:g[e.1]? =some (NS g e.1):=by
    unfold NS;rw[List.getElem?_eq_getElem (by omega)];rfl
   obtain⟨a,c,eL,iC,dU,Fh⟩:=cA.cell HS;have Gn:=vT e.1;obtain⟨s,hs⟩:∃s,NS g e.1=s:=⟨_,rfl⟩;rw[hs] at eL iC dU Fh Gn;refine An$ py$ Nw$ py$ qN O$ NT O O$ qV (OH U22 Su O O (by omega))$ NO VE O$ qV (Oi OX O O dH)$ qV (Ow O OX U2 (by omega))$ Nz O$ RN O O$ Ox$ NT O O ?_;refine Nz O$ qV (OH U22 Su O O (by omega))$ NO Us O$ qV (Oi OX O O eM)$ qV (Ow O OX U2 (by omega))$ Nz O$ RN O O$ Ox$ OC O O$ NB$ It O$ An ?_;have ak:=Ext.NY w2;obtain⟨vs,oF,js,-⟩:=id cA.ex;have Fj:=cA.lt;have z2:=ag.size;refine O3 [21] (λw'=>Ext w2 w') (by kernel_rfl) O$ qL [20,21] 0 O (λ_ h=>Oq O) ak$ qL [3,4,5,20,21] 1 O (λ_ h=>Oq O) ak$ qL [3,4,5,20,21] 2 O (λ_ h=>Oq O) ak$ qL [4,5,20,21] 3 O (λ_ h=>OH U22 Su O O (by omega)) ak$ qL [5,20,21] 4 O (λ_ h=>Og VE O) ak$ qL [12,13,19,20,21] 6 O (λ_ h=>Oq O) ak$ qL [9,10,11,12,13,19,20,21] 7 O (λ_ h=>Oq O) ak$ qL [9,10,11,12,13,19,20,21] 8 O (λ_ h=>Oq O) ak$ qL [10,11,12,13,19,20,21] 9 O (λ_ h=>OH U22 Su O O (by omega)) ak$ qL [11,12,13,19,20,21] 10 O (λ_ h=>Og VE O) ak$ qL [16,17,18,19,20,21] 14 O (λ_ h=>Oq O) ak$ qL [16,17,18,19,20,21] 15 O (λ_ h=>Oq O) ak$ qL [17,18,19,20,21] 16 O (λ_ h=>OH U22 Su O O (by omega)) ak ?_;refine qL [18,19,20,21] 17 O (λ_ h=>Og Us O) ak$ qL [20,21] 5 O (λ_ h=>Oi OX O O (Oz h dH)) ak$ qL [12,13,19,20,21] 11 O (λ_ h=>Oi OX O O (Oz h dH)) ak$ qL [19,20,21] 18 O (λ_ h=>Oi OX O O (Oz h eM)) ak$ qL [13,19,20,21] 12 O (λ_ h=>OH SH QC O O (by omega)) ak$ qL [19,20,21] 13 O (λ_ h=>Oi Ob O O (Oz h eL)) ak$ PC (i:=19) (by kernel_rfl)$ Qh (i:=19) O O O (yc ziv O) (zc3 (by omega) iC (dU.ext ak)) ?_;rintro _ w3 ⟨a',c',rfl,Gp,Gq,Gs,ah⟩;refine⟨ak.trans ah,?_⟩;have ae:=ak.trans ah;have zg:=ak.size;have gJ:=ae.ND oF;refine qL [21] 20 O (λ_ h=>OH SH QC O O (by omega)) (ak.trans ah)$ Rs [21]$ qO 21$ Ou (i:=21) O O (PA QC O O O gJ (by rw[js];omega)) ?_;rintro w4 ⟨aH,ao⟩;refine⟨trivial,?_⟩
   have dz:=(cA.ext ae).set ao (f:=e.1) (l:=insL e.2 s) (a:=a') (c:=c') (λvs' h'=>by rw[NM.uniq h' gJ];exact aH) (by omega) Gp Gq (λj hj=>by
    rcases Gs j hj with e| e
    ·exact Fh j e
    ·omega)
   refine qE$ Ny$ NC O$ Nz O$ OI O O$ NF O ((ih (i+1) _ ⟨by omega,?_,λv=>?_,(ag.trans ae).Nv ao (λj e=>by omega)⟩ (by omega)).qb)
   ·rw[ek];unfold z1s;rw[hs];exact dz
   ·rw[ek];unfold z1s;rw[Y6 (by omega),hs];have:=vT v;have:=z2O (x:=e.2) (l:=s);split<;>omega
  ·have cu:i=es.length:=by omega
   subst cu;rw[List.take_length] at cA;refine NL O$ qN O$ Nz O$ NQ O$ NF O$ NA func51 O ?_;exact⟨_,rfl,bg,rfl,cA,ag⟩
def edC (es:List (Nat×Nat)):List Value:=es.flatMap λe=>[Oe e.1,Oe e.2]
theorem z65:∀{es:List (Nat×Nat)} {i:Nat} {e:Nat×Nat},es[i]? =some e->(edC es)[i*2+0]? =some (Oe e.1)/\(edC es)[i*2+1]? =some (Oe e.2)
 |x::es,0,e,h=>by cases h;exact⟨rfl,rfl⟩
 | x :: es, i + 1, e, h => by
   obtain⟨h1,h2⟩:=z65 (es:=es) (i:=i) (e:=e) (by simpa using h);unfold edC at h1 h2⊢;rw[List.flatMap_cons,List.getElem?_append_right (by simp;omega),List.getElem?_append_right (by simp;omega)];simp only[List.length_cons,List.length_nil];rw[show(i+1)*2+0-(0+1+1)=i*2+0 by omega,show(i+1)*2+1-(0+1+1)=i*2+1 by omega];exact⟨h1,h2⟩
theorem z7J {w:World}{v:Value}{T:TypeId}{es:List (Nat×Nat)}(h:Sl w v T 2 es.length (edC es))(hb:∀e∈es,e.1<4294967296/\e.2<4294967296):∃ea ec,v= .slice ea es.length ec/\EdR w ea es:=by
 obtain⟨a,c,rfl,-⟩:=h.rd.shape
 refine⟨a,c,rfl,λi e he=>?_⟩
 obtain⟨b1,b2⟩:=hb e (List.mem_of_getElem? he)
 have cu:i<es.length:=by
  rcases Nat.lt_or_ge i es.length with h| h
  ·exact h
  ·rw[List.getElem?_eq_none h] at he;cases he
 obtain⟨g1,g2⟩:=z65 he
 rcases h.rd.2 with⟨⟨ca,cc⟩,fT,s7⟩|⟨lb,lo,cap,fT,dx⟩
 ·omega
 cases fT
 exact⟨b1,b2,lb,lo,rfl,by rw[Nat.add_assoc];exact dx _ _ g1,by rw[Nat.add_assoc];exact dx _ _ g2⟩
def z7d (u x:Nat):List (Nat×Nat):=if x=u then [] else [(x,u),(u,x)]
def Tg (g:List (List Nat))(u i:Nat):List (Nat×Nat):=((List.range u).flatMap λu=>(NS g u).flatMap (z7d u))++((NS g u).take i).flatMap (z7d u)
theorem z4I (g:List (List Nat))(u:Nat):Tg g u (NS g u).length=Tg g (u+1) 0:=by
 unfold Tg
 rw[List.take_length,List.range_succ,List.flatMap_append,List.take_zero]
 simp
theorem z4i {g:List (List Nat)}{u i x:Nat}(h:(NS g u)[i]? =some x):Tg g u (i+1)=Tg g u i++z7d u x:=by
 unfold Tg
 rw[OB h,List.flatMap_append,List.append_assoc]
 simp
theorem z7Z (g:List (List Nat)):Tg g g.length 0=z3P g:=by
 unfold Tg z3P z7d
 simp
theorem zbk (a b:List (Nat×Nat)):edC (a++b)=edC a++edC b:=List.flatMap_append ..
theorem zaS {g:List (List Nat)}(ay:QQ g)(av:1<=g.length){w:World}{gb go gc:Nat}(hg:GrR w gb go g):Oa prog 26 [.slice (some ⟨gb,go,none⟩) g.length gc] w λv w'=>∃bg,v= .slice (some ⟨bg,0,none⟩) g.length g.length/\XM w' bg w.heap.size (z9R g)/\Ext w w':=by
 have eJ:maxLen=9223372036854775807:=rfl
 have hn:=ay.n
 refine Nu (e:=[(0,_)]) func26 O ntmps26 O O$ qN O$ NQ O$ qM O$ NF O$ py$ qN O$ NF O$ Nw$ Qb (α:=Nat×Value) ((0,.slice none 0 0)) (λy=>[(0,.slice (some ⟨gb,go,none⟩) g.length gc),(3,y.2),(4,I (y.1:Int))]) (λy w'=>y.1<=g.length/\(Tg g y.1 0).length<=200*y.1/\Sl w' y.2 113 2 (Tg g y.1 0).length (edC (Tg g y.1 0))/\(∀b,y.2.ownBlock=some b->w.heap.size<=b)/\Ext w w') (λy=>g.length-y.1) ?hI ?hround
 case hI=>exact⟨Nat.zero_le _,Nat.le_refl _,Sl.nil _ _ _,λb hb=>(by cases hb),Ext.refl _⟩
 case hround =>
  rintro⟨u,v⟩ w2 ⟨hu,gV,cm,jP,ag⟩ ih;dsimp only at hu gV cm jP ih⊢
  try dsimp only
  refine py$ qN O$ NT O O$ Q0 SH O$ Pb O O$ NB$ NN O (λhq=>?_)$ λhq=>?_
  ·have mZ:u<g.length:=by omega
   have dL:g[u]? =some (NS g u):=by unfold NS;rw[List.getElem?_eq_getElem mZ];rfl
   have fP:(NS g u).length<=g.length:=ay.len (List.mem_of_getElem? dL);refine An$ py$ Nw$ qN O$ NF O$ Nw$ Qb (α:=Nat×Value) ((0,v)) (λy=>[(0,.slice (some ⟨gb,go,none⟩) g.length gc),(3,y.2),(4,I (u:Int)),(5,I (y.1:Int))]) (λy w'=>y.1<=(NS g u).length/\(Tg g u y.1).length<=200*u+2*y.1/\Sl w' y.2 113 2 (Tg g u y.1).length (edC (Tg g u y.1))/\(∀b,y.2.ownBlock=some b->w.heap.size<=b)/\Ext w w') (λy=>(NS g u).length-y.1) ?hI ?hround
   case hI=>exact⟨Nat.zero_le _,gV,cm,jP,ag⟩
   case hround=>
    rintro⟨i,v3⟩ w3 ⟨hi,kC,cz,ib,ah⟩ ih2;dsimp only at hi kC cz ib ih2⊢;obtain⟨a,c,dH,eM⟩:=hg u _ dL;have ae:=Ext.NY w3
    try dsimp only
    refine py$ qN O$ NT O O$ Nz O$ qV (OH SH QC O O (by omega))$ qV (Oi Ob O O (Oz ah dH))$ Q0 Ob O$ Pb O O$ NB$ NN O (λfO=>?_)$ λfO=>?_
    ·obtain⟨x,hx⟩:∃x,(NS g u)[i]? =some x:=⟨_,List.getElem?_eq_getElem (by omega)⟩;obtain⟨lb,lo,rfl,na⟩:=eM i x hx;have ik:x<g.length:=RY ay u x (List.mem_of_getElem? hx);have fC:=z4i hx;refine An$ py$ Nw$ qN O$ NT O O$ qV (OH SH QC O O (by omega))$ qV (Oi Ob O O (Oz ah dH))$ Nz O$ qV (OH Ob NV O O (by omega))$ qV (Oi OX O O (Oz ah na))$ qV (Ow O OX U3 (by omega))$ Nz O ?_;by_cases Ig:x=u
     ·rw[show z7d u x=[] from if_pos Ig,List.append_nil] at fC;refine P3 O O$ Ox$ NB$ It O$ An$ Ny$ NC O$ Nz O$ OI O O$ NF O ?_;exact(ih2 (i+1,v3) _ ⟨by omega,by rw[fC];omega,by rw[fC];exact cz,ib,ah⟩ (by omega)).qb
     ·rw[show z7d u x=[(x,u),(u,x)] from if_neg Ig] at fC;have z3:=ah.size;have mF:∀{w':World},Kp (λb=>v3.ownBlock=some b) w3 w'->Ext w w':=λhk=>ah.Nv hk (λb e=>ib b e);refine P3 O O$ PE$ NB$ NI O$ PK (λw'=>Kp (λb=>v3.ownBlock=some b) w3 w') O$ NX 0 O O (ae.kp)$ NX 1 O O (ae.kp)$ NX 2 O O (ae.kp)$ NG 3 O (OH SH QC O O (by omega)) (ae.kp)$ NX 5 O O (ae.kp)$ NX 8 O O (ae.kp)$ NG 9 O (SJ O U3 OX) (ae.kp)$ NX 11 O O (ae.kp)$ NG 12 O (SJ O U3 OX) (ae.kp) ?_;refine NX 13 O O (ae.kp)$ NX 14 O O (ae.kp)$ NG 15 O (OH SH QC O O (by omega)) (ae.kp)$ NX 17 O O (ae.kp)$ qT 4 O (λ_ h=>Oi Ob O O (Oz (mF h) dH)) (ae.kp)$ qT 16 O (λ_ h=>Oi Ob O O (Oz (mF h) dH)) (ae.kp)$ NG 6 O (OH Ob NV O O (by omega)) (ae.kp)$ NG 18 O (OH Ob NV O O (by omega)) (ae.kp)$ qT 7 O (λ_ h=>Oi OX O O (Oz (mF h) na)) (ae.kp)$ qT 19 O (λ_ h=>Oi OX O O (Oz (mF h) na)) (ae.kp)$ NG 10 O (QP (cs:=[_,_]) Su O zcA O O) (ae.kp)$ NG 20 O (QP (cs:=[_,_]) Su O zcA O O) (ae.kp) ?_;rw[Nat.mod_eq_of_lt (show u<4294967296 by omega)];refine qO 21$ QO (i:=21) O O O (Ur (cs:=[_,_,_,_]) (zs:=[Value.int .u32 0,Value.int .u32 0,Value.int .u32 0,Value.int .u32 0]) U22 Su O (by kernel_rfl) O O O (by decide)) ?_;rintro v4 w4 ⟨b4,rfl,⟨ev,aB,aH⟩,ee⟩;refine⟨ae.kp.trans aB.kp,?_⟩;have cy:=ae.trans aB;refine qO 22$ QO (i:=22) O O O (pap U22 Su O (by decide) O O (cz.ext cy) ee.rd (λc hc=>by obtain⟨z,-,rfl⟩:=List.mem_map.1 (show c∈[x,u,u,x].map Oe from hc);rfl) (by omega) (by omega)) ?_;rintro v5 w5 ⟨fE,ai,nO,-⟩;refine⟨cy.kp.trans ai,?_⟩;have z34:=cy.size;refine NG 23 O (PO O) (cy.kp.trans ai)$ qE$ Ny$ NC O$ Nz O$ OI O O$ NF O ((ih2 (i+1,v5) _ ⟨by omega,by rw[fC,List.length_append];show _+2<=_;omega,?_,λb hb=>?_,mF (cy.kp.trans ai)⟩ (by omega)).qb)
      ·rw[fC,List.length_append,zbk];exact fE
      ·rcases nO b hb with e| e
       ·exact ib b e
       ·omega
    ·have cu:i=(NS g u).length:=by omega
     subst cu;rw[z4I] at kC cz;refine NL O$ Ny$ NC O$ Nz O$ OI O O$ NF O ?_;exact(ih (u+1,v3) _ ⟨by show u+1<=g.length;omega,by show(Tg g (u+1) 0).length<=200*(u+1);omega,cz,ib,ah⟩ (by show g.length-(u+1)<g.length-u;omega)).qb
  ·have mZ:u=g.length:=by omega
   subst mZ;rw[z7Z] at gV cm
   have yV:∀e∈z3P g,e.1<g.length/\e.2<g.length:=λe he=>by
    have aU:∀{u x:Nat},x∈NS g u->u<g.length:=fun {u x} hx=>by
     rcases Nat.lt_or_ge u g.length with e| e
     ·exact e
     ·unfold NS at hx;rw[List.getElem?_eq_none e] at hx;cases hx
    obtain⟨a,b⟩:=e;obtain⟨-,h|h⟩:=(WW ay a b).1 he
    ·exact⟨aU h,RY ay a b h⟩
    ·exact⟨RY ay b a h,aU h⟩
   obtain⟨ea,ec,rfl,hE⟩:=z7J cm (λe he=>by have:=yV e he;omega);refine NL O$ qN O$ Nz O$ Q0 SH O$ Nz O$ NZ zjh O (z7B av (by omega) (by omega) yV hE) ?_;rintro _ w3 ⟨bg,rfl,jO,ah⟩;refine Nz O$ ON O O$ ON O O$ NQ O$ NQ O$ qM O$ Nz O$ NF O$ NA func26 O (⟨_,rfl,bg,rfl,?_,ag.trans ah⟩);have z2:=ag.size;obtain⟨vs,h1,h2,h3⟩:=jO.ex
   exact⟨vs,h1,h2,λi l hl=>by
    obtain⟨a,c,g1,g2,g3,g4⟩:=h3 i l hl
    exact⟨a,c,g1,g2,g3,λb hb=>⟨by have:=(g4 b hb).1;omega,(g4 b hb).2⟩⟩⟩
theorem z8l {w:World}{n fr fo:Int}{pl:Bool}(hn: -9223372036854775808<=n/\n<=9223372036854775807){ea:Option Addr}{ec:Nat}{es:List (Nat×Nat)}(pw:es.length<=9000000000000000000)(hE:EdR w ea es):Oa prog 6 [.agg #[I n,.slice ea es.length ec,.bool pl,I fr,I fo]] w λv w'=>∃g bg,v= .slice (some ⟨bg,0,none⟩) g.length g.length/\1<=g.length/\g.length<=40/\QQ g/\(pl=false->zdI g)/\XM w' bg w.heap.size g/\Ext w w':=by
 refine Nu (e:=[(0,_)]) func6 O ntmps6 O O$ qN O$ NK O O (PW O (cs:=[I n,.slice ea es.length ec,.bool pl,I fr,I fo]) O) ?_
 rintro _ w1 ⟨b1,rfl,bN,ad,aj⟩
 have av:=Ext.NY w1
 refine NF O$ py$ PK (λw'=>Ext w1 w') O$ NG 0 O (Og zee O) av$ qT 1 O (λ_ h=>NJ U3 O O (h.ND aj) O) av$ NG 3 O (Og zdj O) av$ qT 4 O (λ_ h=>NJ U22 O O (h.ND aj) O) av$ Qv 2 O zja O (z2f n hn _) ?_
 rintro _ w2 ⟨m,rfl,pA,dJ,rfl⟩
 refine⟨av,?_⟩
 refine Qv 5 O zib O (z84 pA dJ pw ((hE.ext ad).ext av)) ?_
 rintro _ w2 ⟨g,bg,rfl,jH,ay,cA,ag⟩
 refine⟨av.trans ag,?_⟩
 have aa:=av.trans ag
 have am:=aa.ND aj
 have aJ:=ad.trans aa
 have mK:=ad.size
 have mO:=av.size
 have Gt:XM w2 bg w.heap.size g:=by
  obtain⟨vs,h1,h2,h3⟩:=cA.ex
  exact⟨vs,h1,h2,λi l hl=>by
   obtain⟨a,c,g1,g2,g3,g4⟩:=h3 i l hl
   exact⟨a,c,g1,g2,g3,λb hb=>⟨by have:=(g4 b hb).1;omega,(g4 b hb).2⟩⟩⟩
 cases pl with
 | true =>
   refine NG 6 O (PO O) (av.trans ag)$ qE$ py$ qN O$ NO z9w O$ qV (NJ U4 O O am O)$ NB$ NI O$ qN O$ Nz O$ NF O$ NA func6 O ?_
   exact⟨_,rfl,g,bg,rfl,by omega,by omega,ay,λe=>by(cases e),Gt,aJ⟩
 | false =>
   refine NG 6 O (PO O) (av.trans ag)$ qE$ py$ qN O$ NO z9w O$ qV (NJ U4 O O am O)$ NB$ It O$ An$ qN O$ Nz O ?_;obtain⟨gb,go,gc,jb,mG⟩:=cA.gr.r (by omega);cases jb;refine NZ ziQ O (zaS ay (by omega) mG) ?_;rintro _ w3 ⟨bs,rfl,jO,ah⟩;obtain⟨k1,k2,k3⟩:=zbn ay;have z02:=aJ.size;refine NF O$ NA func6 O (⟨_,rfl,z9R g,bs,by rw[k3];rfl,by omega,by omega,k1,λ_=>k2,?_,aJ.trans ah⟩);obtain⟨vs,h1,h2,h3⟩:=jO.ex
   exact⟨vs,h1,h2,λi l hl=>by
    obtain⟨a,c,g1,g2,g3,g4⟩:=h3 i l hl
    exact⟨a,c,g1,g2,g3,λb hb=>⟨by have:=(g4 b hb).1;omega,(g4 b hb).2⟩⟩⟩
theorem Zx {P:Program}{ops:Array Oper}{Q:Exit->Act->World->Prop}{S S':World->Prop}(h:∀w,S' w->S w):∀(n:Nat) (listed:Array Bool) (a:Act) (w:World),Sx P ops Q S' n listed a w->Sx P ops Q S n listed a w
 |0,_,_,_,hh=>hh
 |n+1,_,_,_,hh=>⟨hh.1,λi hi=>AtR.mono (λa' w' h3=>⟨h _ h3.1,Zx h n _ _ _ h3.2⟩) (hh.2 i hi)⟩
theorem RH.ziB {D:RC}{S S':World->Prop}{fuel:Nat}{listed:Array Bool}{e:Env}{w:World}(h:∀w,S' w->S w)(hr:RH D S' fuel listed e w):RH D S fuel listed e w:=λa ha=>Zx h _ _ _ _ (hr a ha)
structure COp where
 kind:Int
 n:Int
 fr:Int
 fo:Int
 tx:NH
 fit:Bool
def COp.cs (o:COp):List Value:=[I o.kind,I o.n,I o.fr,I o.fo,S o.tx,.bool o.fit]
structure COp.Ok (o:COp):Prop where
 n: -9223372036854775808<=o.n/\o.n<=9223372036854775807
 fr: -9223372036854775808<=o.fr/\o.fr<=9223372036854775807
 fo: -9223372036854775808<=o.fo/\o.fo<=9223372036854775807
 tx:o.tx.length<=4611686018427387904
def zaJ (w:World)(la:Option Addr)(ls:List COp):Prop:=∀(i:Nat) (o:COp),ls[i]? =some o->o.Ok/\∃lb lo,la=some ⟨lb,lo,none⟩/\∀(j:Nat) (u:Value),o.cs[j]? =some u->w.cell? ⟨lb,lo+i*6+j,none⟩=some u
theorem zaJ.ext {w w':World}{la:Option Addr}{ls:List COp}(h:zaJ w la ls)(hx:Ext w w'):zaJ w' la ls:=λi o he=>by
 obtain⟨h1,lb,lo,h4,h5⟩:=h i o he
 exact⟨h1,lb,lo,h4,λj u hu=>Oz hx (h5 j u hu)⟩
section
variable {w1 w w' w2:World}{g:List (List Nat)}{GS:Value}{W:Wd}{Y Y':Nat->Prop}{mb vb2 cap rr vb k:Nat}{s s':Sj}{cl cl':Bool}{S':Nat->Prop}
theorem Y9.grow (h:Y9 w1 g GS W Y mb vb2 cap rr vb s k w cl)(hx:Ext w w')(hY:∀j,Y' j->Y j\/(w.heap.size<=j/\j<w'.heap.size))(bS:∀j,Y j->Y' j):Y9 w1 g GS W Y' mb vb2 cap rr vb s k w' cl:=by
 have hc:∀{cl},PcC w1 g GS W Y mb vb2 cap rr vb s cl k w->PcC w1 g GS W Y' mb vb2 cap rr vb s cl k w':=λc=>⟨c.gg,c.n,c.pre,c.a,c.L,c.st,c.rf.ext hx,⟨bS _ c.ym.1,bS _ c.ym.2⟩,c.nm,λb hb=>bS b (c.top b hb),c.lo,c.b,c.k,⟨bS _ c.x.1,bS _ c.x.2⟩⟩
 cases h with
 |op txt K c hK m=>exact .op txt K (hc c) hK (m.grow hx hY bS)
 |cl txt K Q' s0 c hK hs m hB=>exact .cl txt K Q' s0 (hc c) hK hs (m.grow hx hY bS) (hx.ND hB)
theorem PcC.own (c:PcC w1 g GS W Y mb vb2 cap rr vb s cl k w)(hr:TM w1.heap.size GS g.length mb vb2 cap s cl w'):PcC w1 g GS W Y mb vb2 cap rr vb s cl k w':=
 ⟨c.gg,c.n,c.pre,c.a,c.L,c.st,hr,c.ym,c.nm,c.top,c.lo,c.b,c.k,c.x⟩
theorem Y9.own (h:Y9 w1 g GS W Y mb vb2 cap rr vb s k w cl){b6:Nat}(hk:Kp (λb=>b=b6) w w')(hb:Y b6/\b6≠W.G.k/\b6≠W.G.x/\b6≠0/\b6≠1/\b6≠rr/\b6≠vb)(hm:b6≠mb/\b6≠vb2):Y9 w1 g GS W Y mb vb2 cap rr vb s k w' cl:=by
 cases h with
 |op txt K c hK m=>exact .op txt K (c.own (c.rf.kp hk ⟨λe=>hm.1 e.symm,λe=>hm.2 e.symm⟩)) hK (m.own hk λj e=>by subst e;exact hb)
 |cl txt K Q' s0 c hK hs m hB=>exact .cl txt K Q' s0 (c.own (c.rf.kp hk ⟨λe=>hm.1 e.symm,λe=>hm.2 e.symm⟩)) hK hs (m.own hk λj e=>by subst e;exact⟨hb.1,hb.2.1,hb.2.2.1,hb.2.2.2.1,hb.2.2.2.2.1⟩) (hk.ND hB (λe=>hb.2.2.2.2.2.1 e.symm))
theorem z3x (h:Y9 w1 g GS W Y mb vb2 cap rr vb s k w cl):Oa prog 22 [ptr rr 0] w λv w'=>v=I (g.length:Int)/\w'=w:=by
 have hg:=h.c.gg
 subst hg
 cases h with
 |op txt K c hK m=>exact z3X m
 | cl txt K Q' s0 c hK hs m hB =>
   have e:ZH s0 W.G.k=ZH s0 W.G.k:=rfl;exact z1N m hB
theorem Tz (h:Y9 w1 g GS W Y mb vb2 cap rr vb s k w cl):Oa prog 23 [ptr W.Q.s 0] w λv w'=>∃a b c d e:Value,v= .agg #[a,b,c,d,e,I 0,I 0]/\Ext w w':=by
 cases h with
 | op txt K c hK m =>
   have:=Yq m.g.sp
   exact this
 | cl txt K Q' s0 c hK hs m hB =>
   have:=Yq m.sp;rw[hs] at this;exact this
theorem z2P (h:Y9 w1 g GS W Y mb vb2 cap rr vb s k w false):Oa prog 18 [ptr rr 0] w λv w'=>v=I (s.t:Int)/\w'=w:=by
 cases h with
 |op txt K c hK m=>exact YL m
theorem Y9.lt (h:Y9 w1 g GS W Y mb vb2 cap rr vb s k w cl):∀b,Y b->b<w.heap.size:=by
 cases h with
 |op txt K c hK m=>exact m.g.lt
 |cl txt K Q' s0 c hK hs m hB=>exact m.lt
end
theorem plays_ret {w : World}(hG : NM w 0 (QX .gamma) 260)(hU : NM w 1 (QX .unary) 260)(n fr fo : Int)(plain : Bool)(hn : -9223372036854775808 <= n /\ n <= 9223372036854775807)(iZ : -9223372036854775808 <= fr /\ fr <= 9223372036854775807)(uI : -9223372036854775808 <= fo /\ fo <= 9223372036854775807){ea : Option Addr}{ec : Nat}{es : List (Nat × Nat)}(pw : es.length <= 9000000000000000000)(hE : EdR w ea es){la : Option Addr}{lc : Nat}{ls : List COp}(gQ : ls.length <= 9000000000000000000)(hL : zaJ w la ls) : Oa prog 5 [.agg #[I n, .slice ea es.length ec, .bool plain, I fr, I fo], .slice la ls.length lc] w λv w' => v = .bool true /\ Ext w w' := by
 refine Nu (e:=[(0,_),(1,_)]) func5 O ntmps5 O O$ qN O$ NK O O (PW O (cs:=[I n,.slice ea es.length ec,.bool plain,I fr,I fo]) O) ?_
 rintro _ wn ⟨bn,rfl,lz,ik,vJ⟩
 refine NQ O$ qM O$ qV (Oh (news:=[I n,.slice ea es.length ec,.bool plain,I fr,I fo]) U24 O zjg O (vJ.cells (n:=5) O) O)$ NZ cf6 O (z8l hn pw (hE.ext ik)) ?_
 rintro _ w1 ⟨g,bg,rfl,av,iU,ay,-,kQ,pN⟩
 have ad:=ik.trans pN
 have As:=pN.ND vJ
 have vm:=kQ.gr
 obtain⟨gb,go,gc,jb,mG⟩:=vm.r av
 cases jb
 refine NQ O$ qM O$ Nz O$ NO ze6 O$ qV (NJ U3 O O As O)$ NO zdV O$ qV (NJ U3 O O As O)$ NZ cf7 O (z5Q ay av iU vm (ad.ND hG) (ad.ND hU) fr fo iZ uI) ?_
 rintro _ w5 ⟨W,XX,rfl,hW,aT,fK⟩
 have bM:=ad.trans aT
 have z15:=aT.size
 have z5:=bM.size
 refine Nz O$ ON O O$ ON O O$ NK O O (Qk (cs:=[_,_,_,_,_]) Tv O) ?_
 rintro _ w6 ⟨b6,rfl,mN,aK,aR⟩
 have z6:=aK.size
 refine NP O (OA (news:=W.v) Tv O O O O aR (by simp)) ?_
 rintro w7 ⟨bj,ax⟩
 have fZ:NM w7 b6 [ptr W.d 0,ptr W.Q.s 0,ptr W.G.k 0,ptr W.T.k 0,I ((200-W.a:Nat):Int)] 31:=bj
 have l7:=bj.lt
 have z7:=ax.size
 have gF:=hW.hg.lt
 have iW:=hW.hg.xk
 have i1:=gF _ iW.1
 have i2:=gF _ iW.2.1
 have i3:=gF _ iW.2.2.1
 have i4:=gF _ iW.2.2.2
 obtain⟨X,hX⟩:∃X:Nat->Prop,(λb=>(XX b/\b≠W.G.rb)\/b=b6)=X:=⟨_,rfl⟩
 have uK:QL W.G W.Q W.txt W.K X w7:=by
  rw[<-hX];exact(hW.hg.grow aK (Y:=λb=>(XX b/\b≠W.G.rb)\/b=b6) (λj e=>e.imp id λe=>by have:=aR.lt;omega) (λj e=> .inl e)).own ax λj e=>by subst e;exact⟨.inr O,by omega,by omega,by omega,by omega⟩
 have Ar:∀b,b<w1.heap.size->X b:=λb hb=>by rw[<-hX];exact .inl ⟨(fK b hb).1,(fK b hb).2.1⟩
 have mX:X b6:=by rw[<-hX];exact .inr O
 have ak:=hW.gg
 have ha:=hW.a
 have Ci:=hW.L
 have Mj:=hW.K
 have Mk:=hW.gs
 have vw:=hW.ts
 have eQ:=hW.pre
 have Ae:=ad.ND hG
 have Bp:=ad.ND hU
 have lgG:=Ae.lt
 have lgU:=Bp.lt
 have Mm:=XP uK (by omega) (by rw[ak];exact iU) eQ (by omega) (by omega)
 refine NF O$ py$ qN O$ Nz O$ qV ((Qr O)) ?_
 rw[show(!true)=false from rfl]
 refine NB$ It O$ An$ qN O$ NO V7 O$ qV (NJ UM O O fZ O)$ NO z4T O$ qV (NJ U29 O O fZ O)$ NZ cf8 O (Mm) ?_
 rintro _ w9 ⟨rr,vb,txt9,rfl,lY,dl,h9,wk,aS⟩
 rw[ak] at h9
 have z9:=aS.size
 have cB:=aS.ND fZ (λe=>e mX)
 have gz:Ext w1 w7:=(aT.trans aK).Nv ax λb e=>by omega
 have gx:Ext w1 w9:=gz.Nv aS λb e=>by
  rcases Nat.lt_or_ge b w1.heap.size with h| h
  ·exact absurd (Ar b h) e
  ·exact h
 have l9:=h9.lts
 refine Nz O$ ON O O$ ON O O$ NQ O$ NF O$ Of.qb (e:=[(1,_),(4,_),(5,_),(6,_),(8,_),(9,_)]) ?_
 refine qN O$ Nz O$ NZ zgw O (z1m ay av (mG.ext gx)) ?_
 rintro _ w10 ⟨mb,vb2,cap,rfl,q10,bE⟩
 have z10:=bE.size
 have oU:=q10.lo
 have oV:=q10.lts
 have dD:=bE.ND cB
 have eV:=gx.trans bE
 obtain⟨Y,hY⟩:∃Y:Nat->Prop,(λj=>(X j\/j=rr\/j=vb)\/(w9.heap.size<=j/\j<w10.heap.size))=Y:=⟨_,rfl⟩
 have m10:QR SB W.G (W.Q.P5 (Pf W.Q.L W.a 1 true)) txt9 (W.K+50) Y rr vb W.a (Sj.new g) w10:=h9.grow bE (λj e=>by rw[<-hY] at e;exact e) (λj e=>by rw[<-hY];exact .inl e)
 have q10':TM w1.heap.size (.slice (some ⟨bg,0,none⟩) g.length g.length) g.length mb vb2 cap (Sj.new g) false w10:=⟨q10.run,q10.vec,q10.len,q10.lt,q10.ne,⟨by omega,by omega⟩⟩
 have qq:Y9 w1 g (.slice (some ⟨bg,0,none⟩) g.length g.length) W Y mb vb2 cap rr vb (Sj.new g) 0 w10 false:= .op txt9 (W.K+50) ⟨ak,iU,eQ,ha,Ci,by omega,q10',by rw[<-hY];exact⟨.inr ⟨oU.1,oV.1⟩,.inr ⟨oU.2,oV.2⟩⟩,λj e=>by rcases e with rfl|rfl<;>exact⟨by omega,by omega,by omega,by omega,by omega,by omega⟩,λb hb=>by rw[<-hY];exact .inl (.inl (Ar b hb)),⟨by omega,by omega⟩,⟨Nat.zero_le _,Nat.zero_le _⟩,by omega,m10.xr⟩ (by omega) m10
 have Mn:Y b6:=by rw[<-hY];exact .inl (.inl mX)
 have vD:=hL.ext ad
 refine NF O$ py$ qN O$ Nz O$ P3 O O$ NB$ It O$ An$ py$ qN O$ NF O$ Nw$ Qb (α:=(Wd×Nat)×Nat) (((W,rr),0)) (λp=>[(1,.slice la ls.length lc),(5,.slice (some ⟨bg,0,none⟩) g.length g.length),(6,ptr b6 0),(8,ptr p.1.2 0),(10,ptr mb 0),(11,I (p.2:Int))]) (λp w'=>p.2<=50/\p.2<=ls.length/\(∃Y vb s cl k,k<=2*p.2/\Y9 w1 g (.slice (some ⟨bg,0,none⟩) g.length g.length) p.1.1 Y mb vb2 cap p.1.2 vb s k w' cl/\Y b6/\b6≠p.1.2/\b6≠vb/\b6≠p.1.1.G.k/\b6≠p.1.1.G.x)/\Ext w1 w'/\NM w' b6 p.1.1.v 31) (λp=>50-p.2) ?hI ?hround
 case hI=>exact⟨Nat.zero_le _,Nat.zero_le _,⟨Y,vb,Sj.new g,false,0,Nat.le_refl _,qq,Mn,by show b6≠rr;omega,by omega,by show b6≠W.G.k;omega,by show b6≠W.G.x;omega⟩,eV,dD⟩
 case hround =>
  rintro⟨⟨Wi,ri⟩,i⟩ w11 ⟨Gu,cu,⟨Yi,vi,si,cli,ki,pM,pE,p9,n1,n2,n3,n4⟩,aQ,wc⟩ ih;dsimp only at Gu cu pM pE n1 n3 n4 wc ih⊢
  try dsimp only
  by_cases h1:i<ls.length
  ·refine py$ qN O$ NT O O$ Q0 U60 O$ Pb O O$ PE$ Nz O ?_; by_cases h2 : i < 50
   ·refine Nz O$ Pb O O$ PE$ Pc O O ?_;obtain⟨o,ho⟩:∃o,ls[i]? =some o:=⟨_,List.getElem?_eq_getElem h1⟩;obtain⟨ry,lb,lo,rfl,Mo⟩:=(vD.ext aQ) i o ho;refine NB$ NI O$ An$ py$ Nw$ qN O$ NT O O$ qV (OH U60 z7Y O O (by omega))$ qV (Oh (news:=o.cs) U64 O z7Y O Mo O)$ NK O O (Qk (cs:=[_,_,_,_,_,_]) z7Y O) ?_;rintro _ w12 ⟨b12,rfl,wT,aI,bq⟩;refine NP O (OA (news:=o.cs) z7Y O O O O bq (by simp)) ?_;rintro w13 ⟨du,cV⟩;have z12:=aI.size;have z13:=cV.size;have l12:=bq.lt;have io:NM w13 b12 [I o.kind,I o.n,I o.fr,I o.fo,S o.tx,.bool o.fit] 64:=du;have aO:Ext w11 w13:=aI.Nv cV λb e=>by omega
    have vp:=pE.lt;have na:=pE.c.x;have lri:=vp _ na.1;have lvi:=vp _ na.2;have wj:=vp _ p9;obtain⟨Yj,Gv⟩:∃Yj:Nat->Prop,(λj=>Yi j\/j=b12)=Yj:=⟨_,rfl⟩;have pa:∀j,Yi j->Yj j:=λj e=>by rw[<-Gv];exact .inl e
    have pd:Yj b12:=by rw[<-Gv];exact .inr O
    have ww:Y9 w1 g (.slice (some ⟨bg,0,none⟩) g.length g.length) Wi Yj mb vb2 cap ri vi si ki w13 cli:=pE.grow aO (λj e=>by rw[<-Gv] at e;exact e.imp id λe=>by omega) pa;have Bq:=aO.ND wc;have lF:=aQ.trans aO;have Gc:=pE.c.rf.lts;have eJ:=pE.c.rf.lo;have Gw:b6≠mb/\b6≠vb2:=by omega
    have iZ:∀{w':World} {Z:Nat->Prop} {r v:Nat},w1.heap.size<=r->w1.heap.size<=v->(∀b,b<w1.heap.size->Z b)->∀{wa:World},Ext w1 wa->Kp (pcD Z mb vb2 r v) wa w'->Ext w1 w':=λhr hv hz _ hx hk=>hx.Nv hk λb e=>by
     rcases Nat.lt_or_ge b w1.heap.size with h| h
     ·rcases e with e|e|e|e| e
      ·exact absurd (hz b h) e
      ·omega
      ·omega
      ·omega
      ·omega
     ·exact h
    refine NB$ py$ Oy (λe' w'=>∃(W2:Wd) (r2:Nat) (Y2:Nat->Prop) (v2:Nat) (k2:Nat),e'=[(1,.slice (some ⟨lb,lo,none⟩) ls.length lc),(5,.slice (some ⟨bg,0,none⟩) g.length g.length),(6,ptr b6 0),(8,ptr r2 0),(10,ptr mb 0),(11,I (i:Int)),(12,ptr b12 0)]/\k2<=2*i+1/\Y9 w1 g (.slice (some ⟨bg,0,none⟩) g.length g.length) W2 Y2 mb vb2 cap r2 v2 si k2 w' cli/\(Y2 b6/\b6≠r2/\b6≠v2/\b6≠W2.G.k/\b6≠W2.G.x)/\(Y2 b12/\b12≠r2/\b12≠v2)/\Ext w1 w'/\NM w' b6 W2.v 31/\NM w' b12 [I o.kind,I o.n,I o.fr,I o.fo,S o.tx,.bool o.fit] 64) ?sg$ λsg=>?Gy
    case sg=>
     rintro e' w14 ⟨W2,r2,Y2,v2,k2,rfl,aq,cA,⟨a1,a2,a3,a4,a5⟩,⟨c1,c2,c3⟩,cE,cN,vt⟩;have oE:=cA.c;have i9:=oE.lo;have de:=Ext.NY w14;have Mp:=oE.rf.lts;have Ih:b12≠mb/\b12≠vb2:=by omega
     have Gx:=cA.ext de;have ul:=z90 ay mG (cE.trans de) Gx (by omega) o.kind o.n o.fr o.fo o.tx o.fit ry.n ry.tx;refine py$ PK (λw'=>Kp (pcD Y2 mb vb2 r2 v2) w14 w') O$ NX 0 O O (de.kp)$ NX 1 O O (de.kp)$ qT 2 O (λ_ hS=>Oh (news:=[I o.kind,I o.n,I o.fr,I o.fo,S o.tx,.bool o.fit]) U64 O z7Y O ((hS.ND vt (λe=>e.elim (λe=>e c1) (λe=>by omega))).cells (n:=6) O) O) (de.kp) ?_;refine Qv 3 O zi4 O (ul) ?_;rintro _ w15 ⟨rfl,⟨s2,cl2,jA⟩,ez⟩;refine⟨de.kp.trans ez,?_⟩;have eI:=de.kp.trans ez;have dI:=eI.ND cN (λe=>e.elim (λe=>e a1) (λe=>by omega));have lG:NM w15 b6 [ptr W2.d 0,ptr W2.Q.s 0,ptr W2.G.k 0,ptr W2.T.k 0,I ((200-W2.a:Nat):Int)] 31:=dI;have rz:=iZ i9.1 i9.2 oE.top cE eI;have kM:=jA.c.rf.run;have bc:=Ext.refl w15;refine RH.ziB (S':=λw'=>Ext w15 w') (λw' h=>eI.trans h.kp)$ NG 4 O ((Qr O)) bc ?_;rw[show(!true)=false from rfl];refine NX 5 O O bc$ NX 6 O O bc$ NX 8 O O bc$ NG 9 O (R7 SH O) bc$ Qv 7 O zi0 O (z3x jA) ?_;rintro _ w15 ⟨rfl,rfl⟩;refine⟨bc,?_⟩;refine NG 10 O (yne O O) bc$ S4$ NG 11 O (S6 O O) bc$ NX 12 O O (bc) ?_;have dA:∀w16,Ext w15 w16->w16.heap.size=w16.heap.size/\((i+1<=50/\i+1<=ls.length)/\(∃Y vb s cl k,k<=2*(i+1)/\Y9 w1 g (.slice (some ⟨bg,0,none⟩) g.length g.length) W2 Y mb vb2 cap r2 vb s k w16 cl/\Y b6/\b6≠r2/\b6≠vb/\b6≠W2.G.k/\b6≠W2.G.x)/\Ext w1 w16/\NM w16 b6 W2.v 31):=λw16 hx=>⟨rfl,⟨by omega,by omega⟩,⟨Y2,v2,s2,_,k2+1,by omega,jA.ext hx,a1,a2,a3,a4,a5⟩,rz.trans hx,hx.ND dI⟩
     cases cl2 with
     | false =>
       refine NX 13 O O (bc)$ NG 14 O (OQ O) bc$ NG 15 O (Og QI O) bc$ qT 16 O (λ_ h=>(NJ U4 O O (h.ND kM) O)) bc$ NG 17 O ((Qr O)) bc ?_;rw[show(!false)=true from rfl];refine NX 18 O O (bc)$ NX 19 O O (bc)$ NX 21 O O (bc)$ NG 22 O (OQ O) bc$ NG 23 O (Og Xw O) bc$ qT 24 O (λ_ h=>(NJ U3 O O (h.ND kM) O)) bc$ Qv 20 O zgY O (z2P jA) ?_;rintro _ w15 ⟨rfl,rfl⟩;refine⟨bc,?_⟩;refine NG 25 O (yne O O) bc$ S4$ NG 26 O (Tu O O) bc$ NG 27 O (S6 O O) bc$ NX 28 O O (bc)$ NG 29 O (Og V7 O) bc$ qT 30 O (λ_ h=>(NJ UM O O (h.ND lG) O)) bc$ Qv 31 O zbY O (Tz jA) ?_;rintro _ w16 ⟨s1,s2',s3,s4,s5,rfl,aD⟩;refine⟨aD,?_⟩;refine NG 32 O (yfd z9b O O) aD$ NG 33 O (yne O O) aD$ S4$ NG 34 O (S6 O O) aD$ NX 35 O O (aD)$ NG 36 O (Og V7 O) aD$ qT 37 O (λ_ h=>(NJ UM O O (h.ND lG) O)) aD$ Qv 38 O zbY O (Tz (jA.ext aD)) ?_;rintro _ w17 ⟨q1,q2,q3,q4,q5,rfl,cS⟩;refine⟨aD.trans cS,?_⟩;refine NG 39 O (yfd z9M O O) (aD.trans cS)$ NG 40 O (VP O O) (aD.trans cS)$ S4$ NG 41 O (S6 O O) (aD.trans cS)$ qE$ It O$ An$ Ny$ NC O$ Nz O$ OI O O$ NF O ?_;obtain⟨-,f1,f2,f3,f4⟩:=dA w17 (aD.trans cS)
       exact(ih ((W2,r2),i+1) _ ⟨f1.1,f1.2,f2,f3,f4⟩ (by show 50-(i+1)<50-i;omega)).qb
     | true =>
       refine NX 13 O O (bc)$ NG 14 O (OQ O) bc$ NG 15 O (Og QI O) bc$ qT 16 O (λ_ h=>(NJ U4 O O (h.ND kM) O)) bc$ NG 17 O ((Qr O)) bc ?_;rw[show(!true)=false from rfl];refine NX 18 O O (bc)$ qJ 19 O (bc)$ qJ 20 O (bc)$ qJ 21 O (bc)$ qJ 22 O (bc)$ qJ 23 O (bc)$ qJ 24 O (bc)$ qJ 25 O (bc)$ NG 26 O (S6 O O) bc$ NG 27 O (S6 O O) bc$ NX 28 O O (bc)$ NG 29 O (Og V7 O) bc$ qT 30 O (λ_ h=>(NJ UM O O (h.ND lG) O)) bc$ Qv 31 O zbY O (Tz jA) ?_;rintro _ w16 ⟨s1,s2',s3,s4,s5,rfl,aD⟩;refine⟨aD,?_⟩;refine NG 32 O (yfd z9b O O) aD$ NG 33 O (yne O O) aD$ S4$ NG 34 O (S6 O O) aD$ NX 35 O O (aD)$ NG 36 O (Og V7 O) aD$ qT 37 O (λ_ h=>(NJ UM O O (h.ND lG) O)) aD$ Qv 38 O zbY O (Tz (jA.ext aD)) ?_;rintro _ w17 ⟨q1,q2,q3,q4,q5,rfl,cS⟩;refine⟨aD.trans cS,?_⟩;refine NG 39 O (yfd z9M O O) (aD.trans cS)$ NG 40 O (VP O O) (aD.trans cS)$ S4$ NG 41 O (S6 O O) (aD.trans cS)$ qE$ It O$ An$ Ny$ NC O$ Nz O$ OI O O$ NF O ?_;obtain⟨-,f1,f2,f3,f4⟩:=dA w17 (aD.trans cS);exact(ih ((W2,r2),i+1) _ ⟨f1.1,f1.2,f2,f3,f4⟩ (by show 50-(i+1)<50-i;omega)).qb
    case Gy =>
     have sC:=ww.c.rf.run;have ip:(Yj b6/\b6≠ri/\b6≠vi/\b6≠Wi.G.k/\b6≠Wi.G.x)/\(Yj b12/\b12≠ri/\b12≠vi):=⟨⟨pa _ p9,n1,n2,n3,n4⟩,pd,by omega,by omega⟩;by_cases k3:o.kind=3
     ·refine qN O$ NO z4L O$ qV ((NJ U3 O O io O))$ Px O O$ PE$ Nz O ?_
      cases cli with
      | true =>
        refine Nz O$ O8 O$ NO QI O$ qV ((NJ U4 O O sC O))$ qV ((Qr O)) ?_;rw[show(!true)=false from rfl];refine Pc O O$ NB$ It O$ An ?_
        exact(sg _ _ ⟨Wi,ri,Yj,vi,ki,rfl,by omega,ww,ip.1,ip.2,lF,Bq,io⟩).qb
      | false =>
        refine Nz O$ O8 O$ NO QI O$ qV ((NJ U4 O O sC O))$ qV ((Qr O)) ?_;rw[show(!false)=true from rfl];have Mq:=z73 ay av mG vm lF Ae Bp ww (by omega) o.kind o.n o.fr o.fo o.tx o.fit ry.fr ry.fo;refine Pc O O$ NB$ NI O$ qN O$ qV (Oh (news:=Wi.v) U31 O Tv O (Bq.cells (n:=5) O) O)$ NT O O$ Nz O$ qV (Oh (news:=[I o.kind,I o.n,I o.fr,I o.fo,S o.tx,.bool o.fit]) U64 O z7Y O (io.cells (n:=6) O) O)$ NZ ziC O (Mq) ?_;rintro _ w14 ⟨W2,Y2,r2,v2,rfl,Gz,GA,bD,ft,eD⟩;have z14:=eD.size;have At:=eD.ND Bq (λe=>e.elim (λe=>e (pa _ p9)) (λe=>by omega));have vt:=eD.ND io (λe=>e.elim (λe=>e pd) (λe=>by omega))
        have cE:Ext w1 w14:=lF.Nv eD λb e=>by
         have g9:=ww.c.lo;have GB:=ww.c.top;rcases Nat.lt_or_ge b w1.heap.size with h| h
         ·rcases e with e|e| e
          ·exact absurd (GB b h) e
          ·omega
          ·omega
         ·exact h
        obtain⟨p1,p2⟩:=bD b6 (by omega) n1 n2;obtain⟨p3,p4⟩:=ft b6 (by omega) n3 n4;obtain⟨p5,p6⟩:=bD b12 (by omega) ip.2.2.1 ip.2.2.2;refine Nz O$ qV (Q8 (v:= .agg W2.v.toArray) O O)$ qV (Q8 (v:=ptr r2 0) O O)$ qV (Q8 (v:= .bool true) O O)$ NK O O (Qk (cs:=[_,_,_,_,_]) Tv O) ?_;rintro _ w15 ⟨b13,rfl,Mr,rz,dI⟩;refine NP O (OA (news:=W2.v) Tv O O O O dI (by simp)) ?_;rintro w16 ⟨eE,oY⟩;have oZ:NM w16 b13 W2.v 31:=eE;have z15:=rz.size;have l13:=dI.lt;have iX:Ext w14 w16:=rz.Nv oY λb e=>by omega
        have Au:=iX.ND At;refine NQ O$ NF O$ py$ qN O$ Nz O$ qV ((Qr O)) ?_;rw[show(!true)=false from rfl];refine NB$ It O$ An$ qN O$ qV (Oh (news:=W2.v) U31 O Tv O (oZ.cells (n:=5) O) O)$ NP O (OA (news:=W2.v) Tv O O O O Au (by simp[Wd.v])) ?_;rintro w17 ⟨GC,bR⟩;have Av:NM w17 b6 W2.v 31:=GC;refine NB$ NC O$ Nz O$ NF O ?_;exact(sg _ _ ⟨W2,r2,Y2,v2,ki+1,rfl,by omega,(Gz.ext iX).own bR ⟨GA _ (pa _ p9),p3,p4,by omega,by omega,p1,p2⟩ Gw,⟨GA _ (pa _ p9),p1,p2,p3,p4⟩,⟨GA _ pd,p5,p6⟩,(cE.trans iX).Nv bR (λb e=>by omega),Av,bR.ND (iX.ND vt) (by omega)⟩).qb
     ·refine qN O$ NO z4L O$ qV ((NJ U3 O O io O))$ Px O O$ Ox$ Nz O$ qS$ qS$ qS$ qS$ qS$ OC O O$ NB$ It O ?_;refine An ?_;exact(sg _ _ ⟨Wi,ri,Yj,vi,ki,rfl,by omega,ww,ip.1,ip.2,lF,Bq,io⟩).qb
   ·refine Nz O$ Pb O O$ Ox$ Pc O O$ NB$ It O$ NL O$ qN O$ NZ zhB O (YD (aQ.ND Ae) (aQ.ND Bp)) ?_;rintro _ w12 ⟨rfl,aI⟩;refine NF O$ NA func5 O ?_;exact⟨_,rfl,rfl,(ad.trans aQ).trans aI⟩
  ·refine py$ qN O$ NT O O$ Q0 U60 O$ Pb O O$ Ox$ Nz O$ qS$ qS$ OC O O$ NB$ It O$ NL O$ qN O ?_;refine NZ zhB O (YD (aQ.ND Ae) (aQ.ND Bp)) ?_;rintro _ w12 ⟨rfl,aI⟩;refine NF O$ NA func5 O ?_;exact⟨_,rfl,rfl,(ad.trans aQ).trans aI⟩
end Go.Proofs.YtfgjaafcgghnoaaGreatDoor
namespace Go.Proofs.YtfgjaafcgghnoaaGreatDoor
open Go Go.ChangeShapes Go.WideShapes Go.ChangeAt Go.RowKit Go.Proofs.Tryz
def XW (P:Program)(ts:List TypeId):Bool:=ts.all λt=>P.readableRec t&&decide (t<P.types.size)
theorem VY {H:Type}{enc:TypeId×Value->H}{P:Program}(hl:laidOutB P=true){W W':World}(hb:Below W.heap.size W W'):
  ∀ {ts : List TypeId} {vs : List Value} {ds : List (DataW H)} {ps : List MemPlace}, XW P ts = true -> DataW.TrodAll enc P W 0 (λ_ => true) true ts vs ds ps ->
    DataW.TrodAll enc P W' 0 (λb=>decide (b<W.heap.size)) true ts vs ds ps
 |[],[],[],_,_,h=>h
 | t :: ts, v :: vs, d :: ds, _, hr, h => by
   obtain⟨p,q,h1,h2,rfl⟩:=h;simp only[XW,List.all_cons,Bool.and_eq_true,decide_eq_true_eq] at hr
   exact⟨p,q,Below.trod hl hr.1.1 hr.1.2 h1 hb (by obtain⟨m,hm⟩:=h1;exact DataW.trod_lt m _ _ _ hm),VY hl hb hr.2 h2,rfl⟩
 |[],[],_::_,_,_,h=>h.elim
 |[],_::_,_,_,_,h=>h.elim
 |_::_,[],_,_,_,h=>h.elim
 |_::_,_::_,[],_,_,h=>h.elim
theorem YE {H:Type}{enc:TypeId×Value->H}{P:Program}{W:World}{base:Nat}{spare:Nat->Bool}{held:Bool}:
  ∀{ts:List TypeId} {vs:List Value} {ds:List (DataW H)} {ps:List MemPlace},DataW.TrodAll enc P W base spare held ts vs ds ps->ds.length=ts.length
 |[],[],[],_,_=>rfl
 | t :: ts, v :: vs, d :: ds, _, h => by
   obtain⟨p,q,h1,h2,rfl⟩:=h
   simpa using YE h2
 |[],[],_::_,_,h=>h.elim
 |[],_::_,_,_,h=>h.elim
 |_::_,[],_,_,h=>h.elim
 |_::_,_::_,[],_,h=>h.elim
theorem own:ownKnob prog.godebug=none:=by kernel_rfl
theorem laidOut:laidOutB prog=true:=by kernel_rfl
theorem zf2 (s:ByteArray):Value.string s=S s.data.toList:=by
 obtain⟨⟨l⟩⟩:=s;rfl
end Go.Proofs.YtfgjaafcgghnoaaGreatDoor
namespace Go.Proofs.YtfgjaafcgghnoaaGreatDoor
open Go Go.ChangeShapes Go.WideShapes Go.ChangeAt Go.RowKit Go.Deep Go.Proofs.Tryz
section
variable {H:Type}{enc:TypeId×Value->H}{W:World}{sp:Nat->Bool}
theorem z9I (n:Int)(h:(Lit.int .u32 n).wf=true):Value.int .u32 n=Oe n.toNat/\n.toNat<4294967296:=by
 simp[Lit.wf,IntKind.min,IntKind.max,IntKind.signed,IntKind.bits] at h
 exact⟨by unfold Oe;congr;omega,by omega⟩
theorem i64_in (n:Int)(h:(Lit.int .i64 n).wf=true): -9223372036854775808<=n/\n<=9223372036854775807:=by
 simp[Lit.wf,IntKind.min,IntKind.max,IntKind.signed,IntKind.bits] at h;omega
theorem z1n {w:World}{b off:Nat}{spot:Option Nat}{v:Value}(h:w.cell? ⟨b,off,spot⟩=some v):spot=none:=by
 unfold World.cell? at h
 split at h
 ·cases spot with
  |none=>rfl
  |some s=>simp at h
 ·cases h
theorem z4A {fuel:Nat}{v:Value}{x:DataW H×List MemPlace}(h:DataW.trod enc prog W 0 sp true fuel 22 [v]=some x)(hw:∀n∈x.1.weights prog 22,n<=reachBytes):∃(ea:Option Addr) (ec:Nat) (es:List (Nat×Nat)),v= .slice ea es.length ec/\EdR W ea es/\es.length<=9000000000000000000:=by
 rcases open_slice_pairs U22 zj1 (by kernel_rfl) O O (by kernel_rfl) (by kernel_rfl) h with⟨hv,hx⟩|⟨a,len,cap,m,n,V0,V1,D0,D1,P0,P1,hv,-,hl,hm,vQ,hx,lJ⟩
 ·cases hv;exact⟨none,0,[],rfl,λi e he=>by simp at he,by simp⟩
 ·cases hv;have eJ:maxLen=9223372036854775807:=rfl;have gP:len<=m:=by rw[vQ];split<;>omega
  have hk:∀i,i<len->∃e:Nat×Nat,e.1<4294967296/\e.2<4294967296/\W.cell? (a.add (i*2))=some (Oe e.1)/\W.cell? (a.add (i*2+1))=some (Oe e.2):=λi hi=>by
   obtain⟨c0,c1,h0,h1⟩:=lJ i (by omega);obtain⟨n0,e0,-,f0⟩:=DataW.trod_int OX h0;obtain⟨n1,e1,-,f1⟩:=DataW.trod_int OX h1;have e0:V0 i= .int .u32 n0:=by simpa using e0
   have e1:V1 i= .int .u32 n1:=by simpa using e1
   obtain⟨q0,b0⟩:=z9I n0 f0;obtain⟨q1,b1⟩:=z9I n1 f1;exact⟨(n0.toNat,n1.toNat),b0,b1,by rw[c0,e0,q0],by rw[c1,e1,q1]⟩
  obtain⟨E,hE⟩:∃E:Nat->Nat×Nat,∀i,i<len->(E i).1<4294967296/\(E i).2<4294967296/\W.cell? (a.add (i*2))=some (Oe (E i).1)/\W.cell? (a.add (i*2+1))=some (Oe (E i).2):=
   choose_lt (α:=Nat×Nat) (n:=len) (p:=λi e=>e.1<4294967296/\e.2<4294967296/\W.cell? (a.add (i*2))=some (Oe e.1)/\W.cell? (a.add (i*2+1))=some (Oe e.2)) hk
  refine⟨some a,cap,(List.range len).map E,by simp,λi e he=>?_,?_⟩
  ·rw[List.getElem?_map] at he;rcases Nat.lt_or_ge i len with hi|hi
   ·rw[List.getElem?_range hi] at he;obtain rfl:=Pz he;obtain⟨g1,g2,g3,g4⟩:=hE i hi;obtain⟨b,off,spot⟩:=a;have h3:=(hE 0 (by omega)).2.2.1;rw[Nat.zero_mul] at h3;simp only[Addr.add,if_true] at h3;obtain rfl:=z1n h3;rw[PS] at g3 g4;exact⟨g1,g2,b,off,rfl,g3,by rw[Nat.add_assoc];exact g4⟩
   ·rw[List.getElem?_eq_none (by simpa using hi)] at he;cases he
  ·have mW:=hw ((len+(m-len))*8) (by rw[hx];simp[DataW.weights,U22,show prog.bytesOf 113=8 by kernel_rfl]);simp[reachBytes] at mW;simp;omega
end
end Go.Proofs.YtfgjaafcgghnoaaGreatDoor
namespace Go.Proofs.YtfgjaafcgghnoaaGreatDoor
open Go Go.RowKit
end Go.Proofs.YtfgjaafcgghnoaaGreatDoor
namespace Go.Proofs.YtfgjaafcgghnoaaGreatDoor
open Go Go.ChangeShapes Go.WideShapes Go.ChangeAt Go.RowKit Go.Deep Go.Proofs.Tryz
section
variable {H:Type}{enc:TypeId×Value->H}{W:World}{sp:Nat->Bool}
theorem open_net {fuel:Nat}{cs:List Value}{x:DataW H×List MemPlace}(h:DataW.trod enc prog W 0 sp true fuel 24 cs=some x)(hw:∀n∈x.1.weights prog 24,n<=reachBytes):∃(n fr fo:Int) (pl:Bool) (ea:Option Addr) (ec:Nat) (es:List (Nat×Nat)),cs=[I n,.slice ea es.length ec,.bool pl,I fr,I fo]/\(-9223372036854775808<=n/\n<=9223372036854775807)/\(-9223372036854775808<=fr/\fr<=9223372036854775807)/\(-9223372036854775808<=fo/\fo<=9223372036854775807)/\EdR W ea es/\es.length<=9000000000000000000:=by
 obtain⟨xs,n,-,hx,hl,hlen,hf⟩:=DataW.trod_struct underlying24 h
 rw[show prog.cellsOf 24=5 by kernel_rfl] at hl
 match xs,hlen with
 |[y0,y1,y2,y3,y4],_=>
 match cs,hl with
 | [c0, c1, c2, c3, c4], _ =>
   have t0:=hf 0 _ O;have t1:=hf 1 _ O;have t2:=hf 2 _ O;have t3:=hf 3 _ O;have t4:=hf 4 _ O;simp only[show prog.cellsOf 22=1 by kernel_rfl,show prog.cellsOf 3=1 by kernel_rfl,show prog.cellsOf 4=1 by kernel_rfl,List.drop,List.take,List.getElem?_cons_zero,List.getElem?_cons_succ] at t0 t1 t2 t3 t4;obtain⟨n0,e0,-,w0⟩:=DataW.trod_int underlying3 t0;obtain⟨b2,e2,-,-⟩:=DataW.trod_bool underlying4 t2;obtain⟨n3,e3,-,w3⟩:=DataW.trod_int underlying3 t3;obtain⟨n4,e4,-,w4⟩:=DataW.trod_int underlying3 t4;cases e0;cases e2;cases e3;cases e4
   obtain⟨ea,ec,es,e1,hE,hes⟩:=z4A t1 (λn hn=>hw n (by
    rw[hx];simp only[DataW.weights,underlying24,DataW.weightsEach,List.map,List.mem_append]
    exact .inr (.inl hn)))
   subst e1;exact⟨n0,n3,n4,b2,ea,ec,es,rfl,i64_in _ w0,i64_in _ w3,i64_in _ w4,hE,hes⟩
end
section
variable {H:Type}{enc:TypeId×Value->H}{W:World}{sp:Nat->Bool}
theorem z9m {fuel:Nat}{cs:List Value}{x:DataW H×List MemPlace}(h:DataW.trod enc prog W 0 sp true fuel 64 cs=some x)(hw:∀n∈x.1.weights prog 64,n<=reachBytes):∃o:COp,cs=o.cs/\o.Ok:=by
 obtain⟨xs,n,-,hx,hl,aA,hf⟩:=DataW.trod_struct U64 h
 rw[show prog.cellsOf 64=6 by kernel_rfl] at hl
 match xs,aA with
 |[y0,y1,y2,y3,y4,y5],_=>
 match cs,hl with
 | [c0, c1, c2, c3, c4, c5], _ =>
   have t0:=hf 0 _ O;have t1:=hf 1 _ O;have t2:=hf 2 _ O;have t3:=hf 3 _ O;have t4:=hf 4 _ O;have t5:=hf 5 _ O;simp only[show prog.cellsOf 9=1 by kernel_rfl,show prog.cellsOf 3=1 by kernel_rfl,show prog.cellsOf 4=1 by kernel_rfl,List.drop,List.take,List.getElem?_cons_zero,List.getElem?_cons_succ] at t0 t1 t2 t3 t4 t5;obtain⟨n0,e0,-,w0⟩:=DataW.trod_int U3 t0;obtain⟨n1,e1,-,w1⟩:=DataW.trod_int U3 t1;obtain⟨n2,e2,-,w2⟩:=DataW.trod_int U3 t2;obtain⟨n3,e3,-,w3⟩:=DataW.trod_int U3 t3;obtain⟨s4,e4,ng,-⟩:=DataW.trod_string U9 t4;obtain⟨b5,e5,-⟩:=DataW.trod_bool U4 t5;cases e0;cases e1;cases e2;cases e3;cases e4;cases e5;refine⟨⟨n0,n1,n2,n3,s4.data.toList,b5⟩,?_,⟨i64_in _ w1,i64_in _ w2,i64_in _ w3,?_⟩⟩
   ·rw[zf2];rfl
   ·have:=hw s4.data.toList.length (by
     rw[hx];simp only[DataW.weights,U64,DataW.weightsEach,List.map,List.mem_append]
     exact .inr (.inr (.inr (.inr (.inl (by rw[ng];simp[DataW.weights])))))) 
    simp[reachBytes] at this;show s4.data.toList.length<=_;simp;omega
theorem open_cops {fuel:Nat}{v:Value}{x:DataW H×List MemPlace}(h:DataW.trod enc prog W 0 sp true fuel 60 [v]=some x)(hw:∀n∈x.1.weights prog 60,n<=reachBytes):∃(la:Option Addr) (lc:Nat) (ls:List COp),v= .slice la ls.length lc/\zaJ W la ls/\ls.length<=9000000000000000000:=by
 rcases open_slice U60 h with⟨hv,hx⟩|⟨a,len,cap,m,n,D,Pl,hv,-,hl,hm,vQ,hx,lJ⟩
 ·cases hv;exact⟨none,0,[],rfl,λi e he=>by simp at he,by simp⟩
 ·cases hv;rw[show prog.cellsOf 64=6 by kernel_rfl] at lJ;have gP:len<=m:=by rw[vQ];split<;>omega
  obtain⟨E,hE⟩:=@choose_lt COp ⟨⟨0,0,0,0,[],false⟩⟩ len (λi o=>o.Ok/\W.cells? 0 (a.add (i*6)) 6=some o.cs) (λi hi=>by
   obtain⟨cs',c1,c2⟩:=lJ i (by omega)
   obtain⟨o,rfl,ay⟩:=z9m c2 (λn hn=>hw n (by
    rw[hx];simp only[DataW.weights,U60,List.mem_cons,List.mem_append];refine .inr (.inl ?_);have dZ:D i∈(List.range len).map D:=List.mem_map.2 ⟨i,by simpa using hi,rfl⟩
    revert dZ hn
    generalize (List.range len).map D=L
    intro hn dZ
    induction L with
    |nil=>cases dZ
    | cons d r ih =>
      simp only[DataW.weightsAll,List.mem_append];rcases List.mem_cons.1 dZ with rfl| h
      ·exact .inl hn
      ·exact .inr (ih h)))
   exact⟨o,ay,c1⟩)
  refine⟨some a,cap,(List.range len).map E,by simp,λi e he=>?_,?_⟩
  ·rw[List.getElem?_map] at he;rcases Nat.lt_or_ge i len with hi|hi
   ·rw[List.getElem?_range hi] at he;obtain rfl:=Pz he;obtain⟨g1,g4⟩:=hE i hi;obtain⟨b,off,spot⟩:=a;have h0:=(hE 0 (by omega)).2;obtain⟨-,-,h3⟩:=World.cells?_some h0;have h3:=h3 0 (by decide);rw[Nat.zero_mul] at h3;simp only[Addr.add,if_true] at h3;obtain rfl:=z1n h3;obtain⟨-,-,h4⟩:=World.cells?_some g4;refine⟨g1,b,off,rfl,λj u hu=>?_⟩
    have hj:j<6:=by
     rcases Nat.lt_or_ge j 6 with h| h
     ·exact h
     ·rw[List.getElem?_eq_none (by show 6<=j;exact h)] at hu;cases hu
    have k0:=h4 j hj;rw[PS,PS] at k0;rw[k0];have e2:(E i).cs[j]? =some ((E i).cs[j]'(by show j<6;exact hj)):=List.getElem?_eq_getElem _;rw[e2] at hu;rw[<-hu]
    first|rfl|simp
   ·rw[List.getElem?_eq_none (by simpa using hi)] at he;cases he
  ·have mW:=hw ((len+(m-len))*56) (by rw[hx];simp[DataW.weights,U60,show prog.bytesOf 64=56 by kernel_rfl]);simp[reachBytes] at mW;simp;omega
end
end Go.Proofs.YtfgjaafcgghnoaaGreatDoor
namespace Go.Proofs.YtfgjaafcgghnoaaGreatDoor
open Go Go.ChangeShapes Go.WideShapes Go.ChangeAt Go.RowKit Go.Proofs.Tryz
theorem law_lifted_tied {H:Type}{enc:TypeId×Value->H}{C:Checked}{os:Os}{f:FuncId}{fn:Func}{s:ChangeSpec}{t:TypeId}{ts:List TypeId}{laid:List (String×DataW Unit)}
  (own:ownKnob C.prog.godebug=none) (started:os.Started) (hl:laidOutB C.prog=true) (noInit:C.prog.inits.idxOf? f=none) (hfn:C.prog.funcs[f]? =some fn)
  (hts:fn.params.toList=ts) (hrd:XW C.prog ts=true) (hrt:fn.resultTypes=#[t]) (hb:C.prog.underlying t=some .bool) (hsv:s.vars=[])
  (hpl:(laid.all λx=>x.2.handleName?.isNone)=true)
  (hspec:∀ds:List (DataW H),ds.length=ts.length->s.fn H ds={results:=[.lit (.bool true)],args:=ds})
  (witness:∃(w:World) (tape:Tape) (i:Input),w.os=os/\(w.forCall tape i).Shaped C.prog/\i.vars=[]/\Input.okWide C.prog (w.forCall tape i) .any w.heap.size f i/\
   ((s.pre enc C.prog fn [] false (w.forCall tape i).memory i.args/\laidMetH C.prog laid (w.forCall tape i).memory)/\sizedMet enc C.prog fn (OpenSpec.ofChange s) false (w.forCall tape i).memory i.args)/\({}:Assume).holds C.prog (lone (Frame.enter C.prog f i.args .normal) [] (w.forCall tape i)))
  (hret:∀(W:World) (base:Nat) (args:List Value) (ds:List (DataW H)) (ps:List MemPlace),W.ShapedOpen C.prog->laidMet C.prog laid W->
   (∀(j:Nat) t v,ts[j]? =some t->args[j]? =some v->Value.okWide C.prog W .any base t v)->
   DataW.TrodAll enc C.prog W 0 (λ_=>true) true ts args ds ps->W.noneFrozen ps->
   (DataW.weightsEach C.prog ts ds).all (·<=reachBytes)=true->
   Oa C.prog f args W λv w'=>v= .bool true/\Ext W w'):
  ReturnsInHanded {} C os f .any (λw args=>(s.pre enc C.prog fn [] false w args/\laidMetH C.prog laid w)/\sizedMet enc C.prog fn (OpenSpec.ofChange s) false w args) (s.post enc C.prog fn false true false false):=by
 refine returnsInHanded_of_calls own started noInit witness ?_
 intro w tape i _ hsh _ hok hpre hholds
 obtain⟨_,_,_,fn',hfn',_,_,_,_,hval⟩:=hok
 have e:fn'=fn:=Option.some.inj (hfn'.symm.trans hfn)
 subst e
 obtain⟨⟨⟨ds,gs,before,hw,hc⟩,hx⟩,hz⟩:=hpre
 have hW:=DataW.Whole.of_heap (w':=w.forCall tape i) (by rfl) hw
 have hW':=hW
 have hsz0:(DataW.weightsEach C.prog (fn'.params.toList++s.plain.varTypes C.prog) (ds++gs)).all (·<=reachBytes)=true:=hz.weights hw
 obtain⟨p,q,hA,hV,rfl,hfz,_⟩:=hW
 rw[hsv] at hV
 obtain⟨rfl,rfl⟩:=trodVars_none hV
 rw[hts] at hA
 have hlen:=YE hA
 have hsz:(DataW.weightsEach C.prog ts ds).all (·<=reachBytes)=true:=by
  have hv:s.plain.varTypes C.prog=[]:=by simp[ChangeSpec.plain,DataSpec.varTypes,hsv]
  rw[hts,hv,List.append_nil,List.append_nil] at hsz0;exact hsz0
 have hL:laidMet C.prog laid (w.forCall tape i):=by
  rw[MakeChecks.laidMetH_plain _ _ _ hpl] at hx;exact hx.of_heap (by rfl)
 have hr:=hret _ w.heap.size i.args.toList ds p hsh hL (λj t v h1 h2=>hval j t v (by rw[<-hts] at h1;simpa using h1) (by simpa using h2)) hA (by rw[List.append_nil] at hfz;exact hfz) hsz
 unfold Oa at hr;rw[Array.toArray_toList] at hr
 refine Calls.mono hr λx W' ⟨v,hx,hv,hext⟩=>?_
 subst hx;subst hv
 have bel:=hext.below
 refine ChangeSpec.post_blind ⟨ds,[],p++[],[],p,[],hW',?_,?_,?_,bel.frame _,λh=>by cases h⟩
 ·rw[List.append_nil,hspec ds hlen,hrt];exact trodAll_mk1 (shut_bool hb _)
 ·rw[List.append_nil,hspec ds hlen,hts];exact VY hl bel hrd hA
 ·rw[hsv,List.append_nil,hspec ds hlen]
  rfl
theorem pair_cells {P:Program}{W:World}{t fuel:Nat}{cs:Array Value}{f0 f1:Field}{ka kb:IntKind}{a b:Int}{p:List MemPlace}(hs:P.underlying t=some (.struct #[f0,f1]))(hc:P.cellsOf t=2)(o0:f0.offset=0)(o1:f1.offset=1)
  (c0:P.cellsOf f0.type=1) (c1:P.cellsOf f1.type=1) (u0:P.underlying f0.type=some (.int ka)) (u1:P.underlying f1.type=some (.int kb))
  (hd:DataW.trod (λ_=>()) P W 0 (λ_=>true) false fuel t cs.toList=some (.agg [.lit (.int ka a),.lit (.int kb b)],p)):cs.toList=[.int ka a,.int kb b]:=by
 obtain⟨y0,y1,n,hx,hl,h0,h1⟩:=trod_struct2 hs hd
 obtain⟨v0,e0,rfl,-⟩:=DataW.trod_int u0 h0
 obtain⟨v1,e1,rfl,-⟩:=DataW.trod_int u1 h1
 rw[hc] at hl
 rw[o0,c0] at e0
 rw[o1,c1] at e1
 simp at hx
 obtain⟨⟨rfl,rfl⟩,-⟩:=hx
 match hcs:cs.toList,hl with
 | [x, y], _ =>
   rw[hcs] at e0 e1;simp at e0 e1;rw[e0,e1]
theorem z5R {P:Program}{W:World}{n:String}{g T:Nat}{cs:Array Value}{l:List Value}(hW:W.ShapedOpen P)(hgs:g<P.globals.size)(hz:(((begin P (λ_ _=>0) default).world.heap[g]?).bind Obj.row?).map (·.2)=some T)(hg:P.globalNamed n=some g)(hv:W.var? P n=some cs)(hcs:cs.toList=l):NM W g l T:=by
 cases hr:((begin P (λ_ _=>0) default).world.heap[g]?).bind Obj.row? with
 |none=>rw[hr] at hz;cases hz
 | some x =>
   obtain⟨z,t⟩:=x;rw[hr] at hz;obtain rfl:t=T:=Option.some.inj hz;obtain⟨c,hh,-,-⟩:=hW.1 g z t hgs hr;simp only[World.var?,hg,Option.bind_some,hh] at hv;have hc:c=cs:=by simpa using hv
   subst hc;refine⟨(0,0),by rw[hh,<-hcs],λi _ e=>by simp at e⟩
theorem laid_two {W:World}{laid:List (String×DataW Unit)}(hlaid:laid=[("wattle/list.gamma",.agg [.lit (.int .u8 1),.lit (.int .u64 0)]),("wattle/list.unary",.agg [.lit (.int .u8 0),.lit (.int .u64 0)])])(hW:W.ShapedOpen prog)(h:laidMet prog laid W):NM W 0 [.int .u8 1,.int .u64 0] 260/\NM W 1 [.int .u8 0,.int .u64 0] 260:=by
 subst hlaid
 obtain⟨ps,hL,-,hB⟩:=h
 obtain⟨g0,t0,cs0,fuel0,p0,q0,hg0,ht0,hv0,hd0,hL,hps⟩:=hL
 obtain⟨g1,t1,cs1,fuel1,p1,q1,hg1,ht1,hv1,hd1,hL,hqs⟩:=hL
 obtain rfl:=Option.some.inj ((show prog.globalNamed "wattle/list.gamma"=some 0 by kernel_rfl).symm.trans hg0)
 obtain rfl:=Option.some.inj ((show prog.globalNamed "wattle/list.unary"=some 1 by kernel_rfl).symm.trans hg1)
 obtain rfl:=Option.some.inj ((show(prog.globals[0]?).map (·.type)=some 260 by kernel_rfl).symm.trans ht0)
 obtain rfl:=Option.some.inj ((show(prog.globals[1]?).map (·.type)=some 260 by kernel_rfl).symm.trans ht1)
 have e0:=pair_cells underlying260 (by kernel_rfl) O O (by kernel_rfl) (by kernel_rfl) underlying5 underlying41 hd0
 have e1:=pair_cells underlying260 (by kernel_rfl) O O (by kernel_rfl) (by kernel_rfl) underlying5 underlying41 hd1
 have hgs:∀g:Nat,g<3->g<prog.globals.size:=λg hg=>Nat.lt_of_lt_of_le hg (of_decide_eq_true (by kernel_rfl))
 exact⟨z5R hW (hgs 0 (by decide)) (by kernel_rfl) hg0 hv0 e0,z5R hW (hgs 1 (by decide)) (by kernel_rfl) hg1 hv1 e1⟩
noncomputable def limWorld (os:Os):World:=
 let w0:=World.holding prog os ⟨#[],#[],[]⟩
 { w0 with heap := w0.heap.modify 0 fun
   | .cells _ t frozen=> .cells #[.int .u8 1,.int .u64 0] t frozen
   |o=>o}
end Go.Proofs.YtfgjaafcgghnoaaGreatDoor
