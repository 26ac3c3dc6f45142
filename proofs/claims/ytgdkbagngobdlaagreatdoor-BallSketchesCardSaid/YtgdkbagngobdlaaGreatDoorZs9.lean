/- Merged by program. -/
import Derived.Test.YtgdkbagngobdlaaGreatDoorZs8
import Derived.LaidLaws
import Derived.MakeChecks
import Derived.Handed
set_option linter.all false
set_option maxRecDepth 1000000
set_option maxHeartbeats 16000000
namespace Go.Proofs.YtgdkbagngobdlaaGreatDoor
open Go Go.RowKit Go.Proofs.Tryz
section
variable {G:GwP}{w w':World}{Q Q':Qz}{txt txt':Int->NY}{K K' k:Nat}{X Y S' O_:Nat->Prop}{rr a L:Nat}{s s':RR}{ys:List Nat}
theorem z6n {p:Nat}(hp:4<=p):SE 8 (mW p) (List.replicate (2^p) 0)=List.replicate (mW p) 0:=by
 have mw:=zcu hp
 refine List.ext_getElem? λj=>?_
 by_cases hj:j<mW p
 ·rw[z1O hj,List.getElem?_replicate,if_pos hj,List.drop_replicate,List.take_replicate,Nat.min_eq_left (by omega)];have:=Zr (w:=8) (n:=0) (by decide);rw[show To 8 0=List.replicate 8 0 by decide] at this;rw[this]
 ·rw[List.getElem?_eq_none (by rw[Q7];omega),List.getElem?_eq_none (by rw[List.length_replicate];omega)]
theorem z2Q {p:Nat}(hp:4<=p):∀n,Uz (mW p) (List.replicate n (List.replicate (2^p) 0))=List.replicate (n*mW p) 0
 |0=>by simp[Uz]
 | n + 1 => by
   have ih:=z2Q hp n;unfold Uz at*;rw[List.replicate_succ,List.flatMap_cons,ih,z6n hp,List.replicate_append_replicate,Nat.add_mul,Nat.one_mul,Nat.add_comm]
theorem ZL {be bs n:Nat}(hP:Sp Q txt K X w)(hX:∀b,X b->b<w.heap.size)(hK:K<=800000000000)(dK:Pre Q.L a)(hn:n<=4194304)(bM:a+QD n 64<=Q.L.length)(ep:O9 w be [I 0] 36)(kz:O9 w bs [ptr Q.s 0] 29)(Mx:X be):Oy prog 38 ([I (n:Int)]++[ptr be 0,ptr bs 0]) w λv w'=>∃vb txt' w1,v=ptr vb 0/\w.heap.size<=vb/\Sp (Q.Pw (Pv Q.L a (QD n 64) true)) txt' (K+QD n 64) (λb=>X b\/b=vb) w1/\SS (Q.Pw (Pv Q.L a (QD n 64) true)) txt' vb 8 a (List.replicate n 0) w1/\(∀y:Int,y<(a:Int)\/(a:Int)+(QD n 64:Int)<=y->txt' y=txt y)/\Kp (λb=>¬X b) w w1/\Kp (λb=>b=be) w1 w'/\O9 w' be [I 0] 36:=by
 have Ah:=z8P hP hX hK dK n 8 hn (by omega) (by rw[show 512 / 8=64 from rfl];exact bM)
 rw[show 512 / 8=64 from rfl] at Ah
 refine NP (e:=[(0,_),(1,_),(2,_)]) func38 O ntmps38 O O$ qN O$ NZ O$ py$ qN O$ qV ((O6 U36 O O ep O))$ Pz O O$ NU$ It O$ An$ qN O$ qV ((O6 X7 O O kz O))$ NT O$ Om zjt O (Ah) ?_
 rintro _ w1 ⟨vb,txt1,rfl,eI,jJ,eZ,nF,aK⟩
 have Gz:=aK.NX ep (λe=>e Mx)
 refine NT O$ P9 O O$ P9 O O$ Oc O$ Oc O$ qM O$ NT O$ Oe O (PV z1e O O O Gz (by simp)) ?_
 rintro w2 ⟨GA,aq⟩
 refine qM O$ NT O$ NZ O$ NV func38 O ?_
 exact⟨_,rfl,vb,txt1,w1,rfl,eI,jJ,eZ,nF,aK,aq,GA⟩
def blL (n p:Nat):Nat:=2*QD (n*mW p) 64+QD n 64
theorem z1q (h:RQ G Q txt K X w)(hK:K<=600000000000)(iQ:G.g.length<=40)(dK:Pre Q.L a)(My:G.st+G.len<=a){p rounds seed:Nat}(hp:4<=p/\p<=16)(hr:1<=rounds/\rounds<=1000)(jy:seed<18446744073709551616)(bM:a+blL G.g.length p<=Q.L.length):Oy prog 8 [ptr Q.s 0,ptr G.k 0,I (p:Int),I (rounds:Int),u64v seed] w λv w'=>∃(rr:Nat) (O_:Nat->Prop) (txt':Int->NY) (ys:List Nat),v= .tuple #[ptr rr 0,I 0]/\(∀b,O_ b->w.heap.size<=b)/\QZ TQ G (Q.Pw (Pv Q.L a (blL G.g.length p) true)) txt' (K+blL G.g.length p+mW p*G.g.length) (λb=>X b\/O_ b) rr O_ a (blL G.g.length p) (RR.new G.g p rounds seed,ys) w'/\(∀y:Int,y<(a:Int)\/(a:Int)+(blL G.g.length p:Int)<=y->txt' y=txt y)/\Kp (λb=>¬X b) w w':=by
 have mw:=zcu hp.1
 have mJ:=z1h hp
 have hN:2^p<=2^16:=Nat.pow_le_pow_right (by decide) hp.2
 have NK:G.g.length*2^p<=40*2^16:=Nat.mul_le_mul iQ hN
 have NL:G.g.length*mW p<=40*8192:=Nat.mul_le_mul iQ mJ.2
 have eZ:=Zg (n:=G.g.length*mW p) (b:=5120) (by omega) (by decide)
 have lE:=Zg (n:=G.g.length) (b:=1) (by omega) (by decide)
 have Mz:G.g.length*2^p=G.g.length*mW p*8:=by rw[<-mw,Nat.mul_assoc]
 have II:blL G.g.length p=2*QD (G.g.length*mW p) 64+QD G.g.length 64:=rfl
 obtain⟨l,hl⟩:∃l,QD (G.g.length*mW p) 64=l:=⟨_,rfl⟩
 obtain⟨ls,g7⟩:∃ls,QD G.g.length 64=ls:=⟨_,rfl⟩
 have qD:=h.lt
 have rX:=h.xk
 refine NP (e:=[(0,_),(1,_),(2,_),(3,_),(4,_)]) func8 O ntmps8 O O$ qN O$ O5 O O (Qr O (cs:=[ptr Q.s 0]) O) ?_
 rintro _ w1 ⟨bs,rfl,tK,ad,js⟩
 refine Oc O$ NZ O$ py$ NQ$ qN O$ qV (O6 X7 O O js O)$ qV (Pt X7 O O)$ Od O O$ qV (Pt U30 O O)$ OU O O$ NZ O$ It O$ qN O$ NT O ?_
 refine Py O O$ OR$ Od O O$ PD O O$ OR$ OU O O$ Od O O$ Py O O$ OR$ OU O O$ Od O O$ PD O O$ OR$ OU O O ?_
 refine NZ O$ OD.qb (e:=[(1,_),(2,_),(3,_),(4,_),(5,_),(10,_),(11,_),(23,_)]) ?_
 refine It O$ An$ NS$ qN O$ Od O O$ NT O$ qV (Rt (cs:=[_,_,_,_,_,_,_,_,_]) zfP O ziF O O)$ O5 O O (Qr O (cs:=[I 0,.bool false,ptr G.k 0,I (p:Int),I (rounds:Int),.pointer none,.pointer none,.pointer none,.bool false]) O) ?_
 rintro _ w2 ⟨rr,rfl,mu,ae,Aj⟩
 refine Oc O$ qM O$ O5 O O (QU (cs:=[_]) z1e O) ?_
 rintro _ w3 ⟨be,rfl,vG,ah,Ak⟩
 refine Oe O (PV z1e O O O Ak (by simp)) ?_
 rintro w4 ⟨uJ,ao⟩
 replace uJ:O9 w4 be [I 0] 36:=uJ
 have z1:=ad.size
 have z2:=ae.size
 have z3:=ah.size
 have z4:=ao.size
 have q1:=js.lt
 have q2:=Aj.lt
 have q3:=Ak.lt
 have bS:Ext w w4:=((ad.trans ae).trans ah).NR ao λj e=>by omega
 have eL:=ao.NX (ah.NX (ae.NX js)) (by omega)
 have qB:=ao.NX (ah.NX Aj) (by omega)
 obtain⟨X0,uE⟩:∃X0:Nat->Prop,(λj=>X j\/j=rr\/j=be\/j=bs)=X0:=⟨_,rfl⟩
 have ey:∀j,X j->X0 j:=λj hj=>by rw[<-uE];exact .inl hj
 have aV:X0 rr/\X0 be/\X0 bs:=by rw[<-uE];exact⟨.inr (.inl O),.inr (.inr (.inl O)),.inr (.inr (.inr O))⟩
 have h4:RQ G Q txt K X0 w4:=h.grow bS (λj hj=>by rw[<-uE] at hj;exact hj.imp id λe=>by omega) ey
 have mf:∀j,w.heap.size<=j->j≠G.k/\j≠G.x/\j≠2/\j≠3:=λj hj=>by
  have b1:=qD _ rX.1;have b2:=qD _ rX.2.1;have b3:=qD _ rX.2.2.1;have b4:=qD _ rX.2.2.2;exact⟨by omega,by omega,by omega,by omega⟩
 refine qM O$ qV (ymf (first:=[]) (caps:=[.tmp 13,.tmp 5]) O O)$ Oc O$ qM O$ NT O$ Om zbH O (XT h4) ?_
 rintro _ w4 ⟨rfl,rfl⟩
 refine NT O$ qV (ysl p (2^p) O O (by omega) O (by omega)) ?_
 rw[Mz]
 refine qV (UH O O (by omega)) ?_
 rw[show((G.g.length*mW p*8:Nat):Int) / 8=((G.g.length*mW p:Nat):Int) by omega]
 have Al:=ZL h4.sp h4.lt1 (by omega) dK (n:=G.g.length*mW p) (by omega) (by rw[hl];omega) uJ eL (.inl aV.2.1)
 rw[hl] at Al
 refine Oc O$ qM O$ Od O O$ Od O O$ NT O$ PG O O (R0 zf3 O O) (Al) ?_
 rintro _ w5 ⟨v1,txt1,w5',rfl,MA,gT,Ag,nF,ak,qF,kD⟩
 obtain⟨Q1,wW⟩:∃Q1,Q.Pw (Pv Q.L a l true)=Q1:=⟨_,rfl⟩
 rw[wW] at gT Ag
 have ol:Q1.s=Q.s:=by rw[<-wW];rfl
 have uK:Q1.L=Pv Q.L a l true:=by rw[<-wW];rfl
 have fQ:a+l<=Q.L.length:=by omega
 have oo:Q1.L.length=Q.L.length:=by rw[uK];exact Pl fQ
 have rY:Pre Q1.L (a+l):=by rw[uK];exact XB dK fQ
 have zz5:=ak.size
 have zz5':=qF.size
 have lv1:=Ag.lt
 have GB:∀j,X0 j->(X0 j\/j=v1):=λj hj=> .inl hj
 have Et:RQ G Q1 txt1 (K+l) (λb=>X0 b\/b=v1) w5':=h4.zcY ak (λb e=>e) GB (λj hj=>hj.imp id λe=>by omega) (gT.less λb e=>by rcases e with(e|e)|e;exact .inl (.inl e);exact .inr e;exact .inl (.inr e)) ol oo (by omega) (λy h1 h2=>nF y (.inl (by omega)))
 have h5:=Et.own qF (λj e=>by rw[e];obtain⟨m1,m2,m3,m4⟩:=mf be (by omega);exact⟨.inl aV.2.1,m1,m2,m3,m4⟩)
 have GC:=Ag.kp qF (λe=>by omega)
 have uL:Kp (λb=>¬(X0 b\/b=G.rb)\/b=be) w4 w5:=(ak.Of λb e=> .inl e).trans (qF.Of λb e=> .inr e)
 have jr:=uL.NX eL (λe=>e.elim (λe=>e (.inl aV.2.2)) (by omega))
 have GD:=uL.NX qB (λe=>e.elim (λe=>e (.inl aV.1)) (by omega))
 have Am:=ZL (n:=G.g.length*mW p) (bs:=bs) h5.sp h5.lt1 (by omega) rY (by omega) (by rw[hl,oo];omega) kD (by rw[ol];exact jr) (.inl (.inl aV.2.1))
 rw[hl] at Am
 refine Od O O$ PG O O (R0 zf3 O O) (Am) ?_
 rintro _ w6 ⟨v2,txt2,w6',rfl,MB,ik,GE,pY,aP,qG,GF⟩
 obtain⟨Q2,pG⟩:∃Q2,Q1.Pw (Pv Q1.L (a+l) l true)=Q2:=⟨_,rfl⟩
 rw[pG] at ik GE
 have gI:Q2.s=Q.s:=by rw[<-pG];exact ol
 have uM:Q2.L=Pv Q1.L (a+l) l true:=by rw[<-pG];rfl
 have oz:a+l+l<=Q1.L.length:=by omega
 have kG:Q2.L.length=Q.L.length:=by rw[uM,Pl oz];exact oo
 have Ao:Pre Q2.L (a+l+l):=by rw[uM];exact XB rY oz
 have zz6:=aP.size
 have zz6':=qG.size
 have lv2:=GE.lt
 have MC:RQ G Q2 txt2 (K+l+l) (λb=>(X0 b\/b=v1)\/b=v2) w6':=h5.zcY aP (λb e=>e) (λj hj=> .inl hj) (λj hj=>hj.imp id λe=>by omega) (ik.less λb e=>by rcases e with(e|e)|e;exact .inl (.inl e);exact .inr e;exact .inl (.inr e)) (by rw[gI,ol]) (by rw[kG,oo]) (by omega) (λy h1 h2=>pY y (.inl (by omega)))
 have h6:=MC.own qG (λj e=>by rw[e];obtain⟨m1,m2,m3,m4⟩:=mf be (by omega);exact⟨.inl (.inl aV.2.1),m1,m2,m3,m4⟩)
 have GG:=GE.kp qG (λe=>by omega)
 have qH:Kp (λb=>¬((X0 b\/b=v1)\/b=G.rb)\/b=be) w5 w6:=(aP.Of λb e=> .inl e).trans (qG.Of λb e=> .inr e)
 have jq:=qH.NX jr (λe=>e.elim (λe=>e (.inl (.inl aV.2.2))) (by omega))
 have GH:=qH.NX GD (λe=>e.elim (λe=>e (.inl (.inl aV.1))) (by omega))
 have GI:SS Q2 txt2 v1 8 a (List.replicate (G.g.length*mW p) 0) w6:=((GC.kp qH (λe=>e.elim (λe=>e (.inl (.inr O))) (by omega))).QX (λy e1 e2=>by
  rw[List.length_replicate,show 512 / 8=64 from rfl,hl] at e2
  exact pY y (.inl (by omega)))).q (by rw[gI,ol]) (by rw[kG,oo])
 refine Od O O$ Om zbH O (XT h6) ?_
 rintro _ w6 ⟨rfl,rfl⟩
 have Ap:=ZL (n:=G.g.length) (bs:=bs) h6.sp h6.lt1 (by omega) Ao (by omega) (by rw[g7,kG];omega) GF (by rw[gI];exact jq) (.inl (.inl (.inl aV.2.1)))
 rw[g7] at Ap
 refine PG O O (R0 zf3 O O) (Ap) ?_
 rintro _ w7 ⟨v3,txt3,w7',rfl,MD,kC,GJ,qv,aD,eJ,GK⟩
 obtain⟨Q3,qy⟩:∃Q3,Q2.Pw (Pv Q2.L (a+l+l) ls true)=Q3:=⟨_,rfl⟩
 rw[qy] at kC GJ
 have uN:Q3.s=Q.s:=by rw[<-qy];exact gI
 have nq:a+l+l+ls<=Q2.L.length:=by omega
 have Aq:Q3.L=Pv Q2.L (a+l+l) ls true:=by rw[<-qy];rfl
 have uO:Q3.L.length=Q.L.length:=by rw[Aq,Pl nq];exact kG
 have Ar:a+(2*l+ls)<=Q.L.length:=by omega
 have GL:Q3=Q.Pw (Pv Q.L a (2*l+ls) true):=by
  have e:Q3.L=Pv Q.L a (2*l+ls) true:=by
   rw[Aq,uM,uK];refine List.ext_getElem? λi=>?_;have g1:(Pv Q.L a l true).length=Q.L.length:=Pl fQ;have g2:(Pv (Pv Q.L a l true) (a+l) l true).length=Q.L.length:=by rw[Pl (by rw[g1];omega),g1]
   rw[QN (by rw[g2];omega),QN (by rw[g1];omega),QN fQ,QN Ar];by_cases c1:a+l+l<=i/\i<a+l+l+ls
   ·rw[if_pos c1,if_pos (by omega)]
   ·rw[if_neg c1];by_cases c2:a+l<=i/\i<a+l+l
    ·rw[if_pos c2,if_pos (by omega)]
    ·rw[if_neg c2];by_cases c3:a<=i/\i<a+l
     ·rw[if_pos c3,if_pos (by omega)]
     ·rw[if_neg c3,if_neg (by omega)]
  rw[<-e,<-qy,<-pG,<-wW];rfl
 have zz7:=aD.size
 have zz7':=eJ.size
 have lv3:=GJ.lt
 have E5:RQ G Q3 txt3 (K+l+l+ls) (λb=>((X0 b\/b=v1)\/b=v2)\/b=v3) w7':=h6.zcY aD (λb e=>e) (λj hj=> .inl hj) (λj hj=>hj.imp id λe=>by omega) (kC.less λb e=>by rcases e with(e|e)|e;exact .inl (.inl e);exact .inr e;exact .inl (.inr e)) (by rw[uN,gI]) (by rw[uO,kG]) (by omega) (λy h1 h2=>qv y (.inl (by omega)))
 have h7:=E5.own eJ (λj e=>by rw[e];obtain⟨m1,m2,m3,m4⟩:=mf be (by omega);exact⟨.inl (.inl (.inl aV.2.1)),m1,m2,m3,m4⟩)
 have GM:=GJ.kp eJ (λe=>by omega)
 have eD:Kp (λb=>¬(((X0 b\/b=v1)\/b=v2)\/b=G.rb)\/b=be) w6 w7:=(aD.Of λb e=> .inl e).trans (eJ.Of λb e=> .inr e)
 have uP:=eD.NX GH (λe=>e.elim (λe=>e (.inl (.inl (.inl aV.1)))) (by omega))
 have GN:SS Q3 txt3 v1 8 a (List.replicate (G.g.length*mW p) 0) w7:=((GI.kp eD (λe=>e.elim (λe=>e (.inl (.inl (.inr O)))) (by omega))).QX (λy e1 e2=>by
  rw[List.length_replicate,show 512 / 8=64 from rfl,hl] at e2
  exact qv y (.inl (by omega)))).q (by rw[uN,gI]) (by rw[uO,kG])
 have GO:SS Q3 txt3 v2 8 (a+l) (List.replicate (G.g.length*mW p) 0) w7:=((GG.kp eD (λe=>e.elim (λe=>e (.inl (.inr O))) (by omega))).QX (λy e1 e2=>by
  rw[List.length_replicate,show 512 / 8=64 from rfl,hl] at e2
  exact qv y (.inl (by omega)))).q (by rw[uN,gI]) (by rw[uO,kG])
 replace uP:O9 w7 rr [I 0,.bool false,ptr G.k 0,I (p:Int),I (rounds:Int),.pointer none,.pointer none,.pointer none,.bool false] 100:=uP
 refine OH O$ Og TW O$ Oe O (PV Xj O O O uP (by simp)) ?_
 rintro w8 ⟨uG,aS⟩
 refine OH O$ Og W7 O$ Oe O (PV Xj O O O uG (by simp)) ?_
 rintro w9 ⟨GP,aL⟩
 refine OH O$ Og W5 O$ Oe O (PV Xj O O O GP (by simp)) ?_
 rintro w10 ⟨oq,ar⟩
 replace oq:O9 w10 rr [I 0,.bool false,ptr G.k 0,I (p:Int),I (rounds:Int),ptr v1 0,ptr v2 0,ptr v3 0,.bool false] 100:=oq
 have gJ:Kp (λj=>j=rr) w7 w10:=(aS.trans aL).trans ar
 have zz10:=gJ.size
 have rZ:=gJ.NX GK (by omega)
 obtain⟨O_,hO⟩:∃O_:Nat->Prop,(λb=>b=rr\/b=v1\/b=v2\/b=v3)=O_:=⟨_,rfl⟩
 have GQ:O_ rr/\O_ v1/\O_ v2/\O_ v3:=by rw[<-hO];exact⟨.inl O,.inr (.inl O),.inr (.inr (.inl O)),.inr (.inr (.inr O))⟩
 have uQ:∀b,O_ b->w.heap.size<=b/\b≠be:=λb hb=>by rw[<-hO] at hb;omega
 obtain⟨Xb,iZ⟩:∃Xb:Nat->Prop,(λb=>((X0 b\/b=v1)\/b=v2)\/b=v3)=Xb:=⟨_,rfl⟩
 rw[iZ] at h7
 have As:∀b,X b->Xb b:=λb hb=>by rw[<-iZ];exact .inl (.inl (.inl (ey b hb)))
 have At:Xb be:=by rw[<-iZ];exact .inl (.inl (.inl aV.2.1))
 have uR:∀b,O_ b->Xb b:=λb hb=>by
  rw[<-hO] at hb;rw[<-iZ];rcases hb with e|e|e| e
  ·exact .inl (.inl (.inl (e▸aV.1)))
  ·exact .inl (.inl (.inr e))
  ·exact .inl (.inr e)
  ·exact .inr e
 have ME:Uz (mW p) (Qb G.g.length p seed 0)=List.replicate (G.g.length*mW p) 0:=by rw[z3q,z2Q hp.1]
 have qI:=QR G.g.length p seed 0
 have V10:Zs Q3 txt3 G.k rr O_ a (2*l+ls) ⟨p,rounds,0,false,Qb G.g.length p seed 0,List.replicate G.g.length 0⟩ (List.replicate (G.g.length*mW p) 0) v1 v2 v3 a (a+l) w10:=by
  refine⟨GQ,⟨by omega,by omega,by omega,by omega,by omega,by omega⟩,oq,?_,GO.kp gJ (λe=>by omega),?_,?_,?_,?_⟩
  ·show SS Q3 txt3 v1 8 a (Uz (mW p) (Qb G.g.length p seed 0)) w10;rw[ME];exact GN.kp gJ (λe=>by omega)
  ·show SS Q3 txt3 v3 8 (a+2*QD ((Qb G.g.length p seed 0).length*mW p) 64) (List.replicate G.g.length 0) w10;rw[qI,hl,show a+2*l=a+l+l by omega];exact GM.kp gJ (λe=>by omega)
  ·show(List.replicate (G.g.length*mW p) 0).length=(Qb G.g.length p seed 0).length*mW p;rw[qI,List.length_replicate]
  ·show(a=a/\a+l=a+QD ((Qb G.g.length p seed 0).length*mW p) 64)\/_;rw[qI,hl];exact .inl ⟨rfl,rfl⟩
  ·show 2*l+ls=2*QD ((Qb G.g.length p seed 0).length*mW p) 64+QD (List.replicate G.g.length 0).length 64;rw[qI,hl,List.length_replicate,g7]
 obtain⟨m1,m2,m3,m4⟩:=mf rr (by omega)
 have eQ:QZ TQ G Q3 txt3 (K+l+l+ls) Xb rr O_ a (2*l+ls) (⟨p,rounds,0,false,Qb G.g.length p seed 0,List.replicate G.g.length 0⟩,List.replicate (G.g.length*mW p) 0) w10:=
  ⟨h7.own gJ (λj e=>by rw[e];exact⟨uR _ GQ.1,m1,m2,m3,m4⟩),⟨v1,v2,v3,a,a+l,V10⟩,uR,GQ.1,λb hb=>mf b (uQ b hb).1,My,iQ⟩
 refine NU$ OD.qb (e:=[(4,_),(10,_),(11,_),(12,_),(13,_)]) ?_
 refine py$ qN O$ qV (O6 U36 O O rZ O)$ Qe O O$ NU$ Oa O$ NW O$ Od O O$ Om zjD O (z3j eQ hp jy (by omega) O) ?_
 rintro _ w11 ⟨rfl,txt11,im,Au,aY⟩
 have Av:=aY.NX rZ (λe=>e At)
 refine Oe O (PV z1e O O O Av (by simp)) ?_
 rintro w12 ⟨ot,bc⟩
 replace ot:O9 w12 be [I 0] 36:=ot
 refine NU$ py$ qN O$ qV (O6 U36 O O ot O)$ Pz O O$ NU$ It O$ An$ qN O$ NT O$ Oc O$ NZ O$ NV func8 O ?_
 have nw:=im.own bc (λj e=>by
  rw[e];obtain⟨m1,m2,m3,m4⟩:=mf be (by omega)
  exact⟨At,m1,m2,m3,m4,λe2=>(uQ be e2).2 O⟩)
 have tY:=nw.less (X:=λb=>X b\/O_ b) (λb e=>e.elim (As b) (uR b)) ⟨.inl rX.1,.inl rX.2.1,.inl rX.2.2.1,.inl rX.2.2.2⟩ (λb e=> .inr e)
 have cx:RR.new G.g p rounds seed=⟨p,rounds,0,false,Qb G.g.length p seed G.g.length,List.replicate G.g.length 0⟩:=by rw[z5J];rfl
 have ka:Kp (λb=>¬X b) w w5:=bS.kp.NR uL λb e=>e.elim (λe=> .inr λe2=>e (.inl (ey b e2))) (λe=> .inl (by omega))
 have kb:Kp (λb=>¬X b) w w6:=ka.NR qH λb e=>e.elim (λe=> .inr λe2=>e (.inl (.inl (ey b e2)))) (λe=> .inl (by omega))
 have kc:Kp (λb=>¬X b) w w7:=kb.NR eD λb e=>e.elim (λe=> .inr λe2=>e (.inl (.inl (.inl (ey b e2))))) (λe=> .inl (by omega))
 have kd:Kp (λb=>¬X b) w w10:=kc.NR gJ λb e=> .inl (by omega)
 have ke:Kp (λb=>¬X b) w w12:=(kd.trans (aY.Of λb e e2=>e (As b e2))).NR bc λb e=> .inl (by omega)
 refine⟨_,rfl,rr,O_,txt11,List.replicate (G.g.length*mW p) 0,rfl,λb hb=>(uQ b hb).1,?_,λy hy=>?_,ke⟩
 ·rw[II,hl,g7,cx,<-GL,show K+(2*l+ls)=K+l+l+ls by omega];exact tY
 ·rw[II,hl,g7] at hy;rw[Au y (by omega),qv y (by omega),pY y (by omega),nF y (by omega)]
end
abbrev g3:List (List Nat):=[[1],[2],[]]
theorem z7i:R7 g3:=⟨λl hl=>by
 simp only[List.mem_cons,List.not_mem_nil,or_false] at hl
 rcases hl with rfl|rfl|rfl<;>exact⟨by decide,by decide⟩,by decide,by decide⟩
def Xd (i:Nat):RR:=match i with
 |0=>RR.new g3 4 10 0
 |i+1=>(Xd i).step g3
theorem zg9:(Xd 0).done=false:=by decide+kernel
theorem zeB:(Xd 1).done=false:=by decide+kernel
theorem zfo:(Xd 2).done=false:=by decide+kernel
theorem zgU:(Xd 3).done=true:=by decide+kernel
theorem ze0:BlJ g3 (Xd 0):=BlJ.new g3 (by decide) (by decide)
theorem zdj:BlJ g3 (Xd 1):=ze0.step z7i zg9
theorem zdX:BlJ g3 (Xd 2):=zdj.step z7i zeB
theorem zb1:BlJ g3 (Xd 3):=zdX.step z7i zfo
theorem zk8:(Xd 3).t=3:=rfl
theorem zjr:(((Xd 3).sk.getD 0 []).getD 0 0).toNat≠0/\(((Xd 3).sk.getD 0 []).getD 6 0).toNat≠0/\(((Xd 3).sk.getD 0 []).getD 14 0).toNat≠0/\((Xd 3).sk.getD 0 []).length=16:=by decide+kernel
theorem zjy:(Xd 3).PF.getD 2 0=0:=by decide+kernel
theorem z4c {w:World}(hG:O9 w 2 (RB .gamma) 317)(hU:O9 w 3 (RB .unary) 317):Oy prog 19 [] w λv w'=>v= .bool true/\Ext w w':=by
 refine NP (e:=[]) func19 O ntmps19 O O$ qN O$ Oc O$ qM O$ O5 O O (Vl (cs:=[_]) (zs:=[Value.int .u32 0]) OA O7 O (by kernel_rfl) O O O (by decide)) ?_
 rintro _ w1 ⟨b1,rfl,⟨bK,ad,ai⟩,j3⟩
 refine O5 O O (Vl (cs:=[_]) (zs:=[Value.int .u32 0]) OA O7 O (by kernel_rfl) O O O (by decide)) ?_
 rintro _ w2 ⟨b2,rfl,⟨bU,ae,am⟩,cA⟩
 refine O5 O O (Vl (cs:=[_,_,_]) (zs:=[Value.slice none 0 0,Value.slice none 0 0,Value.slice none 0 0]) Up Ro O (by kernel_rfl) O O O (by decide)) ?_
 rintro _ w4 ⟨b4,rfl,⟨fV,az,aI⟩,dl⟩
 have kX:GrM w4 (.slice (some ⟨b4,0,none⟩) 3 3) g3:=by
  refine⟨⟨_,dl.rd,λi l hl=>?_⟩⟩
  match i,hl with
  | 0, hl =>
    cases hl
    exact⟨_,_,rfl,Nat.le_refl _,(j3.rd.ext ae).ext az⟩
  | 1, hl =>
    cases hl
    exact⟨_,_,rfl,Nat.le_refl _,cA.rd.ext az⟩
  | 2, hl =>
    cases hl
    exact⟨none,0,rfl,Nat.le_refl _,⟨rfl,.inl ⟨(none,0),rfl,rfl⟩⟩⟩
  |i+3,hl=>cases hl
 have bS:=(ad.trans ae).trans az
 have z4:=bS.size
 refine Om cf7 O (z7x (g:=g3) z7i (by decide) (by decide) kX (bS.NX hG) (bS.NX hU) 2 0 (by decide) (by decide)) ?_
 rintro _ w5 ⟨W,XX,rfl,hW,aR,ey⟩
 have bO:=bS.trans aR
 have z5:=bO.size
 refine NT O$ P9 O O$ P9 O O$ O5 O O (QU (cs:=[_,_,_,_,_]) z3p O) ?_
 rintro _ w6 ⟨b6,rfl,jP,aH,aO⟩
 have z6:=aH.size
 refine Oe O (P4 (news:=W.v) z3p O O O O aO (by simp)) ?_
 rintro w7 ⟨bN,aD⟩
 have fW:O9 w7 b6 [ptr W.d 0,ptr W.Q.s 0,ptr W.G.k 0,ptr W.T.k 0,I ((200-W.a:Nat):Int)] 32:=bN
 have l7:=bN.lt
 have z7:=aD.size
 have hH:=hW.hg.lt
 have iR:=hW.hg.xk
 have i1:=hH _ iR.1
 have i2:=hH _ iR.2.1
 have i3:=hH _ iR.2.2.1
 have i4:=hH _ iR.2.2.2
 obtain⟨X,hX⟩:∃X:Nat->Prop,(λb=>(XX b/\b≠W.G.rb)\/b=b6)=X:=⟨_,rfl⟩
 have uz:RQ W.G W.Q W.txt W.K X w7:=by
  rw[<-hX];exact(hW.hg.grow aH (Y:=λb=>(XX b/\b≠W.G.rb)\/b=b6) (λj e=>e.imp id λe=>by have:=aO.lt;omega) (λj e=> .inl e)).own aD λj e=>by subst e;exact⟨.inr O,by omega,by omega,by omega,by omega⟩
 have vQ:∀b,b<w.heap.size->X b:=λb hb=>by rw[<-hX];exact .inl ⟨(ey b (by omega)).1,(ey b (by omega)).2.1⟩
 have aj:=hW.gg
 have dz:W.G.g.length=3:=by rw[aj];rfl
 have ha:=hW.a
 have hL:=hW.L
 have MF:=hW.K
 have MG:=hW.gs
 have uU:=hW.ts
 have fu:blL W.G.g.length 4=3:=by rw[dz];decide
 refine Oc O$ qM O$ Og z5L O$ qV (O6 X7 O O fW O)$ Og zah O$ qV (O6 U30 O O fW O)$ Om cf8 O (z1q uz (by omega) (by omega) hW.pre (by omega) (p:=4) (rounds:=10) (seed:=0) (by decide) (by decide) (by decide) (by omega)) ?_
 rintro _ w8 ⟨rr,O_,txt8,ys8,rfl,hO,h8,zS,aS⟩
 have tI:mW 4=2:=by decide
 rw[aj] at h8
 have gS:Ext w w7:=(bO.trans aH).NR aD λb e=>by omega
 have od:Ext w w8:=gS.NR aS λb e=>by
  rcases Nat.lt_or_ge b w.heap.size with h| h
  ·exact absurd (vQ b h) e
  ·exact h
 obtain⟨Y,hY⟩:∃Y:Nat->Prop,(λb=>X b\/O_ b)=Y:=⟨_,rfl⟩
 rw[hY] at h8
 have wh:=gS.size
 have vR:∀b,b<w.heap.size->Y b/\¬O_ b:=λb hb=>⟨by rw[<-hY];exact .inl (vQ b hb),λe=>by have:=hO b e;omega⟩
 have eT:∀{w1 w2:World},Ext w w1->Kp (λb=>¬Y b\/O_ b) w1 w2->Ext w w2:=λhx hk=>hx.NR hk λb e=>by
  rcases Nat.lt_or_ge b w.heap.size with h| h
  ·exact e.elim (λe=>absurd (vR b h).1 e) (λe=>absurd e (vR b h).2)
  ·exact h
 have dQ:∀{w1 w2:World},Ext w w1->Kp (λb=>¬(Y b\/b=W.G.rb)) w1 w2->Ext w w2:=λhx hk=>eT hx (hk.Of λb e=> .inl λe2=>e (.inl e2))
 change QZ TQ W.G _ _ _ Y rr O_ W.a _ (Xd 0,ys8) w8 at h8
 have GR:blL g3.length 4=3:=by decide
 have GS:g3.length=3:=rfl
 obtain⟨K8,NM,h8⟩:∃K8,K8<=1000/\QZ TQ W.G (W.Q.Pw (Pv W.Q.L W.a (blL g3.length 4) true)) txt8 K8 Y rr O_ W.a (blL g3.length 4) (Xd 0,ys8) w8:=⟨W.K+blL g3.length 4+mW 4*g3.length,by rw[GR,tI,GS];omega,h8⟩
 have s1:=UL h8 (by rw[aj];exact ze0.i) (by decide) (by omega) zg9
 rw[aj,show mW (Xd 0).p=2 from tI] at s1
 rw[show(Xd 0).step g3=Xd 1 from rfl,zeB] at s1
 refine NT O$ P9 O O$ P9 O O$ Oc O$ NZ O$ py$ qN O$ NT O$ qV ((Rn O)) ?_
 rw[show(!true)=false from rfl]
 refine Od O O$ Pz O O$ OU O O$ NU$ OD.qb (e:=[(0,_),(3,_),(35,_)]) ?_
 refine It O$ An$ qN O$ NT O$ Om zcx O (s1) ?_
 rintro _ w9 ⟨rfl,txt9,h9,-,aL⟩
 have eY:=eT od aL
 have s2:=UL h9 (by rw[aj];exact zdj.i) (by decide) (by omega) zeB
 rw[aj,show mW (Xd 1).p=2 from tI] at s2
 rw[show(Xd 1).step g3=Xd 2 from rfl,zfo] at s2
 refine NT O$ P9 O O$ P9 O O$ Oc O$ Oc O$ qM O$ NT O$ Om zcx O (s2) ?_
 rintro _ w10 ⟨rfl,txt10,eQ,-,ar⟩
 have bC:=eT eY ar
 have s3:=UL eQ (by rw[aj];exact zdX.i) (by decide) (by omega) zfo
 rw[aj,show mW (Xd 2).p=2 from tI] at s3
 rw[show(Xd 2).step g3=Xd 3 from rfl,zgU] at s3
 refine NT O$ P9 O O$ P9 O O$ Oc O$ Oc O$ qM O$ NT O$ Om zcx O (s3) ?_
 rintro _ w11 ⟨rfl,txt11,im,-,aY⟩
 have aQ:=eT bC aY
 have kH:=z0C im (by rw[aj];exact zb1.i) 0
 have e1:z47 (Xd 3) 0= .tuple #[S ((Xd 3).sk.getD 0 []),I 0]:=by
  unfold z47;rw[if_neg (by rw[zb1.i.n];decide)];rfl
 rw[e1] at kH
 obtain⟨r0,r6,r14,rl⟩:=zjr
 generalize (Xd 3).sk.getD 0 []=z at kH r0 r6 r14 rl
 refine NT O$ P9 O O$ P9 O O$ Oc O$ Oc O$ qM O$ NT O$ Om zhX O (kH) ?_
 rintro _ w12 ⟨rfl,nw,bc⟩
 have aB:=dQ aQ bc
 have qc:=z1D nw 2
 have e2:z38 (Xd 3) 2= .tuple #[u64v 0,I 0]:=by
  unfold z38;rw[if_neg (by rw[zgU];decide),if_neg (by rw[zb1.i.sn];decide),show(2:Int).toNat=2 from rfl,zjy]
 rw[e2] at qc
 refine NT O$ P9 O O$ P9 O O$ Oc O$ NZ O$ OD.qb (e:=[(0,_),(3,_),(5,_),(7,_),(9,_),(10,_),(11,_),(12,_)]) ?_
 refine qN O$ NT O$ Om ziu O (qc) ?_
 rintro _ w13 ⟨rfl,tY,cU⟩
 have ba:=dQ aB cU
 have Aw:=z3P tY
 rw[zk8] at Aw
 refine NT O$ P9 O O$ P9 O O$ Oc O$ Oc O$ qM O$ NT O$ qV ((Rn O))$ Od O O$ qV ((Rn O))$ PT O O$ Od O O$ PT O O$ Od O O ?_
 refine Qe O O$ PT O O$ Od O O$ Qe O O$ PT O O$ Od O O$ Qe O O$ PT O O$ Od O O$ Qe O O$ PT O O$ Od O O$ qV (Sr U9 O)$ Qe O O ?_
 refine Qs$ PT O O$ Od O O$ qV (z0l U9 O O (by omega))$ PD O O$ Qs$ PT O O$ Od O O$ qV (z0l U9 O O (by omega))$ PD O O$ Qs$ PT O O$ Od O O$ qV (z0l U9 O O (by omega)) ?_
 refine PD O O$ Qs$ PT O O$ Od O O$ Om zjU O (Aw) ?_
 rintro _ w13 ⟨rfl,rfl⟩
 refine Qe O O$ PT O O$ NZ O$ OD.qb (e:=[(0,_)]) ?_
 refine NV func19 O ?_
 exact⟨_,rfl,rfl,ba⟩
def Vq (bs:List Bool):List Value:=bs.map λb=>I (if b then 1 else 0)
def Xh (n:Nat)(P:Nat->Prop)(bs:List Bool):Prop:=bs.length=n/\∀u,u<n->(bs[u]? =some true↔P u)
section
variable {n:Nat}{P P':Nat->Prop}{bs:List Bool}
theorem Xh.QX (h:Xh n P bs)(e:∀u,u<n->(P u↔P' u)):Xh n P' bs:=⟨h.1,λu hu=>(h.2 u hu).trans (e u hu)⟩
theorem Xh.set (h:Xh n P bs){x:Nat}(hx:x<n):Xh n (λu=>P u\/u=x) (bs.set x true):=by
 refine⟨by rw[List.length_set];exact h.1,λu hu=>?_⟩
 by_cases e:x=u
 ·subst e;rw[List.getElem?_set_self (by rw[h.1];exact hx)];exact⟨λ_=> .inr O,λ_=>rfl⟩
 ·rw[List.getElem?_set_ne e,h.2 u hu];exact⟨.inl,λh=>h.resolve_right λe2=>e e2.symm⟩
theorem Xh.at_ (h:Xh n P bs){u:Nat}(hu:u<n):∃b,bs[u]? =some b/\(b=true↔P u):=by
 have IJ:u<bs.length:=by rw[h.1];exact hu
 refine⟨_,List.getElem?_eq_getElem IJ,?_⟩
 rw[<-h.2 u hu,List.getElem?_eq_getElem IJ]
 exact⟨λe=>by rw[e],λe=>PJ e⟩
theorem z3x {u:Nat}{b:Bool}(h:bs[u]? =some b):(Vq bs)[u]? =some (I (if b then 1 else 0)):=by
 unfold Vq
 rw[List.getElem?_map,h];rfl
theorem z48 (bs:List Bool)(x:Nat):(Vq bs).set x (I 1)=Vq (bs.set x true):=by
 unfold Vq
 rw[List.map_set];rfl
theorem z2X (bs:List Bool):(Vq bs).length=bs.length:=List.length_map ..
end
theorem z4A {g : List (List Nat)}(ay : R7 g){w : World}{gb go gc v t : Nat}(hg : GrR w gb go g)(hv : v < g.length)(ht : t <= 1000) : Oy prog 11 [.slice (some ⟨gb, go, none⟩) g.length gc, I (v : Int), I (t : Int)] w λr w' => ∃ b c bs, r = .slice (some ⟨b, 0, none⟩) g.length c /\ w.heap.size <= b /\ Sl w' (.slice (some ⟨b, 0, none⟩) g.length c) 3 1 g.length (Vq bs) /\ Xh g.length (Wt g t v) bs /\ Ext w w' := by
 have dF:maxLen=9223372036854775807:=rfl
 have hn:=ay.n
 refine NP (e:=[(0,_),(1,_),(2,_)]) func11 O ntmps11 O O$ qN O$ Oc O$ qM O$ NT O$ Qx Up O$ O5 O O (pmk (c:=g.length) (n:=g.length) Qt Pb O O O (by omega) (by omega) (by omega)) ?_
 rintro _ w1 ⟨b1,rfl,⟨bK,ad,ai⟩,j3⟩
 have GT:Sl w1 (.slice (some ⟨b1,0,none⟩) g.length g.length) 3 1 g.length (Vq (List.replicate g.length false)):=by
  have e:Vq (List.replicate g.length false)=List.replicate g.length (I 0):=by unfold Vq;rw[List.map_replicate];rfl
  rw[e];exact j3
 have ic:Xh g.length (λx=>x=v) ((List.replicate g.length false).set v true):=by
  have h0:Xh g.length (λ_=>False) (List.replicate g.length false):=⟨List.length_replicate,λu hu=>by
   rw[List.getElem?_replicate,if_pos hu];simp⟩
  exact(h0.set hv).QX λu _=>⟨λe=>e.resolve_left id,λe=> .inr e⟩
 have po:(Vq (List.replicate g.length false)).length=g.length:=by rw[z2X,List.length_replicate]
 refine Oc O$ qM O$ Od O O$ qV (P7 Qt Pb O O (by omega))$ Oe O (QH Pb O O O GT (by rw[po];omega)) ?_
 rintro w2 ⟨cA,aq⟩
 rw[Nat.zero_add,Nat.mul_one,show Value.int .i64 1=I 1 from rfl,z48] at cA
 have ae:Ext w w2:=ad.NR aq λb e=>by omega
 refine NU$ py$ qN O$ NZ O$ NQ$ Qm (α:=(Nat×Nat)×List Bool×Nat) (((b1,g.length),(List.replicate g.length false).set v true,0)) (λy=>[(0,.slice (some ⟨gb,go,none⟩) g.length gc),(2,I (t:Int)),(7,.slice (some ⟨y.1.1,0,none⟩) g.length y.1.2),(8,I (y.2.2:Int))]) (λy w'=>y.2.2<=t/\Sl w' (.slice (some ⟨y.1.1,0,none⟩) g.length y.1.2) 3 1 g.length (Vq y.2.1)/\Xh g.length (Wt g y.2.2 v) y.2.1/\w.heap.size<=y.1.1/\Ext w w') (λy=>t-y.2.2) ?hI ?hround
 case hI=>exact⟨Nat.zero_le _,cA,ic.QX λu _=>⟨λe=>Eq.symm e,λe=>Eq.symm e⟩,Nat.le_of_eq bK.symm,ae⟩
 case hround =>
  rintro⟨⟨bi,ci⟩,bs,i⟩ w3 ⟨hi,cj,eN,qt,ah⟩ ih;dsimp only at hi cj eN qt ih⊢
  try dsimp only
  refine py$ qN O$ Od O O$ Py O O$ NU$ O8 O (λhq=>?_)$ λhq=>?_
  ·have WV : i < t := by omega
   refine An$ py$ NQ$ qN O$ O5 O O (Vl (cs:=[]) (zs:=[]) Qt Pb O (by kernel_rfl) O O O (by decide)) ?_;rintro _ w4 ⟨b4,rfl,⟨fV,az,aI⟩,dl⟩;refine NT O$ O5 O O (pap Qt Pb O (by decide) O O dl (cj.ext az).rd (λc hc=>by obtain⟨z,_,rfl⟩:=List.mem_map.1 hc;rfl) (by omega) (by omega)) ?_;rintro v5 w5 ⟨dH,ak,na,-⟩;have DF:=az.size;have Js:=ak.size;rw[List.nil_append,Nat.zero_add] at dH
   obtain⟨b5,c5,rfl⟩:∃b c,v5= .slice (some ⟨b,0,none⟩) g.length c:=by
    rcases dH.shape with⟨-,h⟩|⟨b,c,h,-⟩
    ·omega
    ·exact⟨b,c,h⟩
   have j4:bi<w3.heap.size:=cj.lt O;have JK:=ah.size
   have gQ:b4<=b5:=by
    rcases na b5 O with h| h
    ·have h:b4=b5:=PJ h;omega
    ·omega
   have aR:Ext w w5:=(ah.trans az).NR ak λb e=>by have e:b4=b:=PJ e;omega
   have GU:Sl w5 (.slice (some ⟨bi,0,none⟩) g.length ci) 3 1 g.length (Vq bs):=(cj.ext az).kp ak λb hb e=>by have e:b4=b:=PJ e;have hb:bi=b:=PJ hb;omega
   refine NZ O$ py$ qN O$ NZ O$ NQ$ Qm (α:=List Bool×Nat) ((bs,0)) (λy=>[(0,.slice (some ⟨gb,go,none⟩) g.length gc),(2,I (t:Int)),(7,.slice (some ⟨bi,0,none⟩) g.length ci),(8,I (i:Int)),(9,.slice (some ⟨b5,0,none⟩) g.length c5),(10,I (y.2:Int))]) (λy w'=>y.2<=g.length/\Sl w' (.slice (some ⟨bi,0,none⟩) g.length ci) 3 1 g.length (Vq bs)/\Sl w' (.slice (some ⟨b5,0,none⟩) g.length c5) 3 1 g.length (Vq y.1)/\Xh g.length (λx=>Wt g i v x\/∃u,u<y.2/\Wt g i v u/\x∈Oh g u) y.1/\Ext w w') (λy=>g.length-y.2) ?hI ?hround
   case hI=>exact⟨Nat.zero_le _,GU,dH,eN.QX λx _=>⟨.inl,λe=>e.elim id λe=>e.elim λu e=>absurd e.1 (Nat.not_lt_zero _)⟩,aR⟩
   case hround =>
    rintro⟨ns,u⟩ w6 ⟨hu,Ax,nt,ik,aH⟩ ih2;dsimp only at hu Ax nt ik ih2⊢
    try dsimp only
    refine py$ qN O$ Od O O$ Qx Up O$ Py O O$ NU$ O8 O (λdM=>?_)$ λdM=>?_
    ·have gH : u < g.length := by omega
     have dz:g[u]? =some (Oh g u):=by unfold Oh;rw[List.getElem?_eq_getElem gH];rfl
     have fL:(Oh g u).length<=g.length:=ay.len (List.mem_of_getElem? dz);obtain⟨a,c,du,er⟩:=hg u _ dz;obtain⟨bb,p5,GV⟩:=eN.at_ gH;refine An$ py$ NQ$ qN O$ NZ O$ NQ$ Qm (α:=List Bool×Nat) ((ns,0)) (λy=>[(0,.slice (some ⟨gb,go,none⟩) g.length gc),(2,I (t:Int)),(7,.slice (some ⟨bi,0,none⟩) g.length ci),(8,I (i:Int)),(9,.slice (some ⟨b5,0,none⟩) g.length c5),(10,I (u:Int)),(11,I (y.2:Int))]) (λy w'=>y.2<=(Oh g u).length/\Sl w' (.slice (some ⟨bi,0,none⟩) g.length ci) 3 1 g.length (Vq bs)/\Sl w' (.slice (some ⟨b5,0,none⟩) g.length c5) 3 1 g.length (Vq y.1)/\Xh g.length (λx=>(Wt g i v x\/∃u',u'<u/\Wt g i v u'/\x∈Oh g u')\/(Wt g i v u/\x∈(Oh g u).take y.2)) y.1/\Ext w w') (λy=>(Oh g u).length-y.2) ?hI ?hround
     case hI=>exact⟨Nat.zero_le _,Ax,nt,ik.QX λx _=>⟨.inl,λe=>e.elim id λe=>(by cases e.2)⟩,aH⟩
     case hround =>
      rintro⟨ms,k⟩ w7 ⟨hk,ou,qK,kC,bV⟩ ih3;dsimp only at hk ou qK kC ih3⊢
      obtain⟨z,il,vI⟩:∃z:Int,(z=1↔Wt g i v u)/\w7.cell? ⟨bi,0+u*1,none⟩=some (I z):=by
       refine⟨if bb then 1 else 0,?_,Ps ou.rd (z3x p5)⟩;rw[<-GV];cases bb<;>decide
      try dsimp only
      refine py$ qN O$ Od O O$ NT O$ qV (P7 Up Ro O O (by omega))$ qV (OC OA O O (OS bV du)) ?_;by_cases ig:k<(Oh g u).length
      ·refine Qx OA O$ Py O O$ Qs$ Od O O$ NT O$ qV (P7 Qt Pb O O (by omega))$ qV (OC U3 O O vI) ?_;by_cases hz:z=1
       ·have hW:=il.1 hz;obtain⟨x,hx⟩:∃x,(Oh g u)[k]? =some x:=⟨_,List.getElem?_eq_getElem ig⟩;obtain⟨lb,lo,rfl,rT⟩:=er k x hx;have ju:x<g.length:=QW ay u x (List.mem_of_getElem? hx);refine Qe O O$ Qs$ PT O O$ NU$ Oa O$ An$ py$ NQ$ NW O$ Od O O$ NT O$ qV (P7 Up Ro O O (by omega))$ qV (OC OA O O (OS bV du))$ NT O ?_;refine qV (P7 OA O7 O O (by omega))$ qV (OC OJ O O (OS bV rT))$ qV (P7 Qt Pb O O (by omega))$ Oe O (QH Pb O O O qK (by rw[z2X,kC.1];omega)) ?_;rintro w8 ⟨dX,aS⟩;rw[Nat.zero_add,Nat.mul_one,show Value.int .i64 1=I 1 from rfl,z48] at dX;refine NU$ NS$ NW O$ NT O$ P6 O O$ NZ O ((ih3 (ms.set x true,k+1) _ ⟨ig,ou.kp aS (λb hb e=>by have hb:bi=b:=PJ hb;omega),dX,(kC.set ju).QX λy _=>?_,bV.NR aS λb e=>by omega⟩ (by show(Oh g u).length-(k+1)<(Oh g u).length-k;omega)).qb);show _↔_\/(_/\y∈(Oh g u).take (k+1));rw[OY hx,List.mem_append,List.mem_singleton];constructor
        ·rintro((h|h)|h)
         ·exact .inl h
         ·exact .inr ⟨h.1,.inl h.2⟩
         ·exact .inr ⟨hW,.inr h⟩
        ·rintro(h|⟨h1,h2|h2⟩)
         ·exact .inl (.inl h)
         ·exact .inl (.inr ⟨h1,h2⟩)
         ·exact .inr h2
       ·refine Qe O O$ OR$ PT O O$ NU$ It O$ O4 O$ NS$ NW O$ NT O$ P6 O O$ NZ O ((ih2 (ms,u+1) _ ⟨gH,ou,qK,kC.QX λy _=>?_,bV⟩ (by show g.length-(u+1)<g.length-u;omega)).qb);constructor
        ·rintro((h|⟨u',h1,h2⟩)|h)
         ·exact .inl h
         ·exact .inr ⟨u',Nat.lt_succ_of_lt h1,h2⟩
         ·exact absurd (il.2 h.1) hz
        ·rintro(h|⟨u',h1,h2⟩)
         ·exact .inl (.inl h)
         ·have h1:u'<u+1:=h1;by_cases e:u'=u
          ·subst e;exact absurd (il.2 h2.1) hz
          ·exact .inl (.inr ⟨u',by omega,h2⟩)
      ·have ig:k=(Oh g u).length:=by omega
       subst ig;rw[List.take_length] at kC;refine Qx OA O$ Py O O$ OR$ NT O$ qS$ qS$ qS$ qS$ qS$ OU O O$ NU$ It O$ O4 O$ NS ?_;refine NW O$ NT O$ P6 O O$ NZ O ((ih2 (ms,u+1) _ ⟨gH,ou,qK,kC.QX λy _=>?_,bV⟩ (by show g.length-(u+1)<g.length-u;omega)).qb);constructor
       ·rintro((h|⟨u',h1,h2⟩)|h)
        ·exact .inl h
        ·exact .inr ⟨u',Nat.lt_succ_of_lt h1,h2⟩
        ·exact .inr ⟨u,Nat.lt_succ_self _,h⟩
       ·rintro(h|⟨u',h1,h2⟩)
        ·exact .inl (.inl h)
        ·have h1:u'<u+1:=h1;by_cases e:u'=u
         ·subst e;exact .inr h2
         ·exact .inl (.inr ⟨u',by omega,h2⟩)
    ·have gH:u=g.length:=by omega
     subst gH;refine O4 O$ NW O$ NT O$ NZ O$ NS$ NW O$ NT O$ P6 O O$ NZ O ((ih ((b5,c5),ns,i+1) _ ⟨WV,nt,ik.QX λy hy=>?_,by show w.heap.size<=b5;have:=ah.size;omega,aH⟩ (by show t-(i+1)<t-i;omega)).qb);show _↔Wt g (i+1) v y;rw[Wt.back];constructor
     ·rintro(h|⟨u',h1,h2⟩)
      ·exact .inl h
      ·exact .inr ⟨u',h2⟩
     ·rintro(h|⟨u',h2⟩)
      ·exact .inl h
      ·exact .inr ⟨u',h2.1.lt ay hv,h2⟩
  ·have WV:i=t:=by omega
   subst WV;refine O4 O$ qN O$ NT O$ NZ O$ NV func11 O ?_;exact⟨_,rfl,bi,ci,bs,rfl,qt,cj,eN,ah⟩
theorem ZN {p h:Nat}(hp:p<=64):h*2^p%18446744073709551616=h%2^(64-p)*2^p:=by
 have e:(18446744073709551616:Nat)=2^(64-p)*2^p:=by
  rw[<-Nat.pow_add,show 64-p+p=64 by omega]
 rw[e,Nat.mul_mod_mul_right]
theorem z6f {p h:Nat}(hp:4<=p/\p<=16)(h0:h%2^(64-p)<2^0):RI p h=65-p:=by
 have e:h%2^(64-p)=0:=by omega
 unfold RI
 rw[ZN (by omega),e,Nat.zero_mul,show P3 0=0 from rfl]
 omega
theorem z55 {p h k:Nat}(hp:4<=p/\p<=16)(hk:k<64-p)(h1:h%2^(64-p)<2^(64-p-k))(h2:2^(63-p-k)<=h%2^(64-p)):RI p h=1+k:=by
 unfold RI
 rw[ZN (by omega)]
 have e:P3 (h%2^(64-p)*2^p)=(63-k)+1:=by
  refine Zk ?_ ?_
  ·have:=Nat.mul_le_mul_right (2^p) h2;rw[<-Nat.pow_add,show 63-p-k+p=63-k by omega] at this;exact this
  ·have:=Nat.mul_lt_mul_of_pos_right h1 (show 0<2^p from Nat.pow_pos (by decide));rw[<-Nat.pow_add,show 64-p-k+p=63-k+1 by omega] at this;exact this
 rw[e]
 omega
theorem zaI {p h i:Nat}(hi:i<64-p)(hp:p<=64)(h1:h%2^(64-p)<2^(i+1)):(h / 2^i%2=0/\h%2^(64-p)<2^i)\/(h / 2^i%2=1/\2^i<=h%2^(64-p)):=by
 have e:h / 2^i%2=(h%2^(64-p)) / 2^i%2:=by
  rw[show(64-p)=i+(64-p-i) by omega,Nat.pow_add,Nat.mod_mul_right_div_self];rw[show 2^(64-p-i)=2*2^(64-p-i-1) by rw[<-Nat.pow_succ'];congr 1;omega,Nat.mod_mul_right_mod]
 rw[e]
 have hpos:0<2^i:=Nat.pow_pos (by decide)
 have h2:(h%2^(64-p)) / 2^i<2:=by
  rw[Nat.div_lt_iff_lt_mul hpos,Nat.mul_comm,<-Nat.pow_succ];exact h1
 rcases Nat.lt_or_ge (h%2^(64-p)) (2^i) with h3|h3
 ·exact .inl ⟨by rw[Nat.div_eq_of_lt h3],h3⟩
 ·refine .inr ⟨?_,h3⟩;have:1<=(h%2^(64-p)) / 2^i:=(Nat.le_div_iff_mul_le hpos).2 (by omega);omega
theorem z64 (seed x:Nat)(hs:seed<18446744073709551616)(hx:x<4294967296)(w:World):Oy prog 13 [u64v seed,u64v x] w λv w'=>v=u64v (R4 seed x)/\w'=w:=by
 refine NP (e:=[(0,_),(1,_)]) func13 O ntmps13 O O$ qN O$ Oc O$ qM O$ Od O O$ qV (QP O O) ?_
 rw[Nat.mod_eq_of_lt (show x+1<18446744073709551616 by omega)]
 refine qV (T2 O O) ?_
 generalize jI:(x+1)*11400714819323198485%18446744073709551616=m1
 refine qV (QP O O) ?_
 generalize eS:(seed+m1)%18446744073709551616=a
 have ha:a<18446744073709551616:=by rw[<-eS];exact Nat.mod_lt _ (by decide)
 rw[<-jI] at eS
 clear jI
 refine Oc O$ qM O$ Od O O$ qV (R9 30 1073741824 O O (by decide) O)$ qV (TN O O (by omega) (by omega))$ qV (T2 O O) ?_
 generalize dM:(a^^^a / 1073741824)*13787848793156543929%18446744073709551616=b
 have hb:b<18446744073709551616:=by rw[<-dM];exact Nat.mod_lt _ (by decide)
 refine Oc O$ qM O$ Od O O$ qV (R9 27 134217728 O O (by decide) O)$ qV (TN O O (by omega) (by omega))$ qV (T2 O O) ?_
 generalize sP:(b^^^b / 134217728)*10723151780598845931%18446744073709551616=c
 have hc:c<18446744073709551616:=by rw[<-sP];exact Nat.mod_lt _ (by decide)
 refine Oc O$ qM O$ Od O O$ qV (R9 31 2147483648 O O (by decide) O)$ qV (TN O O (by omega) (by omega))$ NZ O$ NV func13 O ?_
 rw[z44 eS dM sP]
 exact⟨_,rfl,rfl,rfl⟩
theorem z8t (p:Nat)(hp:4<=p/\p<=16)(w:World):Oy prog 9 [I (p:Int)] w λv w'=>v= .tuple #[S (List.replicate (2^p) 0),I 0]/\Ext w w':=by
 have dF:maxLen=9223372036854775807:=rfl
 have hN:2^p<=2^16:=Nat.pow_le_pow_right (by decide) hp.2
 refine NP (e:=[(0,_)]) func9 O ntmps9 O O$ qN O$ Oc O$ NZ O$ py$ qN O$ NT O$ Py O O$ OR$ Od O O$ PD O O$ OR$ OU O O$ NU ?_
 refine It O$ An$ qN O$ NT O ?_
 generalize hq:2^p=N at hN⊢
 refine qV (ysl p N O O (by omega) hq (by omega)) ?_
 rw[Nat.one_mul]
 refine O5 O O (pmk (c:=N) (n:=N) Pc Us O O O (by omega) (by omega) (by omega)) ?_
 rintro _ w1 ⟨b1,rfl,⟨bK,ad,ai⟩,-⟩
 have fd:O9 w1 b1 ((List.replicate N (0:UInt8)).map Rb) 5:=by
  rw[List.map_replicate];exact ai
 refine qV (z18 (l:=List.replicate N 0) Pc U5 U9 O fd (by rw[List.drop_zero];exact List.take_of_length_le (by simp)) List.length_replicate) ?_
 refine Oc O$ NZ O$ NV func9 O ?_
 exact⟨_,rfl,rfl,ad⟩
theorem z8c {p:Nat}{s:NY}(h:Sg p s)(hp:4<=p/\p<=16)(w:World):Oy prog 45 [S s] w λv w'=>v= .tuple #[I (p:Int),I 0]/\w'=w:=by
 have hN:2^p<=2^16:=Nat.pow_le_pow_right (by decide) hp.2
 have hl:=h.1
 refine NP (e:=[(0,_)]) func45 O ntmps45 O O$ qN O$ Oc O$ NZ O$ py$ qN O$ NZ O$ NQ$ Qm (α:=Nat) (4) (λq=>[(0,S s),(4,I (q:Int))]) (λq w'=>w'=w/\4<=q/\q<=p) (λq=>p-q) ?hI ?hround
 case hI=>exact⟨rfl,Nat.le_refl _,hp.1⟩
 case hround =>
  rintro q w1 ⟨rfl,cB,NN⟩ ih;have hQ:2^q<=2^16:=Nat.pow_le_pow_right (by decide) (by omega)
  try dsimp only
  refine py$ qN O$ NT O$ zle O O$ Qs$ NU$ Oa O$ An$ py$ NQ$ py$ qN O$ NT O$ qV (Sr U9 O) ?_;refine NT O ?_;by_cases e:q=p
  ·subst e
   generalize GW:2^q=N at hN hl hQ
   refine qV (ysl q N O O (by omega) GW (by omega)) ?_;rw[Nat.one_mul];refine Pz O O$ OR$ NU$ It O$ An$ py$ qN O$ NZ O$ NQ$ Qm (α:=Nat) (0) (λi=>[(0,S s),(4,I (q:Int)),(5,I (i:Int))]) (λi w'=>w'=w1/\i<=s.length) (λi=>s.length-i) ?hI ?hround
   case hI=>exact⟨rfl,Nat.zero_le _⟩
   case hround=>
    rintro i w4 ⟨rfl,hi⟩ ih2
    try dsimp only
    refine py$ qN O$ Od O O$ qV (Sr U9 O)$ Py O O$ NU$ O8 O (λh0=>?_)$ λh0=>?_
    ·have bX:i<s.length:=by omega
     have hx:(s.getD i 0).toNat<=65-q:=by
      rw[List.getD_eq_getElem?_getD,List.getElem?_eq_getElem bX];exact h.2 _ (List.getElem_mem bX)
     refine An$ py$ NQ$ qN O$ Od O O$ qV (z0l U9 O O bX) ?_
     generalize (s.getD i 0)=c at hx
     refine qV ((z1a O U5 U3 (by decide)))$ NT O$ Qp O O$ PD O O$ OR$ NU$ It O$ An$ NS$ NW O$ NT O$ P6 O O$ NZ O ?_;exact(ih2 (i+1) _ ⟨rfl,by omega⟩ (by omega)).qb
    ·refine O4 O$ qN O$ NT O$ Oc O$ NZ O$ NV func45 O ?_;exact⟨_,rfl,rfl,rfl⟩
  ·have bP:2^p≠2^q:=λe2=>e ((Nat.pow_right_inj (by decide)).1 e2).symm
   generalize GW:2^q=N at hQ bP
   refine qV (ysl q N O O (by omega) GW (by omega)) ?_;rw[Nat.one_mul];refine Pz O O$ Qs$ NU$ Oa O$ O4 O$ NW O$ NT O$ P6 O O$ NZ O ?_;exact(ih (q+1) _ ⟨rfl,by omega,by omega⟩ (by omega)).qb
theorem z4W {p h:Nat}(hp:4<=p/\p<=16)(hh:h<18446744073709551616)(w:World):Oy prog 46 [I (p:Int),u64v h] w λv w'=>v= .int .u8 (RI p h:Int)/\w'=w:=by
 refine NP (e:=[(0,_),(1,_)]) func46 O ntmps46 O O$ qN O$ Oc O$ qM O$ NZ O$ py$ qN O$ NT O$ Qp O O$ NZ O$ NQ ?_
 rw[show(63:Int)-(p:Int)=(63:Int)-(p:Int)-((0:Nat):Int) by omega]
 refine Qm (α:=Nat) (0) (λk=>[(1,u64v h),(5,I ((1+k:Nat):Int)),(6,I ((63:Int)-(p:Int)-(k:Int)))]) (λk w'=>w'=w/\k<=64-p/\h%2^(64-p)<2^(64-p-k)) (λk=>64-p-k) ?hI ?hround
 case hI=>exact⟨rfl,Nat.zero_le _,Nat.mod_lt _ (Nat.pow_pos (by decide))⟩
 case hround=>
  rintro k w1 ⟨rfl,hk,aZ⟩ ih
  try dsimp only
  by_cases e:k=64-p
  ·have hr:=z6f (h:=h) hp (by rw[show 64-p-k=0 by omega] at aZ;exact aZ);refine py$ qN O$ NT O$ SB O O$ OR$ NT O$ qS$ qS$ qS$ qS$ qS$ OU O O$ NU$ It O ?_;refine O4 O$ qN O$ NT O$ qV (z3c O U3 U5)$ NZ O$ NV func46 O ?_;rw[hr,show(1+k)%256=65-p by omega];exact⟨_,rfl,rfl,rfl⟩
  ·have hb:=zaI (p:=p) (h:=h) (i:=63-p-k) (by omega) (by omega) (by rw[show 63-p-k+1=64-p-k by omega];exact aZ);rw[show(63:Int)-(p:Int)-(k:Int)=((63-p-k:Nat):Int) by omega];refine py$ qN O$ NT O$ SB O O$ Qs$ Od O O$ NT O$ qV (R9 (63-p-k) (2^(63-p-k)) O O (by show 63-p-k<=64;omega) O) ?_;refine qV (zfN O O (by omega)) ?_;rcases hb with⟨bK,bU⟩|⟨bK,bU⟩
   ·rw[bK];refine Qe O O$ Qs$ PT O O$ NU$ Oa O$ An$ py$ NQ$ NW O$ NT O$ P6 O O$ NZ O$ NS$ NW O ?_;refine NT O$ Qp O O$ NZ O ((ih (k+1) _ ⟨rfl,by omega,by rw[show 64-p-(k+1)=63-p-k by omega];exact bU⟩ (by omega)).sub ?_);rw[show(63:Int)-(p:Int)-((k+1:Nat):Int)=((63-p-k:Nat):Int)-1 by omega,show 1+(k+1)=1+k+1 by omega];exact(by repeat (first|exact Sub.nil|refine Sub.cons O ?_))
   ·have hr:=z55 hp (by omega) aZ bU;rw[bK];refine Qe O O$ OR$ PT O O$ NU$ It O$ O4 O$ qN O$ NT O$ qV (z3c O U3 U5)$ NZ O$ NV func46 O ?_;rw[hr,show(1+k)%256=1+k by omega];exact⟨_,rfl,rfl,rfl⟩
theorem z9a {p:Nat}{s:NY}(h:Sg p s)(hp:4<=p/\p<=16){x:Nat}(hx:x<18446744073709551616)(w:World):Oy prog 12 [S s,u64v x] w λv w'=>v= .tuple #[S (addN p s x),I 0]/\Ext w w':=by
 have dF:maxLen=9223372036854775807:=rfl
 have hN:2^p<=2^16:=Nat.pow_le_pow_right (by decide) hp.2
 have hl:=h.1
 have ma:Xc p x<s.length:=by rw[hl];exact z0A hp.2 hx
 have Fr:Xc p x<2^p:=z0A hp.2 hx
 have Il:=XR (h:=x) hp
 have vP:addN p s x=s.set (Xc p x) (UInt8.ofNat (max ((s.getD (Xc p x) 0).toNat) (RI p x))):=rfl
 refine NP (e:=[(0,_),(1,_)]) func12 O ntmps12 O O$ qN O$ Oc O$ Oc O$ qM O$ NT O$ Om zjf O (z8c h hp w) ?_
 rintro _ w ⟨rfl,rfl⟩
 refine NT O$ P9 O O$ P9 O O$ Oc O$ NZ O$ py$ qN O$ NT O$ Pz O O$ NU$ It O$ An$ qN O$ NT O ?_
 refine O5 O O (z5t U9 Pc U5 O) ?_
 rintro _ w1 ⟨b1,c1,rest,rfl,⟨bK,ad,ai⟩,du⟩
 refine Oc O$ qM O$ Od O O$ Qp O O ?_
 rw[show(64:Int)-(p:Int)=((64-p:Nat):Int) by omega]
 refine qV (R9 (64-p) (2^(64-p)) O O (by show 64-p<=64;omega) O) ?_
 rw[show x / 2^(64-p)=Xc p x from rfl]
 generalize zN:Xc p x=a at ma Fr vP
 have hg:=Ext.Ob w1
 have Be:w1.cell? ⟨b1,0+a*1,none⟩=some (Rb (s.getD a 0)):=by
  rw[ai.cell,Nat.zero_add,Nat.mul_one,List.getElem?_append_left (by rw[List.length_map];omega),List.getElem?_map,List.getElem?_eq_getElem ma,List.getD_eq_getElem?_getD,List.getElem?_eq_getElem ma];rfl
 refine NZ O$ py$ Oo [11] (λw'=>Ext w1 w') (by kernel_rfl) O$ OW 0 O O (hg)$ OW 1 O O (hg)$ OW 2 O O (hg)$ OW 3 O O (hg)$ Ot 4 O (P7 Pc Us O O (by omega)) hg$ OW 6 O O (hg)$ OW 7 O O (hg)$ qL 5 O (λ_ h=>OC U5 O O (OS h Be)) hg$ Qg (i:=8) (by kernel_rfl)$ QQ (i:=8) O O O (yc zkk O) (z4W hp hx _) ?_
 rintro _ w2 ⟨rfl,rfl⟩
 refine⟨hg,?_⟩
 refine Ot 9 O (ziT O O) hg$ Ot 10 O (P7 Pc Us O O (by omega)) hg$ S8 [11]$ qO 11$ OP (i:=11) O O (PV Us O O O (hg.NX ai) (by rw[List.length_append,List.length_map];omega)) ?_
 rintro w3 ⟨au,aw⟩
 refine⟨trivial,?_⟩
 have dJ:(s.map Rb++rest).set (0+a*1) (.int .u8 (max ((s.getD a 0).toNat:Int) ((RI p x:Nat):Int)))=(addN p s x).map Rb++rest:=by
  rw[vP,Nat.zero_add,Nat.mul_one,List.set_append_left _ _ (by rw[List.length_map];exact ma),List.map_set]
  congr 2
  have h1:=(s.getD a 0).toNat_lt;simp only[Rb,UInt8.toNat_ofNat'];rw[Nat.mod_eq_of_lt (Nat.max_lt.2 ⟨h1,by omega⟩)]
  congr 1
  omega
 rw[dJ] at au
 have ah:Ext w w3:=(ad.trans hg).NR aw λb e=>by omega
 have zO:(addN p s x).length=s.length:=by rw[vP,List.length_set]
 refine qE$ OD.qb (e:=[(4,_),(5,_),(8,_)]) ?_
 refine qN O$ NT O$ qV (z18 (l:=addN p s x) Pc U5 U9 O au (by rw[List.drop_zero,<-zO];exact List.take_left' (by rw[List.length_map])) zO) ?_
 refine Oc O$ NZ O$ NV func12 O ?_
 exact⟨_,rfl,rfl,ah⟩
section
variable {σ:Type}{R:RuK σ}{J:σ->Prop}{w0 w w' w3 w4 w5:World}{g:List (List Nat)}{G G1 G2 G3:GwP}{Q Q1 Q2 Q3 Q':Qz}{txt txt1 txt2 txt3 txt':Int->NY}{K K1 K2 K3 K':Nat}{X X1 X2 X3 Y S' O_ O1 O2 O3:Nat->Prop}{rr r1 a1 r2 a2 a L L1 L2 B:Nat}{s s0 s1 s2:σ}
end
theorem zeG {p:Nat}(h:p<=7):mW p<=16:=by
 have h2:2^p<=2^7:=Nat.pow_le_pow_right (by decide) h
 unfold mW
 omega
theorem zgI {n p:Nat}(hn:n<=40)(h:p<=7):QD (n*mW p) 64<=10/\QD n 64<=1/\blL n p<=21/\mW p*n<=640:=by
 have h1:=zeG h
 have h2:n*mW p<=40*16:=Nat.mul_le_mul hn h1
 have h3:=Zg (n:=n*mW p) (b:=10) (by omega) (by decide)
 have h4:=Zg (n:=n) (b:=1) (by omega) (by decide)
 refine⟨h3,h4,by unfold blL;omega,by rw[Nat.mul_comm];exact h2⟩
theorem zd0 {s:RR}{v:Nat}(hd:s.done=true)(hv:v<s.PF.length):z38 s (v:Int)= .tuple #[u64v (s.PF.getD v 0),I 0]:=by
 unfold z38
 rw[if_neg (by rw[hd];decide),if_neg (by omega),show((v:Int)).toNat=v by omega]
section
variable {w0 w w' w3:World}{g:List (List Nat)}{p r1 r2:Nat}{s1 s2:RR}
end
abbrev pl:Nat:=2147483648
structure zeO (g:List (List Nat)):Prop where
 sym:∀u v,u∈Oh g v->v∈Oh g u
 irr:∀v,v∉Oh g v
/-! ### Cores -/
def insL (x:Nat):List Nat->List Nat
 |[]=>[x]
 |y::l=>if x<y then x::y::l else if x=y then y::l else y::insL x l
theorem ZG {x z:Nat}:∀{l:List Nat},z∈insL x l↔z=x\/z∈l
 |[]=>by simp[insL]
 | y :: l => by
   have ih:=ZG (x:=x) (z:=z) (l:=l);unfold insL;by_cases h1:x<y
   ·rw[if_pos h1];simp
   ·rw[if_neg h1];by_cases h2:x=y
    ·rw[if_pos h2];subst h2;simp
    ·rw[if_neg h2];simp only[List.mem_cons,ih];constructor
     ·rintro(e|e|e)
      ·exact .inr (.inl e)
      ·exact .inl e
      ·exact .inr (.inr e)
     ·rintro(e|e|e)
      ·exact .inr (.inl e)
      ·exact .inl e
      ·exact .inr (.inr e)
theorem z1G {x:Nat}:∀{l:List Nat},List.Pairwise (·<·) l->List.Pairwise (·<·) (insL x l)
 |[],_=>by simp[insL]
 | y :: l, h => by
   obtain⟨h1,h2⟩:=List.pairwise_cons.1 h;unfold insL;by_cases e1:x<y
   ·rw[if_pos e1];refine List.pairwise_cons.2 ⟨λz hz=>?_,h⟩;rcases List.mem_cons.1 hz with e| e
    ·omega
    ·have:=h1 z e;omega
   ·rw[if_neg e1];by_cases e2:x=y
    ·rw[if_pos e2];exact h
    ·rw[if_neg e2];refine List.pairwise_cons.2 ⟨λz hz=>?_,z1G h2⟩;rcases ZG.1 hz with e| e
     ·omega
     ·exact h1 z e
theorem z1x {v:Nat}:∀{l:List Nat} {i:Nat},i<=l.length->(∀(j y:Nat),j<i->l[j]? =some y->y<v)->(∀y:Nat,l[i]? =some y->v<=y)->insL v l=if l[i]? =some v then l else l.take i++v::l.drop i
 | [], i, hi, _, _ => by
   have:i=0:=by simpa using hi
   subst this
   rfl
 | x :: l, 0, _, _, h2 => by
   have hx:=h2 x O;unfold insL;by_cases e:v<x
   ·rw[if_pos e,if_neg (by simp;omega)]
    rfl
   ·have:v=x:=by omega
    subst this;rw[if_neg e,if_pos O]
    exact(if_pos O).symm
 | x :: l, i + 1, hi, h1, h2 => by
   have hx:=h1 0 x (by omega) O;have ih:=z1x (v:=v) (l:=l) (i:=i) (by simpa using hi) (λj y hj hy=>h1 (j+1) y (by omega) (by simpa using hy)) (λy hy=>h2 y (by simpa using hy));unfold insL;rw[if_neg (by omega),if_neg (by omega),ih];have e:(x::l)[i+1]? =l[i]? :=by simp
   rw[e];split
   ·rfl
   ·rfl
def z2b (g:List (List Nat))(e:Nat×Nat):List (List Nat):=g.set e.1 (insL e.2 (Oh g e.1))
def ZY (n:Nat)(es:List (Nat×Nat)):List (List Nat):=es.foldl z2b (List.replicate n [])
theorem Y9 {g:List (List Nat)}{u v:Nat}{l:List Nat}(hu:u<g.length):Oh (g.set u l) v=if u=v then l else Oh g v:=by
 unfold Oh
 by_cases e:u=v
 ·subst e;rw[List.getElem?_set_self hu,if_pos O];rfl
 ·rw[List.getElem?_set_ne e,if_neg e]
structure Yq (n:Nat)(es:List (Nat×Nat))(g:List (List Nat)):Prop where
 len:g.length=n
 mem:∀v u,u∈Oh g v↔(v,u)∈es
 YF:∀v,List.Pairwise (·<·) (Oh g v)
theorem Yq.new {n:Nat}:Yq n [] (List.replicate n []):=by
 have e:∀v,Oh (List.replicate n []) v=[]:=λv=>by
  unfold Oh;rw[List.getElem?_replicate];split<;>rfl
 exact⟨by simp,λv u=>by rw[e];simp,λv=>by rw[e];exact List.Pairwise.nil⟩
theorem Yq.step {n:Nat}{es:List (Nat×Nat)}{g:List (List Nat)}(h:Yq n es g){e:Nat×Nat}(he:e.1<n):Yq n (es++[e]) (z2b g e):=by
 have hl:=h.len
 unfold z2b
 refine⟨by rw[List.length_set];exact hl,λv u=>?_,λv=>?_⟩
 ·rw[Y9 (by omega),List.mem_append,List.mem_singleton];by_cases e2:e.1=v
  ·rw[if_pos e2,ZG,h.mem,e2];constructor
   ·rintro(e3|e3)
    ·right;subst e3;subst e2;rfl
    ·exact .inl e3
   ·rintro(e3|e3)
    ·exact .inr e3
    ·left;rw[<-e3]
  ·rw[if_neg e2,h.mem];constructor
   ·exact .inl
   ·rintro(e3|e3)
    ·exact e3
    ·exact absurd (by rw[<-e3]) e2
 ·rw[Y9 (by omega)];split
  ·exact z1G (h.YF _)
  ·exact h.YF v
theorem zeW {n:Nat}{es:List (Nat×Nat)}(h:∀e∈es,e.1<n):Yq n es (ZY n es):=by
 have key:∀(l p:List (Nat×Nat)) (g:List (List Nat)),Yq n p g->(∀e∈l,e.1<n)->Yq n (p++l) (l.foldl z2b g):=λl=>by
  induction l with
  |nil=>exact λp g hg _=>by rw[List.append_nil];exact hg
  | cons e l ih =>
    intro p g hg hl;rw[List.foldl_cons];have:=ih (p++[e]) _ (hg.step (hl e List.mem_cons_self)) (λx hx=>hl x (List.mem_cons_of_mem _ hx))
    rwa [List.append_assoc] at this
 exact key es [] _ Yq.new h
theorem Yq.gr {n:Nat}{es:List (Nat×Nat)}{g:List (List Nat)}(h:Yq n es g)(hn:n<=60)(he:∀e∈es,e.2<n):R7 g:=by
 have hmem:∀l∈g,∃v,Oh g v=l:=λl hl=>by
  obtain⟨v,hv,e⟩:=List.getElem_of_mem hl;exact⟨v,by unfold Oh;rw[List.getElem?_eq_getElem hv,e];rfl⟩
 have hlt:∀l∈g,∀y∈l,y<g.length:=λl hl y hy=>by
  obtain⟨v,rfl⟩:=hmem l hl;rw[h.len];exact he _ ((h.mem v y).1 hy)
 refine⟨λl hl=>⟨?_,λy hy=>?_⟩,hlt,by rw[h.len];exact hn⟩
 ·obtain⟨v,rfl⟩:=hmem l hl;exact h.YF v
 ·have:=hlt l hl y hy;rw[h.len] at this;omega
theorem Yq.sym {n:Nat}{es:List (Nat×Nat)}{g:List (List Nat)}(h:Yq n es g)(h1:∀a b,(a,b)∈es->(b,a)∈es)(h2:∀a,(a,a)∉es):zeO g:=
 ⟨λu v hu=>(h.mem u v).2 (h1 v u ((h.mem v u).1 hu)),λv hv=>h2 v ((h.mem v v).1 hv)⟩
def z3H (g:List (List Nat)):List (Nat×Nat):=(List.range g.length).flatMap λu=>(Oh g u).flatMap λx=>if x=u then [] else [(x,u),(u,x)]
theorem Xr {g:List (List Nat)}(hg:R7 g)(a b:Nat):(a,b)∈z3H g↔a≠b/\(b∈Oh g a\/a∈Oh g b):=by
 have hl:∀{u x:Nat},x∈Oh g u->u<g.length:=fun {u x} hx=>by
  rcases Nat.lt_or_ge u g.length with e| e
  ·exact e
  ·unfold Oh at hx;rw[List.getElem?_eq_none e] at hx;cases hx
 unfold z3H
 simp only[List.mem_flatMap,List.mem_range]
 constructor
 ·rintro⟨u,hu,x,hx,h⟩;split at h
  ·cases h
  ·rename_i hxu
   simp only[List.mem_cons,List.not_mem_nil,or_false,Prod.mk.injEq] at h;rcases h with⟨rfl,rfl⟩|⟨rfl,rfl⟩
   ·exact⟨hxu,.inr hx⟩
   ·exact⟨λe=>hxu e.symm,.inl hx⟩
 ·rintro⟨hab,h|h⟩
  ·exact⟨a,hl h,b,h,by rw[if_neg (λe=>hab e.symm)];simp⟩
  ·exact⟨b,hl h,a,h,by rw[if_neg hab];simp⟩
def zaV (g:List (List Nat)):List (List Nat):=ZY g.length (z3H g)
theorem zbO {g:List (List Nat)}(hg:R7 g):R7 (zaV g)/\zeO (zaV g)/\(zaV g).length=g.length:=by
 have hb:∀e∈z3H g,e.1<g.length/\e.2<g.length:=λe he=>by
  obtain⟨a,b⟩:=e;obtain⟨-,h|h⟩:=(Xr hg a b).1 he
  ·refine⟨?_,QW hg a b h⟩;rcases Nat.lt_or_ge a g.length with e| e
   ·exact e
   ·unfold Oh at h;rw[List.getElem?_eq_none e] at h;cases h
  ·refine⟨QW hg b a h,?_⟩;rcases Nat.lt_or_ge b g.length with e| e
   ·exact e
   ·unfold Oh at h;rw[List.getElem?_eq_none e] at h;cases h
 have hI:=zeW (n:=g.length) (es:=z3H g) (λe he=>(hb e he).1)
 exact⟨hI.gr hg.n (λe he=>(hb e he).2),hI.sym (λa b h=>by
  rw[Xr hg] at h⊢
  exact⟨λe=>h.1 e.symm,h.2.symm⟩) (λa h=>((Xr hg a a).1 h).1 O),hI.len⟩
theorem zcX {w:World}{s:List Nat}{v:Nat}(MH:s.length<=1000000){a:Option Addr}{c:Nat}(iw:s.length<=c)(hr:Rd w (.slice a s.length c) 1 s.length (s.map OB)):Oy prog 95 [.slice a s.length c,OB v] w λr w'=>∃a' c',r= .slice a' (insL v s).length c'/\(insL v s).length<=c'/\Rd w' (.slice a' (insL v s).length c') 1 (insL v s).length ((insL v s).map OB)/\(∀b,(Value.slice a' (insL v s).length c').ownBlock=some b->(Value.slice a s.length c).ownBlock=some b\/w.heap.size<=b)/\Ext w w':=by
 have dF:maxLen=9223372036854775807:=rfl
 have aW:∀{k y:Nat},s[k]? =some y->∃lb lo,a=some ⟨lb,lo,none⟩/\w.cell? ⟨lb,lo+k*1,none⟩=some (OB y):=fun {k y} hy=>by
  have ig:k<s.length:=by
   rcases Nat.lt_or_ge k s.length with h| h
   ·exact h
   ·rw[List.getElem?_eq_none h] at hy;cases hy
  rcases hr.2 with⟨⟨ca,cc⟩,fY,rG⟩|⟨lb,lo,cap,fY,cQ⟩
  ·omega
  cases fY;exact⟨lb,lo,rfl,cQ (k*1) _ (by rw[Nat.mul_one,List.getElem?_map,hy];rfl)⟩
 refine NP (e:=[(0,_),(1,_)]) func95 O ntmps95 O O$ qN O$ Oc O$ qM O$ NZ O$ py$ NQ$ Rg (λe' w'=>∃k:Nat,e'=[(0,.slice a s.length c),(1,OB v),(5,I (k:Int))]/\k<=s.length/\(∀j y,j<k->s[j]? =some y->y<v)/\(∀y,s[k]? =some y->v<=y)/\w'=w) ?jC$ λjC=>?uv
 case jC =>
  rintro e' w3 ⟨k,rfl,hk,gZ,iM,rfl⟩;have WV:=z1x hk gZ iM;refine py$ py$ OX (λe' w'=>∃q,e'=[(0,.slice a s.length c),(1,OB v),(5,I (k:Int)),(31,.bool q)]/\(q=true↔s[k]? =some v)/\w'=w3) ?ek$ λek=>?iP
  case ek =>
   rintro e' w4 ⟨q,rfl,oV,rfl⟩;refine Po O (λqx=>?_)$ λqx=>?_
   ·rw[if_pos (oV.1 qx)] at WV;rw[WV];refine qN O$ NT O$ NZ O$ NV func95 O ?_;exact⟨_,rfl,a,c,rfl,iw,hr,λb hb=> .inl hb,Ext.refl _⟩
   ·rw [if_neg (λe => by rw [oV.2 e] at qx; cases qx)] at WV; have aj := Ext.Ob w4; have bB := aj.size
    have ll:((s.take k++[v])++s.drop k).length=s.length+1:=by
     rw[List.length_append,List.length_append,List.length_take,List.length_drop,List.length_singleton];omega
    have df:∀(l:List Nat),∀c∈l.map OB,c.oneCell'=true:=λl c hc=>by obtain⟨z,-,rfl⟩:=List.mem_map.1 hc;rfl
    have jN:(s.take k).length=k:=by rw[List.length_take];omega
    have vf:(s.drop k).length=s.length-k:=List.length_drop ..;refine An$ py$ Qj (λw'=>Ext w4 w') O$ Oj 1 O O (aj)$ Oj 2 O O (aj)$ Oj 5 O O (aj)$ Oj 8 O O (aj)$ Oj 9 O O (aj)$ O0 3 O (zaF OA O7 O O (by omega)) aj$ O0 10 O (WL OA O7 O O hk iw) aj$ zfO (i:=0) (j:=6) (by kernel_rfl) ?_ ?_
    ·refine R3 (i:=0) O O O (Vl (cs:=[]) (zs:=[]) OA O7 O (by kernel_rfl) O O O (by decide)) ?_;rintro v6 w6 ⟨b6,rfl,⟨jP,aH,aO⟩,ev⟩;refine⟨aj.trans aH,?_⟩;have zQ:w4.heap.size<=b6:=by omega
     have lb6:=aO.lt;have aj:=aj.trans aH
     try have bA:=bA.ext aH
     have bB:=Nat.le_trans bB aH.size;refine zfO (i:=4) (j:=6) (by kernel_rfl) ?_ ?_
     ·refine R3 (i:=4) O O O (pap OA O7 O (by decide) O O ev ((Sk (i:=k) hr hk).ext aj) (λc hc=>df s c (List.mem_of_mem_take hc)) (by omega) (by omega)) ?_;rintro v10 w10 ⟨bz,ar,bj,-⟩;refine⟨aj.NR ar (λj e=>by have e:b6=j:=PJ e;omega),?_⟩;have aj:=aj.NR ar (λj e=>by have e:b6=j:=PJ e;omega)
      try have bA:=bA.kp ar (λj hj e=>by have e:b6=j:=PJ e;have hj:b16=j:=PJ hj;omega)
      have bj:∀j,v10.ownBlock=some j->w4.heap.size<=j:=λj hj=>by rcases bj j hj with e|e;(have e:b6=j:=PJ e;omega);omega
      have bB:=Nat.le_trans bB ar.size;have o4:=λ(j:Nat) (hj:v10.ownBlock=some j)=>bz.lt hj;refine qO 6$ R3 (i:=6) O O O (Vl (cs:=[_]) (zs:=[Value.int .u32 0]) OA O7 O (by kernel_rfl) O O O (by decide)) ?_;rintro v16 w16 ⟨b16,rfl,⟨o5,aN,gF⟩,bA⟩;refine⟨aj.trans aN,?_⟩;have o6:w4.heap.size<=b16:=by omega
      have aj:=aj.trans aN
      try have ev:=ev.ext aN
      try have bz:=bz.ext aN
      have lb16:=gF.lt;have bB:=Nat.le_trans bB aN.size;refine qO 7$ R3 (i:=7) O O O (pap OA O7 O (by decide) O O bz bA.rd (λc hc=>df [v] c hc) (by omega) (by omega)) ?_;rintro v17 w17 ⟨dZ,cq,bJ,-⟩;refine⟨aj.NR cq (λj e=>bj j e),?_⟩;have aj:=aj.NR cq (λj e=>bj j e);have bJ:∀j,v17.ownBlock=some j->w4.heap.size<=j:=λj hj=>by rcases bJ j hj with e|e;exact bj j e;omega
      have bB:=Nat.le_trans bB cq.size;refine qO 11$ R3 (i:=11) O O O (pap OA O7 O (by decide) O O dZ ((RF (i:=k) hr hk iw).ext aj) (λc hc=>df s c (List.mem_of_mem_drop hc)) (by omega) (by omega)) ?_;rintro v21 w21 ⟨bR,dE,cJ,-⟩;refine⟨aj.NR dE (λj e=>bJ j e),?_⟩;have aj:=aj.NR dE (λj e=>bJ j e);have cJ:∀j,v21.ownBlock=some j->w4.heap.size<=j:=λj hj=>by rcases cJ j hj with e|e;exact bJ j e;omega
      refine O0 12 O (Qq O) aj$ qE ?_;rw[show 0+k+1+(s.length-k)=(insL v s).length by rw[WV,List.length_append,List.length_cons,jN,vf];omega,show([]++List.take k (s.map OB)++[OB v]++List.drop k (s.map OB))=(insL v s).map OB by rw[WV];simp[List.map_take,List.map_drop]] at bR;obtain⟨ra,rc,rfl,-⟩:=bR.rd.shape
      have o7:(insL v s).length<=rc:=by
       rcases bR.shape with⟨e1,e2⟩|⟨gg,cc,e1,e2⟩
       ·omega
       ·cases e1;exact e2
      refine NV func95 O ?_;exact⟨_,rfl,ra,rc,rfl,o7,bR.rd,λb hb=> .inr (cJ b hb),aj⟩
     ·refine R3 (i:=6) O O O (Vl (cs:=[_]) (zs:=[Value.int .u32 0]) OA O7 O (by kernel_rfl) O O O (by decide)) ?_;rintro v16 w16 ⟨b16,rfl,⟨o5,aN,gF⟩,bA⟩;refine⟨aj.trans aN,?_⟩;have o6:w4.heap.size<=b16:=by omega
      have aj:=aj.trans aN
      try have ev:=ev.ext aN
      try have bz:=bz.ext aN
      have lb16:=gF.lt;have bB:=Nat.le_trans bB aN.size;refine qO 4$ R3 (i:=4) O O O (pap OA O7 O (by decide) O O ev ((Sk (i:=k) hr hk).ext aj) (λc hc=>df s c (List.mem_of_mem_take hc)) (by omega) (by omega)) ?_;rintro v10 w10 ⟨bz,ar,bj,-⟩;refine⟨aj.NR ar (λj e=>by have e:b6=j:=PJ e;omega),?_⟩;have aj:=aj.NR ar (λj e=>by have e:b6=j:=PJ e;omega)
      try have bA:=bA.kp ar (λj hj e=>by have e:b6=j:=PJ e;have hj:b16=j:=PJ hj;omega)
      have bj:∀j,v10.ownBlock=some j->w4.heap.size<=j:=λj hj=>by rcases bj j hj with e|e;(have e:b6=j:=PJ e;omega);omega
      have bB:=Nat.le_trans bB ar.size;have o4:=λ(j:Nat) (hj:v10.ownBlock=some j)=>bz.lt hj;refine qO 7$ R3 (i:=7) O O O (pap OA O7 O (by decide) O O bz bA.rd (λc hc=>df [v] c hc) (by omega) (by omega)) ?_;rintro v17 w17 ⟨dZ,cq,bJ,-⟩;refine⟨aj.NR cq (λj e=>bj j e),?_⟩;have aj:=aj.NR cq (λj e=>bj j e);have bJ:∀j,v17.ownBlock=some j->w4.heap.size<=j:=λj hj=>by rcases bJ j hj with e|e;exact bj j e;omega
      have bB:=Nat.le_trans bB cq.size;refine qO 11$ R3 (i:=11) O O O (pap OA O7 O (by decide) O O dZ ((RF (i:=k) hr hk iw).ext aj) (λc hc=>df s c (List.mem_of_mem_drop hc)) (by omega) (by omega)) ?_;rintro v21 w21 ⟨bR,dE,cJ,-⟩;refine⟨aj.NR dE (λj e=>bJ j e),?_⟩;have aj:=aj.NR dE (λj e=>bJ j e);have cJ:∀j,v21.ownBlock=some j->w4.heap.size<=j:=λj hj=>by rcases cJ j hj with e|e;exact bJ j e;omega
      refine O0 12 O (Qq O) aj$ qE ?_;rw[show 0+k+1+(s.length-k)=(insL v s).length by rw[WV,List.length_append,List.length_cons,jN,vf];omega,show([]++List.take k (s.map OB)++[OB v]++List.drop k (s.map OB))=(insL v s).map OB by rw[WV];simp[List.map_take,List.map_drop]] at bR;obtain⟨ra,rc,rfl,-⟩:=bR.rd.shape
      have o7:(insL v s).length<=rc:=by
       rcases bR.shape with⟨e1,e2⟩|⟨gg,cc,e1,e2⟩
       ·omega
       ·cases e1;exact e2
      refine NV func95 O ?_;exact⟨_,rfl,ra,rc,rfl,o7,bR.rd,λb hb=> .inr (cJ b hb),aj⟩
    ·refine R3 (i:=6) O O O (Vl (cs:=[_]) (zs:=[Value.int .u32 0]) OA O7 O (by kernel_rfl) O O O (by decide)) ?_;rintro v16 w16 ⟨b16,rfl,⟨o5,aN,gF⟩,bA⟩;refine⟨aj.trans aN,?_⟩;have o6:w4.heap.size<=b16:=by omega
     have aj:=aj.trans aN
     try have ev:=ev.ext aN
     try have bz:=bz.ext aN
     have lb16:=gF.lt;have bB:=Nat.le_trans bB aN.size;refine qO 0$ R3 (i:=0) O O O (Vl (cs:=[]) (zs:=[]) OA O7 O (by kernel_rfl) O O O (by decide)) ?_;rintro v6 w6 ⟨b6,rfl,⟨jP,aH,aO⟩,ev⟩;refine⟨aj.trans aH,?_⟩;have zQ:w4.heap.size<=b6:=by omega
     have lb6:=aO.lt;have aj:=aj.trans aH
     try have bA:=bA.ext aH
     have bB:=Nat.le_trans bB aH.size;refine qO 4$ R3 (i:=4) O O O (pap OA O7 O (by decide) O O ev ((Sk (i:=k) hr hk).ext aj) (λc hc=>df s c (List.mem_of_mem_take hc)) (by omega) (by omega)) ?_;rintro v10 w10 ⟨bz,ar,bj,-⟩;refine⟨aj.NR ar (λj e=>by have e:b6=j:=PJ e;omega),?_⟩;have aj:=aj.NR ar (λj e=>by have e:b6=j:=PJ e;omega)
     try have bA:=bA.kp ar (λj hj e=>by have e:b6=j:=PJ e;have hj:b16=j:=PJ hj;omega)
     have bj:∀j,v10.ownBlock=some j->w4.heap.size<=j:=λj hj=>by rcases bj j hj with e|e;(have e:b6=j:=PJ e;omega);omega
     have bB:=Nat.le_trans bB ar.size;have o4:=λ(j:Nat) (hj:v10.ownBlock=some j)=>bz.lt hj;refine qO 7$ R3 (i:=7) O O O (pap OA O7 O (by decide) O O bz bA.rd (λc hc=>df [v] c hc) (by omega) (by omega)) ?_;rintro v17 w17 ⟨dZ,cq,bJ,-⟩;refine⟨aj.NR cq (λj e=>bj j e),?_⟩;have aj:=aj.NR cq (λj e=>bj j e);have bJ:∀j,v17.ownBlock=some j->w4.heap.size<=j:=λj hj=>by rcases bJ j hj with e|e;exact bj j e;omega
     have bB:=Nat.le_trans bB cq.size;refine qO 11$ R3 (i:=11) O O O (pap OA O7 O (by decide) O O dZ ((RF (i:=k) hr hk iw).ext aj) (λc hc=>df s c (List.mem_of_mem_drop hc)) (by omega) (by omega)) ?_;rintro v21 w21 ⟨bR,dE,cJ,-⟩;refine⟨aj.NR dE (λj e=>bJ j e),?_⟩;have aj:=aj.NR dE (λj e=>bJ j e);have cJ:∀j,v21.ownBlock=some j->w4.heap.size<=j:=λj hj=>by rcases cJ j hj with e|e;exact bJ j e;omega
     refine O0 12 O (Qq O) aj$ qE ?_;rw[show 0+k+1+(s.length-k)=(insL v s).length by rw[WV,List.length_append,List.length_cons,jN,vf];omega,show([]++List.take k (s.map OB)++[OB v]++List.drop k (s.map OB))=(insL v s).map OB by rw[WV];simp[List.map_take,List.map_drop]] at bR;obtain⟨ra,rc,rfl,-⟩:=bR.rd.shape
     have o7:(insL v s).length<=rc:=by
      rcases bR.shape with⟨e1,e2⟩|⟨gg,cc,e1,e2⟩
      ·omega
      ·cases e1;exact e2
     refine NV func95 O ?_;exact⟨_,rfl,ra,rc,rfl,o7,bR.rd,λb hb=> .inr (cJ b hb),aj⟩
  case iP=>
   refine NW O$ Od O O$ Qx OA O ?_;by_cases oL:k<s.length
   ·obtain⟨y,hy⟩:∃y,s[k]? =some y:=⟨_,List.getElem?_eq_getElem (by omega)⟩;obtain⟨lb,lo,rfl,uu⟩:=aW hy;refine Py O O$ Qs$ Od O O$ NT O$ qV (P7 OA O7 O O (by omega))$ qV (OC OJ O O uu)$ NT O ?_;by_cases vZ:y=v
    ·refine Qe O O$ Qs$ PT O O$ NU ?_;exact(ek _ _ ⟨true,rfl,⟨λ_=>by rw[hy,vZ],λ_=>rfl⟩,rfl⟩).qb
    ·refine Qe O O$ OR$ PT O O$ NU ?_;exact(ek _ _ ⟨false,rfl,⟨λe=>(by cases e),λe=>by rw[hy] at e;exact absurd (PJ e) vZ⟩,rfl⟩).qb
   ·refine Py O O$ OR$ NT O$ qS$ qS$ qS$ qS$ qS$ qS$ OU O O$ NU ?_;exact(ek _ _ ⟨false,rfl,⟨λe=>(by cases e),λe=>by rw[List.getElem?_eq_none (by omega)] at e;cases e⟩,rfl⟩).qb
 case uv=>
  refine Qm (α:=Nat) (0) (λk=>[(0,.slice a s.length c),(1,OB v),(5,I (k:Int))]) (λk w'=>k<=s.length/\(∀j y,j<k->s[j]? =some y->y<v)/\w'=w) (λk=>s.length-k) ?hI ?hround
  case hI=>exact⟨Nat.zero_le _,λj y hj=>absurd hj (Nat.not_lt_zero _),rfl⟩
  case hround=>
   rintro k w3 ⟨hk,gZ,rfl⟩ ih2
   try dsimp only
   refine py$ qN O$ Od O O$ Qx OA O ?_;by_cases ig:k<s.length
   ·obtain⟨y,hy⟩:∃y,s[k]? =some y:=⟨_,List.getElem?_eq_getElem ig⟩;obtain⟨lb,lo,rfl,uu⟩:=aW hy;refine Py O O$ Qs$ Od O O$ NT O$ qV (P7 OA O7 O O (by omega))$ qV (OC OJ O O uu)$ NT O ?_;by_cases Bj:y<v
    ·refine Py O O$ Qs$ PT O O$ NU$ Oa O$ An$ NQ$ NW O$ NT O$ P6 O O$ NZ O$ NS ((ih2 (k+1) _ ⟨by omega,λj z hj hz=>?_,rfl⟩ (by omega)).qb);by_cases e:j=k
     ·subst e;rw[hy] at hz;cases hz;exact Bj
     ·exact gZ j z (by omega) hz
    ·refine Py O O$ OR$ PT O O$ NU$ It O$ O4 O ?_;exact(jC _ _ ⟨k,rfl,hk,gZ,λz hz=>(by rw[hy] at hz;cases hz;omega),rfl⟩).qb
   ·refine Py O O$ OR$ NT O$ qS$ qS$ qS$ qS$ qS$ qS$ OU O O$ NU$ It O$ O4 O ?_;exact(jC _ _ ⟨k,rfl,hk,gZ,λz hz=>(by rw[List.getElem?_eq_none (by omega)] at hz;cases hz),rfl⟩).qb
theorem z9P (n:Nat)(es:List (Nat×Nat)):(ZY n es).length=n:=by
 have key:∀(l:List (Nat×Nat)) (g:List (List Nat)),(l.foldl z2b g).length=g.length:=λl=>by
  induction l with
  |nil=>exact λ_=>rfl
  |cons e l ih=>intro g;rw[List.foldl_cons,ih];unfold z2b;rw[List.length_set]
 unfold ZY
 rw[key,List.length_replicate]
theorem z4k {x:Nat}:∀{l:List Nat},(insL x l).length<=l.length+1
 |[]=>Nat.le_refl _
 | y :: l => by
   unfold insL;have:=z4k (x:=x) (l:=l);split
   ·exact Nat.le_refl _
   ·split<;>simp<;>omega
theorem z8Q {w:World}{n:Nat}(cT:1<=n)(hn:n<=60){ea:Option Addr}{ec:Nat}{es:List (Nat×Nat)}(oN:es.length<=100000)(hb:∀e∈es,e.1<n/\e.2<n)(hE:EdR w ea es):Oy prog 61 [I (n:Int),.slice ea es.length ec] w λv w'=>∃bg,v= .tuple #[.slice (some ⟨bg,0,none⟩) n n,I 0]/\Yw w' bg w.heap.size (ZY n es)/\Ext w w':=by
 have dF:maxLen=9223372036854775807:=rfl
 refine NP (e:=[(0,_),(1,_)]) func61 O ntmps61 O O$ qN O$ Oc O$ NZ O$ py$ qN O$ NT O$ Py O O$ OR$ Od O O$ PD O O$ OR$ OU O O$ NU ?_
 refine It O$ An$ qN O$ NT O$ O5 O O (pmk (c:=n) (n:=n) Up Ro O O O (by omega) (by omega) (by omega)) ?_
 rintro _ w1 ⟨bg,rfl,⟨Ib,ad,ai⟩,-⟩
 have kJ:Yw w1 bg w.heap.size (List.replicate n []):=Yw.new ai
 refine NZ O$ py$ qN O$ NZ O$ NQ$ Qm (α:=Nat) (0) (λi=>[(0,I (n:Int)),(1,.slice ea es.length ec),(6,.slice (some ⟨bg,0,none⟩) n n),(7,I (i:Int))]) (λi w'=>i<=es.length/\Yw w' bg w.heap.size (ZY n (es.take i))/\(∀v,(Oh (ZY n (es.take i)) v).length<=i)/\Ext w w') (λi=>es.length-i) ?hI ?hround
 case hI=>exact⟨Nat.zero_le _,kJ,λv=>by
  rw[List.take_zero];show(Oh (List.replicate n []) v).length<=0;unfold Oh;rw[List.getElem?_replicate]
  split<;>exact Nat.le_refl _,ad⟩
 case hround=>
  rintro i w2 ⟨hi,cK,rC,ae⟩ ih
  try dsimp only
  refine py$ qN O$ Od O O$ Qx U22 O$ Py O O$ NU$ O8 O (λhq=>?_)$ λhq=>?_
  ·have bX:i<es.length:=by omega
   obtain⟨e,he⟩:∃e,es[i]? =some e:=⟨_,List.getElem?_eq_getElem bX⟩;obtain⟨b1,b2⟩:=hb e (List.mem_of_getElem? he);obtain⟨e1,e2,eb,eo,rfl,du,er⟩:=(hE.ext ae) i e he
   have dR:ZY n (es.take (i+1))=z2b (ZY n (es.take i)) e:=by
    unfold ZY;rw[OY he,List.foldl_append];rfl
   obtain⟨g,hg⟩:∃g,ZY n (es.take i)=g:=⟨_,rfl⟩;have dz:g.length=n:=by rw[<-hg];exact z9P _ _
   rw[hg] at cK rC dR
   have MI:g[e.1]? =some (Oh g e.1):=by
    unfold Oh;rw[List.getElem?_eq_getElem (by omega)];rfl
   obtain⟨a,c,fP,iw,dL,Fu⟩:=cK.cell MI;have GX:=rC e.1;obtain⟨s,hs⟩:∃s,Oh g e.1=s:=⟨_,rfl⟩;rw[hs] at fP iw dL Fu GX;refine An$ py$ NQ$ py$ qN O$ Od O O$ qV (P7 U22 T8 O O (by omega))$ Og Wh O$ qV (OC OJ O O du)$ qV (OT O OJ U2 (by omega))$ NT O$ SB O O$ OR$ Od O O ?_;refine NT O$ qV (P7 U22 T8 O O (by omega))$ Og UJ O$ qV (OC OJ O O er)$ qV (OT O OJ U2 (by omega))$ NT O$ SB O O$ OR$ OU O O$ NU$ It O$ An ?_;have aj:=Ext.Ob w2;obtain⟨vs,ln,oR,-⟩:=id cK.ex;have Fx:=cK.lt;have z2:=ae.size;refine Oo [21] (λw'=>Ext w2 w') (by kernel_rfl) O$ OW 0 O O (aj)$ OW 1 O O (aj)$ OW 2 O O (aj)$ Ot 3 O (P7 U22 T8 O O (by omega)) aj$ Ot 4 O (OG Wh O) aj$ OW 6 O O (aj)$ OW 7 O O (aj)$ OW 8 O O (aj)$ Ot 9 O (P7 U22 T8 O O (by omega)) aj$ Ot 10 O (OG Wh O) aj$ OW 14 O O (aj)$ OW 15 O O (aj)$ Ot 16 O (P7 U22 T8 O O (by omega)) aj ?_;refine Ot 17 O (OG UJ O) aj$ qL 5 O (λ_ h=>OC OJ O O (OS h du)) aj$ qL 11 O (λ_ h=>OC OJ O O (OS h du)) aj$ qL 18 O (λ_ h=>OC OJ O O (OS h er)) aj$ Ot 12 O (P7 Up Ro O O (by omega)) aj$ qL 13 O (λ_ h=>OC OA O O (OS h fP)) aj$ Qg (i:=19) (by kernel_rfl)$ QQ (i:=19) O O O (yc zji O) (zcX (by omega) iw (dL.ext aj)) ?_;rintro _ w3 ⟨a',c',rfl,GY,GZ,H0,ah⟩;refine⟨aj.trans ah,?_⟩;have ag:=aj.trans ah;have zg:=aj.size;have gG:=ag.NX ln;refine Ot 20 O (P7 Up Ro O O (by omega)) (aj.trans ah)$ S8 [21]$ qO 21$ OP (i:=21) O O (PV Ro O O O gG (by rw[oR];omega)) ?_;rintro w4 ⟨aI,ao⟩;refine⟨trivial,?_⟩
   have fT:=(cK.ext ag).set ao (f:=e.1) (l:=insL e.2 s) (a:=a') (c:=c') (λvs' h'=>by rw[O9.uniq h' gG];exact aI) (by omega) GY GZ (λj hj=>by
    rcases H0 j hj with e| e
    ·exact Fu j e
    ·omega)
   refine qE$ NS$ NW O$ NT O$ P6 O O$ NZ O ((ih (i+1) _ ⟨by omega,?_,λv=>?_,(ae.trans ag).NR ao (λj e=>by omega)⟩ (by omega)).qb)
   ·rw[dR];unfold z2b;rw[hs];exact fT
   ·rw[dR];unfold z2b;rw[Y9 (by omega),hs];have:=rC v;have:=z4k (x:=e.2) (l:=s);split<;>omega
  ·have bX:i=es.length:=by omega
   subst bX;rw[List.take_length] at cK;refine O4 O$ qN O$ NT O$ Oc O$ NZ O$ NV func61 O ?_;exact⟨_,rfl,bg,rfl,cK,ae⟩
def edC (es:List (Nat×Nat)):List Value:=es.flatMap λe=>[OB e.1,OB e.2]
theorem z6H:∀{es:List (Nat×Nat)} {i:Nat} {e:Nat×Nat},es[i]? =some e->(edC es)[i*2+0]? =some (OB e.1)/\(edC es)[i*2+1]? =some (OB e.2)
 |x::es,0,e,h=>by cases h;exact⟨rfl,rfl⟩
 | x :: es, i + 1, e, h => by
   obtain⟨h1,h2⟩:=z6H (es:=es) (i:=i) (e:=e) (by simpa using h);unfold edC at h1 h2⊢;rw[List.flatMap_cons,List.getElem?_append_right (by simp;omega),List.getElem?_append_right (by simp;omega)];simp only[List.length_cons,List.length_nil];rw[show(i+1)*2+0-(0+1+1)=i*2+0 by omega,show(i+1)*2+1-(0+1+1)=i*2+1 by omega];exact⟨h1,h2⟩
theorem z9q {w:World}{v:Value}{T:TypeId}{es:List (Nat×Nat)}(h:Sl w v T 2 es.length (edC es))(hb:∀e∈es,e.1<4294967296/\e.2<4294967296):∃ea ec,v= .slice ea es.length ec/\EdR w ea es:=by
 obtain⟨a,c,rfl,-⟩:=h.rd.shape
 refine⟨a,c,rfl,λi e he=>?_⟩
 obtain⟨b1,b2⟩:=hb e (List.mem_of_getElem? he)
 have bX:i<es.length:=by
  rcases Nat.lt_or_ge i es.length with h| h
  ·exact h
  ·rw[List.getElem?_eq_none h] at he;cases he
 obtain⟨g1,g2⟩:=z6H he
 rcases h.rd.2 with⟨⟨ca,cc⟩,fY,rG⟩|⟨lb,lo,cap,fY,cQ⟩
 ·omega
 cases fY
 exact⟨b1,b2,lb,lo,rfl,by rw[Nat.add_assoc];exact cQ _ _ g1,by rw[Nat.add_assoc];exact cQ _ _ g2⟩
def z7S (u x:Nat):List (Nat×Nat):=if x=u then [] else [(x,u),(u,x)]
def Tz (g:List (List Nat))(u i:Nat):List (Nat×Nat):=((List.range u).flatMap λu=>(Oh g u).flatMap (z7S u))++((Oh g u).take i).flatMap (z7S u)
theorem z63 (g:List (List Nat))(u:Nat):Tz g u (Oh g u).length=Tz g (u+1) 0:=by
 unfold Tz
 rw[List.take_length,List.range_succ,List.flatMap_append,List.take_zero]
 simp
theorem z5g {g:List (List Nat)}{u i x:Nat}(h:(Oh g u)[i]? =some x):Tz g u (i+1)=Tz g u i++z7S u x:=by
 unfold Tz
 rw[OY h,List.flatMap_append,List.append_assoc]
 simp
theorem z8F (g:List (List Nat)):Tz g g.length 0=z3H g:=by
 unfold Tz z3H z7S
 simp
theorem zbT (a b:List (Nat×Nat)):edC (a++b)=edC a++edC b:=List.flatMap_append ..
theorem zc5 {g:List (List Nat)}(ay:R7 g)(aT:1<=g.length){w:World}{gb go gc:Nat}(hg:GrR w gb go g):Oy prog 31 [.slice (some ⟨gb,go,none⟩) g.length gc] w λv w'=>∃bg,v= .slice (some ⟨bg,0,none⟩) g.length g.length/\Yw w' bg w.heap.size (zaV g)/\Ext w w':=by
 have dF:maxLen=9223372036854775807:=rfl
 have hn:=ay.n
 refine NP (e:=[(0,_)]) func31 O ntmps31 O O$ qN O$ Oc O$ qM O$ NZ O$ py$ qN O$ NZ O$ NQ$ Qm (α:=Nat×Value) ((0,.slice none 0 0)) (λy=>[(0,.slice (some ⟨gb,go,none⟩) g.length gc),(3,y.2),(4,I (y.1:Int))]) (λy w'=>y.1<=g.length/\(Tz g y.1 0).length<=200*y.1/\Sl w' y.2 125 2 (Tz g y.1 0).length (edC (Tz g y.1 0))/\(∀b,y.2.ownBlock=some b->w.heap.size<=b)/\Ext w w') (λy=>g.length-y.1) ?hI ?hround
 case hI=>exact⟨Nat.zero_le _,Nat.le_refl _,Sl.nil _ _ _,λb hb=>(by cases hb),Ext.refl _⟩
 case hround =>
  rintro⟨u,v⟩ w2 ⟨hu,gK,cA,ql,ae⟩ ih;dsimp only at hu gK cA ql ih⊢
  try dsimp only
  refine py$ qN O$ Od O O$ Qx Up O$ Py O O$ NU$ O8 O (λhq=>?_)$ λhq=>?_
  ·have gH:u<g.length:=by omega
   have dz:g[u]? =some (Oh g u):=by unfold Oh;rw[List.getElem?_eq_getElem gH];rfl
   have fL:(Oh g u).length<=g.length:=ay.len (List.mem_of_getElem? dz);refine An$ py$ NQ$ qN O$ NZ O$ NQ$ Qm (α:=Nat×Value) ((0,v)) (λy=>[(0,.slice (some ⟨gb,go,none⟩) g.length gc),(3,y.2),(4,I (u:Int)),(5,I (y.1:Int))]) (λy w'=>y.1<=(Oh g u).length/\(Tz g u y.1).length<=200*u+2*y.1/\Sl w' y.2 125 2 (Tz g u y.1).length (edC (Tz g u y.1))/\(∀b,y.2.ownBlock=some b->w.heap.size<=b)/\Ext w w') (λy=>(Oh g u).length-y.1) ?hI ?hround
   case hI=>exact⟨Nat.zero_le _,gK,cA,ql,ae⟩
   case hround=>
    rintro⟨i,v3⟩ w3 ⟨hi,j4,cj,fS,ah⟩ ih2;dsimp only at hi j4 cj fS ih2⊢;obtain⟨a,c,du,er⟩:=hg u _ dz;have ag:=Ext.Ob w3
    try dsimp only
    refine py$ qN O$ Od O O$ NT O$ qV (P7 Up Ro O O (by omega))$ qV (OC OA O O (OS ah du))$ Qx OA O$ Py O O$ NU$ O8 O (λdM=>?_)$ λdM=>?_
    ·obtain⟨x,hx⟩:∃x,(Oh g u)[i]? =some x:=⟨_,List.getElem?_eq_getElem (by omega)⟩;obtain⟨lb,lo,rfl,rT⟩:=er i x hx;have ju:x<g.length:=QW ay u x (List.mem_of_getElem? hx);have eT:=z5g hx;refine An$ py$ NQ$ qN O$ Od O O$ qV (P7 Up Ro O O (by omega))$ qV (OC OA O O (OS ah du))$ NT O$ qV (P7 OA O7 O O (by omega))$ qV (OC OJ O O (OS ah rT))$ qV (OT O OJ U3 (by omega))$ NT O ?_;by_cases IK:x=u
     ·rw[show z7S u x=[] from if_pos IK,List.append_nil] at eT;refine Pz O O$ OR$ NU$ It O$ An$ NS$ NW O$ NT O$ P6 O O$ NZ O ?_;exact(ih2 (i+1,v3) _ ⟨by omega,by rw[eT];omega,by rw[eT];exact cj,fS,ah⟩ (by omega)).qb
     ·rw[show z7S u x=[(x,u),(u,x)] from if_neg IK] at eT;have z3:=ah.size;have jw:∀{w':World},Kp (λb=>v3.ownBlock=some b) w3 w'->Ext w w':=λhk=>ah.NR hk (λb e=>fS b e);refine Pz O O$ Qs$ NU$ Oa O$ Qj (λw'=>Kp (λb=>v3.ownBlock=some b) w3 w') O$ Oj 0 O O (ag.kp)$ Oj 1 O O (ag.kp)$ Oj 2 O O (ag.kp)$ O0 3 O (P7 Up Ro O O (by omega)) (ag.kp)$ Oj 5 O O (ag.kp)$ Oj 8 O O (ag.kp)$ O0 9 O (z0H O U3 OJ) (ag.kp)$ Oj 11 O O (ag.kp)$ O0 12 O (z0H O U3 OJ) (ag.kp) ?_;refine Oj 13 O O (ag.kp)$ Oj 14 O O (ag.kp)$ O0 15 O (P7 Up Ro O O (by omega)) (ag.kp)$ Oj 17 O O (ag.kp)$ qT 4 O (λ_ h=>OC OA O O (OS (jw h) du)) (ag.kp)$ qT 16 O (λ_ h=>OC OA O O (OS (jw h) du)) (ag.kp)$ O0 6 O (P7 OA O7 O O (by omega)) (ag.kp)$ O0 18 O (P7 OA O7 O O (by omega)) (ag.kp)$ qT 7 O (λ_ h=>OC OJ O O (OS (jw h) rT)) (ag.kp)$ qT 19 O (λ_ h=>OC OJ O O (OS (jw h) rT)) (ag.kp)$ O0 10 O (Rt (cs:=[_,_]) T8 O zdC O O) (ag.kp)$ O0 20 O (Rt (cs:=[_,_]) T8 O zdC O O) (ag.kp) ?_;rw[Nat.mod_eq_of_lt (show u<4294967296 by omega)];refine qO 21$ R3 (i:=21) O O O (Vl (cs:=[_,_,_,_]) (zs:=[Value.int .u32 0,Value.int .u32 0,Value.int .u32 0,Value.int .u32 0]) U22 T8 O (by kernel_rfl) O O O (by decide)) ?_;rintro v4 w4 ⟨b4,rfl,⟨fV,az,aI⟩,dl⟩;refine⟨ag.kp.trans az.kp,?_⟩;have cz:=ag.trans az;refine qO 22$ R3 (i:=22) O O O (pap U22 T8 O (by decide) O O (cj.ext cz) dl.rd (λc hc=>by obtain⟨z,-,rfl⟩:=List.mem_map.1 (show c∈[x,u,u,x].map OB from hc);rfl) (by omega) (by omega)) ?_;rintro v5 w5 ⟨dH,ak,na,-⟩;refine⟨cz.kp.trans ak,?_⟩;have z34:=cz.size;refine O0 23 O (Qq O) (cz.kp.trans ak)$ qE$ NS$ NW O$ NT O$ P6 O O$ NZ O ((ih2 (i+1,v5) _ ⟨by omega,by rw[eT,List.length_append];show _+2<=_;omega,?_,λb hb=>?_,jw (cz.kp.trans ak)⟩ (by omega)).qb)
      ·rw[eT,List.length_append,zbT];exact dH
      ·rcases na b hb with e| e
       ·exact fS b e
       ·omega
    ·have bX:i=(Oh g u).length:=by omega
     subst bX;rw[z63] at j4 cj;refine O4 O$ NS$ NW O$ NT O$ P6 O O$ NZ O ?_;exact(ih (u+1,v3) _ ⟨by show u+1<=g.length;omega,by show(Tz g (u+1) 0).length<=200*(u+1);omega,cj,fS,ah⟩ (by show g.length-(u+1)<g.length-u;omega)).qb
  ·have gH:u=g.length:=by omega
   subst gH;rw[z8F] at gK cA
   have vG:∀e∈z3H g,e.1<g.length/\e.2<g.length:=λe he=>by
    have aZ:∀{u x:Nat},x∈Oh g u->u<g.length:=fun {u x} hx=>by
     rcases Nat.lt_or_ge u g.length with e| e
     ·exact e
     ·unfold Oh at hx;rw[List.getElem?_eq_none e] at hx;cases hx
    obtain⟨a,b⟩:=e;obtain⟨-,h|h⟩:=(Xr ay a b).1 he
    ·exact⟨aZ h,QW ay a b h⟩
    ·exact⟨QW ay b a h,aZ h⟩
   obtain⟨ea,ec,rfl,hE⟩:=z9q cA (λe he=>by have:=vG e he;omega);refine O4 O$ qN O$ NT O$ Qx Up O$ NT O$ Om zkq O (z8Q aT (by omega) (by omega) vG hE) ?_;rintro _ w3 ⟨bg,rfl,ld,ah⟩;refine NT O$ P9 O O$ P9 O O$ Oc O$ Oc O$ qM O$ NT O$ NZ O$ NV func31 O (⟨_,rfl,bg,rfl,?_,ae.trans ah⟩);have z2:=ae.size;obtain⟨vs,h1,h2,h3⟩:=ld.ex
   exact⟨vs,h1,h2,λi l hl=>by
    obtain⟨a,c,g1,g2,g3,g4⟩:=h3 i l hl
    exact⟨a,c,g1,g2,g3,λb hb=>⟨by have:=(g4 b hb).1;omega,(g4 b hb).2⟩⟩⟩
theorem z97 {w:World}{n fr fo p ro:Int}{sd:Nat}{pl:Bool}(hn: -9223372036854775808<=n/\n<=9223372036854775807){ea:Option Addr}{ec:Nat}{es:List (Nat×Nat)}(oN:es.length<=9000000000000000000)(hE:EdR w ea es):Oy prog 6 [.agg #[I n,.slice ea es.length ec,.bool pl,I fr,I fo,I p,I ro,u64v sd]] w λv w'=>∃g bg,v= .slice (some ⟨bg,0,none⟩) g.length g.length/\1<=g.length/\g.length<=40/\R7 g/\(pl=false->zeO g)/\Yw w' bg w.heap.size g/\Ext w w':=by
 refine NP (e:=[(0,_)]) func6 O ntmps6 O O$ qN O$ O5 O O (Qr O (cs:=[I n,.slice ea es.length ec,.bool pl,I fr,I fo,I p,I ro,u64v sd]) O) ?_
 rintro _ w1 ⟨b1,rfl,bK,ad,ai⟩
 have aT:=Ext.Ob w1
 refine NZ O$ py$ Qj (λw'=>Ext w1 w') O$ O0 0 O (OG zf4 O) aT$ qT 1 O (λ_ h=>O6 U3 O O (h.NX ai) O) aT$ O0 3 O (OG zf5 O) aT$ qT 4 O (λ_ h=>O6 U22 O O (h.NX ai) O) aT$ RW 2 O zj5 O (z2m n hn _) ?_
 rintro _ w2 ⟨m,rfl,jI,eg,rfl⟩
 refine⟨aT,?_⟩
 refine RW 5 O zjO O (z89 jI eg oN ((hE.ext ad).ext aT)) ?_
 rintro _ w2 ⟨g,bg,rfl,jD,ay,cK,ae⟩
 refine⟨aT.trans ae,?_⟩
 have aa:=aT.trans ae
 have am:=aa.NX ai
 have aJ:=ad.trans aa
 have il:=ad.size
 have mI:=aT.size
 have H1:Yw w2 bg w.heap.size g:=by
  obtain⟨vs,h1,h2,h3⟩:=cK.ex
  exact⟨vs,h1,h2,λi l hl=>by
   obtain⟨a,c,g1,g2,g3,g4⟩:=h3 i l hl
   exact⟨a,c,g1,g2,g3,λb hb=>⟨by have:=(g4 b hb).1;omega,(g4 b hb).2⟩⟩⟩
 cases pl with
 | true =>
   refine O0 6 O (Qq O) (aT.trans ae)$ qE$ py$ qN O$ Og zaY O$ qV (O6 U4 O O am O)$ NU$ Oa O$ qN O$ NT O$ NZ O$ NV func6 O ?_
   exact⟨_,rfl,g,bg,rfl,by omega,by omega,ay,λe=>by(cases e),H1,aJ⟩
 | false =>
   refine O0 6 O (Qq O) (aT.trans ae)$ qE$ py$ qN O$ Og zaY O$ qV (O6 U4 O O am O)$ NU$ It O$ An$ qN O$ NT O ?_;obtain⟨gb,go,gc,io,kE⟩:=cK.gr.r (by omega);cases io;refine Om zkd O (zc5 ay (by omega) kE) ?_;rintro _ w3 ⟨bs,rfl,ld,ah⟩;obtain⟨k1,k2,k3⟩:=zbO ay;have z02:=aJ.size;refine NZ O$ NV func6 O (⟨_,rfl,zaV g,bs,by rw[k3];rfl,by omega,by omega,k1,λ_=>k2,?_,aJ.trans ah⟩);obtain⟨vs,h1,h2,h3⟩:=ld.ex
   exact⟨vs,h1,h2,λi l hl=>by
    obtain⟨a,c,g1,g2,g3,g4⟩:=h3 i l hl
    exact⟨a,c,g1,g2,g3,λb hb=>⟨by have:=(g4 b hb).1;omega,(g4 b hb).2⟩⟩⟩
theorem zc9 {s:RR}{v:Nat}(hv:v<s.sk.length):z47 s (v:Int)= .tuple #[S (s.sk.getD v []),I 0]:=by
 unfold z47
 rw[if_neg (by omega),show((v:Int)).toNat=v by omega]
structure SkJ (g:List (List Nat))(p rounds seed:Nat)(s:RR):Prop where
 j:BlJ g s
 pe:s.p=p
 re:s.rounds=rounds
 b:z1l g seed s
 z:∀v,v<g.length->Oh g v=[]->s.PF.getD v 0=0
theorem SkJ.new {g:List (List Nat)}{p rounds seed:Nat}(hp:4<=p/\p<=16)(hr:1<=rounds/\rounds<=1000):SkJ g p rounds seed (RR.new g p rounds seed):=
 ⟨.new g hp hr,rfl,rfl,.new hp,λv hv _=>by
  show(List.replicate g.length 0).getD v 0=0
  rw[List.getD_eq_getElem?_getD,List.getElem?_replicate,if_pos hv];rfl⟩
theorem SkJ.step {g:List (List Nat)}{p rounds seed:Nat}{s:RR}(h:SkJ g p rounds seed s)(hg:R7 g)(hd:s.done=false):SkJ g p rounds seed (s.step g):=
 ⟨h.j.step hg hd,h.pe,h.re,h.b.step h.j.i hg,λv hv e=>by
  rw[List.getD_eq_getElem?_getD,z8T e,<-List.getD_eq_getElem?_getD]
  exact h.z v hv e⟩
theorem sketches_ret {w : World}(hG : O9 w 2 (RB .gamma) 317)(hU : O9 w 3 (RB .unary) 317)(n fr fo P ro : Int)(sd : Nat)(plain : Bool)(hn : -9223372036854775808 <= n /\ n <= 9223372036854775807)(kL : -9223372036854775808 <= fr /\ fr <= 9223372036854775807)(zU : -9223372036854775808 <= fo /\ fo <= 9223372036854775807)(hP : -9223372036854775808 <= P /\ P <= 9223372036854775807)(jn : -9223372036854775808 <= ro /\ ro <= 9223372036854775807)(jy : sd < 18446744073709551616){ea : Option Addr}{ec : Nat}{es : List (Nat × Nat)}(oN : es.length <= 9000000000000000000)(hE : EdR w ea es) : Oy prog 3 [.agg #[I n, .slice ea es.length ec, .bool plain, I fr, I fo, I P, I ro, u64v sd]] w λv w' => v = .bool true /\ Ext w w' := by
 have dF:maxLen=9223372036854775807:=rfl
 refine NP (e:=[(0,_)]) func3 O ntmps3 O O$ qN O$ O5 O O (Qr O (cs:=[I n,.slice ea es.length ec,.bool plain,I fr,I fo,I P,I ro,u64v sd]) O) ?_
 rintro _ wn ⟨bn,rfl,mx,ju,vw⟩
 refine Oc O$ qM O$ qV (OE (news:=[I n,.slice ea es.length ec,.bool plain,I fr,I fo,I P,I ro,u64v sd]) U25 O zjB O (vw.cells (n:=8) O) O)$ Om cf6 O (z97 hn oN (hE.ext ju)) ?_
 rintro _ w1 ⟨g,bg,rfl,aT,jx,ay,-,kJ,pa⟩
 have ad:=ju.trans pa
 have mg:=pa.NX vw
 have uS:=kJ.gr
 have q1:=SI P 4 (by decide)
 have q2:=Uh P 4 (by decide)
 have q3:=SI ro 12 (by decide)
 have q4:=Uh ro 12 (by decide)
 refine Oc O$ qM O$ Og zfn O$ qV (O6 U3 O O mg O)$ qV (yrt O O (by decide))$ P6 O O$ qV (yrt O O (by decide)) ?_
 rw[show(P.tmod 4+4).tmod 4=nrm P 4 from rfl]
 obtain⟨p,wM,s6⟩:∃p:Nat,(4:Int)+nrm P 4=(p:Int)/\4<=p/\p<=7:=⟨(4+nrm P 4).toNat,by omega,by omega⟩
 refine P6 O O ?_
 rw[wM]
 refine Oc O$ qM O$ Og zfc O$ qV (O6 U3 O O mg O)$ qV (yrt O O (by decide))$ P6 O O$ qV (yrt O O (by decide)) ?_
 rw[show(ro.tmod 12+12).tmod 12=nrm ro 12 from rfl]
 obtain⟨rn,zt,bH⟩:∃p:Nat,(1:Int)+nrm ro 12=(p:Int)/\1<=p/\p<=12:=⟨(1+nrm ro 12).toNat,by omega,by omega⟩
 refine P6 O O ?_
 rw[zt]
 refine Oc O$ qM O$ NT O$ Og zfi O$ qV (O6 U3 O O mg O)$ Og zev O$ qV (O6 U3 O O mg O)$ Om cf7 O (z7x ay aT jx uS (ad.NX hG) (ad.NX hU) fr fo kL zU) ?_
 rintro _ w5 ⟨W,XX,rfl,hW,aR,ey⟩
 have bO:=ad.trans aR
 have z15:=aR.size
 have z5:=bO.size
 refine NT O$ P9 O O$ P9 O O$ O5 O O (QU (cs:=[_,_,_,_,_]) z3p O) ?_
 rintro _ w6 ⟨b6,rfl,jP,aH,aO⟩
 have z6:=aH.size
 refine Oe O (P4 (news:=W.v) z3p O O O O aO (by simp)) ?_
 rintro w7 ⟨bN,aD⟩
 have fW:O9 w7 b6 [ptr W.d 0,ptr W.Q.s 0,ptr W.G.k 0,ptr W.T.k 0,I ((200-W.a:Nat):Int)] 32:=bN
 have l7:=bN.lt
 have z7:=aD.size
 have lbn:=mg.lt
 have Ay:=aD.NX (aH.NX (aR.NX mg)) (λe=>by omega)
 have hH:=hW.hg.lt
 have iR:=hW.hg.xk
 have i1:=hH _ iR.1
 have i2:=hH _ iR.2.1
 have i3:=hH _ iR.2.2.1
 have i4:=hH _ iR.2.2.2
 obtain⟨X,hX⟩:∃X:Nat->Prop,(λb=>(XX b/\b≠W.G.rb)\/b=b6)=X:=⟨_,rfl⟩
 have uz:RQ W.G W.Q W.txt W.K X w7:=by
  rw[<-hX];exact(hW.hg.grow aH (Y:=λb=>(XX b/\b≠W.G.rb)\/b=b6) (λj e=>e.imp id λe=>by have:=aO.lt;omega) (λj e=> .inl e)).own aD λj e=>by subst e;exact⟨.inr O,by omega,by omega,by omega,by omega⟩
 have vQ:∀b,b<w1.heap.size->X b:=λb hb=>by rw[<-hX];exact .inl ⟨(ey b hb).1,(ey b hb).2.1⟩
 have mC:X b6:=by rw[<-hX];exact .inr O
 have aj:=hW.gg
 have dz:W.G.g.length=g.length:=by rw[aj]
 have ha:=hW.a
 have hL:=hW.L
 have MF:=hW.K
 have MG:=hW.gs
 have uU:=hW.ts
 have dK:=hW.pre
 obtain⟨f1,f2,f3,f4⟩:=zgI (n:=g.length) (p:=p) jx s6.2
 refine NZ O$ OD.qb (e:=[(1,_),(2,_),(3,_),(4,_),(5,_),(6,_),(7,_)]) ?_
 refine qN O$ Og z5L O$ qV ((O6 X7 O O fW O))$ Og zah O$ qV ((O6 U30 O O fW O))$ Od O O$ Og zak O$ qV ((O6 Qy O O Ay O))$ Om cf8 O (z1q uz (by omega) (by omega) dK (by omega) (p:=p) (rounds:=rn) (seed:=sd) ⟨s6.1,by omega⟩ ⟨bH.1,by omega⟩ jy (by rw[dz];omega)) ?_
 rintro _ w9 ⟨rr,O_,txt9,ys9,rfl,MJ,h9,Bn,aL⟩
 rw[aj] at h9
 obtain⟨L0,MK⟩:∃L0,blL g.length p=L0:=⟨_,rfl⟩
 rw[aj] at Bn
 rw[MK] at h9 Bn f3
 obtain⟨Q,hQ⟩:∃Q,W.Q.Pw (Pv W.Q.L W.a L0 true)=Q:=⟨_,rfl⟩
 obtain⟨Y,hY⟩:∃Y:Nat->Prop,(λb=>X b\/O_ b)=Y:=⟨_,rfl⟩
 rw[hQ,hY] at h9
 have qu:∀b,X b->Y b:=λb e=>by rw[<-hY];exact .inl e
 have NO:∀b,O_ b->Y b:=λb e=>by rw[<-hY];exact .inr e
 have z9:=aL.size
 have gV:Ext w1 w9:=((aR.trans aH).NR aD λb e=>by omega).NR aL λb e=>by
  rcases Nat.lt_or_ge b w1.heap.size with h| h
  ·exact absurd (vQ b h) e
  ·exact h
 have vR:∀b,b<w1.heap.size->Y b:=λb hb=>qu b (vQ b hb)
 have Bq:∀b,O_ b->w1.heap.size<=b/\b≠b6:=λb e=>by have:=MJ b e;omega
 have cL:=aL.NX fW (λe=>e mC)
 have ML:=aL.NX Ay (λe=>e (vQ bn lbn))
 have Bo:=ad.NX hG
 have MM:=ad.NX hU
 have MN:SkJ g p rn sd (RR.new g p rn sd):= .new ⟨s6.1,by omega⟩ ⟨bH.1,by omega⟩
 have fO:=zeG s6.2
 have bM:W.a+L0<=W.Q.L.length:=by omega
 have H2:Q.L=Pv W.Q.L W.a L0 true:=by rw[<-hQ];rfl
 have Ir:Q.L.length=W.Q.L.length:=by rw[H2,Pl bM]
 have oT:∀{w' w'':World},Ext w1 w'->Kp (λb=>¬Y b\/O_ b) w' w''->Ext w1 w'':=λhx hk=>hx.NR hk λb e=>by
  rcases Nat.lt_or_ge b w1.heap.size with h| h
  ·exact e.elim (λe=>absurd (vR b h) e) (λe=>(Bq b e).1)
  ·exact h
 have ov:∀{w' w'':World},Kp (λb=>¬Y b\/O_ b) w' w''->O9 w' b6 [ptr W.d 0,ptr W.Q.s 0,ptr W.G.k 0,ptr W.T.k 0,I ((200-W.a:Nat):Int)] 32->O9 w'' b6 [ptr W.d 0,ptr W.Q.s 0,ptr W.G.k 0,ptr W.T.k 0,I ((200-W.a:Nat):Int)] 32:=λhk hB=>hk.NX hB (λe=>e.elim (λe=>e (qu b6 mC)) (λe=>(Bq b6 e).2 O))
 refine NT O$ P9 O O$ P9 O O$ Oc O$ NZ O$ py$ qN O$ NT O$ qV ((Rn O)) ?_
 rw[show(!true)=false from rfl]
 refine Od O O$ Pz O O$ OU O O$ NU$ OD.qb (e:=[(1,_),(2,_),(3,_),(4,_),(5,_),(6,_),(8,_),(65,_)]) ?_
 refine It O$ An$ qN O$ NT O$ Om cf9 O (z8t p ⟨s6.1,by omega⟩ _) ?_
 rintro _ w9b ⟨rfl,qP⟩
 have MO:=h9.ext qP
 have H3:=qP.NX cL
 have H4:=qP.NX ML
 have Az:=gV.trans qP
 refine NT O$ P9 O O$ P9 O O$ Oc O$ Oc O$ qM O$ NZ O$ py$ qN O$ NZ O$ NQ$ Rg (λe' w'=>∃(s:RR),e'=[(3,.slice (some ⟨bg,0,none⟩) g.length g.length),(6,ptr b6 0),(8,ptr rr 0),(12,.bool true)]/\s.done=true/\SkJ g p rn sd s/\(∃txt K ys,QZ TQ W.G Q txt K Y rr O_ W.a L0 (s,ys) w'/\K<=1000000)/\Ext w1 w'/\O9 w' b6 [ptr W.d 0,ptr W.Q.s 0,ptr W.G.k 0,ptr W.T.k 0,I ((200-W.a:Nat):Int)] 32) ?cF$ λcF=>?cR
 case cF=>
  rintro e' w10 ⟨s,rfl,hd,hJ,⟨txt10,K10,ys10,eQ,H5⟩,bC,dr⟩;refine py$ qN O$ NZ O$ NQ$ Qm (α:=Nat) (0) (λv=>[(3,.slice (some ⟨bg,0,none⟩) g.length g.length),(6,ptr b6 0),(8,ptr rr 0),(12,.bool true),(22,I (v:Int))]) (λv w'=>v<=g.length/\QZ TQ W.G Q txt10 K10 Y rr O_ W.a L0 (s,ys10) w'/\Ext w1 w'/\O9 w' b6 [ptr W.d 0,ptr W.Q.s 0,ptr W.G.k 0,ptr W.T.k 0,I ((200-W.a:Nat):Int)] 32) (λv=>g.length-v) ?hI ?hround
  case hI=>exact⟨Nat.zero_le _,eQ,bC,dr⟩
  case hround=>
   rintro v w11 ⟨hv,im,aQ,aX⟩ ih
   try dsimp only
   refine py$ qN O$ Od O O$ Qx Up O$ Py O O$ NU$ O8 O (λhq=>?_)$ λhq=>?_
   ·have dP:v<g.length:=by omega
    have H6:g[v]? =some (Oh g v):=by unfold Oh;rw[List.getElem?_eq_getElem dP];rfl
    have mN:=z1D im (v:Int);rw[zd0 hd (by rw[hJ.j.i.sn];exact dP)] at mN;refine An$ py$ NQ$ qN O$ Od O O$ Om ziu O (mN) ?_;rintro _ w12 ⟨rfl,nw,bc⟩;have s7:Kp (λb=>¬Y b\/O_ b) w11 w12:=bc.Of λb e=> .inl λe2=>e (.inl e2);have aB:=oT aQ s7;have bh:=ov s7 aX;obtain⟨gb,go,gc,io,kE⟩:=(uS.ext aB).r aT;cases io;obtain⟨a,c,du,er⟩:=kE v _ H6;refine NT O$ P9 O O$ P9 O O$ Oc O$ Oc O$ qM O$ NT O$ Pz O O$ OR$ Od O O$ NT O$ qV (P7 Up Ro O O (by omega))$ qV (OC OA O O du) ?_;by_cases hz:Oh g v=[]
    ·have ui:=hJ.z v dP hz;rw[ui,show(Oh g v).length=0 by rw[hz];rfl];refine Qx OA O$ Qe O O$ Qs$ Od O O$ Pz O O$ OR$ PT O O$ OU O O$ NU$ It O$ An$ NS$ NW O$ NT O ?_;refine P6 O O$ NZ O ?_;exact(ih (v+1) _ ⟨by omega,nw,aB,bh⟩ (by omega)).qb
    ·have aF:0<(Oh g v).length:=List.length_pos_iff.2 hz;refine Qx OA O$ Qe O O$ OR$ NT O$ qS$ qS$ OU O O$ OU O O$ NU$ It O$ An$ NS$ NW O$ NT O ?_;refine P6 O O$ NZ O ?_;exact(ih (v+1) _ ⟨by omega,nw,aB,bh⟩ (by omega)).qb
   ·have hg:=Ext.Ob w11;have sD:=z3o (im.ext hg) dK.a2 (by rw[Ir];exact bM) (λi e1 e2=>by rw[H2,QN bM,if_pos ⟨e1,e2⟩]);obtain⟨Q2,pG⟩:∃Q2,Q.Pw (Pv Q.L W.a L0 false)=Q2:=⟨_,rfl⟩;have uT:Q2.L=W.Q.L:=by rw[<-pG];show Pv Q.L W.a L0 false=_;rw[H2,z8H dK bM]
    have wX:Q.s=W.Q.s/\Q.m=W.Q.m:=by rw[<-hQ];exact⟨rfl,rfl⟩
    have gI:Q2.s=W.Q.s/\Q2.m=W.Q.m:=by rw[<-pG];exact wX
    rw[pG] at sD;have i8:∀{w14:World},Kp (λb=>¬Y b\/O_ b) w11.drew w14->Kp (λb=>¬Y b\/O_ b) w11 w14:=λhk=>hg.kp.trans hk;have bA:∀{w14 w16:World},Kp (λb=>¬Y b\/O_ b) w11.drew w14->Ext w14 w16->Kp (λb=>¬Y b\/O_ b) w11 w16:=λhk hx=>(i8 hk).trans hx.kp
    have H7:∀{w14:World} {txt14:Int->NY} (h:RQ W.G Q2 txt14 K10 Y w14),Oy prog 17 [ptr W.Q.s 0] w14 λv w'=>v=ptr W.Q.m 0/\w'=w14:=λh=>by
     have:=h.sp.map;rw[gI.1,gI.2] at this;exact this
    have fB:∀{w14:World} {txt14:Int->NY} (h:RQ W.G Q2 txt14 K10 Y w14),Oy prog 18 [ptr W.Q.m 0] w14 λv w'=>v=I ((200-W.a:Nat):Int)/\Ext w14 w':=λh=>by
     have:=h.sp.room (by rw[uT];exact dK) (by rw[uT];omega);rw[gI.2,uT,hL] at this;exact this
    refine O4 O$ py$ Qj (λw'=>Kp (λb=>¬Y b\/O_ b) w11 w') O$ Oj 0 O O (hg.kp)$ Oj 1 O O (hg.kp)$ Oj 2 O O (hg.kp)$ RW 3 O zjc O (sD) ?_;rintro _ w14 ⟨rfl,txt14,AA,-,MP,cC⟩;refine⟨i8 cC,?_⟩;refine O0 4 O (yeq O O) (i8 cC)$ T4$ O0 5 O (TL O O) (i8 cC)$ Oj 6 O O (i8 cC)$ O0 7 O (OG z5L O) (i8 cC)$ qT 8 O (λ_ h=>O6 X7 O O (ov h aX) O) (i8 cC)$ O0 11 O (OG zeA O) (i8 cC)$ qT 12 O (λ_ h=>O6 U3 O O (ov h aX) O) (i8 cC)$ RW 9 O zj2 O (H7 AA) ?_;rintro _ w15 ⟨rfl,rfl⟩;refine⟨i8 cC,?_⟩;refine RW 10 O zhl O (fB AA) ?_;rintro _ w16 ⟨rfl,aN⟩;refine⟨bA cC aN,?_⟩;refine O0 13 O (yeq O O) (bA cC aN)$ T4$ O0 14 O (TL O O) (bA cC aN)$ Oj 15 O O (bA cC aN)$ RW 16 O zjh O (z4c ((oT aQ (bA cC aN)).NX Bo) ((oT aQ (bA cC aN)).NX MM)) ?_;rintro _ w17 ⟨rfl,dY⟩;refine⟨(bA cC aN).trans dY.kp,?_⟩;refine O0 17 O (TL O O) ((bA cC aN).trans dY.kp)$ O0 18 O (Qq O) ((bA cC aN).trans dY.kp)$ qE$ OD.qb (e:=[(2,_)]) ?_;refine NV func3 O ?_;exact⟨_,rfl,rfl,ad.trans ((oT aQ (bA cC aN)).trans dY)⟩
 case cR =>
  refine Qm (α:=RR) (RR.new g p rn sd) (λs=>[(1,ptr bn 0),(3,.slice (some ⟨bg,0,none⟩) g.length g.length),(5,I (rn:Int)),(6,ptr b6 0),(8,ptr rr 0),(10,S (List.replicate (2^p) 0)),(12,.bool s.done),(13,I ((s.t+1:Nat):Int))]) (λs w'=>SkJ g p rn sd s/\(∃txt K ys,QZ TQ W.G Q txt K Y rr O_ W.a L0 (s,ys) w'/\K<=3000+700*s.t)/\Ext w1 w'/\O9 w' b6 [ptr W.d 0,ptr W.Q.s 0,ptr W.G.k 0,ptr W.T.k 0,I ((200-W.a:Nat):Int)] 32/\O9 w' bn [I n,.slice ea es.length ec,.bool plain,I fr,I fo,I P,I ro,u64v sd] 25) (λs=>100-s.t) ?hI ?hround
  case hI=>exact⟨MN,⟨txt9,_,ys9,MO,by show _<=3000+700*0;omega⟩,Az,H3,H4⟩
  case hround =>
   rintro s w10 ⟨hJ,⟨txt10,K10,ys10,eQ,H5⟩,bC,dr,lL⟩ ih;have iU:=hJ.j.le;have MQ:=hJ.re;have MR:=hJ.pe;have MS:mW s.p<=16:=zeG (by omega)
   try dsimp only
   by_cases hd:s.done=true
   ·rw[hd];refine py$ qN O$ NT O$ qV ((Rn O))$ NT O ?_;rw[show(!true)=false from rfl];refine qS$ qS$ qS$ OU O O$ NU$ It O$ O4 O ?_;exact(cF _ _ ⟨s,rfl,hd,hJ,⟨txt10,K10,ys10,eQ,by omega⟩,bC,dr⟩).qb
   ·have Br : s.done = false := by cases e : s.done with
     |false=>rfl
     |true=>exact absurd e hd
    have aZ:=hJ.j.lt Br;rw[Br];refine py$ qN O$ NT O$ qV ((Rn O))$ NT O ?_;rw[show(!false)=true from rfl];refine Od O O$ zle O O$ Qs$ PT O O$ NU$ Oa O$ An$ py$ NQ$ qN O$ NT O ?_;have s10:=UL eQ (by rw[aj];exact hJ.j.i) (by show s.p<=8;omega) (by omega) Br;rw[aj] at s10;refine Om zcx O (s10) ?_;rintro _ w11 ⟨rfl,txt11,im,Au,aY⟩;have aQ:=oT bC aY;have aX:=ov aY dr;have lN:=aY.NX lL (λe=>e.elim (λe=>e (vR bn lbn)) (λe=>by have:=(Bq bn e).1;omega));have vS:=hJ.step ay Br;obtain⟨s1,dm⟩:∃s1,s.step g=s1:=⟨_,rfl⟩;have iV:s1.t=s.t+1:=by rw[<-dm];rfl
    rw[dm] at im vS;rw[dm];refine NT O$ P9 O O$ P9 O O$ Oc O$ NZ O$ py$ qN O$ NT O$ Pz O O$ NU$ It O$ An$ qN O$ NT O ?_;refine Oc O$ qM O$ NZ O$ NQ$ Qm (α:=Nat) (0) (λv=>[(1,ptr bn 0),(3,.slice (some ⟨bg,0,none⟩) g.length g.length),(5,I (rn:Int)),(6,ptr b6 0),(8,ptr rr 0),(10,S (List.replicate (2^p) 0)),(12,.bool s1.done),(13,I ((s.t+1:Nat):Int)),(16,I (v:Int))]) (λv w'=>v<=g.length/\QZ TQ W.G Q txt11 (K10+40*(mW s.p+1)) Y rr O_ W.a L0 (s1,Uz (mW s.p) s.sk) w'/\Ext w1 w'/\O9 w' b6 [ptr W.d 0,ptr W.Q.s 0,ptr W.G.k 0,ptr W.T.k 0,I ((200-W.a:Nat):Int)] 32/\O9 w' bn [I n,.slice ea es.length ec,.bool plain,I fr,I fo,I P,I ro,u64v sd] 25) (λv=>g.length-v) ?hI ?hround
    case hI=>exact⟨Nat.zero_le _,im,aQ,aX,lN⟩
    case hround =>
     rintro v w12 ⟨hv,nw,aB,bh,fF⟩ ih2
     try dsimp only
     refine py$ qN O$ Od O O$ Qx Up O$ Py O O$ NU$ O8 O (λhq=>?_)$ λhq=>?_
     ·have dP:v<g.length:=by omega
      obtain⟨gb,go,gc,io,kE⟩:=(uS.ext aB).r aT;cases io;refine An$ py$ NQ$ qN O$ Od O O$ NT O$ Om zjI O (z4A ay kE (v:=v) (t:=s.t+1) dP (by omega)) ?_;rintro _ w13 ⟨bi,ci,bs,rfl,qt,te,H8,ba⟩;have lP:=ba.NX fF;refine Oc O$ qM O$ NT O$ NZ O$ py$ qN O$ NZ O$ NQ$ Qm (α:=NY×Nat) ((List.replicate (2^p) 0,0)) (λy=>[(1,ptr bn 0),(3,.slice (some ⟨bg,0,none⟩) g.length g.length),(5,I (rn:Int)),(6,ptr b6 0),(8,ptr rr 0),(10,S (List.replicate (2^p) 0)),(12,.bool s1.done),(13,I ((s.t+1:Nat):Int)),(16,I (v:Int)),(17,.slice (some ⟨bi,0,none⟩) g.length ci),(18,S y.1),(19,I (y.2:Int))]) (λy w'=>y.2<=g.length/\Sg p y.1/\SkP p sd (λx=>x<y.2/\Wt g (s.t+1) v x) y.1/\Ext w13 w') (λy=>g.length-y.2) ?hI ?hround
      case hI=>exact⟨Nat.zero_le _,Sg.none,SkP.none.QX λu=>⟨λe=>e.elim,λe=>absurd e.1 (Nat.not_lt_zero _)⟩,Ext.refl _⟩
      case hround=>
       rintro⟨x,u⟩ w14 ⟨hu,jw,qk,cX⟩ ih3;dsimp only at hu jw qk ih3⊢
       try dsimp only
       refine py$ qN O$ Od O O$ Qx Up O$ Py O O$ NU$ O8 O (λdM=>?_)$ λdM=>?_
       ·have gH:u<g.length:=by omega
        obtain⟨bb,p5,GV⟩:=H8.at_ gH
        obtain⟨z,il,vI⟩:∃z:Int,(z=1↔Wt g (s.t+1) v u)/\w14.cell? ⟨bi,0+u*1,none⟩=some (I z):=by
         refine⟨if bb then 1 else 0,?_,OS cX (Ps te.rd (z3x p5))⟩;rw[<-GV];cases bb<;>decide
        have pF:=cX.NX lP;refine An$ py$ NQ$ qN O$ Od O O$ qV (P7 Qt Pb O O (by omega))$ qV (OC U3 O O vI) ?_;by_cases hW:Wt g (s.t+1) v u
        ·have hz:=il.2 hW;refine Qe O O$ Qs$ NU$ Oa O$ NW O$ NT O$ Og zak O$ qV (O6 Qy O O pF O)$ NT O$ qV ((Pf O U3 Qy (by omega)))$ Om zjW O (z64 sd u jy (by omega) _) ?_;rintro _ w14 ⟨rfl,rfl⟩;refine Om zjQ O (z9a jw ⟨s6.1,by omega⟩ (z0M sd u) _) ?_;rintro _ w15 ⟨rfl,H9⟩;refine NT O$ P9 O O$ P9 O O$ NZ O$ NS$ NW O$ NT O$ P6 O O$ NZ O ((ih3 (addN p x (R4 sd u),u+1) _ ⟨gH,jw.add ⟨s6.1,by omega⟩ _,(qk.add ⟨s6.1,by omega⟩ u).QX λy=>?_,cX.trans H9⟩ (by show g.length-(u+1)<g.length-u;omega)).qb);constructor
         ·rintro(h|rfl)
          ·exact⟨Nat.lt_succ_of_lt h.1,h.2⟩
          ·exact⟨Nat.lt_succ_self _,hW⟩
         ·rintro⟨h1,h2⟩;have h1:y<u+1:=h1;by_cases e:y=u
          ·exact .inr e
          ·exact .inl ⟨by omega,h2⟩
        ·have hz:z≠1:=λe=>hW (il.1 e);refine Qe O O$ OR$ NU$ It O$ An$ NS$ NW O$ NT O$ P6 O O$ NZ O ((ih3 (x,u+1) _ ⟨gH,jw,qk.QX λy=>?_,cX⟩ (by show g.length-(u+1)<g.length-u;omega)).qb);constructor
         ·exact λh=>⟨Nat.lt_succ_of_lt h.1,h.2⟩
         ·rintro⟨h1,h2⟩;have h1:y<u+1:=h1;by_cases e:y=u
          ·subst e;exact absurd h2 hW
          ·exact⟨by omega,h2⟩
       ·have gH:u=g.length:=by omega
        subst gH;have iS:=ba.trans cX;have En:=nw.ext iS;have kH:=z0C En (by rw[aj];exact vS.j.i) (v:Int);rw[zc9 (by rw[vS.j.i.n];exact dP)] at kH;have hb:=vS.b v dP;rw[vS.pe,iV] at hb;have oY:s1.sk.getD v []=x:=hb.uniq (qk.QX λy=>⟨λe=>e.2,λe=>⟨e.lt ay dP,e⟩⟩);rw[oY] at kH;refine O4 O$ qN O$ Od O O$ Om zhX O (kH) ?_;rintro _ w15 ⟨rfl,Dz,fG⟩;have ox:Kp (λb=>¬Y b\/O_ b) w14 w15:=fG.Of λb e=> .inl λe2=>e (.inl e2);refine NT O$ P9 O O$ P9 O O$ Oc O$ Oc O$ qM O$ Od O O$ qV (zjp O O) ?_;rw[show decide (x≠x)=false by simp];refine Od O O$ Pz O O$ OU O O$ NU$ It O$ An$ NS$ NW O$ NT O$ P6 O O$ NZ O ?_;exact(ih2 (v+1) _ ⟨by omega,Dz,oT (aB.trans iS) ox,ov ox (iS.NX bh),ox.NX (iS.NX fF) (λe=>e.elim (λe=>e (vR bn lbn)) (λe=>by have:=(Bq bn e).1;omega))⟩ (by omega)).qb
     ·refine O4 O$ NS$ NW O$ NT O$ P6 O O$ NZ O ((ih s1 _ ⟨vS,⟨txt11,_,_,nw,by rw[iV];omega⟩,aB,bh,fF⟩ (by omega)).sub ?_);rw[iV,show s.t+1+1=s.t+1+1 from rfl];exact(by repeat (first|exact Sub.nil|refine Sub.cons O ?_))
end Go.Proofs.YtgdkbagngobdlaaGreatDoor
namespace Go.Proofs.YtgdkbagngobdlaaGreatDoor
open Go Go.ChangeShapes Go.WideShapes Go.ChangeAt Go.RowKit Go.Proofs.Tryz
theorem law_lifted_tied {H:Type}{enc:TypeId×Value->H}{C:Checked}{os:Os}{f:FuncId}{fn:Func}{s:ChangeSpec}{t:TypeId}{ts:List TypeId}{laid:List (String×DataW Unit)}
  (own:ownKnob C.prog.godebug=none) (started:os.Started) (hl:laidOutB C.prog=true) (noInit:C.prog.inits.idxOf? f=none) (hfn:C.prog.funcs[f]? =some fn)
  (hts:fn.params.toList=ts) (hrd:Y7 C.prog ts=true) (hrt:fn.resultTypes=#[t]) (hb:C.prog.underlying t=some .bool) (hsv:s.vars=[])
  (hpl:(laid.all λx=>x.2.handleName?.isNone)=true)
  (hspec:∀ds:List (DataW H),ds.length=ts.length->s.fn H ds={results:=[.lit (.bool true)],args:=ds})
  (witness:∃(w:World) (tape:Tape) (i:Input),w.os=os/\(w.forCall tape i).Shaped C.prog/\i.vars=[]/\Input.okWide C.prog (w.forCall tape i) .any w.heap.size f i/\
   ((s.pre enc C.prog fn [] false (w.forCall tape i).memory i.args/\laidMetH C.prog laid (w.forCall tape i).memory)/\sizedMet enc C.prog fn (OpenSpec.ofChange s) false (w.forCall tape i).memory i.args)/\({}:Assume).holds C.prog (lone (Frame.enter C.prog f i.args .normal) [] (w.forCall tape i)))
  (hret:∀(W:World) (base:Nat) (args:List Value) (ds:List (DataW H)) (ps:List MemPlace),W.ShapedOpen C.prog->laidMet C.prog laid W->
   (∀(j:Nat) t v,ts[j]? =some t->args[j]? =some v->Value.okWide C.prog W .any base t v)->
   DataW.TrodAll enc C.prog W 0 (λ_=>true) true ts args ds ps->W.noneFrozen ps->
   (DataW.weightsEach C.prog ts ds).all (·<=reachBytes)=true->
   Oy C.prog f args W λv w'=>v= .bool true/\Ext W w'):
  ReturnsInHanded {} C os f .any (λw args=>(s.pre enc C.prog fn [] false w args/\laidMetH C.prog laid w)/\sizedMet enc C.prog fn (OpenSpec.ofChange s) false w args) (s.post enc C.prog fn false true false false):=by
 refine returnsInHanded_of_calls own started noInit witness ?_
 intro w tape i _ hsh _ hok hpre hholds
 obtain⟨_,_,_,fn',hfn',_,_,_,_,hval⟩:=hok
 have e:fn'=fn:=Option.some.inj (hfn'.symm.trans hfn)
 subst e
 obtain⟨⟨⟨ds,gs,before,hw,hc⟩,hx⟩,hz⟩:=hpre
 have hW:=DataW.Whole.of_heap (w':=w.forCall tape i) (by rfl) hw
 have hW':=hW
 have hsz0:(DataW.weightsEach C.prog (fn'.params.toList++s.plain.varTypes C.prog) (ds++gs)).all (·<=reachBytes)=true:=hz.weights hw
 obtain⟨p,q,hA,hV,rfl,hfz,_⟩:=hW
 rw[hsv] at hV
 obtain⟨rfl,rfl⟩:=trodVars_none hV
 rw[hts] at hA
 have hlen:=YY hA
 have hsz:(DataW.weightsEach C.prog ts ds).all (·<=reachBytes)=true:=by
  have hv:s.plain.varTypes C.prog=[]:=by simp[ChangeSpec.plain,DataSpec.varTypes,hsv]
  rw[hts,hv,List.append_nil,List.append_nil] at hsz0;exact hsz0
 have hL:laidMet C.prog laid (w.forCall tape i):=by
  rw[MakeChecks.laidMetH_plain _ _ _ hpl] at hx;exact hx.of_heap (by rfl)
 have hr:=hret _ w.heap.size i.args.toList ds p hsh hL (λj t v h1 h2=>hval j t v (by rw[<-hts] at h1;simpa using h1) (by simpa using h2)) hA (by rw[List.append_nil] at hfz;exact hfz) hsz
 unfold Oy at hr;rw[Array.toArray_toList] at hr
 refine Calls.mono hr λx W' ⟨v,hx,hv,hext⟩=>?_
 subst hx;subst hv
 have bel:=hext.below
 refine ChangeSpec.post_blind ⟨ds,[],p++[],[],p,[],hW',?_,?_,?_,bel.frame _,λh=>by cases h⟩
 ·rw[List.append_nil,hspec ds hlen,hrt];exact trodAll_mk1 (shut_bool hb _)
 ·rw[List.append_nil,hspec ds hlen,hts];exact WC hl bel hrd hA
 ·rw[hsv,List.append_nil,hspec ds hlen]
  rfl
theorem pair_cells {P:Program}{W:World}{t fuel:Nat}{cs:Array Value}{f0 f1:Field}{ka kb:IntKind}{a b:Int}{p:List MemPlace}(hs:P.underlying t=some (.struct #[f0,f1]))(hc:P.cellsOf t=2)(o0:f0.offset=0)(o1:f1.offset=1)
  (c0:P.cellsOf f0.type=1) (c1:P.cellsOf f1.type=1) (u0:P.underlying f0.type=some (.int ka)) (u1:P.underlying f1.type=some (.int kb))
  (hd:DataW.trod (λ_=>()) P W 0 (λ_=>true) false fuel t cs.toList=some (.agg [.lit (.int ka a),.lit (.int kb b)],p)):cs.toList=[.int ka a,.int kb b]:=by
 obtain⟨y0,y1,n,hx,hl,h0,h1⟩:=trod_struct2 hs hd
 obtain⟨v0,e0,rfl,-⟩:=DataW.trod_int u0 h0
 obtain⟨v1,e1,rfl,-⟩:=DataW.trod_int u1 h1
 rw[hc] at hl
 rw[o0,c0] at e0
 rw[o1,c1] at e1
 simp at hx
 obtain⟨⟨rfl,rfl⟩,-⟩:=hx
 match hcs:cs.toList,hl with
 | [x, y], _ =>
   rw[hcs] at e0 e1;simp at e0 e1;rw[e0,e1]
theorem z6J {P:Program}{W:World}{n:String}{g T:Nat}{cs:Array Value}{l:List Value}(hW:W.ShapedOpen P)(hgs:g<P.globals.size)(hz:(((begin P (λ_ _=>0) default).world.heap[g]?).bind Obj.row?).map (·.2)=some T)(hg:P.globalNamed n=some g)(hv:W.var? P n=some cs)(hcs:cs.toList=l):O9 W g l T:=by
 cases hr:((begin P (λ_ _=>0) default).world.heap[g]?).bind Obj.row? with
 |none=>rw[hr] at hz;cases hz
 | some x =>
   obtain⟨z,t⟩:=x;rw[hr] at hz;obtain rfl:t=T:=Option.some.inj hz;obtain⟨c,hh,-,-⟩:=hW.1 g z t hgs hr;simp only[World.var?,hg,Option.bind_some,hh] at hv;have hc:c=cs:=by simpa using hv
   subst hc;refine⟨(0,0),by rw[hh,<-hcs],λi _ e=>by simp at e⟩
theorem laid_two {W:World}{laid:List (String×DataW Unit)}(hlaid:laid=[("wattle/list.gamma",.agg [.lit (.int .u8 1),.lit (.int .u64 0)]),("wattle/list.unary",.agg [.lit (.int .u8 0),.lit (.int .u64 0)])])(hW:W.ShapedOpen prog)(h:laidMet prog laid W):O9 W 2 [.int .u8 1,.int .u64 0] 317/\O9 W 3 [.int .u8 0,.int .u64 0] 317:=by
 subst hlaid
 obtain⟨ps,hL,-,hB⟩:=h
 obtain⟨g0,t0,cs0,fuel0,p0,q0,hg0,ht0,hv0,hd0,hL,hps⟩:=hL
 obtain⟨g1,t1,cs1,fuel1,p1,q1,hg1,ht1,hv1,hd1,hL,hqs⟩:=hL
 obtain rfl:=Option.some.inj ((show prog.globalNamed "wattle/list.gamma"=some 2 by kernel_rfl).symm.trans hg0)
 obtain rfl:=Option.some.inj ((show prog.globalNamed "wattle/list.unary"=some 3 by kernel_rfl).symm.trans hg1)
 obtain rfl:=Option.some.inj ((show(prog.globals[2]?).map (·.type)=some 317 by kernel_rfl).symm.trans ht0)
 obtain rfl:=Option.some.inj ((show(prog.globals[3]?).map (·.type)=some 317 by kernel_rfl).symm.trans ht1)
 have e0:=pair_cells underlying317 (by kernel_rfl) O O (by kernel_rfl) (by kernel_rfl) underlying5 underlying23 hd0
 have e1:=pair_cells underlying317 (by kernel_rfl) O O (by kernel_rfl) (by kernel_rfl) underlying5 underlying23 hd1
 exact⟨z6J hW (show 2<prog.globals.size from of_decide_eq_true (by kernel_rfl)) (by kernel_rfl) hg0 hv0 e0,z6J hW (show 3<prog.globals.size from of_decide_eq_true (by kernel_rfl)) (by kernel_rfl) hg1 hv1 e1⟩
noncomputable def limWorld (os:Os):World:=
 let w0:=World.holding prog os ⟨#[],#[],[]⟩
 { w0 with heap := w0.heap.modify 2 fun
   | .cells _ t frozen=> .cells #[.int .u8 1,.int .u64 0] t frozen
   |o=>o}
end Go.Proofs.YtgdkbagngobdlaaGreatDoor
