/- Merged by program. -/
import Derived.Test.YtpldpcjdjcgicaaGreatDoorBTp8
import Derived.SizedLaws
import Derived.Carry
import Derived.ProofKit
import Derived.OpenShut
import Derived.ShutString
import Derived.ChangeOld
import Derived.Below
import Derived.Deep.SlicePairs
import Derived.LaidLaws
import Derived.MakeChecks
import Derived.Handed
set_option linter.all false
set_option maxRecDepth 1000000
set_option maxHeartbeats 16000000
namespace Go.Proofs.YtpldpcjdjcgicaaGreatDoor
open Go Go.RowKit
section
variable {G:WG}{w w':World}{Q Q':NZ}{txt txt':Int->Bytes}{K K':Nat}{X Y S':Nat->Prop}{rr vb sv t t':Nat}{dn dn':Bool}{xs ys:List Nat}
theorem Qo.set (h:Qo G Q txt K X rr vb sv t dn xs w)(hk:Kp (λb=>b=rr) w w')(hB:LX w' rr (bfC t' dn' G.k vb false) 88)(ht:t'<=1000000):Qo G Q txt K X rr vb sv t' dn' xs w':=
 ⟨h.g.own hk (λj e=>by rw[e];exact⟨h.xr.1,h.ne.2.1,h.ne.2.2.1,h.ne.2.2.2.1,h.ne.2.2.2.2.1⟩),hB,h.vec.kp hk (λe=>h.ne.1 e.symm),h.xr,h.ne,h.RT,h.len,h.n,ht⟩
theorem RZ (h:Qo G Q txt K X rr vb sv t false xs w)(hK:K<=800000000000)(cK:1<=G.g.length)(ht:t<1000000):Mm Tryz.prog 11 [ptr rr 0] w λv w'=>v= .tuple #[.bool (!(Y0 t G.g xs).2),I 0]/\∃txt',Qo G Q txt' (K+3200) X rr vb sv (t+1) (!(Y0 t G.g xs).2) (Y0 t G.g xs).1 w'/\(∀y:Int,y<(sv:Int)\/(sv:Int)+(Q8 xs.length 128:Int)<=y->txt' y=txt y)/\Kp (λb=>¬X b\/b=rr) w w':=by
 have hB:=h.cells
 have mq:=z0q h hK cK
 obtain⟨q,hq⟩:∃q,Y0 t G.g xs=q:=⟨_,rfl⟩
 obtain⟨ys,sm⟩:=q
 rw[hq] at mq⊢
 dsimp only at mq⊢
 refine It (e:=[(0,_)]) Tryz.func11 rfl Tryz.ntmps11 rfl rfl (qN rfl (M6 rfl (LU rfl (run_seq (qN rfl (LM rfl (Mb z9j rfl (Rn h) ?_)))))))
 rintro _ w ⟨rfl,rfl⟩
 refine M6 rfl (qM rfl (LM rfl (MY rfl rfl (LO (An rfl (py (run_seq (qN rfl (LM rfl (Mp rfl (M0 Qn rfl (M0 XH rfl (qV (LR U4 rfl rfl hB rfl) ?_)))))))))))))
 refine LO (An rfl (py (qN rfl (LM rfl (Mb zeK rfl (mq) ?_)))))
 rintro _ w1 ⟨rfl,txt1,h1,qF,aK⟩
 have ai:=h1.cells
 refine LM rfl (MW rfl rfl (MW rfl rfl (M6 rfl (LU rfl (run_seq (qN rfl (LM rfl (MY rfl rfl (LO (An rfl (py (qN rfl (LM rfl ?_)))))))))))))
 refine Mp rfl (M0 Qn rfl (M0 Vk rfl (qV (LR U3 rfl rfl ai rfl) (MK rfl rfl (Mp rfl (M0 Qn rfl (M0 Vk rfl ?_)))))))
 rw[show(t:Int)+1=((t+1:Nat):Int) by omega]
 refine M1 rfl (NC MO rfl rfl rfl ai (by simp)) ?_
 rintro w2 ⟨am,ao⟩
 have h2:=h1.set ao (t':=t+1) (dn':=false) am (by omega)
 have dK:=h2.cells
 refine LO (Mn.qb (e:=[(0,_),(2,_),(3,_),(5,_)]) ?_)
 refine qN rfl (M4 rfl rfl (qV ((by first|exact ML rfl|exact Oh rfl)) ?_))
 refine Mp rfl (M0 Qn rfl (M0 XH rfl (M1 rfl (NC RX rfl rfl rfl dK (by simp)) ?_)))
 rintro w3 ⟨aq,ar⟩
 have h3:=h2.set ar (t':=t+1) (dn':= !sm) aq (by omega)
 have ir:=h3.cells
 refine qM rfl (LM rfl (Mp rfl (M0 Qn rfl (M0 XH rfl (qV (LR U4 rfl rfl ir rfl) (M6 rfl (LU rfl (LP Tryz.func11 rfl ?_))))))))
 exact⟨_,rfl,rfl,txt1,h3,qF,((aK.LZ λb e=> .inl e).trans (ao.LZ λb e=> .inr e)).trans (ar.LZ λb e=> .inr e)⟩
def bfT (t:Nat)(dn:Bool)(xs:List Nat):Bytes:=Ql 4 t++[if dn then 1 else 0]++Tr 4 xs
theorem z3a (h:Qo G Q txt K X rr vb sv t dn xs w):Mm Tryz.prog 19 [ptr rr 0] w λv w'=>v= .tuple #[S (bfT t dn xs),I 0]/\Qo G Q txt K X rr vb sv t dn xs w'/\Kp (λb=>¬(X b\/b=G.rb)) w w':=by
 have hB:=h.cells
 have rY:=h.t
 have pU:=h.n
 have hl:=h.len
 have eA:=Mz 4 t
 have mg:=Rm 4 xs
 refine It (e:=[(0,_)]) Tryz.func19 rfl Tryz.ntmps19 rfl rfl (qN rfl (M6 rfl (LU rfl (run_seq (qN rfl (LM rfl (Mb z9j rfl (Rn h) ?_)))))))
 rintro _ w ⟨rfl,rfl⟩
 refine M6 rfl (qM rfl (LM rfl (MY rfl rfl (LO (An rfl (py (qN rfl (LU rfl (run_seq (qN rfl (LM rfl (Mp rfl (M0 Qn rfl ?_)))))))))))))
 refine M0 XH rfl (qV (LR U4 rfl rfl hB rfl) (LO (MA (λe' w'=>w'=w/\e'=[(0,ptr rr 0),(5,S [if dn then 1 else 0])]) ?i6 (λi6=>?i7))))
 case i6=>
  rintro e' w' ⟨rfl,rfl⟩;refine qN rfl (LM rfl (Mp rfl (M0 S1 rfl (qV (LR U80 rfl rfl hB rfl) (Mb zf2 rfl (z1Z h.g.sp h.g.lt1 h.g.z0T h.vec (.inl h.xr.2)) ?_)))));rintro _ w1 ⟨rfl,jt,aK⟩;have h1:=h.read aK jt;have ai:=h1.cells;refine LM rfl (MW rfl rfl (MW rfl rfl (M6 rfl (LU rfl (run_seq (qN rfl (LM rfl (MY rfl rfl (LO (An rfl (py (qN rfl (LM rfl ?_)))))))))))));refine Mp rfl (M0 Qn rfl (M0 Vk rfl (qV (LR U3 rfl rfl ai rfl) (qV (Xt rfl U3 N5) ?_))));rw[Nat.mod_eq_of_lt (show t<4294967296 by omega)];refine Mb zeW rfl (z0h t (by omega) _) ?_;rintro _ w2 ⟨rfl,af⟩;refine LM rfl (qV (SQ rfl rfl (by rw[eA];cases dn<;>decide)) ?_);refine LM rfl (qV (SQ rfl rfl (by rw[List.length_append,eA,mg];cases dn<;>simp<;>omega)) ?_);refine M6 rfl (LU rfl (Mn.qb (e:=[(2,_),(3,_)]) ?_));refine LP Tryz.func19 rfl ?_;exact⟨_,rfl,rfl,h1.ext af,aK.trans af.kp⟩
 case i7=>
  cases dn with
  | true =>
    refine M3 rfl (LQ rfl (LU rfl ?_))
    exact(i6 _ _ ⟨rfl,rfl⟩).qb
  | false =>
    refine An rfl (py ?_);exact(i6 _ _ ⟨rfl,rfl⟩).qb
end
theorem z4y (l:List UInt8)(w:World)(h:4<=l.length):Mm Tryz.prog 38 [S l] w λv w'=>v=U (Sums.num l)/\Ext w w':=by
 have h0:=(l.getD 0 0).toNat_lt
 have h1:=(l.getD 1 0).toNat_lt
 have h2:=(l.getD 2 0).toNat_lt
 have h3:=(l.getD 3 0).toNat_lt
 obtain⟨e1,e2,e3⟩:=or3 _ _ _ _ h0 h1 h2 h3
 refine It (e:=[(0,_)]) Tryz.func38 rfl Tryz.ntmps38 rfl rfl ?_
 rw[e1] at e2 e3
 rw[e2] at e3
 refine qN rfl (LU rfl (run_seq (NF (λ_=>True) rfl (M9 0 rfl rfl (trivial) (LS 1 rfl (z3h U9 rfl rfl (by omega)) trivial (LS 2 rfl ((by first|exact Yi rfl U5 N5 (by decide)|exact UT rfl U5 N5 (by omega))) trivial ?_))))))
 refine LS 3 rfl (z7V 24 16777216 rfl rfl (by decide) rfl) trivial (M9 4 rfl rfl (trivial) (LS 5 rfl (z3h U9 rfl rfl (by omega)) trivial (LS 6 rfl ((by first|exact Yi rfl U5 N5 (by decide)|exact UT rfl U5 N5 (by omega))) trivial ?_)))
 refine LS 7 rfl (z7V 16 65536 rfl rfl (by decide) rfl) trivial (M9 9 rfl rfl (trivial) (LS 10 rfl (z3h U9 rfl rfl (by omega)) trivial (LS 11 rfl ((by first|exact Yi rfl U5 N5 (by decide)|exact UT rfl U5 N5 (by omega))) trivial ?_)))
 refine LS 12 rfl (z7V 8 256 rfl rfl (by decide) rfl) trivial (M9 14 rfl rfl (trivial) (LS 15 rfl (z3h U9 rfl rfl (by omega)) trivial (LS 16 rfl ((by first|exact Yi rfl U5 N5 (by decide)|exact UT rfl U5 N5 (by omega))) trivial ?_)))
 rw[Nat.mod_eq_of_lt (show(l.getD 0 0).toNat*16777216<4294967296 by omega),Nat.mod_eq_of_lt (show(l.getD 1 0).toNat*65536<4294967296 by omega),Nat.mod_eq_of_lt (show(l.getD 2 0).toNat*256<4294967296 by omega)]
 refine LS 8 rfl (z6c rfl rfl (by omega) (by omega)) trivial ?_
 rw[e1]
 refine LS 13 rfl (z6c rfl rfl (by omega) (by omega)) trivial ?_
 rw[e2]
 refine LS 17 rfl (z6c rfl rfl (by omega) (by omega)) trivial ?_
 rw[e3]
 refine LS 18 rfl (NK rfl) trivial (qE (LP Tryz.func38 rfl ?_))
 exact⟨_,rfl,rfl,Ext.Ma w⟩
theorem z3j {t:Nat}(ht:t<4294967296)(s:Bytes):Sums.num (Ql 4 t++s)=t:=by
 have h:Ql 4 t=[UInt8.ofNat (t / 16777216),UInt8.ofNat (t / 65536),UInt8.ofNat (t / 256),UInt8.ofNat t]:=by simp[Ql,List.range_succ]
 rw[h]
 simp[Sums.num]
 omega
section
variable {G:WG}{w w':World}{Q Q':NZ}{txt txt':Int->Bytes}{K K':Nat}{X Y S':Nat->Prop}{rr vb sv t t':Nat}{dn dn':Bool}{xs ys:List Nat}
theorem z2t (h:Qo G Q txt K X rr vb sv t dn xs w)(hK:K<=800000000000)(hy:ys.length=G.g.length)(yo:∀y∈ys,y<2^(8*4))(ht:t'<=G.g.length):Mm Tryz.prog 20 [ptr rr 0,S (bfT t' dn' ys)] w λv w'=>v=I 0/\∃txt',Qo G Q txt' (K+1) X rr vb sv t' dn' ys w'/\(∀y:Int,y<(sv:Int)\/(sv:Int)+(Q8 xs.length 128:Int)<=y->txt' y=txt y)/\Kp (λb=>¬X b\/b=rr) w w':=by
 have hB:=h.cells
 have pU:=h.n
 have hl:=h.len
 have eA:=Mz 4 t'
 have mg:=Rm 4 ys
 have aB:(bfT t' dn' ys).length=5+4*G.g.length:=by
  unfold bfT;rw[List.length_append,List.length_append,eA,mg,hy,List.length_singleton];omega
 have iT:Sums.num (bfT t' dn' ys)=t':=by
  unfold bfT;rw[List.append_assoc];exact z3j (by omega) _
 have jo:((bfT t' dn' ys).getD 4 0).toNat=(if dn' then 1 else 0):=by
  unfold bfT;rw[List.append_assoc,List.getD,List.getElem?_append_right (by omega),eA];cases dn'<;>rfl
 have uI:(bfT t' dn' ys).drop 5=Tr 4 ys:=List.drop_left' (by rw[List.length_append,eA];rfl)
 have ku:Q8 xs.length 128=1:=by
  unfold Q8;omega
 have zX:=λw1 (ad:Ext w w1)=>z2p (h.ext ad).g.sp (h.ext ad).g.lt1 (by omega) (h.ext ad).vec (.inl h.xr.2) (s:=Tr 4 ys) (by rw[mg,hy,hl])
 have ri:Wf 4 xs.length (Tr 4 ys)=ys:=by
  rw[hl,<-hy];exact WX yo
 rw[ri] at zX
 obtain⟨s,hs⟩:∃s,bfT t' dn' ys=s:=⟨_,rfl⟩
 rw[hs] at aB iT jo uI⊢
 refine It (e:=[(0,_),(1,_)]) Tryz.func20 rfl Tryz.ntmps20 rfl rfl (qN rfl (LU rfl (run_seq (qN rfl (LM rfl (Mb z9j rfl (Rn h) ?_))))))
 rintro _ w ⟨rfl,rfl⟩
 refine M6 rfl (qM rfl (LM rfl (MY rfl rfl (LO (An rfl (py (qN rfl (LM rfl (Mp rfl (M0 z2d rfl (qV (LR YS rfl rfl hB rfl) (Mb z8X rfl (Wy h.g) ?_))))))))))))
 rintro _ w ⟨rfl,rfl⟩
 refine LU rfl (run_seq (qN rfl (LM rfl (qV (Ra U9 rfl) (LM rfl (qV (SV rfl rfl (by omega)) (MK rfl rfl (MY rfl rfl (MC (LO (An rfl (py (run_seq ?_)))))))))))))
 have hg:=Ext.Ma w
 refine NF (λw'=>Ext w w') rfl (M9 0 rfl rfl (hg) (M9 2 rfl rfl (hg) (LS 3 rfl (z3h U9 rfl rfl (by omega)) hg (Pw 1 rfl zeT rfl (z4y s _ (by omega)) ?_))))
 rintro _ w1 ⟨rfl,ad⟩
 refine⟨hg.trans ad,?_⟩
 have bG:=hg.trans ad
 rw[iT,jo]
 have ai:=bG.LN hB
 have aG:=Ext.Ma w1
 refine LS 4 rfl (NK rfl) (hg.trans ad) (LS 5 rfl (NK rfl) (hg.trans ad) (qE (Mn.qb (e:=[(0,_),(1,_),(4,_),(6,_),(7,_),(8,_)]) ?_)))
 refine run_seq (qN rfl (M4 rfl rfl (qV (Xt rfl U3 N5) ?_)))
 rw[Nat.mod_eq_of_lt (show G.g.length<4294967296 by omega)]
 refine Nc rfl rfl (z2n (by(first|omega|(cases dn'<;>simp<;>omega)|(cases dn'<;>simp))) ?_)
 refine M4 rfl rfl (Nc rfl rfl (z2n (by(first|omega|(cases dn'<;>simp<;>omega)|(cases dn'<;>simp))) ?_))
 refine ME rfl rfl (LO (An rfl (py (run_seq (run_seq (NF (λw'=>Kp (λb=>¬(X b\/b=G.rb)) w1 w') rfl (M9 0 rfl rfl (aG.kp) (LS 1 rfl (MS rfl) (aG.kp) (LS 2 rfl (Mo S1 rfl) (aG.kp) (qT 3 rfl (λ_ hS=>LR U80 rfl rfl (hS.LN ai (λe=>e (.inl h.xr.1))) rfl) (aG.kp) (M9 4 rfl rfl (aG.kp) (LS 5 rfl (VU U9 rfl rfl (by omega)) (aG.kp) ?_))))))))))))
 rw[uI]
 refine Pw 6 rfl zfz rfl (zX _ (bG.trans aG)) ?_
 rintro _ w2 ⟨rfl,hW⟩
 refine⟨aG.kp.trans hW.kp,?_⟩
 obtain⟨txt2,h2,oo,ao⟩:=(h.ext (bG.trans aG)).wrote (K':=K+1) (by omega) (by rw[hy,hl]) (by rw[show 512 / 4=128 from rfl,ku] at hW;exact hW)
 have am:=h2.cells
 refine LS 7 rfl (NK rfl) (aG.kp.trans hW.kp) (qE (qN rfl (LM rfl (MY rfl rfl (LO (An rfl (py (qN rfl (M4 rfl rfl (qV (MB rfl N5 U3 (by omega)) (LM rfl (NS rfl rfl ?_))))))))))))
 rw[show decide (((if dn'=true then 1 else 0:Nat):Int)=1)=dn' by cases dn'<;>rfl]
 refine qV (OJ (cs:=[_,_]) z8Y rfl zfT rfl rfl) (Mp rfl (M0 Qn rfl (M1 rfl (MD (news:=[I (t':Int),.bool dn']) z8Y rfl rfl rfl rfl am (by simp)) ?_)))
 rintro w3 ⟨aq,ar⟩
 have h3:=h2.set ar (t':=t') (dn':=dn') aq (by omega)
 refine LO (Mn.qb (e:=[(4,_)]) ?_)
 refine qN rfl (LU rfl (LP Tryz.func20 rfl ?_))
 exact⟨_,rfl,rfl,txt2,h3,λy hy=>oo y hy,(((bG.trans aG).kp.trans ao).LZ λb e=> .inl λe2=>e (.inl e2)).trans (ar.LZ λb e=> .inr e)⟩
theorem Wc (h:Qo G Q txt K X rr vb sv t dn xs w)(cS:2<=sv)(hc:∀i,sv<=i->i<sv+Q8 xs.length 128->Q.L[i]? =some true):Mm Tryz.prog 16 [ptr rr 0] w λv w'=>v=I 0/\∃txt',OB G (Q.Ni (NI Q.L sv (Q8 xs.length 128) false)) txt' K X w'/\(∀y:Int,y<(sv:Int)\/(sv:Int)+(Q8 xs.length 128:Int)<=y->txt' y=txt y)/\Kp (λb=>¬X b\/b=rr\/b=vb) w w':=by
 have hB:=h.cells
 have hd:=h.RT
 have bJ:=h.vec.fit
 obtain⟨n1,n2,n3,n4,n5,n6,n7,n8,n9⟩:=h.ne
 have dU:=z0D h.g.sp h.g.lt1 h.vec (.inl h.xr.2) cS hc
 rw[show 512 / 4=128 from rfl] at dU bJ
 refine It (e:=[(0,_)]) Tryz.func16 rfl Tryz.ntmps16 rfl rfl (qN rfl (LU rfl (run_seq (LK (qN rfl (LM rfl (qV (MU U34 rfl rfl) (LU rfl (An rfl (qN rfl (LM rfl (Mp rfl (M0 S1 rfl ?_)))))))))))))
 refine qV (LR U80 rfl rfl hB rfl) (qV (MU U80 rfl rfl) (LU rfl (An rfl (py (LL (run_seq (qN rfl (LM rfl (Mp rfl (M0 S1 rfl (qV (LR U80 rfl rfl hB rfl) (Mb zg1 rfl (dU) ?_))))))))))))
 rintro _ w1 ⟨rfl,txt1,jt,qF,aK⟩
 have ai:=aK.LN hB (λe=>e.elim (λe=>e (.inl h.xr.1)) n1)
 refine M6 rfl (qM rfl (LM rfl (MY rfl rfl (LO (An rfl (py (qN rfl (M4 rfl rfl (Mp rfl (M0 S1 rfl (M1 rfl (NC zbg rfl rfl rfl ai (by simp)) ?_)))))))))))
 rintro w2 ⟨am,ao⟩
 replace am:LX w2 rr [I (t:Int),.bool dn,ptr G.k 0,.pointer none,.bool false] 88:=am
 refine Mp rfl (M0 z7v rfl (M1 rfl (NC RX rfl rfl rfl am (by simp)) ?_))
 rintro w3 ⟨aq,ar⟩
 refine LO (Mn.qb (e:=[(2,_)]) ?_)
 refine qN rfl (LU rfl (LP Tryz.func16 rfl ?_))
 have aG:OB G (Q.Ni (NI Q.L sv (Q8 xs.length 128) false)) txt1 K X w1:=h.g.Xe aK (λb e=>e.elim .inl (λe=> .inr (by rw[e];exact⟨h.xr.2,n6,n7,n8,n9⟩))) jt rfl (Nv bJ) h.g.z0T (λy h1 h2=>qF y (.inl (by omega)))
 refine⟨_,rfl,rfl,txt1,(aG.own ao (λj e=>by rw[e];exact⟨h.xr.1,n2,n3,n4,n5⟩)).own ar (λj e=>by rw[e];exact⟨h.xr.1,n2,n3,n4,n5⟩),qF,?_⟩
 exact((aK.LZ λb e=>e.elim (λe=> .inl λe2=>e (.inl e2)) (λe=> .inr (.inr e))).trans (ao.LZ λb e=> .inr (.inl e))).trans (ar.LZ λb e=> .inr (.inl e))
theorem To (h:OB G Q txt K X w)(hK:K<=700000000000)(pU:G.g.length<=40){a:Nat}(hp:Pre Q.L a)(bJ:a+1<=Q.L.length)(JN:G.st+G.len<=a){root:Nat}(hr:root<G.g.length):Mm Tryz.prog 10 [ptr Q.s 0,ptr G.k 0,I (root:Int)] w λv w'=>∃rr vb txt',v= .tuple #[ptr rr 0,I 0]/\w.heap.size<=rr/\w.heap.size<=vb/\Qo G (Q.Ni (NI Q.L a 1 true)) txt' (K+3) (λb=>X b\/b=rr\/b=vb) rr vb a 0 false ((List.replicate G.g.length nv).set root 0) w'/\(∀y:Int,y<(a:Int)\/(a:Int)+1<=y->txt' y=txt y)/\Kp (λb=>¬X b) w w':=by
 have ku:Q8 G.g.length 128=1:=by
  unfold Q8;omega
 have eT:(NI Q.L a 1 true).length=Q.L.length:=Nv bJ
 have Gw:=z4v h.sp h.lt1 (by omega) hp G.g.length 4 (by omega) (by omega) (by rw[show 512 / 4=128 from rfl,ku];exact bJ)
 rw[show 512 / 4=128 from rfl,ku] at Gw
 refine It (e:=[(0,_),(1,_),(2,_)]) Tryz.func10 rfl Tryz.ntmps10 rfl rfl (qN rfl (M6 rfl (LU rfl (run_seq (LK (qN rfl (LM rfl (qV (MU T7 rfl rfl) (M4 rfl rfl (qV (MU YS rfl rfl) (ME rfl rfl (LU rfl (An rfl ?_)))))))))))))
 refine qN rfl (LM rfl (Nr rfl rfl (MC (M4 rfl rfl (LM rfl (Mb z8X rfl (Wy h) ?_))))))
 rintro _ w ⟨rfl,rfl⟩
 refine PQ rfl rfl (MC (ME rfl rfl (LU rfl (An rfl (py (LL (qN rfl (M4 rfl rfl (Mb z8X rfl (Wy h) ?_)))))))))
 rintro _ w ⟨rfl,rfl⟩
 refine Mb zeN rfl (Gw) ?_
 rintro _ w1 ⟨vb,txt1,rfl,dc,jt,eM,qF,aK⟩
 have z1:=aK.size
 have lv:=eM.lt
 have bH:∀j,X j->(X j\/j=vb):=λj hj=> .inl hj
 have aG:OB G (Q.Ni (NI Q.L a 1 true)) txt1 (K+1) (λb=>X b\/b=vb) w1:=h.zdM aK (λb e=>e) bH (λj hj=>hj.imp id λe=>by omega) (jt.less λb e=>by rcases e with(e|e)|e;exact .inl (.inl e);exact .inr e;exact .inl (.inr e)) rfl eT (by omega) (λy h1 h2=>qF y (.inl (by omega)))
 have ge:(List.replicate G.g.length 0).length=G.g.length:=List.length_replicate
 have tM:(List.replicate G.g.length nv).length=G.g.length:=List.length_replicate
 have ja:=XE aG.sp aG.lt1 (by omega) eM (.inl (.inr rfl)) (x:=nv) (by decide)
 rw[ge,show 512 / 4=128 from rfl,ku] at ja
 refine LM rfl (MW rfl rfl (MW rfl rfl (M6 rfl (LU rfl (Mn.qb (e:=[(1,_),(2,_),(6,_),(7,_),(8,_),(9,_)]) ?_)))))
 refine run_seq (qN rfl (LM rfl (MY rfl rfl (LO (An rfl (py (run_seq (qN rfl (LM rfl (Mb zdj rfl (ja) ?_))))))))))
 rintro _ w2 ⟨rfl,txt2,dI,kC,oo,ao⟩
 rw[tM,show 512 / 4=128 from rfl,ku] at oo
 have aa:OB G (Q.Ni (NI Q.L a 1 true)) txt2 (K+1+1) (λb=>X b\/b=vb) w2:=aG.Xe ao (λb e=> .inl e) dI rfl rfl (by omega) (λy h1 h2=>oo y (.inl (by omega)))
 have gn:=YL aa.sp aa.lt1 aa.z0T kC (.inl (.inr rfl)) (i:=root) (x:=0) (by rw[tM];exact hr) (by decide)
 refine M6 rfl (qM rfl (LM rfl (NS rfl rfl (O8 (LO (M3 rfl (LQ rfl (M4 rfl rfl (Mb zbC rfl (gn) ?_)))))))))
 rintro _ w3 ⟨rfl,txt3,eX,AO,yg,ar⟩
 have yz:((List.replicate G.g.length nv).set root 0).length=G.g.length:=by rw[List.length_set,tM]
 rw[yz,show 512 / 4=128 from rfl,ku] at yg
 have ag:OB G (Q.Ni (NI Q.L a 1 true)) txt3 (K+1+1+1) (λb=>X b\/b=vb) w3:=aa.Xe ar (λb e=> .inl e) eX rfl rfl (by omega) (λy h1 h2=>yg y (.inl (by omega)))
 refine LU rfl (run_seq (qN rfl (LM rfl (MY rfl rfl (LO (An rfl (py (qN rfl (M4 rfl rfl (qV (OJ (cs:=[_,_,_,_,_]) zfe rfl zeB rfl rfl) (LV rfl rfl (NN rfl (cs:=bfC 0 false G.k vb false) rfl) ?_)))))))))))
 rintro _ w4 ⟨rr,rfl,iD,aC,aM⟩
 refine M6 rfl (LU rfl (LP Tryz.func10 rfl ?_))
 have z2:=ao.size
 have z3:=ar.size
 have lr:=aM.lt
 have ae:=ag.grow aC (Y:=λb=>X b\/b=rr\/b=vb) (λj hj=>by rcases hj with e|e|e;exact .inl (.inl e);exact .inr (by omega);exact .inl (.inr e)) (λj hj=>hj.elim .inl λe=> .inr (.inr e))
 have aP:=h.lt
 have b1:=aP _ h.xk.1
 have b2:=aP _ h.xk.2.1
 have b3:=aP _ h.xk.2.2.1
 have b4:=aP _ h.xk.2.2.2
 refine⟨_,rfl,rr,vb,txt3,rfl,by omega,dc,⟨ae,aM,AO.ext aC,⟨.inr (.inl rfl),.inr (.inr rfl)⟩,⟨by omega,by omega,by omega,by omega,by omega,by omega,by omega,by omega,by omega⟩,JN,yz,pU,by omega⟩,λy hy=>?_,?_⟩
 ·rw[yg y (by omega),oo y (by omega),qF y (by omega)]
 ·exact(((aK.LZ λb e e2=>e (.inl e2)).trans (ao.LZ λb e e2=>e (.inl (.inl e2)))).trans (ar.LZ λb e e2=>e (.inl (.inl e2)))).trans aC.kp
end
def GrR (w:World)(gb go:Nat)(g:List (List Nat)):Prop:=∀(v:Nat) (l:List Nat),g[v]? =some l->∃(a:Option Addr) (c:Nat),w.cell? ⟨gb,go+v*1,none⟩=some (.slice a l.length c)/\∀(i x:Nat),l[i]? =some x->∃lb lo,a=some ⟨lb,lo,none⟩/\w.cell? ⟨lb,lo+i*1,none⟩=some (Ms x)
theorem MP {w w':World}{a:Addr}{u:Value}(hx:Ext w w')(h:w.cell? a=some u):w'.cell? a=some u:=by
 unfold World.cell? at h⊢
 cases hh:w.heap[a.block]? with
 |none=>rw[hh] at h;simp at h
 |some o=>rw[hx.heap hh id];rw[hh] at h;exact h
theorem GrR.ext {w w':World}{gb go:Nat}{g:List (List Nat)}(h:GrR w gb go g)(hx:Ext w w'):GrR w' gb go g:=λv l hl=>by
 obtain⟨a,c,h1,h2⟩:=h v l hl
 refine⟨a,c,MP hx h1,λi x hi=>?_⟩
 obtain⟨lb,lo,e,h3⟩:=h2 i x hi
 exact⟨lb,lo,e,MP hx h3⟩
theorem GrM.r {w:World}{v:Value}{g:List (List Nat)}(h:GrM w v g)(h1:1<=g.length):∃gb go gc,v= .slice (some ⟨gb,go,none⟩) g.length gc/\GrR w gb go g:=by
 obtain⟨vs,hr,hv⟩:=h.ex
 rcases hr.2 with⟨c,-,h0⟩|⟨gb,go,gc,e,hc⟩
 ·omega
 ·refine⟨gb,go,gc,e,λv l hl=>?_⟩;obtain⟨a,c,g1,g2,g3⟩:=hv v l hl;refine⟨a,c,by rw[Nat.mul_one];exact hc v _ g1,λi x hi=>?_⟩;rcases g3.2 with⟨c',-,h0⟩|⟨lb,lo,lc,e2,eI⟩
  ·have:l=[]:=List.eq_nil_of_length_eq_zero h0;rw[this] at hi;cases hi
  ·cases e2;exact⟨lb,lo,rfl,by rw[Nat.mul_one];exact eI i _ (by rw[List.getElem?_map,hi];rfl)⟩
/-! ### Distances -/
structure YC (w:World)(bg B:Nat)(L:List (List Nat)):Prop where
 ex:∃vs:List Value,LX w bg vs 45/\vs.length=L.length/\∀(i:Nat) (l:List Nat),L[i]? =some l->∃(a:Option Addr) (c:Nat),vs[i]? =some (.slice a l.length c)/\l.length<=c/\Rd w (.slice a l.length c) 1 l.length (l.map Ms)/\∀b,(Value.slice a l.length c).ownBlock=some b->B<=b/\b≠bg
section
variable {w w':World}{bg B:Nat}{L:List (List Nat)}
theorem YC.ext (h:YC w bg B L)(hx:Ext w w'):YC w' bg B L:=by
 obtain⟨vs,h1,h2,h3⟩:=h.ex
 refine⟨vs,hx.LN h1,h2,λi l hl=>?_⟩
 obtain⟨a,c,g1,g2,g3,g4⟩:=h3 i l hl
 exact⟨a,c,g1,g2,g3.ext hx,g4⟩
theorem YC.new {n:Nat}(h:LX w bg (List.replicate n (.slice none 0 0)) 45):YC w bg B (List.replicate n []):=
 ⟨_,h,by simp,λi l hl=>by
  rw[List.getElem?_replicate] at hl;split at hl
  ·rename_i hi
   cases hl;exact⟨none,0,by rw[List.getElem?_replicate,if_pos hi];rfl,Nat.le_refl _,⟨rfl,.inl ⟨(none,0),rfl,rfl⟩⟩,λb hb=>by cases hb⟩
  ·cases hl⟩
theorem YC.set (h:YC w bg B L){f:Nat}{l:List Nat}{a:Option Addr}{c:Nat}(hk:Kp (λb=>b=bg) w w')(hB:∀vs,LX w bg vs 45->LX w' bg (vs.set (0+f*1) (.slice a l.length c)) 45)(hf:f<L.length)(oe:l.length<=c)(hr:Rd w (.slice a l.length c) 1 l.length (l.map Ms))(ho:∀b,(Value.slice a l.length c).ownBlock=some b->B<=b/\b≠bg):YC w' bg B (L.set f l):=by
 obtain⟨vs,h1,h2,h3⟩:=h.ex
 refine⟨_,hB vs h1,by simp[h2],λi l' hl=>?_⟩
 rw[Nat.zero_add,Nat.mul_one]
 by_cases e:f=i
 ·subst e;rw[List.getElem?_set_self hf] at hl;cases hl;exact⟨a,c,List.getElem?_set_self (by rw[h2];exact hf),oe,hr.kp hk (λb hb e=>(ho b hb).2 e),ho⟩
 ·rw[List.getElem?_set_ne e] at hl;obtain⟨a',c',g1,g2,g3,g4⟩:=h3 i l' hl;exact⟨a',c',by rw[List.getElem?_set_ne e];exact g1,g2,g3.kp hk (λb hb e=>(g4 b hb).2 e),g4⟩
theorem YC.gr (h:YC w bg B L):GrM w (.slice (some ⟨bg,0,none⟩) L.length L.length) L:=by
 obtain⟨vs,h1,h2,h3⟩:=h.ex
 refine⟨vs,⟨by rw[h2,Nat.mul_one],.inr ⟨bg,0,L.length,rfl,λj u hj=>by rw[h1.cell,Nat.zero_add];exact hj⟩⟩,λi l hl=>?_⟩
 obtain⟨a,c,g1,g2,g3,g4⟩:=h3 i l hl
 exact⟨a,c,g1,g2,g3⟩
theorem YC.lt (h:YC w bg B L):bg<w.heap.size:=by obtain⟨vs,h1,-⟩:=h.ex;exact h1.lt
theorem YC.cell (h:YC w bg B L){f:Nat}{l:List Nat}(hf:L[f]? =some l):∃(a:Option Addr) (c:Nat),w.cell? ⟨bg,0+f*1,none⟩=some (.slice a l.length c)/\l.length<=c/\Rd w (.slice a l.length c) 1 l.length (l.map Ms)/\∀b,(Value.slice a l.length c).ownBlock=some b->B<=b/\b≠bg:=by
 obtain⟨vs,h1,h2,h3⟩:=h.ex
 obtain⟨a,c,g1,g2,g3,g4⟩:=h3 f l hf
 exact⟨a,c,by rw[h1.cell,Nat.zero_add,Nat.mul_one];exact g1,g2,g3,g4⟩
def EdR (w:World)(ea:Option Addr)(es:List (Nat×Nat)):Prop:=∀(i:Nat) (e:Nat×Nat),es[i]? =some e->e.1<4294967296/\e.2<4294967296/\∃eb eo,ea=some ⟨eb,eo,none⟩/\w.cell? ⟨eb,eo+i*2+0,none⟩=some (Ms e.1)/\w.cell? ⟨eb,eo+i*2+1,none⟩=some (Ms e.2)
theorem EdR.ext {ea:Option Addr}{es:List (Nat×Nat)}(h:EdR w ea es)(hx:Ext w w'):EdR w' ea es:=λi e he=>by
 obtain⟨h1,h2,eb,eo,h3,h4,h5⟩:=h i e he
 exact⟨h1,h2,eb,eo,h3,MP hx h4,MP hx h5⟩
end
theorem Og.insert {g:List (List Nat)}(h:Og g){f x k:Nat}{s:List Nat}(hs:g[f]? =some s)(hx:x<g.length)(hk:k<=s.length)(h1:∀y∈s.take k,y<x)(h2:∀y∈s.drop k,x<y):Og (g.set f (s.take k++[x]++s.drop k)):=by
 have hm:=List.mem_of_getElem? hs
 have tN:=h.ok s hm
 have aP:=h.lt s hm
 have hn:=h.n
 refine⟨λl hl=>?_,λl hl y hy=>?_,by rw[List.length_set];exact h.n⟩
 ·rcases List.mem_or_eq_of_mem_set hl with e| e
  ·exact h.ok l e
  ·subst e;refine⟨?_,λy hy=>?_⟩
   ·have hr:List.Pairwise (·<·) s:=tN.Xo;show List.Pairwise (·<·) _;rw[List.append_assoc,List.pairwise_append];refine⟨hr.sublist (List.take_sublist _ _),?_,λa ha b hb=>?_⟩
    ·rw[List.singleton_append,List.pairwise_cons];exact⟨h2,hr.sublist (List.drop_sublist _ _)⟩
    ·rw[List.singleton_append] at hb;rcases List.mem_cons.1 hb with e| e
     ·rw[e];exact h1 a ha
     ·exact Nat.lt_trans (h1 a ha) (h2 b e)
   ·rcases List.mem_append.1 hy with e| e
    ·rcases List.mem_append.1 e with e| e
     ·exact tN.lt y (List.mem_of_mem_take e)
     ·rw[List.mem_singleton.1 e];omega
    ·exact tN.lt y (List.mem_of_mem_drop e)
 ·rw[List.length_set];rcases List.mem_or_eq_of_mem_set hl with e| e
  ·exact h.lt l e y hy
  ·subst e;rcases List.mem_append.1 hy with e| e
   ·rcases List.mem_append.1 e with e| e
    ·exact aP y (List.mem_of_mem_take e)
    ·rw[List.mem_singleton.1 e];exact hx
   ·exact aP y (List.mem_of_mem_drop e)
theorem Og.empty {n:Nat}(hn:n<=60):Og (List.replicate n []):=
 ⟨λl hl=>by rw[List.eq_of_mem_replicate hl];exact⟨List.Pairwise.nil,λy h=>(by cases h)⟩,λl hl y hy=>(by rw[List.eq_of_mem_replicate hl] at hy;cases hy),by simpa using hn⟩
theorem LX.uniq {w:World}{b:Nat}{cs cs':List Value}{T T':TypeId}(h:LX w b cs T)(h':LX w b cs' T'):cs=cs':=by
 obtain⟨fz,h1,-⟩:=h
 obtain⟨fz',h2,-⟩:=h'
 rw[h1] at h2
 have:=NV h2
 injection this with e1 e2 e3
 have:=congrArg Array.toList e1
 simpa using this
theorem z5O {n : Nat}(cK : 1 <= n)(hn : n <= 40){w : World}{ea : Option Addr}{ec : Nat}{es : List (Nat × Nat)}(sG : es.length <= 9000000000000000000)(hE : EdR w ea es) : Mm Tryz.prog 6 [I (n : Int), .slice ea es.length ec] w λv w' => ∃ g bg, v = .slice (some ⟨bg, 0, none⟩) g.length g.length /\ g.length = n /\ Og g /\ YC w' bg w.heap.size g /\ Ext w w' := by
 have f7:maxLen=9223372036854775807:=rfl
 refine It (e:=[(0,_),(1,_)]) Tryz.func6 rfl Tryz.ntmps6 rfl rfl (qN rfl (M6 rfl (qM rfl (LM rfl (LV rfl rfl (pmk (c:=n) (n:=n) Uz Qz rfl rfl rfl (by omega) (by omega) (by omega)) ?_)))))
 rintro _ w1 ⟨bg,rfl,⟨Jj,ad,ai⟩,-⟩
 have ma:YC w1 bg w.heap.size (List.replicate n []):=YC.new ai
 refine LU rfl (run_seq (qN rfl (LU rfl (LK (Oe (α:=Nat×List (List Nat)) ((0,List.replicate n [])) (λy=>[(0,I (n:Int)),(1,.slice ea es.length ec),(5,.slice (some ⟨bg,0,none⟩) n n),(6,I (y.1:Int))]) (λy w'=>y.1<=es.length/\y.2.length=n/\Og y.2/\YC w' bg w.heap.size y.2/\Ext w w') (λy=>es.length-y.1) ?hI ?hround)))))
 case hI=>exact⟨Nat.zero_le _,by simp,Og.empty (by omega),ma,ad⟩
 case hround =>
  rintro⟨i,g⟩ w2 ⟨hi,eE,au,dw,af⟩ ih;dsimp only at hi eE au dw af ih⊢
  try dsimp only
  refine run_seq (qN rfl (M4 rfl rfl (NX U22 rfl (Nr rfl rfl (LO (LY rfl (λhq=>?_) (λhq=>?_)))))))
  ·have cR : i < es.length := by omega
   obtain⟨e,he⟩:∃e,es[i]? =some e:=⟨_,List.getElem?_eq_getElem cR⟩;obtain⟨e1,e2,eb,eo,rfl,fx,eI⟩:=(hE.ext af) i e he;refine py (run_seq (LK (run_seq (qN rfl (M4 rfl rfl (qV (MN U22 z08 rfl rfl (by omega)) (M0 z2c rfl (qV (Mt N5 rfl rfl fx) (qV (MB rfl N5 U3 (by omega)) (LM rfl ?_))))))))));by_cases hf:e.1<n
   ·by_cases ht:e.2<n
    ·refine PQ rfl rfl (MC (M4 rfl rfl (LM rfl (qV (MN U22 z08 rfl rfl (by omega)) (M0 Xg rfl (qV (Mt N5 rfl rfl eI) (qV (MB rfl N5 U3 (by omega)) (LM rfl (PQ rfl rfl (MC ?_))))))))));obtain⟨s,hs⟩:∃s,g[e.1]? =some s:=⟨_,List.getElem?_eq_getElem (by omega)⟩;obtain⟨a,c,gK,oe,eg,Lu⟩:=dw.cell hs;have fK:s.length<=n:=by rw[<-eE];exact au.len (List.mem_of_getElem? hs)
     refine ME rfl rfl (LO (An rfl (py (qN rfl (M4 rfl rfl (LM rfl (qV (MN U22 z08 rfl rfl (by omega)) (M0 z2c rfl (qV (Mt N5 rfl rfl fx) (qV (MN Uz Qz rfl rfl (by omega)) (qV (Mt Ml rfl rfl gK) (M6 rfl (qM rfl ?_)))))))))))));refine LU rfl (run_seq (LK ?_));have ta:List.Pairwise (·<·) s:=(au.ok s (List.mem_of_getElem? hs)).Xo
     have JO:∀(k y:Nat),s[k]? =some y->∀z∈s.drop k,y<=z:=λk y hy z hz=>by
      have mf:k<s.length:=by
       rcases Nat.lt_or_ge k s.length with h| h
       ·exact h
       ·rw[List.getElem?_eq_none h] at hy;cases hy
      have h1:List.Pairwise (·<·) (s.drop k):=ta.sublist (List.drop_sublist _ _);rw[List.drop_eq_getElem_cons mf] at h1 hz;rw[List.getElem?_eq_getElem mf] at hy;cases hy;rcases List.mem_cons.1 hz with e| e
      ·omega
      ·exact Nat.le_of_lt ((List.pairwise_cons.1 h1).1 z e)
     refine Ot (λe' w'=>∃k:Nat,e'=[(0,I (n:Int)),(1,.slice (some ⟨eb,eo,none⟩) es.length ec),(5,.slice (some ⟨bg,0,none⟩) n n),(6,I (i:Int)),(7,.slice a s.length c),(8,I (k:Int))]/\k<=s.length/\(∀y∈s.take k,y<e.2)/\(∀y,s[k]? =some y->e.2<=y)/\Ext w2 w') ?md (λmd=>?Ef)
     case md =>
      rintro e' w3 ⟨k,rfl,hk,nt,iF,ah⟩;have ag:=Ext.Ma w3;have tO:=eg.ext ah;have tP:=MP ah eI;refine run_seq (MA (λe' w'=>∃q,e'=[(0,I (n:Int)),(1,.slice (some ⟨eb,eo,none⟩) es.length ec),(5,.slice (some ⟨bg,0,none⟩) n n),(6,I (i:Int)),(7,.slice a s.length c),(8,I (k:Int)),(76,.bool q)]/\(q=true->∀y∈s.drop k,e.2<y)/\Ext w2 w') ?eV (λeV=>?kl))
      case eV =>
       rintro e' w4 ⟨q,rfl,te,aC⟩;have gq:=dw.ext aC;have m6:=eg.ext aC;have Eb:=MP aC fx;have Ec:=MP aC eI;have cj:=af.trans aC;refine MR rfl (λA4=>?_) (λA4=>?_)
       ·have ak:=Ext.Ma w4;have bB:=ak.size;have zL:w.heap.size<=w4.heap.size:=cj.size;have JP:=gq.lt
        have nN:((s.take k++[e.2])++s.drop k).length=s.length+1:=by
         rw[List.length_append,List.length_append,List.length_take,List.length_drop,List.length_singleton];omega
        have iz:∀(l:List Nat),∀c∈l.map Ms,c.oneCell'=true:=λl c hc=>by obtain⟨z,-,rfl⟩:=List.mem_map.1 hc;rfl
        have mx:(s.take k).length=k:=by rw[List.length_take];omega
        have uI:(s.drop k).length=s.length-k:=List.length_drop ..;obtain⟨vs,qa,mg,-⟩:=id gq.ex;refine Me [23] (λw'=>Ext w4 w') (by kernel_rfl) rfl (qL [22,23] 0 rfl (λ_ h=>My rfl) ak (qL [3,4,5,22,23] 1 rfl (λ_ h=>My rfl) ak (qL [3,4,5,22,23] 2 rfl (λ_ h=>My rfl) ak (qL [4,5,22,23] 3 rfl (λ_ h=>MN U22 z08 rfl rfl (by omega)) ak (qL [5,22,23] 4 rfl (λ_ h=>Mo z2c rfl) ak (qL [9,10,17,21,22,23] 7 rfl (λ_ h=>My rfl) ak (qL [9,10,17,21,22,23] 8 rfl (λ_ h=>My rfl) ak (qL [13,14,15,16,17,21,22,23] 11 rfl (λ_ h=>My rfl) ak (qL [13,14,15,16,17,21,22,23] 12 rfl (λ_ h=>My rfl) ak (qL [14,15,16,17,21,22,23] 13 rfl (λ_ h=>MN U22 z08 rfl rfl (by omega)) ak (qL [15,16,17,21,22,23] 14 rfl (λ_ h=>Mo Xg rfl) ak (qL [20,21,22,23] 18 rfl (λ_ h=>My rfl) ak (qL [20,21,22,23] 19 rfl (λ_ h=>My rfl) ak ?_)))))))))))));refine qL [22,23] 5 rfl (λ_ h=>Mt N5 rfl rfl (MP h Eb)) ak (qL [10,17,21,22,23] 9 rfl (λ_ h=>z8j Ml Mc rfl rfl (by omega)) ak (qL [16,17,21,22,23] 15 rfl (λ_ h=>Mt N5 rfl rfl (MP h Ec)) ak (qL [21,22,23] 20 rfl (λ_ h=>UW Ml Mc rfl rfl hk oe) ak (Sv (i:=6) (j:=16) (by kernel_rfl) ?_ ?_))))
        ·refine MV (i:=6) rfl rfl rfl (Uu (cs:=[]) (zs:=[]) Ml Mc rfl (by kernel_rfl) rfl rfl rfl (by decide)) ?_;rintro v6 w6 ⟨b6,rfl,⟨nY,aN,aX⟩,iW⟩;refine⟨ak.trans aN,?_⟩;have Ed:w4.heap.size<=b6:=by omega
         have lb6:=aX.lt;have ak:=ak.trans aN
         try have dY:=dY.ext aN
         have bB:=Nat.le_trans bB aN.size;refine Sv (i:=10) (j:=16) (by kernel_rfl) ?_ ?_
         ·refine MV (i:=10) rfl rfl rfl (pap Ml Mc rfl (by decide) rfl rfl iW ((Rk (i:=k) m6 hk).ext ak) (λc hc=>iz s c (List.mem_of_mem_take hc)) (by omega) (by omega)) ?_;rintro v10 w10 ⟨cf,aw,cg,-⟩;refine⟨ak.LJ aw (λj e=>by have e:b6=j:=NV e;omega),?_⟩;have ak:=ak.LJ aw (λj e=>by have e:b6=j:=NV e;omega)
          try have dY:=dY.kp aw (λj hj e=>by have e:b6=j:=NV e;have hj:b16=j:=NV hj;omega)
          have cg:∀j,v10.ownBlock=some j->w4.heap.size<=j:=λj hj=>by rcases cg j hj with e|e;(have e:b6=j:=NV e;omega);omega
          have bB:=Nat.le_trans bB aw.size;have yA:=λ(j:Nat) (hj:v10.ownBlock=some j)=>cf.lt hj;refine Nw (i:=16) (by kernel_rfl) (MV (i:=16) rfl rfl rfl (Uu (cs:=[_]) (zs:=[Value.int .u32 0]) Ml Mc rfl (by kernel_rfl) rfl rfl rfl (by decide)) ?_);rintro v16 w16 ⟨b16,rfl,⟨yB,cb,jb⟩,dY⟩;refine⟨ak.trans cb,?_⟩;have yC:w4.heap.size<=b16:=by omega
          have ak:=ak.trans cb
          try have iW:=iW.ext cb
          try have cf:=cf.ext cb
          have lb16:=jb.lt;have bB:=Nat.le_trans bB cb.size;refine Nw (i:=17) (by kernel_rfl) (MV (i:=17) rfl rfl rfl (pap Ml Mc rfl (by decide) rfl rfl cf dY.rd (λc hc=>iz [e.2] c hc) (by omega) (by omega)) ?_);rintro v17 w17 ⟨ia,dg,dD,-⟩;refine⟨ak.LJ dg (λj e=>cg j e),?_⟩;have ak:=ak.LJ dg (λj e=>cg j e);have dD:∀j,v17.ownBlock=some j->w4.heap.size<=j:=λj hj=>by rcases dD j hj with e|e;exact cg j e;omega
          have bB:=Nat.le_trans bB dg.size;refine Nw (i:=21) (by kernel_rfl) (MV (i:=21) rfl rfl rfl (pap Ml Mc rfl (by decide) rfl rfl ia ((Q7 (i:=k) m6 hk oe).ext ak) (λc hc=>iz s c (List.mem_of_mem_drop hc)) (by omega) (by omega)) ?_);rintro v21 w21 ⟨dE,jc,fZ,-⟩;refine⟨ak.LJ jc (λj e=>dD j e),?_⟩;have ak:=ak.LJ jc (λj e=>dD j e);have fZ:∀j,v21.ownBlock=some j->w4.heap.size<=j:=λj hj=>by rcases fZ j hj with e|e;exact dD j e;omega
          refine qL [23] 22 rfl (λ_ h=>MN Uz Qz rfl rfl (by omega)) ak ?_;have jd:=ak.LN qa;refine Pv [23] (qO 23 (Mx (i:=23) rfl rfl (NC Qz rfl rfl (Tm dE) jd (by rw[mg];omega)) ?_));rintro w23 ⟨cA,cL⟩;refine⟨trivial,?_⟩;refine qE (LL (LQ rfl (LM rfl (MK rfl rfl (LU rfl ?_)))));rw[show 0+k+1+(s.length-k)=(s.take k++[e.2]++s.drop k).length by rw[nN];omega,show([]++List.take k (s.map Ms)++[Ms e.2]++List.drop k (s.map Ms))=(s.take k++[e.2]++s.drop k).map Ms by simp[List.map_take,List.map_drop]] at dE;obtain⟨ra,rc,rfl,-⟩:=dE.rd.shape
          have yD:(s.take k++[e.2]++s.drop k).length<=rc:=by
           rcases dE.shape with⟨e1,e2⟩|⟨gg,cc,e1,e2⟩
           ·omega
           ·cases e1;exact e2
          have nO:=(gq.ext ak).set cL (f:=e.1) (l:=s.take k++[e.2]++s.drop k) (a:=ra) (c:=rc) (λvs' h'=>by rw[LX.uniq h' jd];exact cA) (by omega) yD dE.rd (λj hj=>by have:=fZ j hj;omega);have gI:=au.insert hs (x:=e.2) (k:=k) (by omega) hk nt (te A4);exact(ih (i+1,g.set e.1 (s.take k++[e.2]++s.drop k)) _ ⟨by omega,by rw[List.length_set];exact eE,gI,nO,(cj.trans ak).LJ cL (λj e=>by omega)⟩ (by omega)).qb
         ·refine MV (i:=16) rfl rfl rfl (Uu (cs:=[_]) (zs:=[Value.int .u32 0]) Ml Mc rfl (by kernel_rfl) rfl rfl rfl (by decide)) ?_;rintro v16 w16 ⟨b16,rfl,⟨yB,cb,jb⟩,dY⟩;refine⟨ak.trans cb,?_⟩;have yC:w4.heap.size<=b16:=by omega
          have ak:=ak.trans cb
          try have iW:=iW.ext cb
          try have cf:=cf.ext cb
          have lb16:=jb.lt;have bB:=Nat.le_trans bB cb.size;refine Nw (i:=10) (by kernel_rfl) (MV (i:=10) rfl rfl rfl (pap Ml Mc rfl (by decide) rfl rfl iW ((Rk (i:=k) m6 hk).ext ak) (λc hc=>iz s c (List.mem_of_mem_take hc)) (by omega) (by omega)) ?_);rintro v10 w10 ⟨cf,aw,cg,-⟩;refine⟨ak.LJ aw (λj e=>by have e:b6=j:=NV e;omega),?_⟩;have ak:=ak.LJ aw (λj e=>by have e:b6=j:=NV e;omega)
          try have dY:=dY.kp aw (λj hj e=>by have e:b6=j:=NV e;have hj:b16=j:=NV hj;omega)
          have cg:∀j,v10.ownBlock=some j->w4.heap.size<=j:=λj hj=>by rcases cg j hj with e|e;(have e:b6=j:=NV e;omega);omega
          have bB:=Nat.le_trans bB aw.size;have yA:=λ(j:Nat) (hj:v10.ownBlock=some j)=>cf.lt hj;refine Nw (i:=17) (by kernel_rfl) (MV (i:=17) rfl rfl rfl (pap Ml Mc rfl (by decide) rfl rfl cf dY.rd (λc hc=>iz [e.2] c hc) (by omega) (by omega)) ?_);rintro v17 w17 ⟨ia,dg,dD,-⟩;refine⟨ak.LJ dg (λj e=>cg j e),?_⟩;have ak:=ak.LJ dg (λj e=>cg j e);have dD:∀j,v17.ownBlock=some j->w4.heap.size<=j:=λj hj=>by rcases dD j hj with e|e;exact cg j e;omega
          have bB:=Nat.le_trans bB dg.size;refine Nw (i:=21) (by kernel_rfl) (MV (i:=21) rfl rfl rfl (pap Ml Mc rfl (by decide) rfl rfl ia ((Q7 (i:=k) m6 hk oe).ext ak) (λc hc=>iz s c (List.mem_of_mem_drop hc)) (by omega) (by omega)) ?_);rintro v21 w21 ⟨dE,jc,fZ,-⟩;refine⟨ak.LJ jc (λj e=>dD j e),?_⟩;have ak:=ak.LJ jc (λj e=>dD j e);have fZ:∀j,v21.ownBlock=some j->w4.heap.size<=j:=λj hj=>by rcases fZ j hj with e|e;exact dD j e;omega
          refine qL [23] 22 rfl (λ_ h=>MN Uz Qz rfl rfl (by omega)) ak ?_;have jd:=ak.LN qa;refine Pv [23] (qO 23 (Mx (i:=23) rfl rfl (NC Qz rfl rfl (Tm dE) jd (by rw[mg];omega)) ?_));rintro w23 ⟨cA,cL⟩;refine⟨trivial,?_⟩;refine qE (LL (LQ rfl (LM rfl (MK rfl rfl (LU rfl ?_)))));rw[show 0+k+1+(s.length-k)=(s.take k++[e.2]++s.drop k).length by rw[nN];omega,show([]++List.take k (s.map Ms)++[Ms e.2]++List.drop k (s.map Ms))=(s.take k++[e.2]++s.drop k).map Ms by simp[List.map_take,List.map_drop]] at dE;obtain⟨ra,rc,rfl,-⟩:=dE.rd.shape
          have yD:(s.take k++[e.2]++s.drop k).length<=rc:=by
           rcases dE.shape with⟨e1,e2⟩|⟨gg,cc,e1,e2⟩
           ·omega
           ·cases e1;exact e2
          have nO:=(gq.ext ak).set cL (f:=e.1) (l:=s.take k++[e.2]++s.drop k) (a:=ra) (c:=rc) (λvs' h'=>by rw[LX.uniq h' jd];exact cA) (by omega) yD dE.rd (λj hj=>by have:=fZ j hj;omega);have gI:=au.insert hs (x:=e.2) (k:=k) (by omega) hk nt (te A4);exact(ih (i+1,g.set e.1 (s.take k++[e.2]++s.drop k)) _ ⟨by omega,by rw[List.length_set];exact eE,gI,nO,(cj.trans ak).LJ cL (λj e=>by omega)⟩ (by omega)).qb
        ·refine MV (i:=16) rfl rfl rfl (Uu (cs:=[_]) (zs:=[Value.int .u32 0]) Ml Mc rfl (by kernel_rfl) rfl rfl rfl (by decide)) ?_;rintro v16 w16 ⟨b16,rfl,⟨yB,cb,jb⟩,dY⟩;refine⟨ak.trans cb,?_⟩;have yC:w4.heap.size<=b16:=by omega
         have ak:=ak.trans cb
         try have iW:=iW.ext cb
         try have cf:=cf.ext cb
         have lb16:=jb.lt;have bB:=Nat.le_trans bB cb.size;refine Nw (i:=6) (by kernel_rfl) (MV (i:=6) rfl rfl rfl (Uu (cs:=[]) (zs:=[]) Ml Mc rfl (by kernel_rfl) rfl rfl rfl (by decide)) ?_);rintro v6 w6 ⟨b6,rfl,⟨nY,aN,aX⟩,iW⟩;refine⟨ak.trans aN,?_⟩;have Ed:w4.heap.size<=b6:=by omega
         have lb6:=aX.lt;have ak:=ak.trans aN
         try have dY:=dY.ext aN
         have bB:=Nat.le_trans bB aN.size;refine Nw (i:=10) (by kernel_rfl) (MV (i:=10) rfl rfl rfl (pap Ml Mc rfl (by decide) rfl rfl iW ((Rk (i:=k) m6 hk).ext ak) (λc hc=>iz s c (List.mem_of_mem_take hc)) (by omega) (by omega)) ?_);rintro v10 w10 ⟨cf,aw,cg,-⟩;refine⟨ak.LJ aw (λj e=>by have e:b6=j:=NV e;omega),?_⟩;have ak:=ak.LJ aw (λj e=>by have e:b6=j:=NV e;omega)
         try have dY:=dY.kp aw (λj hj e=>by have e:b6=j:=NV e;have hj:b16=j:=NV hj;omega)
         have cg:∀j,v10.ownBlock=some j->w4.heap.size<=j:=λj hj=>by rcases cg j hj with e|e;(have e:b6=j:=NV e;omega);omega
         have bB:=Nat.le_trans bB aw.size;have yA:=λ(j:Nat) (hj:v10.ownBlock=some j)=>cf.lt hj;refine Nw (i:=17) (by kernel_rfl) (MV (i:=17) rfl rfl rfl (pap Ml Mc rfl (by decide) rfl rfl cf dY.rd (λc hc=>iz [e.2] c hc) (by omega) (by omega)) ?_);rintro v17 w17 ⟨ia,dg,dD,-⟩;refine⟨ak.LJ dg (λj e=>cg j e),?_⟩;have ak:=ak.LJ dg (λj e=>cg j e);have dD:∀j,v17.ownBlock=some j->w4.heap.size<=j:=λj hj=>by rcases dD j hj with e|e;exact cg j e;omega
         have bB:=Nat.le_trans bB dg.size;refine Nw (i:=21) (by kernel_rfl) (MV (i:=21) rfl rfl rfl (pap Ml Mc rfl (by decide) rfl rfl ia ((Q7 (i:=k) m6 hk oe).ext ak) (λc hc=>iz s c (List.mem_of_mem_drop hc)) (by omega) (by omega)) ?_);rintro v21 w21 ⟨dE,jc,fZ,-⟩;refine⟨ak.LJ jc (λj e=>dD j e),?_⟩;have ak:=ak.LJ jc (λj e=>dD j e);have fZ:∀j,v21.ownBlock=some j->w4.heap.size<=j:=λj hj=>by rcases fZ j hj with e|e;exact dD j e;omega
         refine qL [23] 22 rfl (λ_ h=>MN Uz Qz rfl rfl (by omega)) ak ?_;have jd:=ak.LN qa;refine Pv [23] (qO 23 (Mx (i:=23) rfl rfl (NC Qz rfl rfl (Tm dE) jd (by rw[mg];omega)) ?_));rintro w23 ⟨cA,cL⟩;refine⟨trivial,?_⟩;refine qE (LL (LQ rfl (LM rfl (MK rfl rfl (LU rfl ?_)))));rw[show 0+k+1+(s.length-k)=(s.take k++[e.2]++s.drop k).length by rw[nN];omega,show([]++List.take k (s.map Ms)++[Ms e.2]++List.drop k (s.map Ms))=(s.take k++[e.2]++s.drop k).map Ms by simp[List.map_take,List.map_drop]] at dE;obtain⟨ra,rc,rfl,-⟩:=dE.rd.shape
         have yD:(s.take k++[e.2]++s.drop k).length<=rc:=by
          rcases dE.shape with⟨e1,e2⟩|⟨gg,cc,e1,e2⟩
          ·omega
          ·cases e1;exact e2
         have nO:=(gq.ext ak).set cL (f:=e.1) (l:=s.take k++[e.2]++s.drop k) (a:=ra) (c:=rc) (λvs' h'=>by rw[LX.uniq h' jd];exact cA) (by omega) yD dE.rd (λj hj=>by have:=fZ j hj;omega);have gI:=au.insert hs (x:=e.2) (k:=k) (by omega) hk nt (te A4);exact(ih (i+1,g.set e.1 (s.take k++[e.2]++s.drop k)) _ ⟨by omega,by rw[List.length_set];exact eE,gI,nO,(cj.trans ak).LJ cL (λj e=>by omega)⟩ (by omega)).qb
       ·refine py (LL (LQ rfl (LM rfl (MK rfl rfl (LU rfl ?_)))));exact(ih (i+1,g) _ ⟨by omega,eE,au,gq,cj⟩ (by omega)).qb
      case kl=>
       refine NF (λw'=>Ext w3 w') rfl (M9 0 rfl rfl (ag) (M9 1 rfl rfl (ag) (LS 2 rfl (OZ Ml rfl) ag ?_)));by_cases oP:k=s.length
       ·refine LS 3 rfl (ZT rfl rfl) ag (Qq (M9 4 rfl rfl (ag) (qJ 5 rfl (ag) (qJ 6 rfl (ag) (qJ 7 rfl (ag) (qJ 8 rfl (ag) (qJ 9 rfl (ag) (qJ 10 rfl (ag) (qJ 11 rfl (ag) (qJ 12 rfl (ag) (qJ 13 rfl (ag) (qJ 14 rfl (ag) (LS 15 rfl (Rx rfl rfl) ag ?_)))))))))))));refine qE ?_;exact(eV _ _ ⟨true,rfl,λ_ y hy=>(by rw[oP,List.drop_length] at hy;cases hy),ah.trans ag⟩).qb
       ·obtain⟨y,hy⟩:∃y,s[k]? =some y:=⟨_,List.getElem?_eq_getElem (by omega)⟩;rcases tO.2 with⟨⟨ca,cc⟩,iJ,un⟩|⟨lb,lo,cap,iJ,dU⟩
        ·omega
        cases iJ;have Ee:w3.cell? ⟨lb,lo+k*1,none⟩=some (Ms y):=dU (k*1) _ (by rw[Nat.mul_one,List.getElem?_map,hy];rfl);refine LS 3 rfl (ZT rfl rfl) ag (QG (M9 4 rfl rfl (ag) (M9 5 rfl rfl (ag) (M9 6 rfl rfl (ag) (LS 7 rfl (MN Ml Mc rfl rfl (by omega)) ag (M9 9 rfl rfl (ag) (M9 10 rfl rfl (ag) (LS 11 rfl (MN U22 z08 rfl rfl (by omega)) ag (LS 12 rfl (Mo Xg rfl) ag (qT 8 rfl (λ_ h=>Mt N5 rfl rfl (MP h Ee)) ag (qT 13 rfl (λ_ h=>Mt N5 rfl rfl (MP h tP)) ag ?_)))))))))));have A1:=iF y hy;by_cases ET:y=e.2
        ·refine LS 14 rfl (yne rfl rfl) ag (QG (LS 15 rfl (R8 rfl rfl) ag (qE ?_)));exact(eV _ _ ⟨false,rfl,λe=>(by cases e),ah.trans ag⟩).qb
        ·refine LS 14 rfl (yne rfl rfl) ag (Qq (LS 15 rfl (R8 rfl rfl) ag (qE ?_)));exact(eV _ _ ⟨true,rfl,λ_ z hz=>(by have:=JO k y hy z hz;omega),ah.trans ag⟩).qb
     case Ef=>
      refine Oe (α:=Nat) (0) (λk=>[(0,I (n:Int)),(1,.slice (some ⟨eb,eo,none⟩) es.length ec),(5,.slice (some ⟨bg,0,none⟩) n n),(6,I (i:Int)),(7,.slice a s.length c),(8,I (k:Int))]) (λk w'=>k<=s.length/\(∀y∈s.take k,y<e.2)/\Ext w2 w') (λk=>s.length-k) ?hI ?hround
      case hI=>exact⟨Nat.zero_le _,λy hy=>(by simp at hy),Ext.refl _⟩
      case hround=>
       rintro k w3 ⟨hk,nt,ah⟩ ih2;have ag:=Ext.Ma w3;have tO:=eg.ext ah;have tP:=MP ah eI
       try dsimp only
       refine run_seq (run_seq (NF (λw'=>Ext w3 w') rfl (M9 0 rfl rfl (ag) (M9 1 rfl rfl (ag) (LS 2 rfl (OZ Ml rfl) ag ?_)))));by_cases mf:k<s.length
       ·obtain⟨y,hy⟩:∃y,s[k]? =some y:=⟨_,List.getElem?_eq_getElem mf⟩;rcases tO.2 with⟨⟨ca,cc⟩,iJ,un⟩|⟨lb,lo,cap,iJ,dU⟩
        ·omega
        cases iJ;have Ee:w3.cell? ⟨lb,lo+k*1,none⟩=some (Ms y):=dU (k*1) _ (by rw[Nat.mul_one,List.getElem?_map,hy];rfl);refine LS 3 rfl (XF rfl rfl) ag (Qq (M9 4 rfl rfl (ag) (M9 5 rfl rfl (ag) (M9 6 rfl rfl (ag) (LS 7 rfl (MN Ml Mc rfl rfl (by omega)) ag (M9 9 rfl rfl (ag) (M9 10 rfl rfl (ag) (LS 11 rfl (MN U22 z08 rfl rfl (by omega)) ag (LS 12 rfl (Mo Xg rfl) ag (qT 8 rfl (λ_ h=>Mt N5 rfl rfl (MP h Ee)) ag (qT 13 rfl (λ_ h=>Mt N5 rfl rfl (MP h tP)) ag ?_)))))))))));by_cases A1:y<e.2
        ·refine LS 14 rfl (XF rfl rfl) ag (Qq (LS 15 rfl (Rx rfl rfl) ag (qE (M3 rfl (py (LK (LQ rfl (LM rfl (MK rfl rfl (LU rfl (LL ((ih2 (k+1) _ ⟨by omega,λz hz=>?_,ah.trans ag⟩ (by omega)).qb))))))))))));rw[MG hy] at hz;rcases List.mem_append.1 hz with e'|e'
         ·exact nt z e'
         ·rw[List.mem_singleton.1 e'];exact A1
        ·refine LS 14 rfl (XF rfl rfl) ag (QG (LS 15 rfl (Rx rfl rfl) ag (qE (An rfl (LW rfl ?_)))));exact(md _ _ ⟨k,rfl,hk,nt,λz hz=>(by rw[hy] at hz;cases hz;omega),ah.trans ag⟩).qb
       ·refine LS 3 rfl (XF rfl rfl) ag (QG (M9 4 rfl rfl (ag) (qJ 5 rfl (ag) (qJ 6 rfl (ag) (qJ 7 rfl (ag) (qJ 8 rfl (ag) (qJ 9 rfl (ag) (qJ 10 rfl (ag) (qJ 11 rfl (ag) (qJ 12 rfl (ag) (qJ 13 rfl (ag) (qJ 14 rfl (ag) (LS 15 rfl (R8 rfl rfl) ag ?_)))))))))))));refine qE (An rfl (LW rfl ?_));exact(md _ _ ⟨k,rfl,hk,nt,λz hz=>(by rw[List.getElem?_eq_none (by omega)] at hz;cases hz),ah.trans ag⟩).qb
    ·refine PQ rfl rfl (MC (M4 rfl rfl (LM rfl (qV (MN U22 z08 rfl rfl (by omega)) (M0 Xg rfl (qV (Mt N5 rfl rfl eI) (qV (MB rfl N5 U3 (by omega)) (LM rfl (PQ rfl rfl (O8 (ME rfl rfl (LO (M3 rfl ?_)))))))))))));refine LW rfl (LQ rfl (LM rfl (MK rfl rfl (LU rfl ?_))));exact(ih (i+1,g) _ ⟨by omega,eE,au,dw,af⟩ (by omega)).qb
   ·refine PQ rfl rfl (O8 (LM rfl (qS (qS (qS (qS (qS (qS (qS (qS (NB rfl rfl (LO (M3 rfl ?_)))))))))))));refine LW rfl (LQ rfl (LM rfl (MK rfl rfl (LU rfl ?_))));exact(ih (i+1,g) _ ⟨by omega,eE,au,dw,af⟩ (by omega)).qb
  ·refine LW rfl (qN rfl (LM rfl (LU rfl (LP Tryz.func6 rfl ?_))));exact⟨_,rfl,g,bg,by rw[eE];rfl,eE,au,dw,af⟩
def RK (g:List (List Nat))(v i u:Nat):List Nat:=(List.range v).filter (λx=>decide (u∈Mg g x))++(if u∈(Mg g v).take i then [v] else [])
def QY (g:List (List Nat))(v i:Nat):List (List Nat):=(List.range g.length).map (RK g v i)
def Ty (g:List (List Nat)):List (List Nat):=QY g g.length 0
theorem z2b (g:List (List Nat))(v u:Nat):RK g v (Mg g v).length u=RK g (v+1) 0 u:=by
 unfold RK
 rw[List.take_length,List.range_succ,List.filter_append]
 by_cases h:u∈Mg g v<;>simp[h]
theorem Py (g:List (List Nat))(v i:Nat):(QY g v i).length=g.length:=by simp[QY]
theorem RP (g:List (List Nat))(v i:Nat){u:Nat}(hu:u<g.length):(QY g v i)[u]? =some (RK g v i u):=by
 unfold QY
 rw[List.getElem?_map,List.getElem?_range hu];rfl
theorem z5T (g:List (List Nat))(v i u:Nat):(RK g v i u).length<=v+1:=by
 unfold RK
 have h1:=List.length_filter_le (λx=>decide (u∈Mg g x)) (List.range v)
 rw[List.length_range] at h1
 rw[List.length_append]
 split<;>simp<;>omega
theorem z4K {g:List (List Nat)}(au:Og g){v i u:Nat}(hu:(Mg g v)[i]? =some u):(QY g v i).set u (RK g v i u++[v])=QY g v (i+1):=by
 have ri:=RM au v u (List.mem_of_getElem? hu)
 have ft:u∉(Mg g v).take i:=λh=>by
  have eY:v<g.length:=by
   rcases Nat.lt_or_ge v g.length with h| h
   ·exact h
   ·unfold Mg at hu;rw[List.getElem?_eq_none h] at hu;cases hu
  have hr:List.Pairwise (·<·) (Mg g v):=by
   unfold Mg;rw[List.getElem?_eq_getElem eY];exact(au.ok _ (List.getElem_mem eY)).Xo
  have h2:=MG hu;have h3:List.Pairwise (·<·) ((Mg g v).take (i+1)):=hr.sublist (List.take_sublist _ _);rw[h2,List.pairwise_append] at h3;have:=h3.2.2 u h u List.mem_cons_self;omega
 apply List.ext_getElem?
 intro x
 by_cases hx:u=x
 ·subst hx;rw[List.getElem?_set_self (by rw[Py];exact ri),RP _ _ _ ri]
  congr 1
  unfold RK;rw[if_neg ft,List.append_nil,MG hu,if_pos (by simp)]
 ·rw[List.getElem?_set_ne hx];by_cases ju:x<g.length
  ·rw[RP _ _ _ ju,RP _ _ _ ju]
   congr 1
   unfold RK
   congr 1
   rw[MG hu]
   have:x∈(Mg g v).take i++[u]↔x∈(Mg g v).take i:=by
    rw[List.mem_append,List.mem_singleton];exact⟨λe=>e.resolve_right λe=>hx e.symm,.inl⟩
   simp only[this]
  ·rw[List.getElem?_eq_none (by rw[Py];omega),List.getElem?_eq_none (by rw[Py];omega)]
theorem z4p (g:List (List Nat)){u:Nat}(hu:u<g.length):(Ty g)[u]? =some ((List.range g.length).filter λx=>decide (u∈Mg g x)):=by
 unfold Ty
 rw[RP _ _ _ hu]
 unfold RK
 rw[List.take_zero,if_neg (by simp),List.append_nil]
theorem UU (g:List (List Nat)):(Ty g).length=g.length:=Py _ _ _
theorem z8a {g:List (List Nat)}(h:Og g):Og (Ty g):=by
 have hl:=UU g
 have fU:∀l∈Ty g,∃u,l=(List.range g.length).filter λx=>decide (u∈Mg g x):=λl hm=>by
  obtain⟨u,hu⟩:=List.getElem?_of_mem hm
  have ri:u<g.length:=by
   rcases Nat.lt_or_ge u g.length with h| h
   ·exact h
   ·rw[List.getElem?_eq_none (by omega)] at hu;cases hu
  rw[z4p g ri] at hu;exact⟨u,(NV hu).symm⟩
 have hn:=h.n
 refine⟨λl hm=>?_,λl hm y hy=>?_,by omega⟩
 ·obtain⟨u,rfl⟩:=fU l hm;exact⟨(List.pairwise_lt_range).sublist List.filter_sublist,λy hy=>by have:=List.mem_range.1 (List.mem_filter.1 hy).1;omega⟩
 ·obtain⟨u,rfl⟩:=fU l hm;have:=List.mem_range.1 (List.mem_filter.1 hy).1;omega
structure RwA (w:World)(bg B:Nat)(L:List (List Nat)):Prop where
 ex:∃vs:List Value,LX w bg vs 45/\vs.length=L.length/\(∀(i:Nat) (l:List Nat),L[i]? =some l->∃v:Value,vs[i]? =some v/\Sl w v 46 1 l.length (l.map Ms)/\∀b,v.ownBlock=some b->B<=b/\b≠bg)/\∀(i j:Nat) (vi vj:Value) (b:Nat),i≠j->vs[i]? =some vi->vs[j]? =some vj->vi.ownBlock=some b->vj.ownBlock≠some b
section
variable {w w':World}{bg B:Nat}{L:List (List Nat)}
theorem RwA.new {n:Nat}(h:LX w bg (List.replicate n (.slice none 0 0)) 45):RwA w bg B (List.replicate n []):=by
 refine⟨_,h,by simp,λi l hl=>?_,λi j vi vj b _ hi _ hb=>?_⟩
 ·rw[List.getElem?_replicate] at hl;split at hl
  ·rename_i hi
   cases hl;exact⟨.slice none 0 0,by rw[List.getElem?_replicate,if_pos hi],Sl.nil w _ 1,λb hb=>by cases hb⟩
  ·cases hl
 ·have:=List.mem_of_getElem? hi;rw[List.eq_of_mem_replicate this] at hb;cases hb
theorem RwA.rw (h:RwA w bg B L):YC w bg B L:=by
 obtain⟨vs,h1,h2,h3,h4⟩:=h.ex
 refine⟨vs,h1,h2,λi l hl=>?_⟩
 obtain⟨v,g1,g2,g3⟩:=h3 i l hl
 obtain⟨a,c,rfl,-⟩:=g2.rd.shape
 refine⟨a,c,g1,?_,g2.rd,g3⟩
 rcases g2.shape with⟨e1,e2⟩|⟨gg,cc,e1,e2⟩
 ·omega
 ·cases e1;exact e2
theorem RwA.put {w2:World}(h:RwA w bg B L){u:Nat}{l l':List Nat}{v v':Value}{vs:List Value}(qa:LX w bg vs 45)(hu:L[u]? =some l)(hv:vs[u]? =some v)(hk:Kp (λb=>v.ownBlock=some b) w w')(hS:Sl w' v' 46 1 l'.length (l'.map Ms))(ho:∀b,v'.ownBlock=some b->v.ownBlock=some b\/w.heap.size<=b)(ao:Kp (λb=>b=bg) w' w2)(hB:LX w2 bg (vs.set (0+u*1) v') 45)(o4:B<=w.heap.size):RwA w2 bg B (L.set u l'):=by
 obtain⟨vs0,h1,h2,h3,h4⟩:=h.ex
 have e0:=h1.uniq qa
 subst e0
 rw[Nat.zero_add,Nat.mul_one] at hB
 obtain⟨v0,g1,g2,g3⟩:=h3 u l hu
 rw[hv] at g1
 cases g1
 have ff:=h1.lt
 have rF:u<L.length:=by
  rcases Nat.lt_or_ge u L.length with h| h
  ·exact h
  ·rw[List.getElem?_eq_none h] at hu;cases hu
 have yU:∀b,v'.ownBlock=some b->B<=b/\b≠bg:=λb hb=>by
  rcases ho b hb with e| e
  ·exact g3 b e
  ·omega
 have aP:∀(j:Nat) (vj:Value) (b:Nat),vs0[j]? =some vj->vj.ownBlock=some b->b<w.heap.size:=λj vj b hj hb=>by
  obtain⟨lj,JQ⟩:∃lj,L[j]? =some lj:=⟨_,List.getElem?_eq_getElem (by
   rw[<-h2];rcases Nat.lt_or_ge j vs0.length with h| h
   ·exact h
   ·rw[List.getElem?_eq_none h] at hj;cases hj)⟩
  obtain⟨vj',k1,k2,-⟩:=h3 j lj JQ;rw[hj] at k1;cases k1;exact k2.lt hb
 refine⟨_,hB,by simp[h2],λi li hl=>?_,λi j vi vj b gT hi hj hb=>?_⟩
 ·by_cases e:u=i
  ·subst e;rw[List.getElem?_set_self rF] at hl;cases hl;exact⟨v',List.getElem?_set_self (by rw[h2];exact rF),hS.kp ao (λb hb e=>(yU b hb).2 e),yU⟩
  ·rw[List.getElem?_set_ne e] at hl;obtain⟨vi,k1,k2,k3⟩:=h3 i li hl;exact⟨vi,by rw[List.getElem?_set_ne e];exact k1,(k2.kp hk (λb hb e2=>h4 u i v vi b e hv k1 e2 hb)).kp ao (λb hb e=>(k3 b hb).2 e),k3⟩
 ·by_cases ei:u=i
  ·subst ei;rw[List.getElem?_set_self (by rw[h2];exact rF)] at hi;cases hi;rw[List.getElem?_set_ne gT] at hj;intro bY;rcases ho b hb with e| e
   ·exact h4 u j v vj b gT hv hj e bY
   ·have:=aP j vj b hj bY;omega
  ·rw[List.getElem?_set_ne ei] at hi;by_cases ej:u=j
   ·subst ej;rw[List.getElem?_set_self (by rw[h2];exact rF)] at hj;cases hj;intro bY;rcases ho b bY with e| e
    ·exact h4 i u vi v b gT hi hv hb e
    ·have:=aP i vi b hi hb;omega
   ·rw[List.getElem?_set_ne ej] at hj;exact h4 i j vi vj b gT hi hj hb
end
theorem z2H {g:List (List Nat)}(au:Og g){w:World}{gb go gc:Nat}(hg:GrR w gb go g):Mm Tryz.prog 26 [.slice (some ⟨gb,go,none⟩) g.length gc] w λv w'=>∃bt,v= .slice (some ⟨bt,0,none⟩) g.length g.length/\YC w' bt w.heap.size (Ty g)/\Ext w w':=by
 have f7:maxLen=9223372036854775807:=rfl
 have hn:=au.n
 refine It (e:=[(0,_)]) Tryz.func26 rfl Tryz.ntmps26 rfl rfl (qN rfl (M6 rfl (qM rfl (LM rfl (NX Uz rfl (LV rfl rfl (pmk (c:=g.length) (n:=g.length) Uz Qz rfl rfl rfl (by omega) (by omega) (by omega)) ?_))))))
 rintro _ w1 ⟨bt,rfl,⟨ox,ad,ai⟩,-⟩
 have ma:RwA w1 bt w.heap.size (QY g 0 0):=by
  have e:QY g 0 0=List.replicate g.length []:=by
   apply List.ext_getElem<;>simp[QY,RK]
  rw[e];exact RwA.new ai
 refine LU rfl (run_seq (qN rfl (LU rfl (LK (Oe (α:=Nat) (0) (λv=>[(0,.slice (some ⟨gb,go,none⟩) g.length gc),(3,.slice (some ⟨bt,0,none⟩) g.length g.length),(4,I (v:Int))]) (λv w'=>v<=g.length/\RwA w' bt w.heap.size (QY g v 0)/\Ext w w') (λv=>g.length-v) ?hI ?hround)))))
 case hI=>exact⟨Nat.zero_le _,ma,ad⟩
 case hround =>
  rintro v w2 ⟨hv,dw,af⟩ ih
  try dsimp only
  refine run_seq (qN rfl (M4 rfl rfl (NX Uz rfl (Nr rfl rfl (LO (LY rfl (λhq=>?_) (λhq=>?_)))))))
  ·have eY:v<g.length:=by omega
   have eE:g[v]? =some (Mg g v):=by unfold Mg;rw[List.getElem?_eq_getElem eY];rfl
   have fK:(Mg g v).length<=g.length:=au.len (List.mem_of_getElem? eE);refine py (run_seq (LK (qN rfl (LU rfl (LK (Oe (α:=Nat) (0) (λi=>[(0,.slice (some ⟨gb,go,none⟩) g.length gc),(3,.slice (some ⟨bt,0,none⟩) g.length g.length),(4,I (v:Int)),(5,I (i:Int))]) (λi w'=>i<=(Mg g v).length/\RwA w' bt w.heap.size (QY g v i)/\Ext w w') (λi=>(Mg g v).length-i) ?hI ?hround))))))
   case hI=>exact⟨Nat.zero_le _,dw,af⟩
   case hround=>
    rintro i w3 ⟨hi,ou,ah⟩ ih2;obtain⟨a,c,fx,eI⟩:=hg v _ eE;have ag:=Ext.Ma w3
    try dsimp only
    refine run_seq (qN rfl (M4 rfl rfl (LM rfl (qV (MN Uz Qz rfl rfl (by omega)) (qV (Mt Ml rfl rfl (MP ah fx)) (NX Ml rfl (Nr rfl rfl (LO (LY rfl (λgy=>?_) (λgy=>?_))))))))))
    ·obtain⟨u,hu⟩:∃u,(Mg g v)[i]? =some u:=⟨_,List.getElem?_eq_getElem (by omega)⟩;obtain⟨lb,lo,rfl,Gx⟩:=eI i u hu;have ri:u<g.length:=RM au v u (List.mem_of_getElem? hu);have Gy:=RP g v i ri;have mF:=z5T g v i u;obtain⟨vs,qa,mg,jw,JR⟩:=id ou.ex;obtain⟨vu,Gz,JS,A7⟩:=jw u _ Gy
     have JT:∀{w':World},Kp (λb=>vu.ownBlock=some b) w3 w'->w'.cell? ⟨bt,0+u*1,none⟩=some vu:=λhk=>by
      rw[(hk.LN qa (λe=>(A7 _ e).2 rfl)).cell,Nat.zero_add,Nat.mul_one];exact Gz
     have z3:=ah.size;refine py (run_seq (LK ?_));have A8:∀{w':World},Kp (λb=>vu.ownBlock=some b) w3 w'->Ext w w':=λhk=>ah.LJ hk (λb e=>(A7 b e).1);refine Me [23] (λw'=>Kp (λb=>vu.ownBlock=some b) w3 w') (by kernel_rfl) rfl (qL [22,23] 0 rfl (λ_ h=>My rfl) (ag.kp) (qL [3,4,6,7,22,23] 1 rfl (λ_ h=>My rfl) (ag.kp) (qL [3,4,6,7,22,23] 2 rfl (λ_ h=>My rfl) (ag.kp) (qL [4,6,7,22,23] 3 rfl (λ_ h=>MN Uz Qz rfl rfl (by omega)) (ag.kp) (qL [6,7,22,23] 5 rfl (λ_ h=>My rfl) (ag.kp) (qL [16,17,21,22,23] 8 rfl (λ_ h=>My rfl) (ag.kp) (qL [11,12,14,15,16,17,21,22,23] 9 rfl (λ_ h=>My rfl) (ag.kp) (qL [11,12,14,15,16,17,21,22,23] 10 rfl (λ_ h=>My rfl) (ag.kp) (qL [12,14,15,16,17,21,22,23] 11 rfl (λ_ h=>MN Uz Qz rfl rfl (by omega)) (ag.kp) (qL [14,15,16,17,21,22,23] 13 rfl (λ_ h=>My rfl) (ag.kp) (qL [19,20,21,22,23] 18 rfl (λ_ h=>My rfl) (ag.kp) (qL [20,21,22,23] 19 rfl (λ_ h=>Xt rfl U3 N5) (ag.kp) (qL [6,7,22,23] 4 rfl (λ_ h=>Mt Ml rfl rfl (MP (A8 h) fx)) (ag.kp) ?_)))))))))))));refine qL [14,15,16,17,21,22,23] 12 rfl (λ_ h=>Mt Ml rfl rfl (MP (A8 h) fx)) (ag.kp) (qL [7,22,23] 6 rfl (λ_ h=>MN Ml Mc rfl rfl (by omega)) (ag.kp) (qL [15,16,17,21,22,23] 14 rfl (λ_ h=>MN Ml Mc rfl rfl (by omega)) (ag.kp) (qL [22,23] 7 rfl (λ_ h=>Mt N5 rfl rfl (MP (A8 h) Gx)) (ag.kp) (qL [16,17,21,22,23] 15 rfl (λ_ h=>Mt N5 rfl rfl (MP (A8 h) Gx)) (ag.kp) (qL [17,21,22,23] 16 rfl (λ_ h=>MN Uz Qz rfl rfl (by omega)) (ag.kp) (qL [21,22,23] 17 rfl (λ_ h=>Mt Ml rfl rfl (JT h)) (ag.kp) ?_))))));rw[Nat.mod_eq_of_lt (show v<4294967296 by omega)];refine Nw (i:=20) (by kernel_rfl) (MV (i:=20) rfl rfl rfl (Uu (cs:=[_]) (zs:=[Value.int .u32 0]) Ml Mc rfl (by kernel_rfl) rfl rfl rfl (by decide)) ?_);rintro v4 w4 ⟨b4,rfl,⟨eA,aC,aM⟩,ee⟩;refine⟨ag.kp.trans aC.kp,?_⟩;have db:=ag.trans aC;refine Nw (i:=21) (by kernel_rfl) (MV (i:=21) rfl rfl rfl (pap Ml Mc rfl (by decide) rfl rfl (JS.ext db) ee.rd (λc hc=>by obtain⟨z,-,rfl⟩:=List.mem_map.1 (show c∈[v].map Ms from hc);rfl) (by omega) (by omega)) ?_);rintro v5 w5 ⟨gp,aj,sd,-⟩;refine⟨db.kp.trans aj,?_⟩;have j9:Kp (λb=>vu.ownBlock=some b) w3 w5:=db.kp.trans aj;have z34:=db.size;have Eg:=j9.LN qa (λe=>(A7 _ e).2 rfl);refine qL [23] 22 rfl (λ_ h=>MN Uz Qz rfl rfl (by omega)) (db.kp.trans aj) (Pv [23] (qO 23 (Mx (i:=23) rfl rfl (NC Qz rfl rfl (Tm gp) Eg (by rw[mg,Py];omega)) ?_)));rintro w6 ⟨aX,aR⟩;refine⟨trivial,?_⟩;have kN:=ou.put (l':=RK g v i u++[v]) qa Gy Gz j9 (by rw[List.length_append,List.map_append];exact gp) (λb hb=>(sd b hb).imp id λe=>by omega) aR aX z3;rw[z4K au hu] at kN;refine qE (LL (LQ rfl (LM rfl (MK rfl rfl (LU rfl ?_)))));exact(ih2 (i+1) _ ⟨by omega,kN,(ah.LJ j9 (λb e=>(A7 b e).1)).LJ aR (λb e=>by omega)⟩ (by omega)).qb
    ·have cR:i=(Mg g v).length:=by omega
     subst cR;refine LW rfl (LL (LQ rfl (LM rfl (MK rfl rfl (LU rfl ?_)))))
     have e:QY g v (Mg g v).length=QY g (v+1) 0:=by
      unfold QY;exact List.map_congr_left λu _=>z2b g v u
     exact(ih (v+1) _ ⟨by omega,by rw[<-e];exact ou,ah⟩ (by omega)).qb
  ·have eY:v=g.length:=by omega
   subst eY;refine LW rfl (qN rfl (LM rfl (LU rfl (LP Tryz.func26 rfl ?_))));exact⟨_,rfl,bt,rfl,dw.rw,af⟩
theorem ZE (z:Int)(hz: -9223372036854775808<=z/\z<=9223372036854775807)(w:World):Mm Tryz.prog 7 [I z] w λv w'=>∃n:Nat,v=I (n:Int)/\1<=n/\n<=40/\w'=w:=by
 have r1:=PV z 40 (by decide)
 have r2:=RJ z 40 (by decide)
 refine It (e:=[(0,_)]) Tryz.func7 rfl Tryz.ntmps7 rfl rfl (qN rfl (M6 rfl (qM rfl (LM rfl (qV (yrt rfl rfl (by decide)) (MK rfl rfl (qV (yrt rfl rfl (by decide)) ?_)))))))
 rw[show(z.tmod 40+40).tmod 40=ZO z 40 from rfl]
 refine MK rfl rfl (LU rfl (LP Tryz.func7 rfl ?_))
 exact⟨_,rfl,(1+ZO z 40).toNat,by rw[Int.toNat_of_nonneg (by omega)];rfl,by omega,by omega,rfl⟩
def z3J:MZ:=⟨7,3,3,3,64⟩
def z3Q:MZ:=⟨0,0,2,1,64⟩
def z3u:MZ:=⟨2,1,4,2,3⟩
theorem z1i (z:Int)(hz: -9223372036854775808<=z/\z<=9223372036854775807)(w:World):Mm Tryz.prog 25 [I z] w λv w'=>∃p:MZ,v=bpV p/\p.N4/\p.zeta<=3/\Ext w w':=by
 have r1:=PV z 3 (by decide)
 have r2:=RJ z 3 (by decide)
 refine It (e:=[(0,_)]) Tryz.func25 rfl Tryz.ntmps25 rfl rfl (qN rfl (LV rfl rfl (O9 (cs:=[_,_,_,_,_]) O3 rfl) ?_))
 rintro _ w1 ⟨b2,rfl,bY,ad,ai⟩
 refine qM rfl (qV (OJ (cs:=[_,_,_,_,_]) O3 rfl z8C rfl rfl) (qV (OJ (cs:=[_,_,_,_,_]) O3 rfl z8C rfl rfl) (qV (OJ (cs:=[_,_,_,_,_]) O3 rfl z8C rfl rfl) (LV rfl rfl (Uu (cs:=[_,_,_,_,_,_,_,_,_,_,_,_,_,_,_]) (zs:=[Value.int .i64 0,Value.int .i64 0,Value.int .i64 0,Value.int .i64 0,Value.int .i64 0,Value.int .i64 0,Value.int .i64 0,Value.int .i64 0,Value.int .i64 0,Value.int .i64 0,Value.int .i64 0,Value.int .i64 0,Value.int .i64 0,Value.int .i64 0,Value.int .i64 0]) z8N O3 rfl (by kernel_rfl) rfl rfl rfl (by decide)) ?_))))
 rintro _ w2 ⟨b3,rfl,⟨en,af,am⟩,-⟩
 refine LM rfl (qV (yrt rfl rfl (by decide)) (MK rfl rfl (qV (yrt rfl rfl (by decide)) ?_)))
 rw[show(z.tmod 3+3).tmod 3=ZO z 3 from rfl]
 have fC:=af.LN ai
 have Eh:ZO z 3=((0:Nat):Int)\/ZO z 3=((1:Nat):Int)\/ZO z 3=((2:Nat):Int):=by omega
 have lb:=ai.lt
 rcases Eh with e|e| e
 ·rw[e];refine qV (MN z8N O3 rfl rfl (by omega)) (qV (Mk (news:=Rz z3J) Xi rfl O3 rfl (LX.cells (i:=0+0*5) (n:=5) am rfl) rfl) (M1 rfl (MD (news:=Rz z3J) O3 rfl rfl rfl rfl fC (by simp)) ?_));rintro w3 ⟨aq,ar⟩;refine LO (Mj Tryz.func25 (.cell Xi rfl O3 rfl (LX.cells (n:=5) aq (news:=[_,_,_,_,_]) rfl) rfl .nil) ?_);exact⟨_,rfl,z3J,rfl,by unfold MZ.N4 Oq.N4 z3J MZ.list;decide,by decide,(ad.trans af).LJ ar (λj e=>by omega)⟩
 ·rw[e];refine qV (MN z8N O3 rfl rfl (by omega)) (qV (Mk (news:=Rz z3Q) Xi rfl O3 rfl (LX.cells (i:=0+1*5) (n:=5) am rfl) rfl) (M1 rfl (MD (news:=Rz z3Q) O3 rfl rfl rfl rfl fC (by simp)) ?_));rintro w3 ⟨aq,ar⟩;refine LO (Mj Tryz.func25 (.cell Xi rfl O3 rfl (LX.cells (n:=5) aq (news:=[_,_,_,_,_]) rfl) rfl .nil) ?_);exact⟨_,rfl,z3Q,rfl,by unfold MZ.N4 Oq.N4 z3Q MZ.list;decide,by decide,(ad.trans af).LJ ar (λj e=>by omega)⟩
 ·rw[e];refine qV (MN z8N O3 rfl rfl (by omega)) (qV (Mk (news:=Rz z3u) Xi rfl O3 rfl (LX.cells (i:=0+2*5) (n:=5) am rfl) rfl) (M1 rfl (MD (news:=Rz z3u) O3 rfl rfl rfl rfl fC (by simp)) ?_));rintro w3 ⟨aq,ar⟩;refine LO (Mj Tryz.func25 (.cell Xi rfl O3 rfl (LX.cells (n:=5) aq (news:=[_,_,_,_,_]) rfl) rfl .nil) ?_);exact⟨_,rfl,z3u,rfl,by unfold MZ.N4 Oq.N4 z3u MZ.list;decide,by decide,(ad.trans af).LJ ar (λj e=>by omega)⟩
theorem Qi {L:List Bool}{s n:Nat}{b:Bool}(h:s+n<=L.length)(i:Nat):(NI L s n b)[i]? =if s<=i/\i<s+n then some b else L[i]? :=by
 unfold NI
 have hl:(L.take s).length=s:=by rw[List.length_take];omega
 by_cases h1:i<s
 ·rw[if_neg (by omega),List.getElem?_append_left (by omega),List.getElem?_take_of_lt h1]
 ·rw[List.getElem?_append_right (by omega),hl];by_cases h2:i<s+n
  ·rw[if_pos (by omega),List.getElem?_append_left (by rw[List.length_replicate];omega),List.getElem?_replicate,if_pos (by omega)]
  ·rw[if_neg (by omega),List.getElem?_append_right (by rw[List.length_replicate];omega),List.length_replicate,List.getElem?_drop]
   congr 1
   omega
theorem Xm {L:List Bool}{a n:Nat}(h:Pre L a)(hn:a+n<=L.length):Pre (NI L a n true) (a+n):=by
 have h2:=h.a2
 refine⟨by omega,by rw[Nv hn];exact hn,λi h1 h3=>?_,λi h1 h3=>?_⟩
 ·rw[Qi hn];split
  ·rfl
  ·exact h.tk i h1 (by omega)
 ·rw[Nv hn] at h3;rw[Qi hn,if_neg (by omega)];exact h.fr i (by omega) h3
theorem z1c {Q:NZ}{txt:Int->Bytes}{K:Nat}{X:Nat->Prop}{w:World}(hP:Sp Q txt K X w)(hX:∀b,X b->b<w.heap.size)(hK:K<=90000000000)(x1:X 1)(x2:X 2)(hG:LX w 1 (OU .gamma) 298)(hU:LX w 2 (OU .unary) 298){g:List (List Nat)}(au:Og g)(aG:1<=g.length)(gJ:g.length<=40){ga:Option Addr}{gc:Nat}(kP:GrM w (.slice ga g.length gc) g){p:MZ}(hp:p.N4)(hz:p.zeta<=3){a:Nat}(ha:Pre Q.L a)(gS:a+72<=Q.L.length):
  Mm Tryz.prog 24 [ptr Q.s 0,.slice ga g.length gc,bpV p] w λv w'=>∃(G:WG) (txt':Int->Bytes),v= .tuple #[ptr G.k 0,.bool true]/\G.g=g/\G.st=a/\G.len<=72/\1<=G.len/\(w.heap.size<=G.k/\w.heap.size<=G.x/\w.heap.size<=G.rb)/\OB G (Q.Ni (NI Q.L a G.len true)) txt' (K+200) (λj=>X j\/j=G.x\/j=G.k) w'/\(∀y:Int,y<(a:Int)\/(a:Int)+(G.len:Int)<=y->txt' y=txt y)/\Kp (λb=>¬X b) w w':=by
 have dO:=hP.n
 refine It (e:=[(0,_),(1,_),(2,_)]) Tryz.func24 rfl Tryz.ntmps24 rfl rfl (qN rfl (LV rfl rfl (NN rfl (cs:=Rz p) rfl) ?_))
 rintro _ w1 ⟨bp,rfl,Lv,ad,oV⟩
 refine M6 rfl (M6 rfl (qM rfl (LM rfl (qV (Mk (news:=Rz p) Xi rfl O3 rfl (LX.cells (i:=0) (n:=5) oV rfl) rfl) (Mb zeP rfl (z1X hp au aG (kP.ext ad) (ad.LN hG) (ad.LN hU)) ?_)))))
 rintro _ w2 ⟨E,JU,rfl,af⟩
 have zD:Pm p g E:=⟨hp,au,aG,JU⟩
 have JV:=z83 zD gJ hz
 obtain⟨T,hT⟩:∃T,TL p g E=T:=⟨_,rfl⟩
 rw[hT] at JV⊢
 have aI:=ad.trans af
 have dI:=hP.ext' aI
 refine LM rfl (MW rfl rfl (MW rfl rfl (M6 rfl (LU rfl (run_seq (qN rfl (LM rfl (MY rfl rfl (LO (An rfl (py (qN rfl (LM rfl ?_)))))))))))))
 refine Mb z0m rfl (dI.size) ?_
 rintro _ w2 ⟨rfl,rfl⟩
 refine LM rfl (qV (Ra U9 rfl) (Mb zfI rfl (Z1 T.length (by omega) _) ?_))
 rintro _ w2 ⟨rfl,rfl⟩
 obtain⟨N,hN⟩:∃N,(T.length+523) / 512=N:=⟨_,rfl⟩
 rw[hN]
 have km:1<=N/\N<=72/\T.length<=N*512-12:=by omega
 refine LM rfl (MW rfl rfl (MW rfl rfl (M6 rfl (LU rfl (Mn.qb (e:=[(0,_),(6,_),(7,_),(8,_),(9,_),(10,_)]) ?_)))))
 refine run_seq (qN rfl (LM rfl (MY rfl rfl ?_)))
 have gj:∀b,X b->b<w2.heap.size:=λb hb=>by have:=hX b hb;have:=aI.size;omega
 refine LO (An rfl (py (qN rfl (M4 rfl rfl (Mb zcH rfl (dI.take gj ha km.1 (by omega)) ?_)))))
 rintro _ w3 ⟨rfl,eX,ar⟩
 have eT:(NI Q.L a N true).length=Q.L.length:=Nv (by omega)
 obtain⟨Q3,A9⟩:∃Q3,Q.Ni (NI Q.L a N true)=Q3:=⟨_,rfl⟩
 rw[A9] at eX
 have vf:Q3.s=Q.s:=by rw[<-A9];rfl
 have JW:Q3.L.length=Q.L.length:=by rw[<-A9];exact eT
 rw[<-vf]
 have z3:=ar.size
 have fj:∀b,X b->b<w3.heap.size:=λb hb=>by have:=gj b hb;omega
 refine LM rfl (MW rfl rfl (MW rfl rfl (LV rfl rfl (O9 (cs:=[_,_]) Ox rfl) ?_)))
 rintro _ w4 ⟨be,rfl,FW,aC,eG⟩
 refine M1 rfl (MD (news:=[I (a:Int),I (N:Int)]) Ox rfl rfl rfl rfl eG (by simp)) ?_
 rintro w5 ⟨nP,aj⟩
 replace nP:LX w5 be [I (a:Int),I (N:Int)] 97:=nP
 have cm:Ext w3 w5:=aC.LJ aj (λj e=>by omega)
 refine LU rfl (run_seq (qN rfl (LM rfl (MY rfl rfl ?_))))
 have gh:Sp Q3 txt K (λb=>X b\/b=be) w5:=eX.ext cm (λb e=>e.imp id λe=>by omega)
 refine LO (An rfl (py (qN rfl (LM rfl (qV (Mk (news:=[I (a:Int),I (N:Int)]) U97 rfl Ox rfl (LX.cells (i:=0) (n:=2) nP rfl) rfl) (Mb zfB rfl (ZH gh km.1 (by omega)) ?_))))))
 rintro _ w6 ⟨wb,bs,bx,bw,sum,rfl,gx,yE,⟨z1',z2',z3',z4'⟩,aN⟩
 have z5:=cm.size
 have z6:=aN.size
 have lbe:=nP.lt
 obtain⟨X6,nK⟩:∃X6:Nat->Prop,(λb=>X b\/b=be\/b=wb\/b=bs\/b=bx\/b=bw)=X6:=⟨_,rfl⟩
 have gH:∀b,X b->X6 b:=λb hb=>by rw[<-nK];exact .inl hb
 have aY:X6 wb/\X6 bs/\X6 bx/\X6 bw:=by rw[<-nK];exact⟨.inr (.inr (.inl rfl)),.inr (.inr (.inr (.inl rfl))),.inr (.inr (.inr (.inr (.inl rfl)))),.inr (.inr (.inr (.inr (.inr rfl))))⟩
 have Ei:X6 be:=by rw[<-nK];exact .inr (.inl rfl)
 have pS:Sp Q3 txt K X6 w6:=gh.ext aN (λb e=>by
  rw[<-nK] at e;rcases e with e|e| e
  ·exact .inl (.inl e)
  ·exact .inl (.inr e)
  ·exact .inr (by omega))
 have l1:=yE.wr.lt
 have l2:=yE.sb.lt
 have l3:=yE.xb.lt
 have l4:=yE.pb.lt
 have qc:∀b,X6 b->b<w6.heap.size:=λb e=>by
  rw[<-nK] at e;rcases e with e| e
  ·have:=fj b e;omega
  ·omega
 have Ej:be≠wb:=by omega
 refine LM rfl (MW rfl rfl (MW rfl rfl (M6 rfl (LU rfl (run_seq (qN rfl (LM rfl (MY rfl rfl (M4 rfl rfl (LM rfl (Mb zeO rfl (z0r pS qc (by omega) yE gx aY (by omega) km.1 km.2.2) ?_)))))))))))
 rintro _ w7 ⟨rfl,sum7,rj,txt7,rest,yb,hC,gV,Ek,El,aA,rK⟩
 have z7:=aA.size
 refine MY rfl rfl (ME rfl rfl (M4 rfl rfl (Mb zfA rfl (z19 yb (λb e=>by have:=qc b e;omega) (by omega) hC rj aY (by omega) hN.symm (by rw[show T.length%512=T.length-512*(T.length / 512) by omega];exact gV) (λb hb e=>by have:=qc b e;have:=rK b hb;omega) Ek) ?_)))
 rintro _ w8 ⟨rfl,txt8,oh,Em,En,yt,bj⟩
 have z8:=bj.size
 have oI:Kp (λb=>¬X6 b\/b=wb) w6 w8:=aA.trans bj
 have Eo:=oI.LN (aN.LN nP) (λe=>e.elim (λe=>e Ei) Ej)
 refine MY rfl rfl (ME rfl rfl (LO (Mn.qb (e:=[(0,_),(6,_),(7,_),(9,_),(11,_),(59,_)]) ?_)))
 refine An rfl (py (qN rfl (LM rfl (qV (Mk (news:=[I (a:Int),I (N:Int)]) U97 rfl Ox rfl (LX.cells (i:=0) (n:=2) Eo rfl) rfl) (Mb zfx rfl (z2f oh (λb e=>by have:=qc b e;omega) (by omega) km.1 (by omega) km.2.2 rj En) ?_)))))
 rintro _ w9 ⟨rb,rfl,yF,B7,rg,aL⟩
 have z9:=aL.size
 have lrb:=yF.lt
 have hL:Laid txt8 a T:=Laid.of λk hk=>⟨rg.VF (by omega) (by omega),Em k hk⟩
 subst hT
 have hO:StO Q3 txt8 (K+(TL p g E).length / 512+2) a N (TL p g E):=⟨by omega,by omega,hL,by omega⟩
 have rP:Kp (λb=>¬X b) w w6:=(aI.kp.trans ar).trans (cm.trans aN).kp
 have mE:Kp (λb=>¬X b) w w8:=rP.LJ oI λb e=>by
  rcases e with e| e
  ·exact .inr λe2=>e (gH b e2)
  ·exact .inl (by have:=aI.size;omega)
 have m5:Kp (λb=>¬X b) w w9:=mE.trans (aL.LZ λb e e2=>e (gH b e2))
 have z2:=aI.size
 have tz:¬X rb:=λe=>by have:=hX rb e;omega
 have hI:(z5L hO rb sum7).inv X w9:=⟨rg.less (λb e=>e.imp (gH b) id),yF,tz⟩
 refine LM rfl (MW rfl rfl (MW rfl rfl (M6 rfl (LU rfl (run_seq (qN rfl (LM rfl (MY rfl rfl (LO (An rfl (py (qN rfl (LM rfl ?_)))))))))))))
 refine Mb zf0 rfl (z2J zD hO hI (λb e=>by have:=hX b e;omega) x1 x2 (m5.LN hG (λe=>e x1)) (m5.LN hU (λe=>e x2))) ?_
 rintro _ w10 ⟨k,x,rfl,Dq,ju,JX,aw⟩
 refine LM rfl (MW rfl rfl (MW rfl rfl (M6 rfl (M6 rfl (qM rfl (M4 rfl rfl (NS rfl rfl (O8 (M4 rfl rfl (qV (z0j YS rfl rfl) (NB rfl rfl (M6 rfl (LU rfl ?_)))))))))))))
 refine Mn.qb (e:=[(6,_),(7,_)]) ?_
 refine LP Tryz.func24 rfl (⟨_,rfl,⟨p,g,E,a,N,rb,sum7,k,x⟩,txt8,rfl,rfl,rfl,km.2.1,km.1,⟨by show w.heap.size<=k;omega,by show w.heap.size<=x;omega,by show w.heap.size<=rb;omega⟩,?_,λy hy=>?_,m5.trans aw⟩)
 ·rw[A9];exact OB.more (G:=⟨p,g,E,a,N,rb,sum7,k,x⟩) ⟨hO,JX⟩ (by omega) (by omega)
 ·show txt8 y=txt y;have hy:y<(a:Int)\/(a:Int)+(N:Int)<=y:=hy;rw[yt y hy,El y (by omega)]
structure Wd where
 d:Nat
 Q:NZ
 txt:Int->Bytes
 K:Nat
 G:WG
 T:WG
 a:Nat
def Wd.v (W:Wd):List Value:=[ptr W.d 0,ptr W.Q.s 0,ptr W.G.k 0,ptr W.T.k 0,I ((200-W.a:Nat):Int)]
structure WdM (W:Wd)(g:List (List Nat))(XX:Nat->Prop)(w:World):Prop where
 hg:OB W.G W.Q W.txt W.K (λb=>XX b/\b≠W.G.rb) w
 ht:OB W.T W.Q W.txt W.K (λb=>XX b/\b≠W.T.rb) w
 gg:W.G.g=g
 tg:W.T.g=Ty g
 pre:Pre W.Q.L W.a
 a:W.a<=146
 L:W.Q.L.length=200
 K:W.K<=400
 gs:W.G.st+W.G.len<=W.T.st
 ts:W.T.st+W.T.len<=W.a
theorem X9 {w:World}{g:List (List Nat)}(au:Og g)(aG:1<=g.length)(gJ:g.length<=40){ga:Option Addr}{gc:Nat}(kP:GrM w (.slice ga g.length gc) g)(hG:LX w 1 (OU .gamma) 298)(hU:LX w 2 (OU .unary) 298)(fr fo:Int)(me: -9223372036854775808<=fr/\fr<=9223372036854775807)(Ep: -9223372036854775808<=fo/\fo<=9223372036854775807):
  Mm Tryz.prog 8 [.slice ga g.length gc,I fr,I fo] w λv w'=>∃(W:Wd) (XX:Nat->Prop),v= .tuple #[.agg W.v.toArray,.bool true]/\WdM W g XX w'/\Ext w w'/\(∀b,b<w.heap.size->XX b/\b≠W.G.rb/\b≠W.T.rb)/\w.heap.size<=W.G.k/\w.heap.size<=W.G.x:=by
 have r1:=PV fr 12 (by decide)
 have r2:=RJ fr 12 (by decide)
 have l1:=hG.lt
 have l2:=hU.lt
 refine It (e:=[(0,_),(1,_),(2,_)]) Tryz.func8 rfl Tryz.ntmps8 rfl rfl (qN rfl (LV rfl rfl (O9 (cs:=[_,_,_,_,_]) Wj rfl) ?_))
 rintro _ w1 ⟨bW,rfl,Lw,ad,GA⟩
 have z1:=ad.size
 have lW:=GA.lt
 refine M6 rfl (qM rfl (qV (OJ (cs:=[_,_]) z6I rfl zfF rfl rfl) (Mb zfo rfl (z8f 200 1 _ (by unfold VX;decide)) ?_)))
 rintro _ w2 ⟨d,Fd,rfl,hD,af,JY⟩
 refine LM rfl (MW rfl rfl (MW rfl rfl (M6 rfl (M6 rfl (qM rfl (Mb zfM rfl (z5B 200 (by decide) _) ?_))))))
 rintro _ w3 ⟨m,gi,rfl,hE,hm,sH,ah⟩
 have z2:=af.size
 have z3:=ah.size
 have JZ:=hD.ext ah
 refine LM rfl (MW rfl rfl (MW rfl rfl (M6 rfl (M6 rfl (qM rfl (M4 rfl rfl (qV (yrt rfl rfl (by decide)) (MK rfl rfl (qV (yrt rfl rfl (by decide)) ?_)))))))))
 rw[show(fr.tmod 12+12).tmod 12=ZO fr 12 from rfl]
 obtain⟨nf,K0,Eq,K4⟩:∃nf:Nat,1+ZO fr 12=(nf:Int)/\1<=nf/\nf<=12:=⟨(1+ZO fr 12).toNat,by omega,by omega,by omega⟩
 refine MK rfl rfl ?_
 rw[K0]
 have gM:(List.replicate 200 false).length=200:=List.length_replicate
 have K5:¬Fd m/\¬Fd gi:=⟨λe=>by have:=hD.lt _ e;omega,λe=>by have:=hD.lt _ e;omega⟩
 refine LM rfl (Mb zft rfl (z58 (L:=List.replicate 200 false) (by rw[gM];exact JZ) hE K5 nf Eq (by omega)) ?_)
 rintro _ w4 ⟨P,rfl,hM,hI,K6,K7,GB,K8,aC⟩
 have z4:=aC.size
 have cj:Ext w w4:=((ad.trans af).trans ah).trans aC
 have Er:=((af.trans ah).trans aC).LN GA
 obtain⟨X,hX⟩:∃X:Nat->Prop,(λb=>b<w.heap.size\/b=bW)=X:=⟨_,rfl⟩
 have Es:∀b,X b->b<w1.heap.size:=λb e=>by rw[<-hX] at e;omega
 have nQ:∀b,b<w.heap.size->X b:=λb e=>by rw[<-hX];exact .inl e
 have Aa:X bW:=by rw[<-hX];exact .inr rfl
 have jK:Sp P (λ_=>zeros 512) 0 X w4:=⟨P,hM,hI,⟨rfl,rfl,rfl,rfl,rfl,rfl,rfl,rfl,rfl⟩,λb hb e=>by
  have:=Es b e;rcases K8 b hb with e|e|e| e
  ·have:=JY b e;omega
  ·omega
  ·omega
  ·omega⟩
 have fA:Pre P.L 2:=by
  rw[GB];exact⟨Nat.le_refl _,by rw[gM];omega,λi h1 h2=>by omega,λi h1 h2=>by rw[gM] at h2;rw[List.getElem?_replicate,if_pos h2]⟩
 have Lx:P.L.length=200:=by rw[GB,gM]
 refine LM rfl (MW rfl rfl (MW rfl rfl (M6 rfl (LU rfl (Mn.qb (e:=[(0,_),(2,_),(6,_),(7,_),(8,_),(9,_),(10,_),(11,_),(12,_),(13,_)]) ?_)))))
 refine run_seq (qN rfl (LM rfl (MY rfl rfl (MC (M4 rfl rfl (MY rfl rfl (MC (ME rfl rfl (M4 rfl rfl (MY rfl rfl (MC (ME rfl rfl (M4 rfl rfl ?_)))))))))))))
 refine qV (MU T7 rfl rfl) (ME rfl rfl (LO (An rfl (py (qN rfl (M4 rfl rfl (LM rfl (Mb zcL rfl (z1i fo Ep _) ?_))))))))
 rintro _ w5 ⟨p1,rfl,B8,mw,aT⟩
 have z5:=aT.size
 have bC:=cj.trans aT
 have K9:∀b,X b->b<w5.heap.size:=λb e=>by have:=Es b e;omega
 refine Mb zbR rfl (z1c (jK.ext' aT) K9 (by omega) (nQ 1 l1) (nQ 2 l2) (bC.LN hG) (bC.LN hU) au aG gJ (kP.ext bC) B8 mw fA (by omega)) ?_
 rintro _ w6 ⟨G,txt6,rfl,Ka,Ly,Lz,Kb,⟨n1,n2,n3⟩,dm,Kc,aR⟩
 have ii:Ext w w6:=bC.LJ aR (λb e=>by
  rcases Nat.lt_or_ge b w.heap.size with h| h
  ·exact absurd (nQ b h) e
  ·exact h)
 have z6:=aR.size
 have Et:=aR.LN (aT.LN Er) (λe=>e Aa)
 have Ed:(NI P.L 2 G.len true).length=P.L.length:=Nv (by omega)
 have nR:Pre (NI P.L 2 G.len true) (2+G.len):=Xm fA (by omega)
 obtain⟨Q6,Eu⟩:∃Q6,P.Ni (NI P.L 2 G.len true)=Q6:=⟨_,rfl⟩
 have Ev:Q6.L=NI P.L 2 G.len true:=by rw[<-Eu];rfl
 have tQ:Q6.s=P.s/\Q6.d=P.d/\Q6.m=P.m:=by rw[<-Eu];exact⟨rfl,rfl,rfl⟩
 rw[Eu] at dm
 rw[<-Ev] at Ed nR
 obtain⟨gb,go,gc',kW,Kd⟩:=kP.r aG
 cases kW
 refine LM rfl (MW rfl rfl (MW rfl rfl (M6 rfl (LU rfl (Mn.qb (e:=[(0,_),(2,_),(6,_),(7,_),(8,_),(10,_),(12,_),(14,_),(15,_)]) ?_)))))
 refine qN rfl (M4 rfl rfl (Mb zfr rfl (z2H au (Kd.ext ii)) ?_))
 rintro _ w7 ⟨bt,rfl,Ke,bQ⟩
 have gt:=ii.trans bQ
 have z7:=bQ.size
 have tH:=dm.ext bQ
 have mF:=UU g
 refine LM rfl (qV (z88 rfl rfl) ?_)
 obtain⟨fo2,yG⟩:∃z,IntKind.i64.wrap (fo+1)=z:=⟨_,rfl⟩
 have yH: -9223372036854775808<=fo2/\fo2<=9223372036854775807:=by
  rw[<-yG,IntKind.wrap_i64];omega
 rw[yG]
 refine Mb zcL rfl (z1i fo2 yH _) ?_
 rintro _ w8 ⟨p2,rfl,rV,nZ,cV⟩
 have z8:=cV.size
 have bM:=tH.ext cV
 have tR:=gt.trans cV
 obtain⟨X2,gj⟩:∃X2:Nat->Prop,(λb=>(X b\/b=G.x\/b=G.k)\/b=G.rb)=X2:=⟨_,rfl⟩
 have ib:∀b,X b->X2 b:=λb e=>by rw[<-gj];exact .inl (.inl e)
 have oh:Sp Q6 txt6 (0+200) X2 w8:=by rw[<-gj];exact bM.sp
 have Ew:∀b,X2 b->b<w8.heap.size:=λb e=>bM.lt1 b (by rw[<-gj] at e;exact e)
 have Ex:GrM w8 (.slice (some ⟨bt,0,none⟩) (Ty g).length (Ty g).length) (Ty g):=(Ke.ext cV).gr
 have o7:=z1c oh Ew (by omega) (ib _ (nQ 1 l1)) (ib _ (nQ 2 l2)) (tR.LN hG) (tR.LN hU) (z8a au) (by omega) (by omega) Ex rV nZ nR (by omega)
 rw[tQ.1,mF] at o7
 refine Mb zbR rfl (o7) ?_
 rintro _ w9 ⟨T,txt9,rfl,Kf,LA,LB,Kg,⟨t1,t2,t3⟩,cU,Ey,aL⟩
 have z9:=aL.size
 have fP:Ext w w9:=tR.LJ aL (λb e=>by
  rcases Nat.lt_or_ge b w.heap.size with h| h
  ·exact absurd (ib b (nQ b h)) e
  ·exact h)
 have Ez:=aL.LN ((bQ.trans cV).LN Et) (λe=>e (ib _ Aa))
 have GC:(NI Q6.L (2+G.len) T.len true).length=Q6.L.length:=Nv (by omega)
 have nS:Pre (NI Q6.L (2+G.len) T.len true) (2+G.len+T.len):=Xm nR (by omega)
 obtain⟨Q9,EA⟩:∃Q9,Q6.Ni (NI Q6.L (2+G.len) T.len true)=Q9:=⟨_,rfl⟩
 have EB:Q9.L=NI Q6.L (2+G.len) T.len true:=by rw[<-EA];rfl
 have tS:Q9.s=Q6.s/\Q9.d=Q6.d/\Q9.m=Q6.m:=by rw[<-EA];exact⟨rfl,rfl,rfl⟩
 rw[EA] at cU
 rw[<-EB] at GC nS
 have yI:=cU.sp
 have tT:=cU.lt1
 have Kh:OB G Q9 txt9 (0+200+200) (λb=>(X b\/b=G.x\/b=G.k)\/b=T.x\/b=T.k\/b=T.rb) w9:=bM.zdM aL (λb e=>by rw[<-gj] at e;exact e) (λj e=> .inl e) (λj e=>e.imp id λe=>by
   have h1:=tT T.x (.inl (.inr (.inl rfl)));have h2:=tT T.k (.inl (.inr (.inr rfl)));have h3:=tT T.rb (.inr rfl)
   omega) (yI.less λb e=>by
   rw[<-gj];rcases e with(e|e|e|e)| e
   ·exact .inl (.inl (.inl e))
   ·exact .inl (.inr (.inl e))
   ·exact .inl (.inr (.inr e))
   ·exact .inr e
   ·exact .inl (.inl (.inr e))) tS.1 GC (by omega) (λy h1 h2=>Ey y (.inl (by omega)))
 have gS:=yI.room nS (by omega)
 rw[tS.2.2,tQ.2.2,K6] at gS
 refine LM rfl (MW rfl rfl (MW rfl rfl (M6 rfl (M6 rfl (qM rfl (M4 rfl rfl (M4 rfl rfl (LM rfl (Mb zfp rfl (gS) ?_)))))))))
 rintro _ w10 ⟨rfl,bL⟩
 have yJ:=bL.LN Ez
 rw[show Q9.L.length-(2+G.len+T.len)=200-(2+G.len+T.len) by omega]
 refine qV (OJ (cs:=[_,_,_,_,_]) Wj rfl zfU rfl rfl) (M4 rfl rfl (LM rfl (NB rfl rfl (M1 rfl (MD (news:=[_,_,_,_,_]) Wj rfl rfl rfl rfl yJ (by simp)) ?_))))
 rintro w11 ⟨yK,aU⟩
 refine LU rfl (Mn.qb (e:=[(6,_),(7,_)]) ?_)
 refine Mj Tryz.func8 (.cell U30 rfl Wj rfl (LX.cells (n:=5) yK (news:=[_,_,_,_,_]) rfl) rfl (.tmp rfl .nil)) ?_
 obtain⟨XX,gH⟩:∃XX:Nat->Prop,(λb=>X b\/b=G.x\/b=G.k\/b=G.rb\/b=T.x\/b=T.k\/b=T.rb)=XX:=⟨_,rfl⟩
 have GD:=bM.rbX
 have GE:=cU.rbX
 have ym:=bM.xk
 have GF:=cU.xk
 have zG:=bM.lt1 _ (.inr rfl)
 have zGk:=bM.lt1 _ (.inl ym.1)
 have zGx:=bM.lt1 _ (.inl ym.2.1)
 have lQ:∀b,X b->b<w1.heap.size:=Es
 have EC:OB G Q9 txt9 400 (λb=>XX b/\b≠G.rb) w11:=by
  refine OB.less (Y:=λb=>(X b\/b=G.x\/b=G.k)\/b=T.x\/b=T.k\/b=T.rb) ((Kh.ext bL).own aU λj e=>?_) (λb e=>?_) ?_
  ·subst e;exact⟨.inl (.inl Aa),by omega,by omega,by omega,by omega⟩
  ·rw[<-gH] at e;rcases e with⟨e|e|e|e|e,h⟩
   ·exact .inl (.inl e)
   ·exact .inl (.inr (.inl e))
   ·exact .inl (.inr (.inr e))
   ·exact absurd e h
   ·exact .inr e
  ·rw[<-gH];exact⟨⟨.inr (.inr (.inl rfl)),λe=>GD (e▸ym.1)⟩,⟨.inr (.inl rfl),λe=>GD (e▸ym.2.1)⟩,⟨.inl (nQ 1 l1),by omega⟩,⟨.inl (nQ 2 l2),by omega⟩⟩
 have ED:OB T Q9 txt9 400 (λb=>XX b/\b≠T.rb) w11:=by
  refine OB.less (Y:=λj=>X2 j\/j=T.x\/j=T.k) ((cU.ext bL).own aU λj e=>?_) (λb e=>?_) ?_
  ·subst e;exact⟨.inl (ib _ Aa),by omega,by omega,by omega,by omega⟩
  ·rw[<-gH] at e;rw[<-gj];rcases e with⟨e|e|e|e|e|e|e,h⟩
   ·exact .inl (.inl (.inl e))
   ·exact .inl (.inl (.inr (.inl e)))
   ·exact .inl (.inl (.inr (.inr e)))
   ·exact .inl (.inr e)
   ·exact .inr (.inl e)
   ·exact .inr (.inr e)
   ·exact absurd e h
  ·rw[<-gH];exact⟨⟨.inr (.inr (.inr (.inr (.inr (.inl rfl))))),λe=>GE (e▸GF.1)⟩,⟨.inr (.inr (.inr (.inr (.inl rfl)))),λe=>GE (e▸GF.2.1)⟩,⟨.inl (nQ 1 l1),by omega⟩,⟨.inl (nQ 2 l2),by omega⟩⟩
 refine⟨_,rfl,⟨d,Q9,txt9,400,G,T,2+G.len+T.len⟩,XX,?_,⟨EC,ED,Ka,Kf,nS,?_,?_,?_,?_,?_⟩,?_,λb hb=>⟨by rw[<-gH];exact .inl (nQ b hb),λe=>?_,λe=>?_⟩,?_,?_⟩
 ·unfold Wd.v;rw[tS.1,tQ.1]
  rfl
 ·show 2+G.len+T.len<=146;omega
 ·show Q9.L.length=200;omega
 ·exact Nat.le_refl _
 ·show G.st+G.len<=T.st;omega
 ·show T.st+T.len<=2+G.len+T.len;omega
 ·exact(fP.trans bL).LJ aU λb e=>by omega
 ·have e:b=G.rb:=e;omega
 ·have e:b=T.rb:=e;omega
 ·show w.heap.size<=G.k;omega
 ·show w.heap.size<=G.x;omega
theorem z3T {w:World}{g:List (List Nat)}(au:Og g)(aG:1<=g.length)(gJ:g.length<=40){ga:Option Addr}{gc:Nat}(kP:GrM w (.slice ga g.length gc) g)(hG:LX w 1 (OU .gamma) 298)(hU:LX w 2 (OU .unary) 298)(fr fo:Int)(me: -9223372036854775808<=fr/\fr<=9223372036854775807)(Ep: -9223372036854775808<=fo/\fo<=9223372036854775807):
  Mm Tryz.prog 8 [.slice ga g.length gc,I fr,I fo] w λv w'=>∃(W:Wd) (XX:Nat->Prop),v= .tuple #[.agg W.v.toArray,.bool true]/\WdM W g XX w'/\Ext w w'/\∀b,b<w.heap.size->XX b/\b≠W.G.rb/\b≠W.T.rb:=by
 refine(X9 au aG gJ kP hG hU fr fo me Ep).mono ?_
 rintro v w' ⟨W,XX,h1,h2,h3,h4,-⟩
 exact⟨W,XX,h1,h2,h3,h4⟩
theorem zcU:Og [[1],[2],[]]:=⟨λl hl=>by
 simp only[List.mem_cons,List.not_mem_nil,or_false] at hl
 rcases hl with rfl|rfl|rfl<;>exact⟨by decide,by decide⟩,by decide,by decide⟩
theorem z4A {w:World}(hG:LX w 1 (OU .gamma) 298)(hU:LX w 2 (OU .unary) 298):Mm Tryz.prog 9 [] w λv w'=>v= .bool true/\Ext w w':=by
 refine It (e:=[]) Tryz.func9 rfl Tryz.ntmps9 rfl rfl (qN rfl (M6 rfl (qM rfl (LV rfl rfl (Uu (cs:=[_]) (zs:=[Value.int .u32 0]) Ml Mc rfl (by kernel_rfl) rfl rfl rfl (by decide)) ?_))))
 rintro _ w1 ⟨b1,rfl,⟨bR,ad,ai⟩,jq⟩
 refine LV rfl rfl (Uu (cs:=[_]) (zs:=[Value.int .u32 0]) Ml Mc rfl (by kernel_rfl) rfl rfl rfl (by decide)) ?_
 rintro _ w2 ⟨b2,rfl,⟨bY,af,am⟩,cN⟩
 refine LV rfl rfl (Uu (cs:=[]) (zs:=[]) Ml Mc rfl (by kernel_rfl) rfl rfl rfl (by decide)) ?_
 rintro _ w3 ⟨b3,rfl,⟨en,ah,aq⟩,cO⟩
 refine LV rfl rfl (Uu (cs:=[_,_,_]) (zs:=[Value.slice none 0 0,Value.slice none 0 0,Value.slice none 0 0]) Uz Qz rfl (by kernel_rfl) rfl rfl rfl (by decide)) ?_
 rintro _ w4 ⟨b4,rfl,⟨eA,aC,aM⟩,ee⟩
 have kP:GrM w4 (.slice (some ⟨b4,0,none⟩) 3 3) [[1],[2],[]]:=by
  refine⟨⟨_,ee.rd,λi l hl=>?_⟩⟩
  match i,hl with
  | 0, hl =>
    cases hl
    exact⟨_,_,rfl,Nat.le_refl _,((jq.rd.ext af).ext ah).ext aC⟩
  | 1, hl =>
    cases hl
    exact⟨_,_,rfl,Nat.le_refl _,(cN.rd.ext ah).ext aC⟩
  | 2, hl =>
    cases hl
    exact⟨_,_,rfl,Nat.le_refl _,cO.rd.ext aC⟩
  |i+3,hl=>cases hl
 have cj:=((ad.trans af).trans ah).trans aC
 have z4:=cj.size
 refine Mb cf8 rfl (z3T (g:=[[1],[2],[]]) zcU (by decide) (by decide) kP (cj.LN hG) (cj.LN hU) 1 0 (by decide) (by decide)) ?_
 rintro _ w5 ⟨W,XX,rfl,hW,aT,gH⟩
 have bC:=cj.trans aT
 have z5:=bC.size
 refine LM rfl (MW rfl rfl (MW rfl rfl (LV rfl rfl (O9 (cs:=[_,_,_,_,_]) Wj rfl) ?_)))
 rintro _ w6 ⟨b6,rfl,nY,aN,aX⟩
 have z6:=aN.size
 refine M1 rfl (MD (news:=W.v) Wj rfl rfl rfl rfl aX (by simp)) ?_
 rintro w7 ⟨bN,aA⟩
 have gU:LX w7 b6 [ptr W.d 0,ptr W.Q.s 0,ptr W.G.k 0,ptr W.T.k 0,I ((200-W.a:Nat):Int)] 30:=bN
 have l7:=bN.lt
 have z7:=aA.size
 have iw:=aN.kp.trans aA
 have gF:=hW.hg.lt
 have iA:=hW.hg.xk
 have i1:=gF _ iA.1
 have i2:=gF _ iA.2.1
 have i3:=gF _ iA.2.2.1
 have i4:=gF _ iA.2.2.2
 have tH:OB W.G W.Q W.txt W.K (λb=>(XX b/\b≠W.G.rb)\/b=b6) w7:=(hW.hg.grow aN (Y:=λb=>(XX b/\b≠W.G.rb)\/b=b6) (λj e=>e.imp id λe=>by have:=aX.lt;omega) (λj e=> .inl e)).own aA λj e=>by subst e;exact⟨.inr rfl,by omega,by omega,by omega,by omega⟩
 have oC:∀b,b<w.heap.size->(XX b/\b≠W.G.rb)\/b=b6:=λb hb=> .inl ⟨(gH b (by omega)).1,(gH b (by omega)).2.1⟩
 have ak:=hW.gg
 have eE:W.G.g.length=3:=by rw[ak];rfl
 have ha:=hW.a
 have hL:=hW.L
 have Ki:=hW.K
 have Kj:=hW.gs
 have tY:=hW.ts
 refine LU rfl (run_seq (qN rfl (LM rfl (qV ((by first|exact ML rfl|exact Oh rfl)) ?_))))
 refine LO (An rfl (py (qN rfl (M0 Zi rfl (qV (LR T7 rfl rfl gU rfl) (M0 Zg rfl (qV (LR YS rfl rfl gU rfl) (Mb z8k rfl (To tH (by omega) (by omega) hW.pre (by omega) (by omega) (root:=0) (by omega)) ?_))))))))
 rintro _ w8 ⟨rr,vb,txt8,rfl,iD,dc,h8,yt,bj⟩
 rw[eE,show(List.replicate 3 nv).set 0 0=[0,nv,nv] from rfl] at h8
 have s8:=RZ h8 (by omega) (by omega) (by decide)
 rw[ak,show Y0 0 [[1],[2],[]] [0,nv,nv]=([0,1,nv],true) by decide] at s8
 refine LM rfl (MW rfl rfl (MW rfl rfl (M6 rfl (LU rfl (run_seq (qN rfl (LM rfl (MY rfl rfl (LO (Mn.qb (e:=[(0,_),(3,_),(32,_)]) ?_))))))))))
 refine An rfl (py (qN rfl (LM rfl (Mb z7Q rfl (s8) ?_))))
 rintro _ w9 ⟨rfl,txt9,h9,Ey,aL⟩
 have s9:=RZ h9 (by omega) (by omega) (by decide)
 rw[ak,show Y0 (0+1) [[1],[2],[]] [0,1,nv]=([0,1,2],true) by decide] at s9
 refine LM rfl (MW rfl rfl (MW rfl rfl (M6 rfl (M6 rfl (qM rfl (LM rfl (Mb z7Q rfl (s9) ?_)))))))
 rintro _ w10 ⟨rfl,txt10,eK,q9,aw⟩
 have s10:=RZ eK (by omega) (by omega) (by decide)
 rw[ak,show Y0 (0+1+1) [[1],[2],[]] [0,1,2]=([0,1,2],false) by decide] at s10
 refine LM rfl (MW rfl rfl (MW rfl rfl (M6 rfl (M6 rfl (qM rfl (LM rfl (Mb z7Q rfl (s10) ?_)))))))
 rintro _ w11 ⟨rfl,txt11,mA,Kk,aU⟩
 refine LM rfl (MW rfl rfl (MW rfl rfl (M6 rfl (M6 rfl (qM rfl (LM rfl (Mb zaz rfl (Yw mA (i:=2) (x:=2) rfl) ?_)))))))
 rintro _ w12 ⟨rfl,Fx,aV⟩
 refine LM rfl (MW rfl rfl (MW rfl rfl (M6 rfl (LU rfl (Mn.qb (e:=[(0,_),(5,_),(7,_),(9,_),(11,_),(12,_)]) ?_)))))
 refine qN rfl (LM rfl (qV ((by first|exact ML rfl|exact Oh rfl)) ?_))
 refine M4 rfl rfl (qV ((by first|exact ML rfl|exact Oh rfl)) ?_)
 refine NB rfl rfl (M4 rfl rfl (NB rfl rfl (M4 rfl rfl (NS rfl rfl (NB rfl rfl (M4 rfl rfl (NS rfl rfl (O8 (NB rfl rfl (LU rfl (LP Tryz.func9 rfl (⟨_,rfl,rfl,?_⟩))))))))))))
 have EE:=bC.trans aN
 have LC:∀b,b<w.heap.size->b≠rr:=λb hb=>by omega
 refine(((((EE.LJ aA λb e=>by omega).LJ bj λb e=>?_).LJ aL λb e=>?_).LJ aw λb e=>?_).LJ aU λb e=>?_).LJ aV λb e=>?_
 all_goals rcases Nat.lt_or_ge b w.heap.size with h| h
 all_goals first|omega|skip
 ·exact absurd (oC b h) e
 ·exact e.elim (λe=>absurd (.inl (oC b h)) e) (λe=>by omega)
 ·exact e.elim (λe=>absurd (.inl (oC b h)) e) (λe=>by omega)
 ·exact e.elim (λe=>absurd (.inl (oC b h)) e) (λe=>by omega)
 ·exact absurd (.inl (.inl (oC b h))) e
section
variable {G:WG}{w w':World}{Q:NZ}{txt:Int->Bytes}{K:Nat}{X Y:Nat->Prop}{rr vb sv r:Nat}{s:S5}{au:Og G.g}
structure RnM (G:WG)(Q:NZ)(txt:Int->Bytes)(K:Nat)(X:Nat->Prop)(rr vb sv:Nat)(au:Og G.g)(r:Nat)(s:S5)(w:World):Prop where
 m:Qo G Q txt K X rr vb sv s.t s.done (O2 s.d) w
 i:BfI G.g au r s
 ok:UD s.d
 r:r<G.g.length
theorem UD.new {n r:Nat}:UD (S5.new n r).d:=λu k hu=>by
 unfold S5.new at hu
 dsimp only at hu
 by_cases e:r=u
 ·subst e;rcases Nat.lt_or_ge r n with h| h
  ·rw[List.getElem?_set_self (by simpa using h)] at hu;cases hu;decide
  ·rw[List.getElem?_eq_none (by simpa using h)] at hu;cases hu
 ·rw[List.getElem?_set_ne e,List.getElem?_replicate] at hu;split at hu
  ·cases hu
  ·cases hu
theorem z5A {n r:Nat}:O2 (S5.new n r).d=(List.replicate n nv).set r 0:=by
 unfold O2 S5.new
 rw[List.map_set,List.map_replicate];rfl
theorem RnM.new (h:Qo G Q txt K X rr vb sv 0 false ((List.replicate G.g.length nv).set r 0) w)(au:Og G.g)(hr:r<G.g.length):RnM G Q txt K X rr vb sv au r (S5.new G.g.length r) w:=
 ⟨by rw[z5A];exact h,BfI.new au hr,UD.new,hr⟩
theorem z2S (h:RnM G Q txt K X rr vb sv au r s w)(hK:K<=800000000000)(hd:s.done=false):Mm Tryz.prog 11 [ptr rr 0] w λv w'=>v= .tuple #[.bool (s.step G.g).done,I 0]/\∃txt',RnM G Q txt' (K+3200) X rr vb sv au r (s.step G.g) w'/\(∀y:Int,y<(sv:Int)\/(sv:Int)+1<=y->txt' y=txt y)/\Kp (λb=>¬X b\/b=rr) w w':=by
 have hr:=h.r
 have ht:=h.i.z6j h.r hd
 have hn:=h.m.n
 have hm:=h.m
 rw[hd] at hm
 have hl:=hm.len
 have hv:Q8 (O2 s.d).length 128=1:=by
  rw[hl];unfold Q8;omega
 have yL:=z11 (t:=s.t) (show s.t+1<4294967295 by omega) G.g (List.range G.g.length) (p:=(s.d,false)) h.ok
 have e1:Y0 s.t G.g (O2 s.d)=(O2 (XZ s.t G.g s.d).1,(XZ s.t G.g s.d).2):=yL.1
 have hs:=RZ hm hK (by omega) (by omega)
 rw[e1,hv] at hs
 refine hs.mono ?_
 rintro v w' ⟨rfl,txt',h',hy,hk⟩
 exact⟨rfl,txt',⟨h',h.i.step hd,yL.2,hr⟩,hy,hk⟩
def vN (o:Option Nat):Nat:=match o with
 |none=>18446744073709551615
 |some k=>k
theorem z4P (h:RnM G Q txt K X rr vb sv au r s w)(hd:s.done=true){u:Nat}(hu:u<G.g.length):Mm Tryz.prog 12 [ptr rr 0,I (u:Int)] w λv w'=>v= .tuple #[M7 (vN (dF s.d u)),I 0]/\RnM G Q txt K X rr vb sv au r s w'/\Kp (λb=>¬(X b\/b=G.rb)) w w':=by
 have hm:=h.m
 rw[hd] at hm
 have hl:=h.i.len
 have hg:s.d[u]? =some s.d[u]:=List.getElem?_eq_getElem (by omega)
 have hx:(O2 s.d)[u]? =some (dN s.d[u]):=by rw[Vx,hg];rfl
 refine(Yw hm hx).mono ?_
 rintro v w' ⟨rfl,h',hk⟩
 refine⟨?_,⟨by rw[hd];exact h',h.i,h.ok,h.r⟩,hk⟩
 have e:(if dN s.d[u]=4294967295 then 18446744073709551615 else dN s.d[u])=vN (dF s.d u):=by
  unfold dF;rw[hg]
  cases ho:s.d[u] with
  |none=>rfl
  | some k =>
    have:=h.ok u k (by rw[hg,ho]);show(if k=4294967295 then 18446744073709551615 else k)=k;rw[if_neg (by have e:k<4294967296-1:=this;omega)]
 rw[e]
end
section
variable {G:WG}{w w':World}{Q:NZ}{txt:Int->Bytes}{K:Nat}{X Y S':Nat->Prop}{rr vb sv r:Nat}{s:S5}{au:Og G.g}
theorem RnM.step (h:RnM G Q txt K X rr vb sv au r s w)(hk:Kp S' w w')(hS:∀j,S' j->X j/\j≠G.k/\j≠G.x/\j≠1/\j≠2/\j≠rr/\j≠vb)(bH:∀j,X j->Y j)(hY:∀j,Y j->X j\/(w.heap.size<=j/\j<w'.heap.size)):RnM G Q txt K Y rr vb sv au r s w':=
 ⟨⟨h.m.g.step hk (λj e=>⟨(hS j e).1,(hS j e).2.1,(hS j e).2.2.1,(hS j e).2.2.2.1,(hS j e).2.2.2.2.1⟩) hY bH,hk.LN h.m.run (λe=>(hS _ e).2.2.2.2.2.1 rfl),h.m.vec.kp hk (λe=>(hS _ e).2.2.2.2.2.2 rfl),⟨bH _ h.m.xr.1,bH _ h.m.xr.2⟩,h.m.ne,h.m.RT,h.m.len,h.m.n,h.m.t⟩,h.i,h.ok,h.r⟩
theorem RnM.lts (h:RnM G Q txt K X rr vb sv au r s w):rr<w.heap.size/\vb<w.heap.size/\G.k<w.heap.size/\G.x<w.heap.size/\1<w.heap.size/\2<w.heap.size:=by
 have h1:=h.m.g.lt
 have h2:=h.m.g.xk
 exact⟨h1 _ h.m.xr.1,h1 _ h.m.xr.2,h1 _ h2.1,h1 _ h2.2.1,h1 _ h2.2.2.1,h1 _ h2.2.2.2⟩
end
structure OV (w0:World)(g:List (List Nat))(rt:Nat)(G:WG)(Q:NZ)(txt:Int->Bytes)(K:Nat)(X:Nat->Prop)(rr vb a:Nat)(s:S5)(w:World):Prop where
 n:∃au:Og G.g,RnM G Q txt K X rr vb a au rt s w
 gg:G.g=g
 top:∀b,b<w0.heap.size->X b
 lo:w0.heap.size<=rr/\w0.heap.size<=vb/\rr≠vb
 a2:2<=a
 own:Q.L[a]? =some true
section
variable {w0 w w':World}{g:List (List Nat)}{rt:Nat}{G G':WG}{Q Q':NZ}{txt txt':Int->Bytes}{K K':Nat}{X Y S' X':Nat->Prop}{rr vb a r2 v2 a2:Nat}{s s2:S5}
theorem OV.step (h:OV w0 g rt G Q txt K X rr vb a s w)(hk:Kp S' w w')(hS:∀j,j<w.heap.size->S' j->X j/\j≠G.k/\j≠G.x/\j≠1/\j≠2/\j≠rr/\j≠vb)(bH:∀j,X j->Y j)(hY:∀j,Y j->X j\/(w.heap.size<=j/\j<w'.heap.size)):OV w0 g rt G Q txt K Y rr vb a s w':=by
 obtain⟨au,hn⟩:=h.n
 refine⟨⟨au,hn.step (S':=λj=>j<w.heap.size/\S' j) (hk.mono λj h1 h2=>⟨h1,h2⟩) (λj e=>hS j e.1 e.2) bH hY⟩,h.gg,λb hb=>bH b (h.top b hb),h.lo,h.a2,h.own⟩
theorem OV.other (h:OV w0 g rt G Q txt K X rr vb a s w)(hg:OB G Q' txt' K' Y w')(bH:∀j,X j->Y j)(hk:Kp (λb=>¬X b\/b=r2\/b=v2) w w')(n1:rr≠r2)(n2:rr≠v2)(n3:vb≠r2)(n4:vb≠v2)(hs:Q'.s=Q.s)(hl:Q'.L.length=Q.L.length)(hy:txt' a=txt a)(ho:Q'.L[a]? =some true):OV w0 g rt G Q' txt' K' Y rr vb a s w':=by
 obtain⟨au,hn⟩:=h.n
 have hm:=hn.m
 have hv:Q8 (O2 s.d).length 128=1:=by
  rw[hm.len];have:=hm.n;unfold Q8;omega
 have EF:=((hm.vec.kp hk (λe=>e.elim (λe=>e hm.xr.2) (λe=>e.elim n3 n4))).TU (txt':=txt') (λy h1 h2=>by
  rw[show 512 / 4=128 from rfl,hv] at h2
  rw[show y=(a:Int) by omega];exact hy)).q hs hl
 exact⟨⟨au,⟨hg,hk.LN hm.run (λe=>e.elim (λe=>e hm.xr.1) (λe=>e.elim n1 n2)),EF,⟨bH _ hm.xr.1,bH _ hm.xr.2⟩,hm.ne,hm.RT,hm.len,hm.n,hm.t⟩,hn.i,hn.ok,hn.r⟩,h.gg,λb hb=>bH b (h.top b hb),h.lo,h.a2,ho⟩
end
structure SK (w:World)(G1:WG)(X1:Nat->Prop)(r1 v1:Nat)(G2:WG)(X2:Nat->Prop)(r2 v2:Nat):Prop where
 cov:∀j,j<w.heap.size->X1 j\/X2 j
 x1:X1 r2/\X1 v2/\X1 G2.k/\X1 G2.x
 x2:X2 r1/\X2 v1/\X2 G1.k/\X2 G1.x
 n1:r1≠r2/\r1≠v2/\r1≠G2.k/\r1≠G2.x
 n2:v1≠r2/\v1≠v2/\v1≠G2.k/\v1≠G2.x
 n3:r2≠G1.k/\r2≠G1.x/\v2≠G1.k/\v2≠G1.x
section
variable {w0 w w':World}{g:List (List Nat)}{rt:Nat}{G G1 G2:WG}{Q Q1 Q2 Q':NZ}{txt txt1 txt2 txt':Int->Bytes}{K K1 K2 K':Nat}{X X1 X2 Y S':Nat->Prop}{r1 v1 a1 r2 v2 a2 t:Nat}{dn:Bool}{xs:List Nat}{s s1 s2:S5}
theorem SK.symm (h:SK w G1 X1 r1 v1 G2 X2 r2 v2):SK w G2 X2 r2 v2 G1 X1 r1 v1:=
 ⟨λj hj=>(h.cov j hj).symm,h.x2,h.x1,⟨h.n1.1.symm,h.n2.1.symm,h.n3.1,h.n3.2.1⟩,⟨h.n1.2.1.symm,h.n2.2.1.symm,h.n3.2.2.1,h.n3.2.2.2⟩,⟨h.n1.2.2.1,h.n1.2.2.2,h.n2.2.2.1,h.n2.2.2.2⟩⟩
theorem z7L (h1:Qo G1 Q1 txt1 K1 X1 r1 v1 a1 t dn xs w)(h2:OV w0 g rt G2 Q2 txt2 K2 X2 r2 v2 a2 s2 w)(hA:SK w G1 X1 r1 v1 G2 X2 r2 v2)(hk:Kp (λb=>¬X1 b\/b=r1\/b=v1) w w'):∃Y,OV w0 g rt G2 Q2 txt2 K2 Y r2 v2 a2 s2 w'/\SK w' G1 X1 r1 v1 G2 Y r2 v2/\∀j,X2 j->Y j:=by
 have hx:=h1.g.xk
 obtain⟨e1,e2,e3,e4,e5,e6,e7,e8,e9⟩:=h1.ne
 obtain⟨f1,f2,f3,f4⟩:=hA.n1
 obtain⟨g1,g2,g3,g4⟩:=hA.n2
 obtain⟨q1,q2,q3,q4⟩:=hA.x1
 obtain⟨p1,p2,p3,p4⟩:=hA.x2
 have hz:=hk.size
 refine⟨λj=>X2 j\/(w.heap.size<=j/\j<w'.heap.size),h2.step hk (λj hj e=>?_) (λj e=> .inl e) (λj e=>e),⟨λj hj=>?_,hA.x1,⟨.inl p1,.inl p2,.inl p3,.inl p4⟩,hA.n1,hA.n2,hA.n3⟩,λj e=> .inl e⟩
 ·rcases e with e|e| e
  ·have hX:=(hA.cov j hj).resolve_left e;exact⟨hX,λh=>e (h▸q3),λh=>e (h▸q4),λh=>e (h▸hx.2.2.1),λh=>e (h▸hx.2.2.2),λh=>e (h▸q1),λh=>e (h▸q2)⟩
  ·subst e;exact⟨p1,f3,f4,e4,e5,f1,f2⟩
  ·subst e;exact⟨p2,g3,g4,e8,e9,g1,g2⟩
 ·by_cases Kl:j<w.heap.size
  ·exact(hA.cov j Kl).imp id .inl
  ·exact .inr (.inr ⟨by omega,hj⟩)
inductive Oo (w0:World) (g:List (List Nat)) (rt r1 r2:Nat) (s1 s2:S5) (w:World):Prop
 |same (G:WG) (Q:NZ) (txt:Int->Bytes) (K:Nat) (X:Nat->Prop) (v1 a1 v2 a2:Nat) (h1:OV w0 g rt G Q txt K X r1 v1 a1 s1 w) (h2:OV w0 g rt G Q txt K X r2 v2 a2 s2 w) (ha:a1≠a2) (hn:r1≠r2/\r1≠v2/\v1≠r2/\v1≠v2) (hK:K<=1000+3300*(s1.t+s2.t)):Oo w0 g rt r1 r2 s1 s2 w
 |own (G1:WG) (Q1:NZ) (txt1:Int->Bytes) (K1:Nat) (X1:Nat->Prop) (v1 a1:Nat) (G2:WG) (Q2:NZ) (txt2:Int->Bytes) (K2:Nat) (X2:Nat->Prop) (v2 a2:Nat) (h1:OV w0 g rt G1 Q1 txt1 K1 X1 r1 v1 a1 s1 w) (h2:OV w0 g rt G2 Q2 txt2 K2 X2 r2 v2 a2 s2 w) (hA:SK w G1 X1 r1 v1 G2 X2 r2 v2) (rA:K1<=1000+3300*(s1.t+s2.t)) (rz:K2<=1000+3300*(s1.t+s2.t)):Oo w0 g rt r1 r2 s1 s2 w
theorem Oo.symm (h:Oo w0 g rt r1 r2 s1 s2 w):Oo w0 g rt r2 r1 s2 s1 w:=by
 cases h with
 |same G Q txt K X v1 a1 v2 a2 h1 h2 ha hn hK=>exact .same G Q txt K X v2 a2 v1 a1 h2 h1 ha.symm ⟨hn.1.symm,hn.2.2.1.symm,hn.2.1.symm,hn.2.2.2.symm⟩ (by omega)
 |own G1 Q1 txt1 K1 X1 v1 a1 G2 Q2 txt2 K2 X2 v2 a2 h1 h2 hA rA rz=>exact .own G2 Q2 txt2 K2 X2 v2 a2 G1 Q1 txt1 K1 X1 v1 a1 h2 h1 hA.symm (by omega) (by omega)
theorem Oo.op1 (h:Oo w0 g rt r1 r2 s1 s2 w):∃G Q txt K X v1 a1,OV w0 g rt G Q txt K X r1 v1 a1 s1 w/\K<=1000+3300*(s1.t+s2.t)/\
  ∀(w':World) (txt':Int->Bytes) (K':Nat) (s':S5),OV w0 g rt G Q txt' K' X r1 v1 a1 s' w'->(∀y:Int,y<(a1:Int)\/(a1:Int)+1<=y->txt' y=txt y)->Kp (λb=>¬X b\/b=r1\/b=v1) w w'->s1.t<=s'.t->K'<=1000+3300*(s'.t+s2.t)->Oo w0 g rt r1 r2 s' s2 w':=by
 cases h with
 | same G Q txt K X v1 a1 v2 a2 h1 h2 ha hn hK =>
   refine⟨G,Q,txt,K,X,v1,a1,h1,hK,λw' txt' K' s' i5 hy hk ht oB=>?_⟩;obtain⟨gI,yM⟩:=i5.n
   exact .same G Q txt' K' X v1 a1 v2 a2 i5 (h2.other yM.m.g (λ_ e=>e) hk hn.1.symm hn.2.2.1.symm hn.2.1.symm hn.2.2.2.symm rfl rfl (hy a2 (by omega)) h2.own) ha hn oB
 | own G1 Q1 txt1 K1 X1 v1 a1 G2 Q2 txt2 K2 X2 v2 a2 h1 h2 hA rA rz =>
   refine⟨G1,Q1,txt1,K1,X1,v1,a1,h1,rA,λw' txt' K' s' i5 hy hk ht oB=>?_⟩;obtain⟨au,hn⟩:=h1.n;obtain⟨Y,oA,tc,-⟩:=z7L hn.m h2 hA hk;exact .own G1 Q1 txt' K' X1 v1 a1 G2 Q2 txt2 K2 Y v2 a2 i5 oA tc oB (by omega)
theorem OV.new (h:OV w0 g rt G Q txt K X r1 v1 a1 s1 w)(hk:Kp (λb=>¬X b\/b=r1\/b=v1) w w')(hx:Ext w0 w):Ext w0 w':=hx.LJ hk λb e=>by
 have:=h.lo
 rcases Nat.lt_or_ge b w0.heap.size with hb|hb
 ·rcases e with e|e| e
  ·exact absurd (h.top b hb) e
  ·omega
  ·omega
 ·exact hb
theorem Xs (h:Oo w0 g rt r1 r2 s1 s2 w)(hx:Ext w0 w)(hd:s1.done=false)(hb:s2.t<=50):Mm Tryz.prog 11 [ptr r1 0] w λv w'=>v= .tuple #[.bool (s1.step g).done,I 0]/\Oo w0 g rt r1 r2 (s1.step g) s2 w'/\Ext w0 w':=by
 obtain⟨G,Q,txt,K,X,v1,a1,h1,hK,hP⟩:=h.op1
 obtain⟨au,hn⟩:=h1.n
 have ak:=h1.gg
 subst ak
 have ht:=hn.i.z6j hn.r hd
 have tE:=hn.m.n
 refine(z2S hn (by omega) hd).mono ?_
 rintro v w' ⟨rfl,txt',yM,hy,hk⟩
 have nT:Kp (λb=>¬X b\/b=r1\/b=v1) w w':=hk.LZ λb e=>e.imp id .inl
 refine⟨rfl,hP w' txt' (K+3200) _ ⟨⟨au,yM⟩,rfl,h1.top,h1.lo,h1.a2,h1.own⟩ hy nT (Nat.le_succ _) (by show K+3200<=1000+3300*(s1.t+1+s2.t);omega),h1.new nT hx⟩
theorem YE (h:Oo w0 g rt r1 r2 s1 s2 w)(hx:Ext w0 w)(hd:s1.done=true){u:Nat}(hu:u<g.length):Mm Tryz.prog 12 [ptr r1 0,I (u:Int)] w λv w'=>v= .tuple #[M7 (vN (dF s1.d u)),I 0]/\Oo w0 g rt r1 r2 s1 s2 w'/\Ext w0 w':=by
 obtain⟨G,Q,txt,K,X,v1,a1,h1,hK,hP⟩:=h.op1
 obtain⟨au,hn⟩:=h1.n
 have ak:=h1.gg
 subst ak
 refine(z4P hn hd hu).mono ?_
 rintro v w' ⟨rfl,yM,hk⟩
 have nT:Kp (λb=>¬X b\/b=r1\/b=v1) w w':=hk.LZ λb e=> .inl λe2=>e (.inl e2)
 exact⟨rfl,hP w' txt K _ ⟨⟨au,yM⟩,rfl,h1.top,h1.lo,h1.a2,h1.own⟩ (λ_ _=>rfl) nT (Nat.le_refl _) hK,h1.new nT hx⟩
theorem z2M (h:Oo w0 g rt r1 r2 s1 s2 w)(hx:Ext w0 w):Mm Tryz.prog 19 [ptr r1 0] w λv w'=>v= .tuple #[S (bfT s1.t s1.done (O2 s1.d)),I 0]/\Oo w0 g rt r1 r2 s1 s2 w'/\Ext w0 w':=by
 obtain⟨G,Q,txt,K,X,v1,a1,h1,hK,hP⟩:=h.op1
 obtain⟨au,hn⟩:=h1.n
 have ak:=h1.gg
 subst ak
 refine(z3a hn.m).mono ?_
 rintro v w' ⟨rfl,lE,hk⟩
 have nT:Kp (λb=>¬X b\/b=r1\/b=v1) w w':=hk.LZ λb e=> .inl λe2=>e (.inl e2)
 exact⟨rfl,hP w' txt K _ ⟨⟨au,⟨lE,hn.i,hn.ok,hn.r⟩⟩,rfl,h1.top,h1.lo,h1.a2,h1.own⟩ (λ_ _=>rfl) nT (Nat.le_refl _) hK,h1.new nT hx⟩
theorem W4 (h:Oo w0 g rt r1 r2 s1 s2 w):Mm Tryz.prog 15 [ptr r1 0] w λv w'=>v=I (s1.t:Int)/\w'=w:=by
 obtain⟨G,Q,txt,K,X,v1,a1,h1,hK,hP⟩:=h.op1
 obtain⟨au,hn⟩:=h1.n
 exact z0C hn.m
end
structure zce (w0:World)(g:List (List Nat))(rt:Nat)(G3:WG)(X3:Nat->Prop)(r2:Nat)(s2:S5)(B:Nat)(w:World):Prop where
 ex:∃G2 Q2 txt2 K2 X2 v2 a2,OV w0 g rt G2 Q2 txt2 K2 X2 r2 v2 a2 s2 w/\K2<=B/\(∀j,j<w.heap.size->X3 j\/X2 j)/\(X3 r2/\X3 v2/\X3 G2.k/\X3 G2.x)/\(X2 G3.k/\X2 G3.x)/\(r2≠G3.k/\r2≠G3.x/\v2≠G3.k/\v2≠G3.x)
section
variable {w0 w w' w3 w4 w5:World}{g:List (List Nat)}{rt:Nat}{G G1 G2 G3:WG}{Q Q1 Q2 Q3 Q':NZ}{txt txt1 txt2 txt3 txt':Int->Bytes}{K K1 K2 K3 K':Nat}{X X1 X2 X3 Y S':Nat->Prop}{r1 v1 a1 r2 v2 a2 a t B:Nat}{dn:Bool}{xs:List Nat}{s s1 s2:S5}
theorem OV.ext (h:OV w0 g rt G Q txt K X r1 v1 a1 s w)(hx:Ext w w'):OV w0 g rt G Q txt K (λj=>X j\/(w.heap.size<=j/\j<w'.heap.size)) r1 v1 a1 s w':=
 h.step hx (λ_ _ e=>e.elim) (λj e=> .inl e) λj e=>e
theorem third (h3:OB G3 Q3 txt3 K3 X3 w3)(hz:w.heap.size<=w3.heap.size)(fj:∀j,j<w.heap.size->X3 j)(ar:w.heap.size<=G3.k/\w.heap.size<=G3.x)(h1:Qo G1 Q1 txt1 K1 (λj=>X1 j\/(w.heap.size<=j/\j<w3.heap.size)) r1 v1 a1 t dn xs w3)(hr:r1<w.heap.size/\v1<w.heap.size)(hk:Kp (λb=>¬(X1 b\/(w.heap.size<=b/\b<w3.heap.size))\/b=r1\/b=v1) w3 w4):OB G3 Q3 txt3 K3 (λj=>X3 j\/(w3.heap.size<=j/\j<w4.heap.size)) w4/\Kp (λb=>b<w.heap.size) w3 w4:=by
 have hx:=h1.g.xk
 obtain⟨e1,e2,e3,e4,e5,e6,e7,e8,e9⟩:=h1.ne
 have hS:∀j,j<w3.heap.size/\(¬(X1 j\/(w.heap.size<=j/\j<w3.heap.size))\/j=r1\/j=v1)->j<w.heap.size/\j≠1/\j≠2:=λj e=>by
  rcases e with⟨hj,e|e|e⟩
  ·refine⟨?_,λh=>e (h▸hx.2.2.1),λh=>e (h▸hx.2.2.2)⟩;rcases Nat.lt_or_ge j w.heap.size with h| h
   ·exact h
   ·exact absurd (.inr ⟨h,hj⟩) e
  ·subst e;exact⟨hr.1,e4,e5⟩
  ·subst e;exact⟨hr.2,e8,e9⟩
 have nT:Kp (λj=>j<w3.heap.size/\(¬(X1 j\/(w.heap.size<=j/\j<w3.heap.size))\/j=r1\/j=v1)) w3 w4:=hk.mono λj h1 h2=>⟨h1,h2⟩
 refine⟨h3.step nT (λj e=>?_) (λj e=>e) (λj e=> .inl e),nT.LZ λj e=>(hS j e).1⟩
 obtain⟨h1,h2,h3⟩:=hS j e
 exact⟨fj j h1,by omega,by omega,h2,h3⟩
theorem z0z (h:Oo w0 g rt r1 r2 s1 s2 w)(il:Ext w0 w)(hx:Ext w w3)(h3:OB G3 Q3 txt3 K3 X3 w3)(fj:∀j,j<w.heap.size->X3 j)(ar:w.heap.size<=G3.k/\w.heap.size<=G3.x):Mm Tryz.prog 16 [ptr r1 0] w3 λv w4=>v=I 0/\Ext w0 w4/\∃X3',OB G3 Q3 txt3 K3 X3' w4/\(∀j,X3 j->X3' j)/\Kp (λb=>b<w.heap.size) w3 w4/\zce w0 g rt G3 X3' r2 s2 (1000+3300*(s1.t+s2.t)) w4:=by
 have hz:=hx.size
 have kj:=h3.lt
 have yN:=h3.xk
 have l3:=kj _ yN.1
 have l4:=kj _ yN.2.1
 cases h with
 | same G Q txt K X v1 a1 v2 a2 h1 h2 ha hn hK =>
   obtain⟨au,m0⟩:=h1.n;obtain⟨gI,m0'⟩:=h2.n;obtain⟨p1,p2,p3,p4,-,-⟩:=m0.lts;obtain⟨q1,q2,q3,q4,-,-⟩:=m0'.lts;have i5:=h1.ext hx;have oA:=h2.ext hx;obtain⟨pf,m1⟩:=i5.n;have hm:=m1.m;have bJ:=hm.vec.fit
   have hv:Q8 (O2 s1.d).length 128=1:=by
    rw[hm.len];have:=hm.n;unfold Q8;omega
   rw[show 512 / 4=128 from rfl,hv] at bJ;have dU:=Wc hm h1.a2 (λi e1 e2=>by rw[hv] at e2;rw[show i=a1 by omega];exact h1.own);rw[hv] at dU;refine dU.mono ?_;rintro v w4 ⟨rfl,txt',hG,hy,hk⟩;obtain⟨t1,t2⟩:=third h3 hz fj ar hm ⟨p1,p2⟩ hk;refine⟨rfl,i5.new hk (il.trans hx),_,t1,λj e=> .inl e,t2,⟨G,_,txt',K,_,v2,a2,oA.other hG (λj e=>e) hk hn.1.symm hn.2.2.1.symm hn.2.1.symm hn.2.2.2.symm rfl (Nv bJ) (hy a2 (by omega)) (by show(NI Q.L a1 1 false)[a2]? =some true;rw[Qi bJ,if_neg (by omega)];exact h2.own),hK,λj hj=>?_,⟨.inl (fj _ q1),.inl (fj _ q2),.inl (fj _ q3),.inl (fj _ q4)⟩,⟨.inr ⟨ar.1,l3⟩,.inr ⟨ar.2,l4⟩⟩,⟨by omega,by omega,by omega,by omega⟩⟩⟩;by_cases e1:j<w.heap.size
   ·exact .inl (.inl (fj j e1))
   ·by_cases e2:j<w3.heap.size
    ·exact .inr (.inr ⟨by omega,e2⟩)
    ·exact .inl (.inr ⟨by omega,hj⟩)
 | own G1 Q1 txt1 K1 X1 v1 a1 G2 Q2 txt2 K2 X2 v2 a2 h1 h2 hA rA rz =>
   obtain⟨au,m0⟩:=h1.n;obtain⟨gI,m0'⟩:=h2.n;obtain⟨p1,p2,p3,p4,-,-⟩:=m0.lts;obtain⟨q1,q2,q3,q4,-,-⟩:=m0'.lts;have i5:=h1.ext hx;have oA:=h2.ext hx;obtain⟨pf,m1⟩:=i5.n;have hm:=m1.m
   have hv:Q8 (O2 s1.d).length 128=1:=by
    rw[hm.len];have:=hm.n;unfold Q8;omega
   have dU:=Wc hm h1.a2 (λi e1 e2=>by rw[hv] at e2;rw[show i=a1 by omega];exact h1.own)
   have tc:SK w3 G1 (λj=>X1 j\/(w.heap.size<=j/\j<w3.heap.size)) r1 v1 G2 (λj=>X2 j\/(w.heap.size<=j/\j<w3.heap.size)) r2 v2:=⟨λj hj=>by
    by_cases e1:j<w.heap.size
    ·exact(hA.cov j e1).imp .inl .inl
    ·exact .inr (.inr ⟨by omega,hj⟩),⟨.inl hA.x1.1,.inl hA.x1.2.1,.inl hA.x1.2.2.1,.inl hA.x1.2.2.2⟩,⟨.inl hA.x2.1,.inl hA.x2.2.1,.inl hA.x2.2.2.1,.inl hA.x2.2.2.2⟩,hA.n1,hA.n2,hA.n3⟩
   refine dU.mono ?_;rintro v w4 ⟨rfl,txt',hG,hy,hk⟩;obtain⟨t1,t2⟩:=third h3 hz fj ar hm ⟨p1,p2⟩ hk;obtain⟨Y,dx,-,hY⟩:=z7L hm oA tc hk;refine⟨rfl,i5.new hk (il.trans hx),_,t1,λj e=> .inl e,t2,⟨G2,Q2,txt2,K2,Y,v2,a2,dx,rz,λj hj=>?_,⟨.inl (fj _ q1),.inl (fj _ q2),.inl (fj _ q3),.inl (fj _ q4)⟩,⟨hY _ (.inr ⟨ar.1,l3⟩),hY _ (.inr ⟨ar.2,l4⟩)⟩,⟨by omega,by omega,by omega,by omega⟩⟩⟩;by_cases e1:j<w.heap.size
   ·exact .inl (.inl (fj j e1))
   ·by_cases e2:j<w3.heap.size
    ·exact .inr (hY _ (.inr ⟨by omega,e2⟩))
    ·exact .inl (.inr ⟨by omega,hj⟩)
theorem z4E (hS:zce w0 g rt G3 X3 r2 s2 B w4)(h3:OB G3 Q3 txt3 K3 X3 w4)(ak:G3.g=g)(hk:Kp (λb=>¬X3 b) w4 w5)(hr:w4.heap.size<=r1/\w4.heap.size<=v1)(nU:∀b,b<w0.heap.size->X3 b)(Gg:w0.heap.size<=w4.heap.size)(h1:Qo G3 Q' txt' K' (λb=>X3 b\/b=r1\/b=v1) r1 v1 a t dn xs w5)(Km:2<=a)(EG:Q'.L[a]? =some true)(oB:K'<=900)(hx:Ext w0 w5){au:Og g}(hI:BfI g au rt s)(hD:UD s.d)(CB:rt<g.length)(ht:s.t<=g.length)(hB:B<=1000+3300*(s.t+s2.t)):
  Mm Tryz.prog 20 [ptr r1 0,S (bfT s.t s.done (O2 s.d))] w5 λv w6=>v=I 0/\Oo w0 g rt r1 r2 s s2 w6/\Ext w0 w6:=by
 obtain⟨G2,Q2,txt2,K2,X2,v2,a2,h2,rz,yO,ah,af,bI⟩:=hS.ex
 obtain⟨pf,m2⟩:=h2.n
 obtain⟨q1,q2,q3,q4,-,-⟩:=m2.lts
 have hz:=hk.size
 have Ab:=h3.xk
 have l1:=h1.run.lt
 have l2:=h1.vec.lt
 have uk:=h1.ne
 have kj:=h3.lt
 have g1:=kj _ Ab.1
 have g2:=kj _ Ab.2.1
 have oA:=h2.step (Y:=λj=>X2 j\/(w4.heap.size<=j/\j<w5.heap.size)) hk (λj hj e=>⟨(yO j hj).resolve_left e,λh=>e (h▸ah.2.2.1),λh=>e (h▸ah.2.2.2),λh=>e (h▸Ab.2.2.1),λh=>e (h▸Ab.2.2.2),λh=>e (h▸ah.1),λh=>e (h▸ah.2.1)⟩) (λj e=> .inl e) (λj e=>e)
 have hA:SK w5 G3 (λb=>X3 b\/b=r1\/b=v1) r1 v1 G2 (λj=>X2 j\/(w4.heap.size<=j/\j<w5.heap.size)) r2 v2:=⟨λj hj=>by
  by_cases e1:j<w4.heap.size
  ·exact(yO j e1).imp .inl .inl
  ·exact .inr (.inr ⟨by omega,hj⟩),⟨.inl ah.1,.inl ah.2.1,.inl ah.2.2.1,.inl ah.2.2.2⟩,⟨.inr ⟨hr.1,l1⟩,.inr ⟨hr.2,l2⟩,.inl af.1,.inl af.2⟩,⟨by omega,by omega,by omega,by omega⟩,⟨by omega,by omega,by omega,by omega⟩,bI⟩
 have fK:(O2 s.d).length=G3.g.length:=by
  unfold O2;rw[List.length_map,hI.len,ak]
 have gJ:=h1.n
 have o4:=z2t h1 (ys:=O2 s.d) (t':=s.t) (dn':=s.done) (by omega) fK (λy hy=>by
  unfold O2 at hy;obtain⟨o,ho,rfl⟩:=List.mem_map.1 hy;obtain⟨i,hi,Kn⟩:=List.getElem_of_mem ho
  cases o with
  |none=>show 4294967295<2^(8*4);decide
  | some k =>
    have:=hD i k (by rw[List.getElem?_eq_getElem hi,Kn]);show k<4294967296;have e:k<4294967295:=this
    omega) (by rw[ak];exact ht)
 refine o4.mono ?_
 rintro v w6 ⟨rfl,txt6,h6,Kc,aR⟩
 have EH:Kp (λb=>¬(X3 b\/b=r1\/b=v1)\/b=r1\/b=v1) w5 w6:=aR.LZ λb e=>e.imp id .inl
 obtain⟨Y,EI,tc,-⟩:=z7L h1 oA hA EH
 subst ak
 have i5:OV w0 G3.g rt G3 Q' txt6 (K'+1) (λb=>X3 b\/b=r1\/b=v1) r1 v1 a s w6:=⟨⟨au,⟨h6,hI,hD,CB⟩⟩,rfl,λb hb=> .inl (nU b hb),⟨by omega,by omega,uk.1⟩,Km,EG⟩
 refine⟨rfl,.own G3 Q' txt6 (K'+1) _ v1 a G2 Q2 txt2 K2 Y v2 a2 i5 EI tc (by omega) (by omega),hx.LJ aR λb e=>?_⟩
 rcases Nat.lt_or_ge b w0.heap.size with h| h
 ·exact e.elim (λe=>absurd (.inl (nU b h)) e) (λe=>by omega)
 ·exact h
theorem Oo.inv (h:Oo w0 g rt r1 r2 s1 s2 w)(au:Og g):BfI g au rt s1/\UD s1.d/\rt<g.length/\s1.t<=g.length:=by
 obtain⟨G,Q,txt,K,X,v1,a1,h1,-,-⟩:=h.op1
 obtain⟨gI,hn⟩:=h1.n
 have ak:=h1.gg
 subst ak
 refine⟨hn.i,hn.ok,hn.r,?_⟩
 cases hd:s1.done with
 |false=>exact Nat.le_of_lt (hn.i.z6j hn.r hd)
 | true =>
   obtain⟨-,u,k,hu,hk⟩:=hn.i.fin hd;have:=(hn.i.lev.has u k hu).1.zd9 gI hn.r;omega
end
def z1a (w:World)(la:Option Addr)(ls:List (Int×Int×Int)):Prop:=∀(i:Nat) (e:Int×Int×Int),ls[i]? =some e->(-9223372036854775808<=e.1/\e.1<=9223372036854775807)/\(-9223372036854775808<=e.2.1/\e.2.1<=9223372036854775807)/\(-9223372036854775808<=e.2.2/\e.2.2<=9223372036854775807)/\∃lb lo,la=some ⟨lb,lo,none⟩/\w.cell? ⟨lb,lo+i*3+0,none⟩=some (I e.1)/\w.cell? ⟨lb,lo+i*3+1,none⟩=some (I e.2.1)/\w.cell? ⟨lb,lo+i*3+2,none⟩=some (I e.2.2)
theorem z1a.ext {w w':World}{la:Option Addr}{ls:List (Int×Int×Int)}(h:z1a w la ls)(hx:Ext w w'):z1a w' la ls:=λi e he=>by
 obtain⟨h1,h2,h3,lb,lo,h4,h5,h6,h7⟩:=h i e he
 exact⟨h1,h2,h3,lb,lo,h4,MP hx h5,MP hx h6,MP hx h7⟩
theorem taken_ret {w : World}(hG : LX w 1 (OU .gamma) 298)(hU : LX w 2 (OU .unary) 298)(n root : Int)(hn : -9223372036854775808 <= n /\ n <= 9223372036854775807)(j4 : -9223372036854775808 <= root /\ root <= 9223372036854775807){ea : Option Addr}{ec : Nat}{es : List (Nat × Nat)}(sG : es.length <= 9000000000000000000)(hE : EdR w ea es){la : Option Addr}{lc : Nat}{ls : List (Int × Int × Int)}(ge : ls.length <= 9000000000000000000)(hL : z1a w la ls) : Mm Tryz.prog 5 [I n, .slice ea es.length ec, I root, .slice la ls.length lc] w λv w' => v = .bool true /\ Ext w w' := by
 refine It (e:=[(0,_),(1,_),(2,_),(3,_)]) Tryz.func5 rfl Tryz.ntmps5 rfl rfl (qN rfl (M6 rfl (qM rfl (LM rfl (Mb cf7 rfl (ZE n hn _) ?_)))))
 rintro _ w ⟨m,rfl,oq,dz,rfl⟩
 refine LM rfl (Mb cf6 rfl (z5O oq dz sG hE) ?_)
 rintro _ w1 ⟨g,bg,rfl,jk,au,ma,ad⟩
 have r1:=PV root (g.length:Int) (by omega)
 have r2:=RJ root (g.length:Int) (by omega)
 refine M6 rfl (qM rfl (M4 rfl rfl (NX Uz rfl (qV (yrt rfl rfl (by omega)) (LM rfl (NX Uz rfl (MK rfl rfl (LM rfl (NX Uz rfl (qV (yrt rfl rfl (by omega)) ?_))))))))))
 rw[show(root.tmod (g.length:Int)+(g.length:Int)).tmod (g.length:Int)=ZO root (g.length:Int) from rfl]
 obtain⟨r,hr,LD⟩:∃r:Nat,ZO root (g.length:Int)=(r:Int)/\r<g.length:=⟨(ZO root (g.length:Int)).toNat,by omega,by omega⟩
 rw[hr]
 have tU:=ma.gr
 have aG:1<=g.length:=by omega
 have gJ:g.length<=40:=by omega
 refine M6 rfl (qM rfl (LM rfl (Mb cf8 rfl (z3T au aG gJ tU (ad.LN hG) (ad.LN hU) 3 0 (by decide) (by decide)) ?_)))
 rintro _ w5 ⟨W,XX,rfl,hW,aT,gH⟩
 have bC:=ad.trans aT
 have z15:=aT.size
 have z5:=bC.size
 refine LM rfl (MW rfl rfl (MW rfl rfl (LV rfl rfl (O9 (cs:=[_,_,_,_,_]) Wj rfl) ?_)))
 rintro _ w6 ⟨b6,rfl,nY,aN,aX⟩
 have z6:=aN.size
 refine M1 rfl (MD (news:=W.v) Wj rfl rfl rfl rfl aX (by simp)) ?_
 rintro w7 ⟨bN,aA⟩
 have gU:LX w7 b6 [ptr W.d 0,ptr W.Q.s 0,ptr W.G.k 0,ptr W.T.k 0,I ((200-W.a:Nat):Int)] 30:=bN
 have l7:=bN.lt
 have z7:=aA.size
 have gt:=(bC.trans aN).LJ aA λb e=>by omega
 refine LU rfl (Mn.qb (e:=[(2,_),(3,_),(8,_),(9,_),(10,_),(11,_)]) ?_)
 refine run_seq (qN rfl (LM rfl (qV ((by first|exact ML rfl|exact Oh rfl)) ?_)))
 refine LM rfl (Mb cf9 rfl (z4A (gt.LN hG) (gt.LN hU)) ?_)
 rintro _ w8 ⟨rfl,cV⟩
 refine qV ((by first|exact ML rfl|exact Oh rfl)) ?_
 refine ME rfl rfl ?_
 have gF:=hW.hg.lt
 have iA:=hW.hg.xk
 have i1:=gF _ iA.1
 have i2:=gF _ iA.2.1
 have i3:=gF _ iA.2.2.1
 have i4:=gF _ iA.2.2.2
 obtain⟨X,hX⟩:∃X:Nat->Prop,(λb=>(XX b/\b≠W.G.rb)\/b=b6)=X:=⟨_,rfl⟩
 have tH:OB W.G W.Q W.txt W.K X w7:=by
  rw[<-hX];exact(hW.hg.grow aN (Y:=λb=>(XX b/\b≠W.G.rb)\/b=b6) (λj e=>e.imp id λe=>by have:=aX.lt;omega) (λj e=> .inl e)).own aA λj e=>by subst e;exact⟨.inr rfl,by omega,by omega,by omega,by omega⟩
 have oC:∀b,b<w1.heap.size->X b:=λb hb=>by rw[<-hX];exact .inl ⟨(gH b hb).1,(gH b hb).2.1⟩
 have nK:X b6:=by rw[<-hX];exact .inr rfl
 have ak:=hW.gg
 have eE:W.G.g.length=g.length:=by rw[ak]
 have ha:=hW.a
 have Bl:=hW.L
 have Ki:=hW.K
 have Kj:=hW.gs
 have tY:=hW.ts
 have fA:=hW.pre
 have ce:=cV.LN gU
 have z8:=cV.size
 refine LO (An rfl (py (qN rfl (M0 Zi rfl (qV (LR T7 rfl rfl ce rfl) (M0 Zg rfl (qV (LR YS rfl rfl ce rfl) (LM rfl (Mb z8k rfl (To (tH.ext cV) (by omega) (by omega) fA (by omega) (by omega) (root:=r) (by omega)) ?_)))))))))
 rintro _ w9 ⟨rr,vb,txt9,rfl,iD,dc,h9,Ey,aL⟩
 have Ac:Og W.G.g:=by rw[ak];exact au
 have GG:=RnM.new h9 Ac (by omega)
 have z9:=aL.size
 have cB:=aL.LN ce (λe=>e nK)
 obtain⟨Q,hQ⟩:∃Q,W.Q.Ni (NI W.Q.L W.a 1 true)=Q:=⟨_,rfl⟩
 rw[hQ] at GG h9
 have Ad:Q.L=NI W.Q.L W.a 1 true:=by rw[<-hQ];rfl
 have vf:Q.s=W.Q.s:=by rw[<-hQ];rfl
 have Ae:W.a+1<=W.Q.L.length:=by omega
 have yP:Pre Q.L (W.a+1):=by rw[Ad];exact Xm fA Ae
 have JW:Q.L.length=200:=by rw[Ad,Nv Ae];exact Bl
 have yZ:=h9.run.lt
 have mq:=h9.vec.lt
 have gW:=To h9.g (by omega) (by omega) yP (by omega) (by omega) (root:=r) (by omega)
 rw[vf] at gW
 refine LM rfl (MW rfl rfl (MW rfl rfl (M6 rfl (M6 rfl (qM rfl (M0 Zi rfl (qV (LR T7 rfl rfl cB rfl) (M0 Zg rfl (qV (LR YS rfl rfl cB rfl) (LM rfl (Mb z8k rfl (gW) ?_)))))))))))
 rintro _ w10 ⟨rr2,vb2,txt10,rfl,Ko,Kq,eK,q9,aw⟩
 have z10:=aw.size
 have zU:S5.new W.G.g.length r=S5.new g.length r:=by rw[eE]
 have gC:Ext w1 w9:=((((aT.trans aN).LJ aA λb e=>by omega).trans cV)).LJ aL λb e=>by
  rcases Nat.lt_or_ge b w1.heap.size with h| h
  ·exact absurd (oC b h) e
  ·exact h
 have eu:Ext w1 w10:=gC.LJ aw λb e=>by
  rcases Nat.lt_or_ge b w1.heap.size with h| h
  ·exact absurd (.inl (oC b h)) e
  ·exact h
 have nV:W.a+1+1<=Q.L.length:=by omega
 have Kr:Oo w1 g r rr rr2 (S5.new g.length r) (S5.new g.length r) w10:=by
  have e1:OV w1 g r W.G Q txt9 (W.K+3) (λb=>X b\/b=rr\/b=vb) rr vb W.a (S5.new g.length r) w9:=⟨⟨Ac,by rw[<-zU];exact GG⟩,ak,λb hb=> .inl (oC b hb),⟨by omega,by omega,h9.ne.1⟩,fA.a2,by rw[Ad,Qi Ae,if_pos ⟨by omega,by omega⟩]⟩;have ly:=RnM.new eK Ac (by omega);refine .same W.G _ txt10 (W.K+3+3) _ vb W.a vb2 (W.a+1) (e1.other (r2:=rr2) (v2:=vb2) eK.g (λj e=> .inl e) (aw.LZ λb e=> .inl e) (by omega) (by omega) (by omega) (by omega) rfl (Nv nV) (q9 _ (.inl (by omega))) ?_) ⟨⟨Ac,by rw[<-zU];exact ly⟩,ak,λb hb=> .inl (.inl (oC b hb)),⟨by omega,by omega,eK.ne.1⟩,by have:=fA.a2;omega,?_⟩ (by omega) ⟨by omega,by omega,by omega,by omega⟩ (by omega)
  ·show(NI Q.L (W.a+1) 1 true)[W.a]? =some true;rw[Qi nV,if_neg (by omega),Ad,Qi Ae,if_pos ⟨by omega,by omega⟩]
  ·show(NI Q.L (W.a+1) 1 true)[W.a+1]? =some true;rw[Qi nV,if_pos ⟨by omega,by omega⟩]
 have rH:=hL.ext ad
 have A0:=ad.LN hG
 have EJ:=ad.LN hU
 refine LM rfl (MW rfl rfl (MW rfl rfl (M6 rfl (LU rfl (Mn.qb (e:=[(3,_),(8,_),(9,_),(12,_),(13,_),(14,_),(15,_)]) ?_)))))
 refine run_seq (qN rfl (LM rfl (MY rfl rfl (M4 rfl rfl (MY rfl rfl (ME rfl rfl (LO (An rfl (py (qN rfl (LU rfl (run_seq (qN rfl ?_)))))))))))))
 refine LU rfl (LK (Ot (λe' w'=>∃(s:S5) (r1:Nat),e'=[(9,.slice (some ⟨bg,0,none⟩) g.length g.length),(12,ptr r1 0),(14,ptr rr2 0),(16,.bool true)]/\s.done=true/\Oo w1 g r r1 rr2 s s w'/\Ext w1 w') ?cu (λcu=>?cM)))
 case cu=>
  rintro e' w11 ⟨s,r1,rfl,hd,kr,aQ⟩;refine run_seq (qN rfl (LU rfl (LK (Oe (α:=Nat) (0) (λv=>[(9,.slice (some ⟨bg,0,none⟩) g.length g.length),(12,ptr r1 0),(14,ptr rr2 0),(16,.bool true),(28,I (v:Int))]) (λv w'=>v<=g.length/\Oo w1 g r r1 rr2 s s w'/\Ext w1 w') (λv=>g.length-v) ?hI ?hround))))
  case hI=>exact⟨Nat.zero_le _,kr,aQ⟩
  case hround=>
   rintro v w12 ⟨hv,jM,aD⟩ ih
   try dsimp only
   refine run_seq (qN rfl (M4 rfl rfl (NX Uz rfl (Nr rfl rfl (LO (LY rfl (λhq=>?_) (λhq=>?_)))))))
   ·have eY:v<g.length:=by omega
    refine py (run_seq (LK (qN rfl (M4 rfl rfl (Mb zaz rfl (YE jM aD hd eY) ?_)))));rintro _ w13 ⟨rfl,g7,aO⟩;refine LM rfl (MW rfl rfl (MW rfl rfl (M6 rfl (M6 rfl (qM rfl (M4 rfl rfl (Mb zaz rfl (YE g7.symm aO hd eY) ?_)))))));rintro _ w14 ⟨rfl,m7,bF⟩;refine LM rfl (MW rfl rfl (MW rfl rfl (M6 rfl (M6 rfl (qM rfl (M4 rfl rfl (MY rfl rfl (MC (M4 rfl rfl (MY rfl rfl (ME rfl rfl (M4 rfl rfl (MY rfl rfl ?_)))))))))))));refine ME rfl rfl (LO (An rfl (py (LL (LQ rfl (LM rfl (MK rfl rfl (LU rfl ?_))))))));exact(ih (v+1) _ ⟨by omega,m7.symm,bF⟩ (by omega)).qb
   ·refine LW rfl (qN rfl (M4 rfl rfl (LM rfl (Mb zcC rfl (W4 jM) ?_))));rintro _ w12 ⟨rfl,rfl⟩;refine LM rfl (Mb zcC rfl (W4 jM.symm) ?_);rintro _ w12 ⟨rfl,rfl⟩;refine NS rfl rfl (O8 (NB rfl rfl (LU rfl (LP Tryz.func5 rfl ?_))));exact⟨_,rfl,rfl,ad.trans aD⟩
 case cM =>
  refine Oe (α:=S5×Nat×Nat) ((S5.new g.length r,rr,0)) (λp=>[(3,.slice la ls.length lc),(9,.slice (some ⟨bg,0,none⟩) g.length g.length),(12,ptr p.2.1 0),(14,ptr rr2 0),(16,.bool p.1.done),(17,I (p.2.2:Int))]) (λp w'=>Oo w1 g r p.2.1 rr2 p.1 p.1 w'/\Ext w1 w'/\p.2.2<=12/\p.2.2<=ls.length) (λp=>12-p.2.2) ?hI ?hround
  case hI=>exact⟨Kr,eu,Nat.zero_le _,Nat.zero_le _⟩
  case hround =>
   rintro⟨s,r1,i⟩ w11 ⟨kr,aQ,EK,cR⟩ ih;dsimp only at kr EK cR ih⊢
   try dsimp only
   by_cases hd:s.done=true
   ·rw[hd];refine run_seq (qN rfl (LM rfl (qV ((by first|exact ML rfl|exact Oh rfl)) ?_)));refine LO (An rfl (LW rfl ?_));exact(cu _ _ ⟨s,r1,rfl,hd,kr,aQ⟩).qb
   ·have Af : s.done = false := by cases e : s.done with
     |false=>rfl
     |true=>exact absurd e hd
    rw[Af];refine run_seq (qN rfl (LM rfl (qV ((by first|exact ML rfl|exact Oh rfl)) ?_)));refine LO (M3 rfl (py (run_seq (LK (qN rfl (LM rfl (NX Uz rfl (MK rfl rfl (LU rfl (run_seq (MA (λe' w'=>∃(q:Nat) (dq:Bool),e'=[(3,.slice la ls.length lc),(9,.slice (some ⟨bg,0,none⟩) g.length g.length),(12,ptr r1 0),(14,ptr rr2 0),(16,.bool dq),(17,I (i:Int)),(18,I (q:Int))]/\dq=s.done/\q<=100/\(q=g.length+1\/(i<ls.length/\i<12))/\w'=w11) ?dJ (λdJ=>?eL))))))))))))
    case dJ =>
     rintro e' w12 ⟨q,dq,rfl,rfl,hq,Ks,rfl⟩;refine run_seq (qN rfl (LU rfl (LK (Ot (λe' w'=>∃s':S5,e'=[(3,.slice la ls.length lc),(9,.slice (some ⟨bg,0,none⟩) g.length g.length),(12,ptr r1 0),(14,ptr rr2 0),(16,.bool s'.done),(17,I (i:Int))]/\Oo w1 g r r1 rr2 s' s' w'/\Ext w1 w'/\(s'.done=true\/(i<ls.length/\i<12))) ?av (λav=>?dr)))))
     case av =>
      rintro e' w13 ⟨s',rfl,g7,aO,pN⟩;by_cases h1:ls.length<=i
      ·have yQ:s'.done=true:=pN.resolve_right (λh=>by omega);rw[yQ];refine run_seq (qN rfl (M4 rfl rfl (NX U57 rfl (PQ rfl rfl (O8 (LM rfl (qS (qS (NB rfl rfl (LO (M3 rfl (LW rfl ?_))))))))))));exact(cu _ _ ⟨s',r1,rfl,yQ,g7,aO⟩).qb
      ·by_cases h2:12<=i
       ·have yQ:s'.done=true:=pN.resolve_right (λh=>by omega);rw[yQ];refine run_seq (qN rfl (M4 rfl rfl (NX U57 rfl (PQ rfl rfl (MC (M4 rfl rfl (PQ rfl rfl (O8 (ME rfl rfl (LO (M3 rfl (LW rfl ?_))))))))))));exact(cu _ _ ⟨s',r1,rfl,yQ,g7,aO⟩).qb
       ·refine run_seq (qN rfl (M4 rfl rfl (NX U57 rfl (PQ rfl rfl (MC (M4 rfl rfl (PQ rfl rfl (MC (ME rfl rfl (LO (An rfl (py (qN rfl ?_)))))))))))));refine LM rfl ?_;obtain⟨e,he⟩:∃e,ls[i]? =some e:=⟨_,List.getElem?_eq_getElem (by omega)⟩;obtain⟨-,b2,b3,lb,lo,rfl,-,fx,eI⟩:=rH i e he;refine Mb zfJ rfl (z2M g7 aO) ?_;rintro _ w14 ⟨rfl,m7,bF⟩;have l1:=(bF.LN A0).lt;have l2:=(bF.LN EJ).lt;refine LM rfl (MW rfl rfl (MW rfl rfl (M6 rfl (LU rfl (run_seq (MA (λe' w'=>∃(V:Wd) (XV:Nat->Prop) (b26:Nat),e'=[(3,.slice (some ⟨lb,lo,none⟩) ls.length lc),(9,.slice (some ⟨bg,0,none⟩) g.length g.length),(12,ptr r1 0),(14,ptr rr2 0),(16,.bool s'.done),(17,I (i:Int)),(24,S (bfT s'.t s'.done (O2 s'.d))),(25,I 0),(26,ptr b26 0),(27,.bool true)]/\Ext w14 w'/\OB V.G V.Q V.txt V.K XV w'/\(∀j,j<w14.heap.size->XV j)/\(w14.heap.size<=V.G.k/\w14.heap.size<=V.G.x)/\V.G.g=g/\Pre V.Q.L V.a/\V.a<=146/\V.Q.L.length=200/\V.K<=400/\V.G.st+V.G.len<=V.T.st/\V.T.st+V.T.len<=V.a/\LX w' b26 [ptr V.d 0,ptr V.Q.s 0,ptr V.G.k 0,ptr V.T.k 0,I ((200-V.a:Nat):Int)] 30/\w14.heap.size<=b26) ?i6 (λi6=>?i7)))))))
        case i6=>
         rintro e' w15 ⟨V,XV,b26,rfl,tV,g8,mt,yR,GH,GI,LE,LF,LG,LH,LI,bK,qd⟩;have dU:=z0z m7 bF tV g8 mt yR;refine run_seq (qN rfl (LM rfl (MY rfl rfl (M4 rfl rfl (qV ((by first|exact ML rfl|exact Oh rfl)) ?_)))));refine ME rfl rfl (M4 rfl rfl (Mb zf7 rfl (dU) ?_));rintro _ w16 ⟨rfl,cb,XV',yS,EL,EM,Kt⟩;have jb:=EM.LN bK (λe=>by omega);refine MY rfl rfl (ME rfl rfl ?_);have Ku:V.G.g.length=g.length:=by rw[GH]
         have Kv:=bF.size;have EN:=cb.size;refine LO (An rfl (py (qN rfl (M0 Zi rfl (qV (LR T7 rfl rfl jb rfl) (M0 Zg rfl (qV (LR YS rfl rfl jb rfl) (Mb z8k rfl (To yS (by omega) (by omega) GI (by omega) (by omega) (root:=0) (by omega)) ?_))))))));rintro _ w17 ⟨r1',vb',txt17,rfl,cP,eM,Kw,Kx,dg⟩;obtain⟨hI,hD,iD,sZ⟩:=m7.inv au;have nU:∀b,b<w1.heap.size->XV' b:=λb hb=>EL b (mt b (by omega))
         have fi:Ext w1 w17:=cb.LJ dg λb e=>by
          rcases Nat.lt_or_ge b w1.heap.size with h| h
          ·exact absurd (nU b h) e
          ·exact h
         have o4:=z4E Kt yS GH dg ⟨cP,eM⟩ nU EN Kw GI.a2 (by show(NI V.Q.L V.a 1 true)[V.a]? =some true;rw[Qi (by omega),if_pos ⟨by omega,by omega⟩]) (by omega) fi hI hD iD sZ (Nat.le_refl _);refine LM rfl (MW rfl rfl (MW rfl rfl (M6 rfl (M6 rfl (qM rfl (LM rfl (MY rfl rfl (M4 rfl rfl (LM rfl (Mb zfv rfl (o4) ?_))))))))));rintro _ w18 ⟨rfl,EO,EP⟩;refine MY rfl rfl (ME rfl rfl (LO (An rfl (py (LL (LQ rfl (LM rfl (MK rfl rfl (LU rfl ?_)))))))));exact(ih (s',r1',i+1) _ ⟨EO,EP,by show i+1<=12;omega,by show i+1<=ls.length;omega⟩ (by show 12-(i+1)<12-i;omega)).qb
        case i7=>
         have ak:=Ext.Ma w14;have bB:=ak.size;refine Me [16] (λw'=>Ext w14 w') (by kernel_rfl) rfl (qL [11,12,13,14,16,17] 0 rfl (λ_ h=>My rfl) ak (qL [3,4,5,11,12,13,14,16,17] 1 rfl (λ_ h=>My rfl) ak (qL [3,4,5,11,12,13,14,16,17] 2 rfl (λ_ h=>My rfl) ak (qL [4,5,11,12,13,14,16,17] 3 rfl (λ_ h=>MN U57 zaD rfl rfl (by omega)) ak (qL [5,11,12,13,14,16,17] 4 rfl (λ_ h=>Mo zaC rfl) ak (qL [8,9,10,11,12,13,14,16,17] 6 rfl (λ_ h=>My rfl) ak (qL [8,9,10,11,12,13,14,16,17] 7 rfl (λ_ h=>My rfl) ak (qL [9,10,11,12,13,14,16,17] 8 rfl (λ_ h=>MN U57 zaD rfl rfl (by omega)) ak (qL [10,11,12,13,14,16,17] 9 rfl (λ_ h=>Mo zaK rfl) ak (qL [11,12,13,14,16,17] 5 rfl (λ_ h=>Mt U3 rfl rfl (MP h (MP bF fx))) ak (qL [11,12,13,14,16,17] 10 rfl (λ_ h=>Mt U3 rfl rfl (MP h (MP bF eI))) ak (Sv (i:=11) (j:=15) (by kernel_rfl) ?_ ?_))))))))))))
         ·refine O4 (i:=11) rfl rfl rfl (yc cf8 rfl) (X9 au aG gJ ((tU.ext bF).ext ak) (ak.LN (bF.LN A0)) (ak.LN (bF.LN EJ)) e.2.1 e.2.2 b2 b3) ?_;rintro _ wl ⟨V,XV,rfl,hV,du,mt,Kz,KA⟩;refine⟨ak.trans du,?_⟩;have g8:=hV.hg;have yR:w14.heap.size<=V.G.k/\w14.heap.size<=V.G.x:=⟨by omega,by omega⟩;have tW:∀b,b<w14.heap.size->XV b/\b≠V.G.rb:=λb hb=>⟨(mt b (by omega)).1,(mt b (by omega)).2.1⟩
          try have yT:OB V.G V.Q V.txt V.K (λb=>(XV b/\b≠V.G.rb)\/b=b26) wl:=g8.less (λj e=>e.elim id λe=>by subst e;exact⟨(mt _ bK.lt).1,(mt _ bK.lt).2.1⟩) ⟨.inl g8.xk.1,.inl g8.xk.2.1,.inl g8.xk.2.2.1,.inl g8.xk.2.2.2⟩
          try have g9:b26≠V.G.k/\b26≠V.G.x:=⟨by have:=bK.lt;omega,by have:=bK.lt;omega⟩
          have ak:=ak.trans du;have bB:=Nat.le_trans bB du.size
          try have bK:=du.LN bK
          refine qL [13,14,16,17] 12 rfl (λ_ h=>My rfl) ak (qL [16,17] 13 rfl (λ_ h=>NO rfl rfl) ak (MM (i:=14) rfl (by kernel_rfl) rfl rfl (λ_=>NO rfl rfl) ak (Nw (i:=15) (by kernel_rfl) (MV (i:=15) rfl rfl rfl (O9 (cs:=[_,_,_,_,_]) Wj rfl) ?_))));rintro _ wa ⟨b26,rfl,EQ,qe,bK⟩;refine⟨ak.trans qe,?_⟩;have qd:w14.heap.size<=b26:=by omega
          try have yT:OB V.G V.Q V.txt V.K (λb=>(XV b/\b≠V.G.rb)\/b=b26) wa:=g8.grow qe (λj e=>e.imp id λe=>by have:=bK.lt;omega) (λj e=> .inl e)
          try have g9:b26≠V.G.k/\b26≠V.G.x:=⟨by have:=g8.lt _ g8.xk.1;omega,by have:=g8.lt _ g8.xk.2.1;omega⟩
          have ak:=ak.trans qe;have bB:=Nat.le_trans bB qe.size;refine Pv [16] (qO 16 (Mx (i:=16) rfl rfl (MD (news:=V.v) Wj rfl rfl rfl rfl bK (by simp)) ?_));rintro ws ⟨gR,eC⟩;refine⟨trivial,?_⟩;refine LS 17 rfl (NK rfl) trivial (qE ?_);have tX:=yT.own eC (λj e=>by subst e;exact⟨.inr rfl,g9.1,g9.2,by omega,by omega⟩);exact(i6 _ _ ⟨V,_,b26,rfl,ak.LJ eC (λj e=>by omega),tX,λj hj=> .inl (tW j hj),yR,hV.gg,hV.pre,hV.a,hV.L,hV.K,hV.gs,hV.ts,gR,qd⟩).qb
         ·refine MV (i:=15) rfl rfl rfl (O9 (cs:=[_,_,_,_,_]) Wj rfl) ?_;rintro _ wa ⟨b26,rfl,EQ,qe,bK⟩;refine⟨ak.trans qe,?_⟩;have qd:w14.heap.size<=b26:=by omega
          try have yT:OB V.G V.Q V.txt V.K (λb=>(XV b/\b≠V.G.rb)\/b=b26) wa:=g8.grow qe (λj e=>e.imp id λe=>by have:=bK.lt;omega) (λj e=> .inl e)
          try have g9:b26≠V.G.k/\b26≠V.G.x:=⟨by have:=g8.lt _ g8.xk.1;omega,by have:=g8.lt _ g8.xk.2.1;omega⟩
          have ak:=ak.trans qe;have bB:=Nat.le_trans bB qe.size;refine Nw (i:=11) (by kernel_rfl) (O4 (i:=11) rfl rfl rfl (yc cf8 rfl) (X9 au aG gJ ((tU.ext bF).ext ak) (ak.LN (bF.LN A0)) (ak.LN (bF.LN EJ)) e.2.1 e.2.2 b2 b3) ?_);rintro _ wl ⟨V,XV,rfl,hV,du,mt,Kz,KA⟩;refine⟨ak.trans du,?_⟩;have g8:=hV.hg;have yR:w14.heap.size<=V.G.k/\w14.heap.size<=V.G.x:=⟨by omega,by omega⟩;have tW:∀b,b<w14.heap.size->XV b/\b≠V.G.rb:=λb hb=>⟨(mt b (by omega)).1,(mt b (by omega)).2.1⟩
          try have yT:OB V.G V.Q V.txt V.K (λb=>(XV b/\b≠V.G.rb)\/b=b26) wl:=g8.less (λj e=>e.elim id λe=>by subst e;exact⟨(mt _ bK.lt).1,(mt _ bK.lt).2.1⟩) ⟨.inl g8.xk.1,.inl g8.xk.2.1,.inl g8.xk.2.2.1,.inl g8.xk.2.2.2⟩
          try have g9:b26≠V.G.k/\b26≠V.G.x:=⟨by have:=bK.lt;omega,by have:=bK.lt;omega⟩
          have ak:=ak.trans du;have bB:=Nat.le_trans bB du.size
          try have bK:=du.LN bK
          refine qL [13,14,16,17] 12 rfl (λ_ h=>My rfl) ak (qL [16,17] 13 rfl (λ_ h=>NO rfl rfl) ak (MM (i:=14) rfl (by kernel_rfl) rfl rfl (λ_=>NO rfl rfl) ak (Pv [16] (qO 16 (Mx (i:=16) rfl rfl (MD (news:=V.v) Wj rfl rfl rfl rfl bK (by simp)) ?_)))));rintro ws ⟨gR,eC⟩;refine⟨trivial,?_⟩;refine LS 17 rfl (NK rfl) trivial (qE ?_);have tX:=yT.own eC (λj e=>by subst e;exact⟨.inr rfl,g9.1,g9.2,by omega,by omega⟩);exact(i6 _ _ ⟨V,_,b26,rfl,ak.LJ eC (λj e=>by omega),tX,λj hj=> .inl (tW j hj),yR,hV.gg,hV.pre,hV.a,hV.L,hV.K,hV.gs,hV.ts,gR,qd⟩).qb
     case dr =>
      refine Oe (α:=S5×Nat) ((s,0)) (λp=>[(3,.slice la ls.length lc),(9,.slice (some ⟨bg,0,none⟩) g.length g.length),(12,ptr r1 0),(14,ptr rr2 0),(16,.bool p.1.done),(17,I (i:Int)),(18,I (q:Int)),(19,I (p.2:Int))]) (λp w'=>Oo w1 g r r1 rr2 p.1 p.1 w'/\Ext w1 w'/\p.2<=p.1.t/\p.2<=q) (λp=>q-p.2) ?hI ?hround
      case hI=>exact⟨kr,aQ,Nat.zero_le _,Nat.zero_le _⟩
      case hround=>
       rintro⟨s2,k⟩ w13 ⟨g7,aO,KB,DR⟩ ih2;dsimp only at g7 KB DR ih2⊢;obtain⟨cy,-,iD,sZ⟩:=g7.inv au
       try dsimp only
       by_cases hk:k<q
       ·refine run_seq (qN rfl (M4 rfl rfl (Nr rfl rfl (O8 (LM rfl ?_)))));by_cases ji:s2.done=true
        ·rw[ji];refine LM rfl (qV ((by first|exact ML rfl|exact Oh rfl)) ?_);refine NB rfl rfl (LO (An rfl (LW rfl ?_)));exact(av _ _ ⟨s2,by rw[ji],g7,aO,.inl ji⟩).qb
        ·have qf:s2.done=false:=by cases e:s2.done with
          |false=>rfl
          |true=>exact absurd e ji
         rw[qf];refine LM rfl (qV ((by first|exact ML rfl|exact Oh rfl)) ?_);refine NB rfl rfl ?_;have KC:=cy.z6j iD qf;refine LO (M3 rfl (py (run_seq (LK (qN rfl (LM rfl (Mb z7Q rfl (Xs g7 aO qf (by omega)) ?_)))))));rintro _ w14 ⟨rfl,m7,bF⟩;refine LM rfl (MW rfl rfl (MW rfl rfl (M6 rfl (M6 rfl (qM rfl (LM rfl (Mb z7Q rfl (Xs m7.symm bF qf (by show s2.t+1<=50;omega)) ?_)))))));rintro _ w15 ⟨rfl,ER,tV⟩;refine LM rfl (MW rfl rfl (MW rfl rfl (M6 rfl (LU rfl (run_seq (qN rfl (LM rfl (MY rfl rfl (M4 rfl rfl (MY rfl rfl (ME rfl rfl (M4 rfl rfl (LM rfl ?_)))))))))))));refine qV (z7r rfl rfl U4) ?_;rw[show(!((s2.step g).done==(s2.step g).done))=false by simp];refine ME rfl rfl (LO (An rfl (py (LQ rfl (LM rfl (LU rfl (LL (LQ rfl (LM rfl (MK rfl rfl (LU rfl ?_)))))))))));exact(ih2 (s2.step g,k+1) _ ⟨ER.symm,tV,by show k+1<=s2.t+1;omega,by show k+1<=q;omega⟩ (by show q-(k+1)<q-k;omega)).qb
       ·refine run_seq (qN rfl (M4 rfl rfl (Nr rfl rfl (MC (LM rfl (qS (qS (ME rfl rfl (LO (An rfl (LW rfl ((av _ _ ⟨s2,rfl,g7,aO,?_⟩).qb))))))))))))
        cases e:s2.done with
        |true=>exact .inl rfl
        | false =>
          have:=cy.z6j iD e;rcases Ks with e2|e2
          ·omega
          ·exact .inr e2
    case eL=>
     by_cases h1:i<ls.length
     ·refine qN rfl (M4 rfl rfl (NX U57 rfl (Nr rfl rfl (O8 (LM rfl ?_)))));by_cases h2:i<12
      ·refine LM rfl (Nr rfl rfl (O8 (NB rfl rfl ?_)));obtain⟨e,he⟩:∃e,ls[i]? =some e:=⟨_,List.getElem?_eq_getElem h1⟩;obtain⟨b1,b2,b3,lb,lo,rfl,qj,fx,eI⟩:=(rH.ext aQ) i e he;refine LO (M3 rfl (LQ rfl (M4 rfl rfl (qV (MN U57 zaD rfl rfl (by omega)) (M0 zau rfl (qV (Mt U3 rfl rfl qj) ?_))))));have q1:=PV e.1 4 (by decide);have q2:=RJ e.1 4 (by decide);refine qV (yrt rfl rfl (by decide)) (MK rfl rfl (qV (yrt rfl rfl (by decide)) ?_));rw[show(e.1.tmod 4+4).tmod 4=ZO e.1 4 from rfl];obtain⟨q,hq,ct⟩:∃q:Nat,ZO e.1 4=(q:Int)/\q<4:=⟨(ZO e.1 4).toNat,by omega,by omega⟩;rw[hq];refine LU rfl ?_;exact(dJ _ _ ⟨q,false,rfl,Af.symm,by omega,.inr ⟨h1,h2⟩,rfl⟩).qb
      ·refine LM rfl (Nr rfl rfl (MC (NB rfl rfl (LO (An rfl (py ?_))))));rw[show(g.length:Int)+1=((g.length+1:Nat):Int) by omega];exact(dJ _ _ ⟨g.length+1,false,rfl,Af.symm,by omega,.inl rfl,rfl⟩).qb
     ·refine qN rfl (M4 rfl rfl (NX U57 rfl (Nr rfl rfl (MC (LM rfl (qS (qS (ME rfl rfl (LO (An rfl (py ?_)))))))))));rw[show(g.length:Int)+1=((g.length+1:Nat):Int) by omega];exact(dJ _ _ ⟨g.length+1,false,rfl,Af.symm,by omega,.inl rfl,rfl⟩).qb
end Go.Proofs.YtpldpcjdjcgicaaGreatDoor
namespace Go.Proofs.YtpldpcjdjcgicaaGreatDoor
open Go Go.ChangeShapes Go.WideShapes Go.ChangeAt Go.RowKit
def Vz (P:Program)(ts:List TypeId):Bool:=ts.all λt=>P.readableRec t&&decide (t<P.types.size)
theorem TG {H:Type}{enc:TypeId×Value->H}{P:Program}(hl:laidOutB P=true){W W':World}(hb:Below W.heap.size W W'):
  ∀ {ts : List TypeId} {vs : List Value} {ds : List (DataW H)} {ps : List MemPlace}, Vz P ts = true -> DataW.TrodAll enc P W 0 (λ_ => true) true ts vs ds ps ->
    DataW.TrodAll enc P W' 0 (λb=>decide (b<W.heap.size)) true ts vs ds ps
 |[],[],[],_,_,h=>h
 | t :: ts, v :: vs, d :: ds, _, hr, h => by
   obtain⟨p,q,h1,h2,rfl⟩:=h;simp only[Vz,List.all_cons,Bool.and_eq_true,decide_eq_true_eq] at hr
   exact⟨p,q,Below.trod hl hr.1.1 hr.1.2 h1 hb (by obtain⟨m,hm⟩:=h1;exact DataW.trod_lt m _ _ _ hm),TG hl hb hr.2 h2,rfl⟩
 |[],[],_::_,_,_,h=>h.elim
 |[],_::_,_,_,_,h=>h.elim
 |_::_,[],_,_,_,h=>h.elim
 |_::_,_::_,[],_,_,h=>h.elim
theorem VS {H:Type}{enc:TypeId×Value->H}{P:Program}{W:World}{base:Nat}{spare:Nat->Bool}{held:Bool}:
  ∀{ts:List TypeId} {vs:List Value} {ds:List (DataW H)} {ps:List MemPlace},DataW.TrodAll enc P W base spare held ts vs ds ps->ds.length=ts.length
 |[],[],[],_,_=>rfl
 | t :: ts, v :: vs, d :: ds, _, h => by
   obtain⟨p,q,h1,h2,rfl⟩:=h
   simpa using VS h2
 |[],[],_::_,_,h=>h.elim
 |[],_::_,_,_,h=>h.elim
 |_::_,[],_,_,h=>h.elim
 |_::_,_::_,[],_,h=>h.elim
theorem own:ownKnob Tryz.prog.godebug=none:=by kernel_rfl
theorem laidOut:laidOutB Tryz.prog=true:=by kernel_rfl
end Go.Proofs.YtpldpcjdjcgicaaGreatDoor
namespace Go.Proofs.YtpldpcjdjcgicaaGreatDoor
open Go Go.ChangeShapes Go.WideShapes Go.ChangeAt Go.RowKit Go.Deep
section
variable {H:Type}{enc:TypeId×Value->H}{W:World}{sp:Nat->Bool}
theorem z68 (n:Int)(h:(Lit.int .u32 n).wf=true):Value.int .u32 n=Ms n.toNat/\n.toNat<4294967296:=by
 simp[Lit.wf,IntKind.min,IntKind.max,IntKind.signed,IntKind.bits] at h
 exact⟨by unfold Ms;congr;omega,by omega⟩
theorem i64_in (n:Int)(h:(Lit.int .i64 n).wf=true): -9223372036854775808<=n/\n<=9223372036854775807:=by
 simp[Lit.wf,IntKind.min,IntKind.max,IntKind.signed,IntKind.bits] at h;omega
theorem YG {w:World}{b off:Nat}{spot:Option Nat}{v:Value}(h:w.cell? ⟨b,off,spot⟩=some v):spot=none:=by
 unfold World.cell? at h
 split at h
 ·cases spot with
  |none=>rfl
  |some s=>simp at h
 ·cases h
theorem open_edges {fuel:Nat}{v:Value}{x:DataW H×List MemPlace}(h:DataW.trod enc Tryz.prog W 0 sp true fuel 22 [v]=some x)(hw:∀n∈x.1.weights Tryz.prog 22,n<=reachBytes):∃(ea:Option Addr) (ec:Nat) (es:List (Nat×Nat)),v= .slice ea es.length ec/\EdR W ea es/\es.length<=9000000000000000000:=by
 rcases open_slice_pairs U22 U65 (by kernel_rfl) rfl rfl (by kernel_rfl) (by kernel_rfl) h with⟨hv,hx⟩|⟨a,len,cap,m,n,V0,V1,D0,D1,P0,P1,hv,-,hl,hm,zK,hx,nW⟩
 ·cases hv;exact⟨none,0,[],rfl,λi e he=>by simp at he,by simp⟩
 ·cases hv;have f7:maxLen=9223372036854775807:=rfl;have gu:len<=m:=by rw[zK];split<;>omega
  have hk:∀i,i<len->∃e:Nat×Nat,e.1<4294967296/\e.2<4294967296/\W.cell? (a.add (i*2))=some (Ms e.1)/\W.cell? (a.add (i*2+1))=some (Ms e.2):=λi hi=>by
   obtain⟨c0,c1,h0,h1⟩:=nW i (by omega);obtain⟨n0,e0,-,f0⟩:=DataW.trod_int N5 h0;obtain⟨n1,e1,-,f1⟩:=DataW.trod_int N5 h1;have e0:V0 i= .int .u32 n0:=by simpa using e0
   have e1:V1 i= .int .u32 n1:=by simpa using e1
   obtain⟨q0,b0⟩:=z68 n0 f0;obtain⟨q1,b1⟩:=z68 n1 f1;exact⟨(n0.toNat,n1.toNat),b0,b1,by rw[c0,e0,q0],by rw[c1,e1,q1]⟩
  obtain⟨E,hE⟩:∃E:Nat->Nat×Nat,∀i,i<len->(E i).1<4294967296/\(E i).2<4294967296/\W.cell? (a.add (i*2))=some (Ms (E i).1)/\W.cell? (a.add (i*2+1))=some (Ms (E i).2):=
   choose_lt (α:=Nat×Nat) (n:=len) (p:=λi e=>e.1<4294967296/\e.2<4294967296/\W.cell? (a.add (i*2))=some (Ms e.1)/\W.cell? (a.add (i*2+1))=some (Ms e.2)) hk
  refine⟨some a,cap,(List.range len).map E,by simp,λi e he=>?_,?_⟩
  ·rw[List.getElem?_map] at he;rcases Nat.lt_or_ge i len with hi|hi
   ·rw[List.getElem?_range hi] at he;obtain rfl:=NV he;obtain⟨g1,g2,g3,g4⟩:=hE i hi;obtain⟨b,off,spot⟩:=a;have h3:=(hE 0 (by omega)).2.2.1;rw[Nat.zero_mul] at h3;simp only[Addr.add,if_true] at h3;obtain rfl:=YG h3;rw[Nz] at g3 g4;exact⟨g1,g2,b,off,rfl,g3,by rw[Nat.add_assoc];exact g4⟩
   ·rw[List.getElem?_eq_none (by simpa using hi)] at he;cases he
  ·have oz:=hw ((len+(m-len))*8) (by rw[hx];simp[DataW.weights,U22,show Tryz.prog.bytesOf 65=8 by kernel_rfl]);simp[reachBytes] at oz;simp;omega
end
section
variable {H:Type}{enc:TypeId×Value->H}{W:World}{sp:Nat->Bool}
theorem z5f {fuel:Nat}{cs:List Value}{x:DataW H×List MemPlace}(h:DataW.trod enc Tryz.prog W 0 sp true fuel 59 cs=some x):∃e:Int×Int×Int,cs=[I e.1,I e.2.1,I e.2.2]/\(-9223372036854775808<=e.1/\e.1<=9223372036854775807)/\(-9223372036854775808<=e.2.1/\e.2.1<=9223372036854775807)/\(-9223372036854775808<=e.2.2/\e.2.2<=9223372036854775807):=by
 obtain⟨xs,n,-,hx,hl,hlen,hf⟩:=DataW.trod_struct Tryz.underlying59 h
 rw[show Tryz.prog.cellsOf 59=3 by kernel_rfl] at hl
 match xs,hlen with
 |[y0,y1,y2],_=>
 match cs,hl with
 | [c0, c1, c2], _ =>
   have hc:Tryz.prog.cellsOf 3=1:=by kernel_rfl
   have t0:=hf 0 _ rfl;have t1:=hf 1 _ rfl;have t2:=hf 2 _ rfl;obtain⟨n0,e0,-,w0⟩:=DataW.trod_int Tryz.underlying3 t0;obtain⟨n1,e1,-,w1⟩:=DataW.trod_int Tryz.underlying3 t1;obtain⟨n2,e2,-,w2⟩:=DataW.trod_int Tryz.underlying3 t2;obtain rfl:c0=I n0:=by simpa[hc] using e0
   obtain rfl:c1=I n1:=by simpa[hc] using e1
   obtain rfl:c2=I n2:=by simpa[hc] using e2
   exact⟨(n0,n1,n2),rfl,i64_in _ w0,i64_in _ w1,i64_in _ w2⟩
theorem open_stops {fuel:Nat}{v:Value}{x:DataW H×List MemPlace}(h:DataW.trod enc Tryz.prog W 0 sp true fuel 57 [v]=some x)(hw:∀n∈x.1.weights Tryz.prog 57,n<=reachBytes):∃(la:Option Addr) (lc:Nat) (ls:List (Int×Int×Int)),v= .slice la ls.length lc/\z1a W la ls/\ls.length<=9000000000000000000:=by
 rcases open_slice Tryz.underlying57 h with⟨hv,hx⟩|⟨a,len,cap,m,n,D,Pl,hv,-,hl,hm,hmm,hx,hel⟩
 ·cases hv;exact⟨none,0,[],rfl,λi e he=>by simp at he,by simp⟩
 ·cases hv;rw[show Tryz.prog.cellsOf 59=3 by kernel_rfl] at hel;have hlm:len<=m:=by rw[hmm];split<;>omega
  have hk:∀i,i<len->∃e:Int×Int×Int,(-9223372036854775808<=e.1/\e.1<=9223372036854775807)/\(-9223372036854775808<=e.2.1/\e.2.1<=9223372036854775807)/\(-9223372036854775808<=e.2.2/\e.2.2<=9223372036854775807)/\W.cells? 0 (a.add (i*3)) 3=some [I e.1,I e.2.1,I e.2.2]:=λi hi=>by
   obtain⟨cs',c1,c2⟩:=hel i (by omega);obtain⟨e,rfl,b1,b2,b3⟩:=z5f c2;exact⟨e,b1,b2,b3,c1⟩
  obtain⟨E,hE⟩:=choose_lt (α:=Int×Int×Int) (n:=len) (p:=λi e=>(-9223372036854775808<=e.1/\e.1<=9223372036854775807)/\(-9223372036854775808<=e.2.1/\e.2.1<=9223372036854775807)/\(-9223372036854775808<=e.2.2/\e.2.2<=9223372036854775807)/\W.cells? 0 (a.add (i*3)) 3=some [I e.1,I e.2.1,I e.2.2]) hk;refine⟨some a,cap,(List.range len).map E,by simp,λi e he=>?_,?_⟩
  ·rw[List.getElem?_map] at he;rcases Nat.lt_or_ge i len with hi|hi
   ·rw[List.getElem?_range hi] at he;obtain rfl:=Option.some.inj he;obtain⟨g1,g2,g3,g4⟩:=hE i hi;obtain⟨b,off,spot⟩:=a;have h0:=(hE 0 (by omega)).2.2.2;obtain⟨-,-,h3⟩:=World.cells?_some h0;have h3:=h3 0 (by decide);rw[Nat.zero_mul] at h3;simp only[Addr.add,if_true] at h3;obtain rfl:=YG h3;obtain⟨-,-,h4⟩:=World.cells?_some g4;have k0:=h4 0 (by decide);have k1:=h4 1 (by decide);have k2:=h4 2 (by decide);rw[Nz,Nz] at k0 k1 k2;exact⟨g1,g2,g3,b,off,rfl,k0,k1,k2⟩
   ·rw[List.getElem?_eq_none (by simpa using hi)] at he;cases he
  ·have hwt:=hw ((len+(m-len))*24) (by rw[hx];simp[DataW.weights,Tryz.underlying57,show Tryz.prog.bytesOf 59=24 by kernel_rfl]);simp[reachBytes] at hwt;simp;omega
end
end Go.Proofs.YtpldpcjdjcgicaaGreatDoor
namespace Go.Proofs.YtpldpcjdjcgicaaGreatDoor
open Go Go.ChangeShapes Go.WideShapes Go.ChangeAt Go.RowKit
theorem law_lifted_tied {H:Type}{enc:TypeId×Value->H}{C:Checked}{os:Os}{f:FuncId}{fn:Func}{s:ChangeSpec}{t:TypeId}{ts:List TypeId}{laid:List (String×DataW Unit)}
  (own:ownKnob C.prog.godebug=none) (started:os.Started) (hl:laidOutB C.prog=true) (noInit:C.prog.inits.idxOf? f=none) (hfn:C.prog.funcs[f]? =some fn)
  (hts:fn.params.toList=ts) (hrd:Vz C.prog ts=true) (hrt:fn.resultTypes=#[t]) (hb:C.prog.underlying t=some .bool) (hsv:s.vars=[])
  (hpl:(laid.all λx=>x.2.handleName?.isNone)=true)
  (hspec:∀ds:List (DataW H),ds.length=ts.length->s.fn H ds={results:=[.lit (.bool true)],args:=ds})
  (witness:∃(w:World) (tape:Tape) (i:Input),w.os=os/\(w.forCall tape i).Shaped C.prog/\i.vars=[]/\Input.okWide C.prog (w.forCall tape i) .any w.heap.size f i/\
   ((s.pre enc C.prog fn [] false (w.forCall tape i).memory i.args/\laidMetH C.prog laid (w.forCall tape i).memory)/\sizedMet enc C.prog fn (OpenSpec.ofChange s) false (w.forCall tape i).memory i.args)/\({}:Assume).holds C.prog (lone (Frame.enter C.prog f i.args .normal) [] (w.forCall tape i)))
  (hret:∀(W:World) (base:Nat) (args:List Value) (ds:List (DataW H)) (ps:List MemPlace),W.ShapedOpen C.prog->laidMet C.prog laid W->
   (∀(j:Nat) t v,ts[j]? =some t->args[j]? =some v->Value.okWide C.prog W .any base t v)->
   DataW.TrodAll enc C.prog W 0 (λ_=>true) true ts args ds ps->W.noneFrozen ps->
   (DataW.weightsEach C.prog ts ds).all (·<=reachBytes)=true->
   Mm C.prog f args W λv w'=>v= .bool true/\Ext W w'):
  ReturnsInHanded {} C os f .any (λw args=>(s.pre enc C.prog fn [] false w args/\laidMetH C.prog laid w)/\sizedMet enc C.prog fn (OpenSpec.ofChange s) false w args) (s.post enc C.prog fn false true false false):=by
 refine returnsInHanded_of_calls own started noInit witness ?_
 intro w tape i _ hsh _ hok hpre hholds
 obtain⟨_,_,_,fn',hfn',_,_,_,_,hval⟩:=hok
 have e:fn'=fn:=Option.some.inj (hfn'.symm.trans hfn)
 subst e
 obtain⟨⟨⟨ds,gs,before,hw,hc⟩,hx⟩,hz⟩:=hpre
 have hW:=DataW.Whole.of_heap (w':=w.forCall tape i) (by rfl) hw
 have hW':=hW
 have hsz0:(DataW.weightsEach C.prog (fn'.params.toList++s.plain.varTypes C.prog) (ds++gs)).all (·<=reachBytes)=true:=hz.weights hw
 obtain⟨p,q,hA,hV,rfl,hfz,_⟩:=hW
 rw[hsv] at hV
 obtain⟨rfl,rfl⟩:=trodVars_none hV
 rw[hts] at hA
 have hlen:=VS hA
 have hsz:(DataW.weightsEach C.prog ts ds).all (·<=reachBytes)=true:=by
  have hv:s.plain.varTypes C.prog=[]:=by simp[ChangeSpec.plain,DataSpec.varTypes,hsv]
  rw[hts,hv,List.append_nil,List.append_nil] at hsz0;exact hsz0
 have hL:laidMet C.prog laid (w.forCall tape i):=by
  rw[MakeChecks.laidMetH_plain _ _ _ hpl] at hx;exact hx.of_heap (by rfl)
 have hr:=hret _ w.heap.size i.args.toList ds p hsh hL (λj t v h1 h2=>hval j t v (by rw[<-hts] at h1;simpa using h1) (by simpa using h2)) hA (by rw[List.append_nil] at hfz;exact hfz) hsz
 unfold Mm at hr;rw[Array.toArray_toList] at hr
 refine Calls.mono hr λx W' ⟨v,hx,hv,hext⟩=>?_
 subst hx;subst hv
 have bel:=hext.below
 refine ChangeSpec.post_blind ⟨ds,[],p++[],[],p,[],hW',?_,?_,?_,bel.frame _,λh=>by cases h⟩
 ·rw[List.append_nil,hspec ds hlen,hrt];exact trodAll_mk1 (shut_bool hb _)
 ·rw[List.append_nil,hspec ds hlen,hts];exact TG hl bel hrd hA
 ·rw[hsv,List.append_nil,hspec ds hlen]
  rfl
theorem pair_cells {P:Program}{W:World}{t fuel:Nat}{cs:Array Value}{f0 f1:Field}{ka kb:IntKind}{a b:Int}{p:List MemPlace}(hs:P.underlying t=some (.struct #[f0,f1]))(hc:P.cellsOf t=2)(o0:f0.offset=0)(o1:f1.offset=1)
  (c0:P.cellsOf f0.type=1) (c1:P.cellsOf f1.type=1) (u0:P.underlying f0.type=some (.int ka)) (u1:P.underlying f1.type=some (.int kb))
  (hd:DataW.trod (λ_=>()) P W 0 (λ_=>true) false fuel t cs.toList=some (.agg [.lit (.int ka a),.lit (.int kb b)],p)):cs.toList=[.int ka a,.int kb b]:=by
 obtain⟨y0,y1,n,hx,hl,h0,h1⟩:=trod_struct2 hs hd
 obtain⟨v0,e0,rfl,-⟩:=DataW.trod_int u0 h0
 obtain⟨v1,e1,rfl,-⟩:=DataW.trod_int u1 h1
 rw[hc] at hl
 rw[o0,c0] at e0
 rw[o1,c1] at e1
 simp at hx
 obtain⟨⟨rfl,rfl⟩,-⟩:=hx
 match hcs:cs.toList,hl with
 | [x, y], _ =>
   rw[hcs] at e0 e1;simp at e0 e1;rw[e0,e1]
theorem z3m {P:Program}{W:World}{n:String}{g T:Nat}{cs:Array Value}{l:List Value}(hW:W.ShapedOpen P)(hgs:g<P.globals.size)(hz:(((begin P (λ_ _=>0) default).world.heap[g]?).bind Obj.row?).map (·.2)=some T)(hg:P.globalNamed n=some g)(hv:W.var? P n=some cs)(hcs:cs.toList=l):LX W g l T:=by
 cases hr:((begin P (λ_ _=>0) default).world.heap[g]?).bind Obj.row? with
 |none=>rw[hr] at hz;cases hz
 | some x =>
   obtain⟨z,t⟩:=x;rw[hr] at hz;obtain rfl:t=T:=Option.some.inj hz;obtain⟨c,hh,-,-⟩:=hW.1 g z t hgs hr;simp only[World.var?,hg,Option.bind_some,hh] at hv;have hc:c=cs:=by simpa using hv
   subst hc;refine⟨(0,0),by rw[hh,<-hcs],λi _ e=>by simp at e⟩
theorem laid_two {W:World}{laid:List (String×DataW Unit)}(hlaid:laid=[("wattle/list.gamma",.agg [.lit (.int .u8 1),.lit (.int .u64 0)]),("wattle/list.unary",.agg [.lit (.int .u8 0),.lit (.int .u64 0)])])(hW:W.ShapedOpen Tryz.prog)(h:laidMet Tryz.prog laid W):LX W 1 [.int .u8 1,.int .u64 0] 298/\LX W 2 [.int .u8 0,.int .u64 0] 298:=by
 subst hlaid
 obtain⟨ps,hL,-,hB⟩:=h
 obtain⟨g0,t0,cs0,fuel0,p0,q0,hg0,ht0,hv0,hd0,hL,hps⟩:=hL
 obtain⟨g1,t1,cs1,fuel1,p1,q1,hg1,ht1,hv1,hd1,hL,hqs⟩:=hL
 obtain rfl:=Option.some.inj ((show Tryz.prog.globalNamed "wattle/list.gamma"=some 1 by kernel_rfl).symm.trans hg0)
 obtain rfl:=Option.some.inj ((show Tryz.prog.globalNamed "wattle/list.unary"=some 2 by kernel_rfl).symm.trans hg1)
 obtain rfl:=Option.some.inj ((show(Tryz.prog.globals[1]?).map (·.type)=some 298 by kernel_rfl).symm.trans ht0)
 obtain rfl:=Option.some.inj ((show(Tryz.prog.globals[2]?).map (·.type)=some 298 by kernel_rfl).symm.trans ht1)
 have e0:=pair_cells Tryz.underlying298 (by kernel_rfl) rfl rfl (by kernel_rfl) (by kernel_rfl) Tryz.underlying5 Tryz.underlying41 hd0
 have e1:=pair_cells Tryz.underlying298 (by kernel_rfl) rfl rfl (by kernel_rfl) (by kernel_rfl) Tryz.underlying5 Tryz.underlying41 hd1
 have hgs:∀g:Nat,g<3->g<Tryz.prog.globals.size:=λg hg=>Nat.lt_of_lt_of_le hg (of_decide_eq_true (by kernel_rfl))
 exact⟨z3m hW (hgs 1 (by decide)) (by kernel_rfl) hg0 hv0 e0,z3m hW (hgs 2 (by decide)) (by kernel_rfl) hg1 hv1 e1⟩
noncomputable def limWorld (os:Os):World:=
 let w0:=World.holding Tryz.prog os ⟨#[],#[],[]⟩
 { w0 with heap := w0.heap.modify 1 fun
   | .cells _ t frozen=> .cells #[.int .u8 1,.int .u64 0] t frozen
   |o=>o}
end Go.Proofs.YtpldpcjdjcgicaaGreatDoor
