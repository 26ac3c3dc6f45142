/- Texts WkA, WkB, WkC, WkD, WkE, WkF, ExA, ExB, ExC, ExD, DwP, DwA, DwB, DwC, DwD, DwE, DwF, DwG, DwJ, ArA, ArB, ArC, ArD, one behind the other (what the statement BfsAlong does not use is left out). -/
import Derived.Test.YtpldpcjdjcgicaaGreatDoorBAp2
import Derived.Test.YtpldpcjdjcgicaaGreatDoorBAp5
import Derived.Test.YtpldpcjdjcgicaaGreatDoorBAp1
set_option maxHeartbeats 16000000
namespace Go.Proofs.YtpldpcjdjcgicaaGreatDoor
open Go Go.RowKit
set_option linter.all false
set_option maxRecDepth 100000
section
variable {P:Program}{e:Env}{d:Option Nat}{ty t t':TypeId}{pos:String}{aft:Array Edge}{g:Option (Nat×Bool)}{x y:Operand}{w:World}
theorem ZH {f:FuncId}{name:String}{u:Value}(h:methT P t name=some f):(nilAhead (P.types.size+Made.depth) t u name).run P w= .ok (some false) w:=by
 rw[show P.types.size+Made.depth=P.types.size+(Made.depth-1)+1 from rfl]
 unfold methT at h
 split at h<;>try cases h
 rename_i i hi
 split at h<;>try cases h
 rename_i m hm
 split at h<;>try cases h
 rename_i f' pr iF iG
 have mz:i.methods.find? (·.name==name)=some m:=by rw[←hm,Array.find?_toList]
 unfold nilAhead
 split at h<;>try cases h
 ·rename_i el hu
  cases pr<;>simp at h;subst h;simp[OB hi,mz,iF,followBlind,iG]
 ·rename_i td EO hu
  cases pr<;>simp at h;subst h;simp only[Sem.run_bind,OB hi,Result.andThen_ok,mz,iF,followBlind,Sem.run_pure,iG,run_underlying hu];cases td<;>first|exact absurd rfl (EO _)|rfl
theorem z9C {td:TypeDesc}{v:Value}(ht:P.underlying t=some td)(hn:∀ms,td≠ .interface ms)(hx:look e x=some v):Y P e ⟨d,.makeInterface t x,ty,pos,aft,g⟩ (.iface t v) w w:=fun ρ hρ=>by
 simp only[execOp,hρ _ _ hx,Instr.makeInterface,Sem.run_bind,run_underlying ht,Result.andThen_ok]
 cases td<;>first|rfl|exact(hn _ rfl).elim
theorem ymm {nm:String}{v:Value}(hx:look e x=some v):Y P e ⟨d,.makeFunc (.method nm) #[x] #[],ty,pos,aft,g⟩ (.func (.method nm) #[v] #[]) w w:=fun ρ hρ=>by
 simp[execOp,hρ _ _ hx,Instr.makeFunc]
theorem zcZ {f:FuncId}{nm:String}{tx:TypeId}{v:Value}(hm:methT P tx nm=some f)(hx:look e x=some (.func (.method nm) #[.iface tx v] #[])):Y P e ⟨d,.nilCheck x,ty,pos,aft,g⟩ (.func (.method nm) #[.iface tx v] #[]) w w:=fun ρ hρ=>by
 have hn:=ZH (w:=w) (u:=v) hm
 have rj:(program).run P w= .ok P w:=rfl
 simp[execOp,hρ _ _ hx,rj,hn]
end
def U1 (t:TypeId)(u:Value)(a n:Nat):Value:= .agg #[.iface t u,I (a:Int),I (n:Int)]
theorem Yi (t:TypeId)(u:Value)(a n:Nat)(w:World):Le Tryz.prog 264 [U1 t u a n] w fun v w'=>v=I (n:Int)∧Ext w w':=by
 unfold U1
 refine KA (e:=[(0,_)]) Tryz.func264 rfl Tryz.ntmps264 rfl rfl (qN rfl (KL rfl rfl (Mz rfl (cs:=[.iface t u,I (a:Int),I (n:Int)]) rfl) ?_))
 rintro _ w1 ⟨b1,rfl,bT,ad,ai⟩
 refine KE rfl (qM rfl (qV (KK Xk rfl) (qV (KJ U3 rfl rfl ai rfl) (KE rfl (py (KG Tryz.func264 rfl ?_))))))
 exact⟨_,rfl,rfl,ad⟩
theorem z0S {t:TypeId}{u:Value}{T:Bytes}(R:Src t u T){X:Nat→Prop}{w:World}(a n:Nat)(nY:a+n≤T.length)(hT:T.length≤100000000000)(off m:Nat)(hI:R.inv X w)(hX:∀k,X k→k<w.heap.size)(h:off+m≤n):
  Le Tryz.prog 265 [U1 t u a n,I (off:Int),I (m:Int)] w fun v w'=>v= .tuple #[S ((((T.drop a).take n).drop off).take m),I 0]∧R.inv X w'∧Kp (fun k=>¬X k) w w':=by
 have e:(((T.drop a).take n).drop off).take m=(T.drop (a+off)).take m:=by
  rw[List.drop_take,List.take_take,List.drop_drop,show min m (n-off)=m by omega]
 rw[e]
 unfold U1
 refine KA (e:=[(0,_),(1,_),(2,_)]) Tryz.func265 rfl Tryz.ntmps265 rfl rfl (qN rfl (KL rfl rfl (Mz rfl (cs:=[.iface t u,I (a:Int),I (n:Int)]) rfl) ?_))
 rintro _ w1 ⟨b1,rfl,bT,ad,ai⟩
 refine KE rfl (KE rfl (py (run_seq (qN rfl (An rfl (qV (LW rfl rfl) (An rfl (An rfl (qV (LW rfl rfl) (Lq (qV (Lk rfl rfl) (An rfl (An rfl ?_)))))))))))))
 refine qV (KK Xk rfl) (qV (KJ U3 rfl rfl ai rfl) (qV (LH rfl rfl) (Lq (qV (Lk rfl rfl) (An rfl (An rfl (qV (KK Xk rfl) (qV (KJ U3 rfl rfl ai rfl) (An rfl (qV (M8 rfl rfl (by omega)) (qV (LH rfl rfl) (Lq (qV (Lk rfl rfl) ?_)))))))))))))
 refine py (Lc.qb (e:=[(1,_),(2,_),(3,_),(6,_),(7,_),(27,_)]) ?_)
 refine Kx rfl (It (qN rfl (qV (KK z6i rfl) (qV (KJ YY rfl rfl ai rfl) (qV (KK z6I rfl) (qV (KJ U3 rfl rfl ai rfl) (An rfl (Lz rfl rfl (An rfl ?_)))))))))
 rw[show(a:Int)+(off:Int)=((a+off:Nat):Int) by omega]
 refine Mb rfl rfl (yci (args:=[.tmp 33,.tmp 34]) R.cr R.mr rfl rfl) (R.rd (a+off) m (R.ext hI ad (fun k hk=> .inl hk)) (fun k hk=>by have:=hX k hk;have:=ad.size;omega) (by omega)) ?_
 rintro _ w2 ⟨rfl,cG,am⟩
 refine qV (Ll rfl rfl) (qV (Ll rfl rfl) (KE rfl (KE rfl (py (KG Tryz.func265 rfl ?_)))))
 exact⟨_,rfl,rfl,cG,ad.kp.trans am⟩
def z7T {t:TypeId}{u:Value}{T:Bytes}(R:Src t u T)(a n:Nat)(B:Bytes)(nY:a+n≤T.length)(hT:T.length≤100000000000)(hB:(T.drop a).take n=B):Src 223 (U1 t u a n) B where
 inv:=R.inv
 fl:=264
 fr:=265
 cl:=zc8
 cr:=z9h
 ml:=by kernel_rfl
 mr:=by kernel_rfl
 ext:=R.ext
 step:=R.step
 len:=fun {X w} h=>by
  have e:B.length=n:=by rw[←hB,List.length_take,List.length_drop];omega
  rw[e];exact Yi t u a n w
 rd:=fun {X w} off m h hX ho=>by
  have e:B.length=n:=by rw[←hB,List.length_take,List.length_drop];omega
  rw[←hB];exact z0S R a n nY hT off m h hX (by omega)
def Qt (p:LJ)(g:List (List Nat))(E:List (Nat×Nat)):Zy:=⟨g.length,LR g,p,(LY p g E g.length).length⟩
def Wc (p:LJ)(g:List (List Nat))(E:List (Nat×Nat)):Fm:=OG (g.length+1) ((LY p g E g.length).length+1)
structure NK (p:LJ)(g:List (List Nat))(E:List (Nat×Nat)):Prop where
 LS:p.LS
 gr:N1 g
 n1:1≤g.length
 pk:z4F p g E
section
variable {p:LJ}{g:List (List Nat)}{E:List (Nat×Nat)}
theorem NK.head (h:NK p g E):(Qt p g E).LS:=by
 have hn:=h.gr.n
 have hb:=h.pk.bits
 have rV:=OH h.gr g.length
 rw[List.take_length] at rV
 exact⟨h.n1,(by show g.length≤_;omega),(by show LR g≤_;omega),(by show(LY p g E g.length).length≤_;omega),h.LS⟩
theorem NK.ef (h:NK p g E):Q8 (QG p g E g.length) (Wc p g E) (LY p g E g.length).length:=by
 have hn:=h.gr.n
 have hb:=h.pk.bits
 have aD:=XM p g E g.length
 refine⟨by omega,by omega,z1f p g E g.length,?_,by omega,?_⟩
 ·rw[aD,Nat.add_sub_cancel];exact UH p g E (Nat.le_refl g.length)
 ·rw[aD];rfl
def QF (p:LJ)(g:List (List Nat))(E:List (Nat×Nat)):Nat:=28+((LY p g E g.length).length+7) / 8
theorem NK.len (h:NK p g E):(S1 p g E).length=QF p g E+(Wc p g E).size:=by
 unfold S1 QF
 rw[List.length_append,List.length_append,Ru,Lh]
 have:=h.ef.len
 show _+(SA (QG p g E g.length) (Wc p g E)).length=_
 rw[this]
theorem NK.small (h:NK p g E):(S1 p g E).length≤50000000∧40≤(S1 p g E).length:=by
 have h1:=h.ef.size_le
 have h2:=h.len
 have h3:=h.pk.bits
 unfold QF at h2
 omega
theorem z6y:((S1 p g E).drop 0).take 28=hdT (Qt p g E):=by
 unfold S1
 rw[List.drop_zero,List.append_assoc,←Ru (Qt p g E)]
 exact List.take_left
theorem NK.index (h:NK p g E):((S1 p g E).drop (QF p g E)).take (Wc p g E).size=SA (QG p g E g.length) (Wc p g E):=by
 have h1:(hdT (Qt p g E)++L7 (LY p g E g.length)).length=QF p g E:=by
  rw[List.length_append,Ru,Lh];rfl
 have h2:=h.ef.len
 unfold S1
 show((hdT (Qt p g E)++L7 (LY p g E g.length)++SA (QG p g E g.length) (Wc p g E)).drop _).take _=_
 rw[←h1,List.drop_left,←h2,List.take_length]
theorem z6s (h:NK p g E)(a n:Nat)(hn:8*(a+n)≤(LY p g E g.length).length+7):((S1 p g E).drop (28+a)).take n=((L7 (LY p g E g.length)).drop a).take n:=by
 unfold S1
 exact piece (by rw[Ru]) (by rw[Lh];omega)
end
def gwC (h:Zy)(t:TypeId)(u:Value)(x:Nat):List Value:=[I (h.n:Int),I (h.m:Int),I (h.p.L6:Int),I (h.p.chain:Int),I (h.p.interval:Int),I (h.p.zeta:Int),I (h.p.most:Int),I (h.bits:Int),.iface t u,ptr x 0]
theorem ZN {t:TypeId}{u:Value}{p:LJ}{g:List (List Nat)}{E:List (Nat×Nat)}(hp:NK p g E)(R:Src t u (S1 p g E)){X:Nat→Prop}{w:World}(hI:R.inv X w)(hX:∀k,X k→k<w.heap.size):
  Le Tryz.prog 82 [.iface t u] w fun v w'=>∃k x,v= .tuple #[ptr k 0,I 0]∧KP w' k (gwC (Qt p g E) t u x) 133∧KP w' x (elC (Wc p g E) 223 (U1 t u (QF p g E) (Wc p g E).size)) 271∧w.heap.size≤x∧w.heap.size≤k∧x≠k∧R.inv (fun j=>X j∨j=x∨j=k) w'∧Kp (fun j=>¬X j) w w':=by
 have aD:=hp.len
 obtain⟨dz,dB⟩:=hp.small
 have hn:=hp.gr.n
 have du:=hp.n1
 have tj:=hp.pk.bits
 have hg:=Ext.L4 w
 have pY:=hp.head
 have EW:(Qt p g E).bits=(LY p g E g.length).length:=rfl
 have K1:QF p g E=28+((Qt p g E).bits+7) / 8:=rfl
 have K2:(Qt p g E).n=g.length:=rfl
 refine KA (e:=[(0,_)]) Tryz.func82 rfl Tryz.ntmps82 rfl rfl (qN rfl (KE rfl (KE rfl (py (run_seq (qN rfl (An rfl (qV (z7X YY rfl rfl) (py (Kx rfl (It (run_seq (KN (fun w'=>R.inv X w'∧Kp (fun k=>¬X k) w w') (by kernel_rfl) rfl ?_)))))))))))))
 refine KH 0 rfl (KM rfl) (⟨R.ext hI hg (fun k hk=> .inl hk),hg.kp⟩) (KH 1 rfl (KM rfl) (⟨R.ext hI hg (fun k hk=> .inl hk),hg.kp⟩) (KH 4 rfl (ymm rfl) (⟨R.ext hI hg (fun k hk=> .inl hk),hg.kp⟩) (KH 5 rfl (zcZ R.mr rfl) (⟨R.ext hI hg (fun k hk=> .inl hk),hg.kp⟩) (KH 6 rfl (KM rfl) (⟨R.ext hI hg (fun k hk=> .inl hk),hg.kp⟩) (qO 2 (QN (i:=2) rfl rfl rfl (yci (args:=[]) R.cl R.ml rfl rfl) (R.len (R.ext hI hg (fun k hk=> .inl hk))) ?_))))))
 rintro _ w1 ⟨rfl,ad⟩
 refine⟨⟨R.ext hI (hg.trans ad) (fun k hk=> .inl hk),(hg.trans ad).kp⟩,?_⟩
 have bR:=hg.trans ad
 rw[aD]
 refine KH 3 rfl (ymi rfl rfl) (⟨R.ext hI (hg.trans ad) (fun k hk=> .inl hk),(hg.trans ad).kp⟩) ?_
 rw[show min (28:Int) ((QF p g E+(Wc p g E).size:Nat):Int)=((28:Nat):Int) by omega]
 have kY:=R.ext hI bR (fun k hk=> .inl hk)
 have kj:∀k,X k→k<w1.heap.size:=fun k hk=>by have:=hX k hk;have:=bR.size;omega
 refine qO 7 (QN (i:=7) rfl rfl rfl (yci (args:=[.const (Value.int .i64 0),.tmp 17]) R.cr R.mr rfl rfl) (R.rd 0 28 kY kj (by omega)) ?_)
 rintro _ w2 ⟨rfl,cG,am⟩
 refine⟨⟨cG,bR.kp.trans am⟩,?_⟩
 rw[z6y]
 have dK:Kp (fun k=>¬X k) w w2:=bR.kp.trans am
 have fW:∀k,X k→k<w2.heap.size:=fun k hk=>by have:=kj k hk;have:=am.size;omega
 refine KH 8 rfl (KM rfl) (⟨cG,bR.kp.trans am⟩) (KH 9 rfl (Ll rfl rfl) (⟨cG,bR.kp.trans am⟩) (KH 10 rfl (Ll rfl rfl) (⟨cG,bR.kp.trans am⟩) (KH 11 rfl (ML rfl) (⟨cG,bR.kp.trans am⟩) (KH 12 rfl (ML rfl) (⟨cG,bR.kp.trans am⟩) (qE (run_seq (qN rfl (An rfl (qV (LQ rfl rfl) (py (Kx rfl (It (qN rfl ?_)))))))))))))
 refine An rfl (L2 [.tmp 28] z9k rfl (z2o (Qt p g E) pY w2) ?_)
 rintro _ w3 ⟨rfl,ah⟩
 refine An rfl (qV (Ll (v:=hdV (Qt p g E)) rfl rfl) (qV (Ll (v:=I 0) rfl rfl) (KL rfl rfl (MN (cs:=[_,_,_,_,_,_,_,_]) OE rfl) ?_)))
 rintro _ w4 ⟨b6,rfl,nD,aB,aW⟩
 refine KR rfl (Lo (news:=hdC (Qt p g E)) OE rfl rfl rfl rfl aW (by simp)) ?_
 rintro w5 ⟨dJ,aj⟩
 replace dJ:KP w5 b6 (hdC (Qt p g E)) 128:=dJ
 have cb:Ext w3 w5:=aB.Kz aj (fun i e=>by omega)
 have gV:=ah.trans cb
 refine KE rfl (py (Lc.qb (e:=[(0,_),(2,_),(3,_),(5,_),(6,_)]) ?_))
 refine run_seq (qN rfl (An rfl (qV (LQ rfl rfl) (py (Kx rfl (It (run_seq (qN rfl (qV (La (news:=hdC (Qt p g E)) z0c rfl OE rfl (dJ.cells (n:=8) rfl) rfl) (L2 [.tmp 36] zbe rfl (z2n (Qt p g E) pY (by show g.length≤_;omega) _) ?_))))))))))
 rintro _ w6 ⟨rfl,aK⟩
 have gW:=gV.trans aK
 have oe:=R.ext cG gW (fun k hk=> .inl hk)
 have sd:=aK.KD dJ
 refine An rfl (qV (Ll (v:=I ((QF p g E+(Wc p g E).size:Nat):Int)) rfl rfl) (qV (Ll (v:=I 0) rfl rfl) (KE rfl (KE rfl (qM rfl (An rfl (qV (LQ rfl rfl) (Lq (An rfl (An rfl (An rfl (Mb rfl rfl (yci (args:=[]) R.cl R.ml rfl rfl) (R.len oe) ?_))))))))))))
 rintro _ w7 ⟨rfl,bL⟩
 rw[aD]
 have C8:=gW.trans bL
 have oW:=bL.KD sd
 refine qV (LQ rfl rfl) (Lq (qV (Lk rfl rfl) ?_))
 replace oW:KP w7 b6 [I ((Qt p g E).n:Int),I ((Qt p g E).m:Int),I ((Qt p g E).p.L6:Int),I ((Qt p g E).p.chain:Int),I ((Qt p g E).p.interval:Int),I ((Qt p g E).p.zeta:Int),I ((Qt p g E).p.most:Int),I ((Qt p g E).bits:Int)] 128:=oW
 refine py (Kx rfl (It (qN rfl (qV (KK PA rfl) (qV (KJ U3 rfl rfl oW rfl) (Lz rfl rfl (qV (Ra rfl rfl (by omega)) (Lz rfl rfl ?_))))))))
 rw[show 28+((((Qt p g E).bits:Nat):Int)+7) / 8=(QF p g E:Int) by omega]
 refine KE rfl (py (Lc.qb (e:=[(0,_),(2,_),(3,_),(5,_),(6,_),(9,_)]) ?_))
 refine qN rfl (An rfl (An rfl (An rfl ?_)))
 have j0:=R.ext oe bL (fun k hk=> .inl hk)
 refine Mb rfl rfl (yci (args:=[]) R.cl R.ml rfl rfl) (R.len j0) ?_
 rintro _ w8 ⟨rfl,cE⟩
 rw[aD]
 have iD:=C8.trans cE
 have BD:=R.ext j0 cE (fun k hk=> .inl hk)
 have i5:=cE.KD oW
 have z28:=iD.size
 refine An rfl (qV (M8 rfl rfl (by omega)) ?_)
 rw[show((QF p g E+(Wc p g E).size:Nat):Int)-(QF p g E:Int)=((Wc p g E).size:Int) by omega]
 refine qV (Nc (parts:=[(0,.tmp 54),(1,.tmp 55),(2,.tmp 59)]) (cs:=[_,_,_]) zbu rfl z9m rfl rfl) (qV (z9C zd1 (fun _ h=>by cases h) rfl) ?_)
 have lb6:=i5.lt
 have HM:=R.ext (Y:=fun k=>X k∨k=b6) cG iD (fun k hk=>hk.imp id fun e=>by have:=ah.size;omega)
 have ld:∀k,(X k∨k=b6)→k<w8.heap.size:=fun k hk=>by
  rcases hk with hk| e
  ·have:=fW k hk;have:=iD.size;omega
  ·omega
 refine L2 [.tmp 61] zbP rfl (z0y hp.ef (z7T R (QF p g E) (Wc p g E).size (SA (QG p g E g.length) (Wc p g E)) (by omega) (by omega) hp.index) (X:=fun k=>X k∨k=b6) HM ld) ?_
 rintro _ w9 ⟨x,rfl,fX,hx,j3,aJ⟩
 have i6:=aJ.KD i5 (fun hh=>hh (.inr rfl))
 have C9:Kp (fun k=>¬X k) w2 w9:=iD.kp.trans (aJ.KT fun k hk e=>hk (.inl e))
 have z9:=aJ.size
 refine An rfl (qV (Ll (v:=ptr x 0) rfl rfl) (qV (Ll (v:=I 0) rfl rfl) (KE rfl (KE rfl (py (run_seq (KB (qN rfl (An rfl (qV (LQ rfl rfl) (KE rfl (py (Kx rfl ?_)))))))))))))
 refine run_seq ?_
 have cO:=Ext.L4 w9
 refine KN (fun w'=>Ext w9 w') (by kernel_rfl) rfl (KH 0 rfl (KM rfl) cO (KH 2 rfl (KK OR rfl) cO (qT 3 rfl (fun _ h=>KJ U3 rfl rfl (h.KD i6) rfl) cO (KH 4 rfl (PW rfl rfl (by omega)) cO (OJ 1 [.tmp 70] rfl z9j rfl (z2Y (cO.KD fX)) ?_)))))
 rintro _ w10 ⟨rfl,rfl⟩
 refine⟨cO,?_⟩
 rw[show(Wc p g E).n=(Qt p g E).n+1 from rfl]
 refine KH 5 rfl (LQ rfl rfl) cO (KH 6 rfl (ML rfl) cO (qE (Lc.qb (e:=[(0,_),(2,_),(3,_),(6,_),(10,_),(69,_)]) ?_)))
 have gF:=cO.KD i6
 have wI:=cO.KD fX
 refine KQ rfl (fun h9=>?_) (fun h9=>?_)
 ·exact absurd (by omega) h9
 ·refine It (KC (qN rfl (qV (La (news:=hdC (Qt p g E)) z0c rfl OE rfl (KP.cells (n:=8) gF rfl) rfl) (An rfl (An rfl (qV (Nc (parts:=[(0,.tmp 76),(1,.tmp 77),(2,.tmp 78)]) (cs:=[_,_,_,_,_,_,_,_,_,_]) zaM rfl z9P rfl rfl) (KL rfl rfl (Mz rfl (cs:=gwC (Qt p g E) t u x) rfl) ?_)))))));rintro _ w11 ⟨k,rfl,hk,aT,aF⟩;refine KE rfl (KE rfl (py (KG Tryz.func82 rfl ?_)));have Ca:=cO.trans aT;have z02:=dK.size;have z28:=iD.size;have zdd:=cO.size;have lbx:=wI.lt;refine⟨_,rfl,k,x,rfl,aF,Ca.KD fX,by omega,by omega,by omega,R.ext j3 Ca (fun j hj=>?_),(dK.trans C9).trans Ca.kp⟩;rcases hj with hj|hj|hj
  ·exact .inl (.inl (.inl hj))
  ·exact .inl (.inr hj)
  ·exact .inr (by omega)
structure Pu {t:TypeId}{u:Value}{p:LJ}{g:List (List Nat)}{E:List (Nat×Nat)}(R:Src t u (S1 p g E))(k x:Nat)(X:Nat→Prop)(w:World):Prop where
 ok:NK p g E
 KD:KP w k (gwC (Qt p g E) t u x) 133
 ix:KP w x (elC (Wc p g E) 223 (U1 t u (QF p g E) (Wc p g E).size)) 271
 xk:X k
 xx:X x
 inv:R.inv X w
 lt:∀j,X j→j<w.heap.size
 x1:X 1
 x2:X 2
 gam:KP w 1 (Nu .gamma) 298
 una:KP w 2 (Nu .unary) 298
section
variable {t:TypeId}{u:Value}{p:LJ}{g:List (List Nat)}{E:List (Nat×Nat)}{R:Src t u (S1 p g E)}{k x:Nat}{X Y S:Nat→Prop}{w w':World}
theorem Pu.grow (h:Pu R k x X w)(hx:Ext w w')(hY:∀j,Y j→X j∨(w.heap.size≤j∧j<w'.heap.size))(bD:∀j,X j→Y j):Pu R k x Y w':=
 ⟨h.ok,hx.KD h.KD,hx.KD h.ix,bD _ h.xk,bD _ h.xx,R.ext h.inv hx (fun j hj=>(hY j hj).imp id And.left),fun j hj=>by
  rcases hY j hj with e| e
  ·have:=h.lt j e;have:=hx.size;omega
  ·exact e.2,bD _ h.x1,bD _ h.x2,hx.KD h.gam,hx.KD h.una⟩
theorem Pu.ext (h:Pu R k x X w)(hx:Ext w w'):Pu R k x X w':=h.grow hx (fun j hj=> .inl hj) fun j hj=>hj
theorem Pu.less (h:Pu R k x Y w)(bD:∀j,X j→Y j)(hk:X k)(hx:X x)(h1:X 1)(h2:X 2):Pu R k x X w:=
 ⟨h.ok,h.KD,h.ix,hk,hx,R.ext h.inv (Ext.refl w) (fun j hj=> .inl (bD j hj)),fun j hj=>h.lt j (bD j hj),h1,h2,h.gam,h.una⟩
theorem Pu.step (h:Pu R k x X w)(hk:Kp S w w')(hS:∀j,S j→X j∧j≠k∧j≠x∧j≠1∧j≠2)(hY:∀j,Y j→X j∨(w.heap.size≤j∧j<w'.heap.size))(bD:∀j,X j→Y j):Pu R k x Y w':=
 ⟨h.ok,hk.KD h.KD (fun e=>(hS _ e).2.1 rfl),hk.KD h.ix (fun e=>(hS _ e).2.2.1 rfl),bD _ h.xk,bD _ h.xx,R.step h.inv hk (fun j hj=>(hS j hj).1) (fun j hj=>(hY j hj).imp id And.left),fun j hj=>by
  rcases hY j hj with e| e
  ·have:=h.lt j e;have:=hk.size;omega
  ·exact e.2,bD _ h.x1,bD _ h.x2,hk.KD h.gam (fun e=>(hS _ e).2.2.2.1 rfl),hk.KD h.una (fun e=>(hS _ e).2.2.2.2 rfl)⟩
theorem Pu.own (h:Pu R k x X w)(hk:Kp S w w')(hS:∀j,S j→X j∧j≠k∧j≠x∧j≠1∧j≠2):Pu R k x X w':=
 ⟨h.ok,hk.KD h.KD (fun e=>(hS _ e).2.1 rfl),hk.KD h.ix (fun e=>(hS _ e).2.2.1 rfl),h.xk,h.xx,R.own h.inv hk (fun j hj=>(hS j hj).1),fun j hj=>by have:=h.lt j hj;have:=hk.size;omega,h.x1,h.x2,hk.KD h.gam (fun e=>(hS _ e).2.2.2.1 rfl),hk.KD h.una (fun e=>(hS _ e).2.2.2.2 rfl)⟩
theorem Pu.src (h:Pu R k x X w)(hk:Kp (fun j=>¬X j) w w')(hI:R.inv X w'):Pu R k x X w':=
 ⟨h.ok,hk.KD h.KD (fun e=>e h.xk),hk.KD h.ix (fun e=>e h.xx),h.xk,h.xx,hI,fun j hj=>by have:=h.lt j hj;have:=hk.size;omega,h.x1,h.x2,hk.KD h.gam (fun e=>e h.x1),hk.KD h.una (fun e=>e h.x2)⟩
def Pu.R2 (R:Src t u (S1 p g E))(h:NK p g E):Src 223 (U1 t u (QF p g E) (Wc p g E).size) (SA (QG p g E g.length) (Wc p g E)):=
 z7T R (QF p g E) (Wc p g E).size _ (by have:=h.len;omega) (by have:=h.small;omega) h.index
theorem Pu.cells (h:Pu R k x X w):KP w k [I ((Qt p g E).n:Int),I ((Qt p g E).m:Int),I ((Qt p g E).p.L6:Int),I ((Qt p g E).p.chain:Int),I ((Qt p g E).p.interval:Int),I ((Qt p g E).p.zeta:Int),I ((Qt p g E).p.most:Int),I ((Qt p g E).bits:Int),.iface t u,ptr x 0] 133:=h.KD
theorem z5L (h:Pu R k x X w):Le Tryz.prog 27 [ptr k 0] w fun v w'=>v=I (g.length:Int)∧w'=w:=by
 have hB:=h.cells
 refine KA (e:=[(0,_)]) Tryz.func27 rfl Tryz.ntmps27 rfl rfl (qN rfl (KE rfl (py (run_seq (qN rfl (An rfl (qV (LO Z0 rfl rfl) (py (Kx rfl (It (qN rfl (An rfl (qV (KZ rfl) ?_)))))))))))))
 refine qV (KK Rw rfl) (qV (KK OR rfl) (qV (KJ U3 rfl rfl hB rfl) (KE rfl (py (KG Tryz.func27 rfl ?_)))))
 exact⟨_,rfl,rfl,rfl⟩
theorem ZU (h:Pu R k x X w){b v c:Nat}(hv:v<g.length)(hr:Rd w (.slice (some ⟨b,0,none⟩) 1 c) 1 1 [I (v:Int)]):Le Tryz.prog 128 [ptr k 0,.slice (some ⟨b,0,none⟩) 1 c] w fun v w'=>v=I 0∧w'=w:=by
 have hB:=h.cells
 have hn:(Qt p g E).n=g.length:=rfl
 refine KA (e:=[(0,_),(1,_)]) Tryz.func128 rfl Tryz.ntmps128 rfl rfl (qN rfl (KE rfl (py (run_seq (qN rfl (An rfl (qV (LO Z0 rfl rfl) (py (Kx rfl (It (run_seq (qN rfl (An rfl ?_)))))))))))))
 refine qV (LG Mu rfl) (An rfl (py (KB (MQ (α:=Nat) (0) (fun i=>[(0,ptr k 0),(9,.slice (some ⟨b,0,none⟩) 1 c),(10,I 1),(11,I (i:Int))]) (fun i w'=>w'=w∧i≤1) (fun i=>1-i) ?hI ?hround))))
 case hI=>exact⟨rfl,Nat.zero_le _⟩
 case hround=>
  rintro i w2 ⟨rfl,hi⟩ ih
  try dsimp only
  refine qN rfl (qV (LW rfl rfl) (py (run_seq (KQ rfl (fun h0=>?_) (fun h0=>?_)))))
  ·have ju:i=0:=by omega
   subst ju;refine It (run_seq (KB (qN rfl (qV (Lt Mu LC rfl rfl (by omega)) (qV (Lb U3 rfl rfl (LN hr rfl)) (KE rfl (qM rfl (An rfl (qV (LW rfl rfl) (Lq (An rfl (An rfl (An rfl ?_)))))))))))));refine qV (KZ rfl) (qV (KK Rw rfl) (qV (KK OR rfl) (qV (KJ U3 rfl rfl hB rfl) (qV (OL rfl rfl) (Lq (qV (Lk rfl rfl) (py (Kx rfl (It (KC (KF rfl (Lz rfl rfl (An rfl ?_)))))))))))));refine py ?_;exact(ih 1 _ ⟨rfl,by omega⟩ (by omega)).qb
  ·refine KO rfl (qN rfl (KE rfl (py (KG Tryz.func128 rfl ?_))));exact⟨_,rfl,rfl,rfl⟩
theorem z2e {p:LJ}{g:List (List Nat)}{E:List (Nat×Nat)}{v a n:Nat}{s:Bytes}(hs:((L7 (LY p g E g.length)).drop (a / 8)).take n=s)(ha:(LY p g E v).length=a)(hv:v<g.length)(hn:a+(S2 p g E v).length≤8*(a / 8+n)):∃rest,(L0 s).drop (a%8)=S2 p g E v++rest:=by
 have iE:∃r,LY p g E g.length=LY p g E (v+1)++r:=by
  have key:∀d i,∃r,LY p g E (i+d)=LY p g E i++r:=fun d i=>by
   induction d with
   |zero=>exact⟨[],by simp⟩
   | succ d ih =>
     obtain⟨r,hr⟩:=ih;exact⟨r++S2 p g E (i+d),by rw[←Nat.add_assoc,NM,hr,List.append_assoc]⟩
  obtain⟨r,hr⟩:=key (g.length-(v+1)) (v+1);rw[show v+1+(g.length-(v+1))=g.length by omega] at hr;exact⟨r,hr⟩
 obtain⟨r,hr⟩:=iE
 obtain⟨z,hz,-,-⟩:=N4 (LY p g E g.length)
 rw[←hs,P6,Ou,hz,hr,NM,List.drop_take,List.drop_drop,show 8*(a / 8)+a%8=a by omega,List.append_assoc,List.append_assoc,List.drop_left' ha,List.take_append,List.take_of_length_le (by omega)]
 exact⟨_,rfl⟩
theorem ZB (h:Pu R k x X w){v:Nat}(hv:v<g.length):Le Tryz.prog 166 [ptr k 0,I (v:Int)] w fun r w'=>∃(b a e:Nat) (s:Bytes) (rest:List Bool),r= .tuple #[ptr b 0,I (e:Int),I 0]∧Oz w' b s a∧(L0 s).drop a=S2 p g E v++rest∧a+(S2 p g E v).length=e∧w.heap.size≤b∧Pu R k x (fun j=>X j∨j=b) w'∧Kp (fun j=>¬X j) w w':=by
 have hn:=h.ok.gr.n
 have tj:=h.ok.pk.bits
 have hB:=h.cells
 have Cb:=UH p g E (n:=g.length) (i:=v) (by omega)
 have wJ:=UH p g E (n:=g.length) (i:=v+1) (by omega)
 have nU:=Rz p g E (g.length-(v+1)) (v+1)
 rw[show v+1+(g.length-(v+1))=g.length by omega] at nU
 have e8:=NM p g E v
 have mJ:=congrArg List.length e8
 rw[List.length_append] at mJ
 refine KA (e:=[(0,_),(1,_)]) Tryz.func166 rfl Tryz.ntmps166 rfl rfl (qN rfl (KE rfl (KE rfl (KE rfl (qM rfl (An rfl (qV (KZ rfl) (qV (KK z1o rfl) (qV (KJ Sz rfl rfl hB rfl) (An rfl (L2 [.tmp 17,.tmp 18] z7V rfl (Wo h.ok.ef (Pu.R2 R h.ok) h.inv h.lt h.xx h.ix Cb) ?_)))))))))))
 rintro _ w1 ⟨rfl,kY,aN⟩
 have h1:=h.src aN kY
 have ai:=h1.cells
 refine An rfl (qV (Ll rfl rfl) (qV (Ll rfl rfl) (KE rfl (KE rfl (py (run_seq (qN rfl (An rfl (qV (LQ rfl rfl) (py (Kx rfl (It (qN rfl ?_)))))))))))))
 refine An rfl (qV (KZ rfl) (qV (KK z1o rfl) (qV (KJ Sz rfl rfl ai rfl) (An rfl (Lz rfl rfl ?_)))))
 rw[show(v:Int)+1=((v+1:Nat):Int) by omega]
 refine L2 [.tmp 29,.tmp 31] z7V rfl (Wo h1.ok.ef (Pu.R2 R h1.ok) h1.inv h1.lt h1.xx h1.ix wJ) ?_
 rintro _ w2 ⟨rfl,cG,am⟩
 have h2:=h1.src am cG
 have ak:=h2.cells
 have dK:=aN.trans am
 obtain⟨al,yO⟩:∃n,(LY p g E v).length=n:=⟨_,rfl⟩
 obtain⟨bl,g8⟩:∃n,(LY p g E (v+1)).length=n:=⟨_,rfl⟩
 rw[yO,g8]
 have EW:(Qt p g E).bits=(LY p g E g.length).length:=rfl
 refine An rfl (qV (Ll rfl rfl) (qV (Ll rfl rfl) (KE rfl (KE rfl (py (Lc.qb (e:=[(0,_),(4,_),(5,_),(6,_),(7,_),(8,_),(9,_)]) ?_))))))
 refine run_seq (KB (qN rfl (An rfl (qV (LQ rfl rfl) (KE rfl (py (Kx rfl (qN rfl (An rfl (An rfl (qV (LH rfl rfl) (Lq (An rfl ?_)))))))))))))
 refine An rfl (An rfl (qV (KZ rfl) (qV (KK Rw rfl) (qV (KK PA rfl) (qV (KJ U3 rfl rfl ak rfl) (qV ((by first|exact Lw rfl U3 M3 (by omega)|exact MI rfl U3 M3)) ?_))))))
 refine qV (LH rfl rfl) (Lq (qV (Lk rfl rfl) (KE rfl (py (Kx rfl (It (KC (qN rfl (An rfl (qV (zbq rfl rfl rfl (by simp only[IntKind.bits];omega) (by omega)) ?_))))))))))
 refine qV (Ln rfl M3 U3 (by omega)) (KE rfl (py (Lc.qb (e:=[(0,_),(4,_),(5,_),(6,_),(7,_),(8,_),(9,_),(10,_)]) ?_)))
 refine qN rfl (An rfl (qV (KZ rfl) (qV (KK z6v rfl) (qV (KJ YY rfl rfl ak rfl) (An rfl (Lz rfl rfl (An rfl (qV (OD rfl rfl) (qV (Ln rfl M3 U3 (by omega)) (qV (Ra rfl rfl (by omega)) (An rfl (qV (M8 rfl rfl (by omega)) ?_))))))))))))
 have vx:28+al / 8+((bl+7) / 8-al / 8)≤(S1 p g E).length:=by have:=h.ok.len;unfold QF at this;omega
 rw[show 28+((al / 8:Nat):Int)=((28+al / 8:Nat):Int) by omega]
 rw[show((((bl+7)%18446744073709551616:Nat):Int)) / 8-((al / 8:Nat):Int)=(((bl+7) / 8-al / 8:Nat):Int) by omega]
 refine Mb rfl rfl (yci (args:=[.tmp 62,.tmp 68]) R.cr R.mr rfl rfl) (R.rd (28+al / 8) ((bl+7) / 8-al / 8) h2.inv h2.lt vx) ?_
 rintro _ w3 ⟨rfl,BQ,ax⟩
 have h3:=h2.src ax BQ
 rw[z6s h.ok (al / 8) ((bl+7) / 8-al / 8) (by omega)]
 obtain⟨s,hs⟩:∃s,((L7 (LY p g E g.length)).drop (al / 8)).take ((bl+7) / 8-al / 8)=s:=⟨_,rfl⟩
 rw[hs]
 refine An rfl (qV (Ll rfl rfl) (qV (Ll rfl rfl) (KE rfl (KE rfl (py (Lc.qb (e:=[(4,_),(5,_),(6,_),(7,_),(8,_),(9,_),(10,_),(11,_)]) ?_))))))
 refine run_seq (qN rfl (An rfl (qV (LQ rfl rfl) ?_)))
 have gl:s.length=(bl+7) / 8-al / 8:=by
  rw[←hs,List.length_take,List.length_drop,Lh];omega
 obtain⟨rest,mN⟩:∃rest,(L0 s).drop (al%8)=S2 p g E v++rest:=z2e hs yO hv (by omega)
 refine py (Kx rfl (It (qN rfl (An rfl (L2 [.tmp 75] z19 rfl (Re s (by omega) w3) ?_)))))
 rintro _ w4 ⟨b,rfl,g7,aB,hb⟩
 have lb:=g7.1.lt
 have h4:Pu R k x (fun j=>X j∨j=b) w4:=h3.grow aB (fun j hj=>hj.imp id fun e=>by omega) (fun j hj=> .inl hj)
 have eX:¬X b:=fun e=>by have:=h3.lt b e;omega
 refine KE rfl (qM rfl (An rfl (An rfl (qV (Ln rfl M3 U3 (by omega)) (An rfl (qV (SD rfl rfl (by omega)) (qV (M8 rfl rfl (by omega)) ?_)))))))
 rw[show(al:Int)-8*((al / 8:Nat):Int)=((al%8:Nat):Int) by omega]
 refine L2 [.tmp 77,.tmp 82] z4c rfl (TG g7 (al%8) (by omega)) ?_
 rintro _ w5 ⟨rfl,qy,aj⟩
 have h5:=h4.own aj (fun j e=>by
  subst e
  exact⟨.inr rfl,fun e=>eX (e▸h.xk),fun e=>eX (e▸h.xx),fun e=>eX (e▸h.x1),fun e=>eX (e▸h.x2)⟩)
 refine qM rfl (An rfl (An rfl (qV (Ln rfl M3 U3 (by omega)) (An rfl (qV (SD rfl rfl (by omega)) (qV (M8 rfl rfl (by omega)) ?_))))))
 rw[show(bl:Int)-8*((al / 8:Nat):Int)=((bl-8*(al / 8):Nat):Int) by omega]
 refine KE rfl (KE rfl (KE rfl (py (Lc.qb (e:=[(4,_),(5,_),(6,_)]) ?_))))
 refine KG Tryz.func166 rfl ?_
 have z03:=(dK.trans ax).size
 exact⟨_,rfl,b,al%8,bl-8*(al / 8),s,rest,rfl,qy,mN,by omega,by omega,h5,((dK.trans ax).trans aB.kp).Kz aj (fun j e=> .inl (by omega))⟩
end
def KW (g:List (List Nat))(v:Nat):List Nat:=(g[v]?).getD []
def Ld (g:List (List Nat))(E:List (Nat×Nat))(v:Nat):Nat:=if KW g v=[] then 0 else((E[v]?).getD (0,0)).1
def Ov (p:LJ)(g:List (List Nat))(E:List (Nat×Nat))(v:Nat):List (Cd×Nat):=if KW g v=[] then [] else Pn p.list v (KW g v) (M0 g v (Ld g E v)) (Ld g E v)
theorem z2H (p:LJ)(g:List (List Nat))(E:List (Nat×Nat))(v:Nat):S2 p g E v=L3 (LX p.list (KW g v).length (Ld g E v))++L3 (Ov p g E v):=by
 unfold S2 Ov Ld
 rw[←Nj]
 by_cases h:KW g v=[]
 ·have h':(g[v]?).getD []=[]:=h;rw[if_pos h,if_pos h,h',h]
  rfl
 ·rw[if_neg h,if_neg h];have:=Vt p.list v (ref:=M0 g v ((E[v]?).getD (0,0)).1) ((E[v]?).getD (0,0)).1 h;rw[←this];rfl
section
variable {t:TypeId}{u:Value}{p:LJ}{g:List (List Nat)}{E:List (Nat×Nat)}{R:Src t u (S1 p g E)}{k x:Nat}{X Y S:Nat→Prop}{w w':World}
theorem NK.ent (h:NK p g E){v:Nat}(hv:v<g.length):Ue p g E v (KW g v).length ((E[v]?).getD (0,0)):=by
 have hl:=h.pk.el
 obtain⟨e,he⟩:∃e,E[v]? =some e:=⟨_,List.getElem?_eq_getElem (by omega)⟩
 have:=h.pk.ok.ent v e he
 rw[he];exact this
theorem NK.Xg (h:NK p g E){v:Nat}(hv:v<g.length):Ld g E v≤p.L6∧Ld g E v≤v:=by
 unfold Ld
 split
 ·omega
 ·rcases h.ent hv with e| e
  ·rw[e];exact⟨Nat.zero_le _,Nat.zero_le _⟩
  ·exact⟨e.2.1,e.2.2.1⟩
theorem NK.suc (h:NK p g E){v:Nat}(hv:v<g.length):Lj (KW g v)∧(KW g v).length≤g.length∧∀y∈KW g v,y<g.length:=by
 have hm:KW g v∈g:=by
  unfold KW;rw[List.getElem?_eq_getElem hv];exact List.getElem_mem hv
 exact⟨h.gr.ok _ hm,h.gr.len hm,h.gr.lt _ hm⟩
theorem z0b (h:Pu R k x X w){v:Nat}(hv:v<g.length):Le Tryz.prog 130 [ptr k 0,I (v:Int)] w fun r w'=>∃(b a:Nat) (s:Bytes) (rest:List Bool),r= .tuple #[.agg #[I ((KW g v).length:Int),I (Ld g E v:Int)],ptr b 0,I ((a+(L3 (Ov p g E v)).length:Nat):Int),I 0]∧Oz w' b s a∧(L0 s).drop a=L3 (Ov p g E v)++rest∧w.heap.size≤b∧Pu R k x (fun j=>X j∨j=b) w'∧Kp (fun j=>¬X j) w w':=by
 have hn:=h.ok.gr.n
 obtain⟨dz,dB,nO⟩:=h.ok.suc hv
 have fU:=h.ok.Xg hv
 have oP:=z2H p g E v
 have oX:(KW g v).length=0→Ld g E v=0:=fun e=>by unfold Ld;rw[if_pos (List.eq_nil_of_length_eq_zero e)]
 refine KA (e:=[(0,_),(1,_)]) Tryz.func130 rfl Tryz.ntmps130 rfl rfl (qN rfl (KL rfl rfl (MN (cs:=[_,_]) N5 rfl) ?_))
 rintro _ w1 ⟨b4,rfl,gA,ad,aI⟩
 have l4:=aI.lt
 have h1:Pu R k x (fun j=>X j∨j=b4) w1:=h.grow ad (fun j hj=>hj.imp id fun e=>by omega) (fun j hj=> .inl hj)
 have aB:∀j,X j→j≠b4:=fun j hj e=>by have:=h.lt j hj;omega
 refine KE rfl (KE rfl (KE rfl (qM rfl (An rfl (An rfl (L2 [.tmp 13,.tmp 14] zaO rfl (ZB h1 hv) ?_))))))
 rintro _ w2 ⟨b,a,e,s,rest,rfl,df,hd,he,hb,h2,am⟩
 have bq:=am.KD aI (fun e=>e (.inr rfl))
 have HN:=h2.cells
 have lb:=df.1.lt
 have eX:∀j,X j→j≠b:=fun j hj e=>by have:=h.lt j hj;have:=ad.size;omega
 have lO:∀j,j=b→(X j∨j=b4)∨j=b:=fun j e=> .inr e
 refine An rfl (qV (Ll (v:=ptr b 0) rfl rfl) (qV (Ll (v:=I (e:Int)) rfl rfl) (qV (Ll (v:=I 0) rfl rfl) (KE rfl (KE rfl (KE rfl (py (run_seq (qN rfl (An rfl (qV (LQ rfl rfl) (py (Kx rfl ?_)))))))))))))
 refine It (qN rfl (An rfl (An rfl (qV (KZ rfl) (qV (KK Rw rfl) (qV (KK Sj rfl) (qV (La (news:=PO p) Vq rfl ME rfl (KP.cells (i:=2) (n:=5) HN rfl) rfl) (L2 [.tmp 29] VF rfl (NJ p w2) ?_))))))))
 rintro _ w3 ⟨rfl,ah⟩
 have h3:=h2.ext ah
 have nW:Oz w3 b s a:=⟨ah.KD df.1,df.2⟩
 rw[oP,List.append_assoc] at hd
 refine L2 [.tmp 24,.tmp 30] z7o rfl (WU nW p.list h.ok.LS.1 h3.gam h3.una (fun e=>eX 1 h.x1 e) (fun e=>eX 2 h.x2 e) (KW g v).length (Ld g E v) (by omega) fU.1 oX _ hd) ?_
 rintro _ w4 ⟨rfl,g7,av⟩
 have EE:=N7 hd
 have h4:=h3.own av (fun j e=>⟨.inr e,fun e'=>eX k h.xk (e'▸e),fun e'=>eX x h.xx (e'▸e),fun e'=>eX 1 h.x1 (e'▸e),fun e'=>eX 2 h.x2 (e'▸e)⟩)
 have cg:=av.KD (ah.KD bq) (fun e=>by omega)
 have gl:=congrArg List.length oP
 rw[List.length_append] at gl
 refine An rfl (qV (Ll (v:= .agg #[I ((KW g v).length:Int),I (Ld g E v:Int)]) rfl rfl) (qV (Ll (v:=I 0) rfl rfl) (KL rfl rfl (MN (cs:=[_,_]) N5 rfl) ?_)))
 rintro _ w5 ⟨b11,rfl,iu,aR,aF⟩
 refine KR rfl (Lo (news:=[I ((KW g v).length:Int),I (Ld g E v:Int)]) N5 rfl rfl rfl rfl aF (by simp)) ?_
 rintro w6 ⟨mO,aS⟩
 replace mO:KP w6 b11 [I ((KW g v).length:Int),I (Ld g E v:Int)] 239:=mO
 have cB:Ext w4 w6:=aR.Kz aS (fun j e=>by omega)
 have h6:=h4.ext cB
 have kg:Oz w6 b s (a+(L3 (LX p.list (KW g v).length (Ld g E v))).length):=⟨cB.KD g7.1,g7.2⟩
 refine KE rfl (py (Lc.qb (e:=[(4,_),(5,_),(6,_),(7,_),(8,_),(9,_),(10,_),(11,_)]) ?_))
 refine run_seq (qN rfl (An rfl (qV (LQ rfl rfl) (Lq (An rfl (An rfl (L2 [.tmp 37] SZ rfl (OS kg) ?_)))))))
 rintro _ w6 ⟨rfl,rfl⟩
 refine An rfl (qV (LH rfl rfl) (Lq (qV (Lk rfl rfl) (py (Kx rfl (It (qN rfl (qV (La (news:=[I ((KW g v).length:Int),I (Ld g E v:Int)]) Y1 rfl N5 rfl (KP.cells (n:=2) mO rfl) rfl) (An rfl (An rfl ?_))))))))))
 have bI:=cB.KD cg
 refine KR rfl (Lo (news:=[I ((KW g v).length:Int),I (Ld g E v:Int)]) N5 rfl rfl rfl rfl bI (by simp)) ?_
 rintro w7 ⟨bc,aA⟩
 replace bc:KP w7 b4 [I ((KW g v).length:Int),I (Ld g E v:Int)] 239:=bc
 have h7:=(h6.own aA (fun j e=>⟨.inl (.inr e),fun e'=>aB k h.xk (e'▸e),fun e'=>aB x h.xx (e'▸e),fun e'=>aB 1 h.x1 (e'▸e),fun e'=>aB 2 h.x2 (e'▸e)⟩)).less (X:=fun j=>X j∨j=b) (fun j hj=>hj.imp .inl id) (.inl h.xk) (.inl h.xx) (.inl h.x1) (.inl h.x2)
 have HO:Oz w7 b s (a+(L3 (LX p.list (KW g v).length (Ld g E v))).length):=⟨aA.KD kg.1 (by omega),kg.2⟩
 refine KE rfl (KE rfl (KE rfl (py (L8 Tryz.func130 (.cell Y1 rfl N5 rfl (KP.cells (n:=2) bc (news:=[_,_]) rfl) rfl (.tmp rfl (.tmp rfl (.tmp rfl .nil)))) (⟨_,rfl,b,a+(L3 (LX p.list (KW g v).length (Ld g E v))).length,s,rest,?_,HO,EE,by have:=ad.size;omega,h7,?_⟩)))))
 ·rw[show a+(L3 (LX p.list (KW g v).length (Ld g E v))).length+(L3 (Ov p g E v)).length=e by omega]
  rfl
 ·have nL:Kp (fun j=>¬X j) w w4:=((ad.kp.trans (am.KT fun j e e'=>e (.inl e'))).trans ah.kp).Kz av (fun j e=> .inl (by have:=ad.size;omega));exact(nL.trans cB.kp).Kz aA (fun j e=> .inl (by omega))
end
section
variable {t:TypeId}{u:Value}{p:LJ}{g:List (List Nat)}{E:List (Nat×Nat)}{R:Src t u (S1 p g E)}{k x gb pb fb:Nat}{X Y S:Nat→Prop}{w w':World}
abbrev Yg (w:World)(vv:Value)(l:List Nat):Prop:=Sl w vv 46 1 l.length (l.map Lg)
def Oy (E:List (Nat×Nat))(v:Nat):Nat:=((E[v]?).getD (0,0)).2
structure TdM (R:Src t u (S1 p g E))(k x gb pb fb:Nat)(X:Nat→Prop)(w:World):Prop where
 gw:Pu R k x X w
 bg:KP w gb [ptr k 0] 28
 bp:KP w pb [I (p.L6:Int),I (p.chain:Int),I (p.interval:Int),I (p.zeta:Int),I (p.most:Int)] 77
 bf:KP w fb [.func (.func 129) #[] #[ptr gb 0,ptr pb 0,ptr fb 0]] 237
 xg:X gb
 xp:X pb
 xf:X fb
theorem TdM.step (h:TdM R k x gb pb fb X w)(hk:Kp S w w')(hS:∀j,S j→X j→False)(h2:Pu R k x Y w')(bD:∀j,X j→Y j):TdM R k x gb pb fb Y w':=
 ⟨h2,hk.KD h.bg (fun e=>hS _ e h.xg),hk.KD h.bp (fun e=>hS _ e h.xp),hk.KD h.bf (fun e=>hS _ e h.xf),bD _ h.xg,bD _ h.xp,bD _ h.xf⟩
def R7 (R:Src t u (S1 p g E))(k x gb pb fb v behind:Nat)(X:Nat→Prop)(w:World):Prop:=
 Le Tryz.prog 129 [I (v:Int),I (behind:Int),ptr gb 0,ptr pb 0,ptr fb 0] w fun r w'=>∃vv,r= .tuple #[vv,I 0]∧Yg w' vv (KW g v)∧(∀b,vv.ownBlock=some b→w.heap.size≤b)∧Pu R k x (fun j=>X j∨vv.ownBlock=some j) w'∧Kp (fun j=>¬X j) w w'
theorem NK.back (h:NK p g E){v:Nat}(hv:v<g.length)(hq:0<Ld g E v):Ld g E v≤v∧Oy E v=Oy E (v-Ld g E v)+1∧M0 g v (Ld g E v)=KW g (v-Ld g E v)∧0<(KW g (v-Ld g E v)).length∧(KW g (v-Ld g E v)).length≤p.most∧(KW g v).length≤p.most∧KW g v≠[]∧Oy E v≤p.chain:=by
 have bE:KW g v≠[]:=fun e=>by unfold Ld at hq;rw[if_pos e] at hq;omega
 have hb:Ld g E v=((E[v]?).getD (0,0)).1:=by unfold Ld;rw[if_neg bE]
 rcases h.ent hv with e|⟨h1,h2,h3,l,e',h4,h5,h6,h7⟩
 ·rw[hb,e] at hq;cases hq
 ·rw[←hb] at h1 h2 h3 h4 h5;have HP:=of_decide_eq_true h7;have hs:KW g (v-Ld g E v)=l:=by unfold KW;rw[h4];rfl
  refine⟨h3,?_,?_,by rw[hs];omega,by rw[hs];omega,by omega,bE,?_⟩
  ·unfold Oy;rw[h5];exact h6
  ·unfold M0;rw[if_neg (by omega)];rfl
  ·show((E[v]?).getD (0,0)).2≤_;omega
theorem z39 (aw:NK p g E)(iB:g.length<50){v:Nat}(hv:v<g.length){b a:Nat}{s:Bytes}{rest:List Bool}(hR:Oz w b s a)(hd:(L0 s).drop a=L3 (Ov p g E v)++rest)(hG:KP w 1 (Nu .gamma) 298)(hU:KP w 2 (Nu .unary) 298)(h1:¬1=b)(h2:¬2=b)
  {vb:Value} (fd:Ld g E v=0→vb= .slice none 0 0) (hS:0<Ld g E v→Yg w vb (KW g (v-Ld g E v))) (yA:∀j,vb.ownBlock=some j→j≠b):
  Le Tryz.prog 131 [ptr b 0,I (v:Int),I (g.length:Int),.agg #[I ((KW g v).length:Int),I (Ld g E v:Int)],vb,lpV p.list] w fun r w'=>∃vv,r= .tuple #[vv,I 0]∧Yg w' vv (KW g v)∧(∀j,vv.ownBlock=some j→w.heap.size≤j)∧Oz w' b s (a+(L3 (Ov p g E v)).length)∧Kp (fun j=>j=b) w w':=by
 obtain⟨dz,dB,nO⟩:=aw.suc hv
 have fU:=aw.Xg hv
 by_cases bE:KW g v=[]
 ·have oX:Ld g E v=0:=by unfold Ld;rw[if_pos bE]
  have Cc:Ov p g E v=[]:=by unfold Ov;rw[if_pos bE]
  rw[oX,fd oX,Cc,bE];refine(XB p.list aw.LS.1 v (by omega) g.length (by omega)).mono fun r w' hr=>?_;obtain⟨rfl,hx⟩:=hr;exact⟨_,rfl,Sl.nil _ _ _,fun j e=>(by cases e),⟨hx.KD hR.1,hR.2⟩,hx.kp⟩
 ·have Cc:Ov p g E v=Pn p.list v (KW g v) (M0 g v (Ld g E v)) (Ld g E v):=by unfold Ov;rw[if_neg bE]
  have j4:Lj (M0 g v (Ld g E v))∧(M0 g v (Ld g E v)).length≤60:=by
   have hn:=aw.gr.n;rcases RA g v (Ld g E v) with e| e
   ·rw[e];exact⟨⟨List.Pairwise.nil,fun y hy=>(by cases hy)⟩,by simp⟩
   ·exact⟨aw.gr.ok _ e,by have:=aw.gr.len e;omega⟩
  have G0:=Tu aw.LS.1 (x:=v) (by omega) dz j4.1 fU.1 (by omega) j4.2;rw[Cc] at hd⊢;rcases Nat.eq_zero_or_pos (Ld g E v) with h0|h0
  ·have ky:M0 g v (Ld g E v)=[]:=by unfold M0;rw[if_pos h0]
   rw[fd h0];have:=U7 hR p.list aw.LS.1 v (by omega) g.length (by omega) (ra:=none) (rc:=0) (KW g v) (M0 g v (Ld g E v)) dz bE (by omega) nO j4.1 (Ld g E v) fU.1 (fun _=>ky) hG hU h1 h2 (fun w2 am=>by rw[ky];exact(Sl.nil _ 46 1).rd) (by rw[ky];exact Nat.le_refl _) (by omega) rest hd;rw[ky] at this⊢;exact this
  ·obtain⟨q1,q2,q3,q4,q5,q6,q7,q8⟩:=aw.back hv h0;have Ce:=hS h0;rw[←q3] at Ce
   obtain⟨ga,gc,rfl,jd⟩:∃a c,vb= .slice a (M0 g v (Ld g E v)).length c∧(M0 g v (Ld g E v)).length≤c:=by
    rcases Ce.shape with⟨-,e⟩|⟨b,c,e,hc⟩
    ·rw[q3] at e;omega
    ·exact⟨_,c,e,hc⟩
   exact U7 hR p.list aw.LS.1 v (by omega) g.length (by omega) (ra:=ga) (rc:=gc) (KW g v) (M0 g v (Ld g E v)) dz bE (by omega) nO j4.1 (Ld g E v) fU.1 (fun e=>by omega) hG hU h1 h2 (fun w2 am=>(Ce.kp am fun j e=>yA j e).rd) jd (by omega) rest hd
end
section
variable {t:TypeId}{u:Value}{p:LJ}{g:List (List Nat)}{E:List (Nat×Nat)}{R:Src t u (S1 p g E)}{k x gb pb fb:Nat}{X Y S:Nat→Prop}{w w':World}
theorem Ud (iB:g.length<50){v behind:Nat}(hv:v<g.length)(yR:behind+Oy E v≤p.chain)(ht:TdM R k x gb pb fb X w)
  (ih:0<Ld g E v→∀(X':Nat→Prop) (w':World),TdM R k x gb pb fb X' w'→R7 R k x gb pb fb (v-Ld g E v) (behind+1) X' w'):R7 R k x gb pb fb v behind X w:=by
 have aw:=ht.gw.ok
 have hn:=aw.gr.n
 have K3:p.chain≤1000000:=by have:=aw.LS.2.1;omega
 obtain⟨dz,dB,nO⟩:=aw.suc hv
 have fU:=aw.Xg hv
 have vB:=ht.bg
 unfold R7
 refine KA (e:=[(0,_),(1,_),(2,_),(3,_),(4,_)]) Tryz.func129 rfl Tryz.ntmps129 rfl rfl (qN rfl (KE rfl (KE rfl (qM rfl (qV (KJ Z0 rfl rfl vB rfl) (An rfl (L2 [.tmp 16,.tmp 17] zaA rfl (z0b ht.gw hv) ?_)))))))
 rintro _ w1 ⟨b,a,s,rest,rfl,lH,nR,bT,h1,aN⟩
 have lb1:=lH.1.lt
 have ld:∀j,X j→j≠b:=fun j hj e=>by have:=ht.gw.lt j hj;omega
 refine An rfl (qV (Ll (v:= .agg #[I ((KW g v).length:Int),I (Ld g E v:Int)]) rfl rfl) (qV (Ll (v:=ptr b 0) rfl rfl) (qV (Ll (v:=I ((a+(L3 (Ov p g E v)).length:Nat):Int)) rfl rfl) (qV (Ll (v:=I 0) rfl rfl) (KL rfl rfl (MN (cs:=[_,_]) N5 rfl) ?_)))))
 rintro _ w2 ⟨b9,rfl,nK,af,cy⟩
 refine KR rfl (Lo (news:=[I ((KW g v).length:Int),I (Ld g E v:Int)]) N5 rfl rfl rfl rfl cy (by simp)) ?_
 rintro w3 ⟨bZ,ax⟩
 replace bZ:KP w3 b9 [I ((KW g v).length:Int),I (Ld g E v:Int)] 239:=bZ
 have aX:Ext w1 w3:=af.Kz ax (fun j e=>by omega)
 have l93:=bZ.lt
 have z13:=aX.size
 have h3:Pu R k x (fun j=>(X j∨j=b)∨j=b9) w3:=h1.grow aX (fun j hj=>hj.imp id fun e=>by omega) (fun j hj=> .inl hj)
 have cm:Kp (fun j=>¬X j) w w3:=aN.trans aX.kp
 have oH:TdM R k x gb pb fb (fun j=>(X j∨j=b)∨j=b9) w3:=ht.step cm (fun j e e'=>e e') h3 (fun j hj=> .inl (.inl hj))
 have nW:Oz w3 b s a:=⟨aX.KD lH.1,lH.2⟩
 refine KE rfl (KE rfl (KE rfl (py (run_seq (qN rfl (An rfl (qV (LQ rfl rfl) (py (Kx rfl (It (qN rfl (KE rfl (py ?_)))))))))))))
 refine run_seq (qN rfl (qV (KK Np rfl) (qV (KJ U3 rfl rfl bZ rfl) (qV (LH rfl rfl) (py (Lc.qb (e:=[(0,_),(1,_),(2,_),(3,_),(4,_),(7,_),(8,_),(9,_),(10,_),(11,_),(12,_),(13,_),(28,_)]) ?_))))))
 refine Lp (fun e' w'=>∃vb,e'=[(0,I (v:Int)),(2,ptr gb 0),(3,ptr pb 0),(9,ptr b9 0),(10,ptr b 0),(11,I ((a+(L3 (Ov p g E v)).length:Nat):Int)),(13,vb)]∧Pu R k x (fun j=>(X j∨j=b)∨j=b9) w'∧Kp (fun j=>¬((X j∨j=b)∨j=b9)) w3 w'∧(Ld g E v=0→vb= .slice none 0 0)∧(0<Ld g E v→Yg w' vb (KW g (v-Ld g E v)))∧(∀j,vb.ownBlock=some j→j≠b)) ?cD (fun cD=>?cQ)
 case cD=>
  rintro e' w4 ⟨vb,rfl,h4,av,t8,eT,Cf⟩;have uF:TdM R k x gb pb fb (fun j=>(X j∨j=b)∨j=b9) w4:=oH.step av (fun j e e'=>e e') h4 (fun j hj=>hj);have jG:=av.KD bZ (fun e=>e (.inr rfl));have g7:Oz w4 b s a:=⟨av.KD nW.1 (fun e=>e (.inl (.inr rfl))),nW.2⟩;have wK:=uF.bg;have iI:=uF.bp;have wL:=uF.gw.cells;have ae:=Ext.L4 w4;refine run_seq ?_;have ngb:gb≠b:=ld gb ht.xg;have nk:k≠b:=ld k ht.gw.xk;have npb:pb≠b:=ld pb ht.xp;have n9:b9≠b:=by omega
  refine KN (fun w'=>Kp (fun j=>j=b) w4 w') (by kernel_rfl) rfl (KH 0 rfl (KM rfl) (ae.kp) (KH 1 rfl (KM rfl) (ae.kp) (qT 2 rfl (fun _ h=>(by first|exact KJ Z0 rfl rfl (h.KD wK ngb) rfl|exact KJ Z0 rfl rfl (h.KD wL nk) rfl)) (ae.kp) ?_)));refine KH 3 rfl (KZ rfl) (ae.kp) (KH 4 rfl (KK Rw rfl) (ae.kp) (KH 5 rfl (KK OR rfl) (ae.kp) (qT 6 rfl (fun _ h=>(by first|exact KJ U3 rfl rfl (h.KD wK ngb) rfl|exact KJ U3 rfl rfl (h.KD wL nk) rfl)) (ae.kp) ?_)));refine KH 8 rfl (KM rfl) (ae.kp) (qT 7 rfl (fun _ hS=>La (news:=[I ((KW g v).length:Int),I (Ld g E v:Int)]) Y1 rfl N5 rfl (KP.cells (n:=2) (hS.KD jG n9) rfl) rfl) (ae.kp) (qT 9 rfl (fun _ h=>La (news:=PO p) Vq rfl ME rfl (KP.cells (n:=5) (h.KD iI npb) rfl) rfl) (ae.kp) (OJ 10 [.tmp 80] rfl VF rfl (NJ p w4.drew) ?_)));rintro _ w5 ⟨rfl,aR⟩;refine⟨(ae.trans aR).kp,?_⟩;have cX:=ae.trans aR;have h5:=h4.ext cX;have qy:Oz w5 b s a:=⟨cX.KD g7.1,g7.2⟩;have Cg:¬1=b:=fun e=>ld 1 ht.gw.x1 e;have Ch:¬2=b:=fun e=>ld 2 ht.gw.x2 e;refine OJ 11 [.tmp 71,.tmp 72,.tmp 77,.tmp 78,.tmp 79,.tmp 81] rfl zb5 rfl (z39 aw iB hv qy nR h5.gam h5.una Cg Ch t8 (fun e=>(eT e).ext cX) Cf) ?_;rintro _ w6 ⟨vv,rfl,iC,m5,kg,aS⟩;refine⟨cX.kp.trans aS,?_⟩;refine KH 12 rfl (KM rfl) (cX.kp.trans aS) (KH 13 rfl (Ll (v:=vv) rfl rfl) (cX.kp.trans aS) (KH 15 rfl (ML rfl) (cX.kp.trans aS) (KH 14 rfl (Ll (v:=I 0) rfl rfl) (cX.kp.trans aS) (KH 16 rfl (ML rfl) (cX.kp.trans aS) (qE (run_seq (qN rfl (An rfl (qV (LQ rfl rfl) (An rfl (An rfl (L2 [.tmp 88] SZ rfl (OS kg) ?_))))))))))));rintro _ w6 ⟨rfl,rfl⟩;refine An rfl (qV (LQ rfl rfl) (Lq (qV (Lk rfl rfl) (py (Lc.qb (e:=[(14,_),(92,_)]) ?_)))));refine Kx rfl (It (qN rfl (An rfl (KE rfl (KE rfl (py (KG Tryz.func129 rfl ?_)))))));have z34:=av.size;have z45:=cX.size;have z03:=cm.size;have h6:=(h5.step (Y:=fun j=>((X j∨j=b)∨j=b9)∨vv.ownBlock=some j) aS (fun j e=>⟨.inl (.inr e),fun e'=>ld k ht.gw.xk (e'▸e),fun e'=>ld x ht.gw.xx (e'▸e),fun e'=>ld 1 ht.gw.x1 (e'▸e),fun e'=>ld 2 ht.gw.x2 (e'▸e)⟩) (fun j hj=>hj.imp id fun e=>⟨m5 j e,iC.lt e⟩) (fun j hj=> .inl hj)).less (X:=fun j=>X j∨vv.ownBlock=some j) (fun j hj=>hj.imp (fun e=> .inl (.inl e)) id) (.inl ht.gw.xk) (.inl ht.gw.xx) (.inl ht.gw.x1) (.inl ht.gw.x2);exact⟨_,rfl,vv,rfl,iC,fun j e=>by have:=m5 j e;omega,h6,((cm.trans (av.KT fun j e e'=>e (.inl (.inl e')))).trans cX.kp).trans (aS.KT fun j e e'=>ld j e' e)⟩
 case cQ=>
  refine KQ rfl (fun h0=>?_) (fun h0=>?_)
  ·have tG:0<Ld g E v:=by omega
   obtain⟨q1,q2,q3,q4,q5,q6,q7,q8⟩:=aw.back hv tG;have lh:=oH.bp;have ll:=oH.bf;refine run_seq (qN rfl (qV (KK Np rfl) (qV ((by first|exact KJ U3 rfl rfl bZ rfl|exact KJ U3 rfl rfl lh rfl|exact KJ U3 rfl rfl ll rfl)) ?_)));refine An rfl (qV (LH rfl rfl) (Lq (An rfl (An rfl (qV (KK Tk rfl) (qV ((by first|exact KJ U3 rfl rfl bZ rfl|exact KJ U3 rfl rfl lh rfl|exact KJ U3 rfl rfl ll rfl)) ?_))))));refine qV (OL rfl rfl) (Lq (qV (Lk rfl rfl) (An rfl (qV (KK O8 rfl) (qV ((by first|exact KJ U3 rfl rfl bZ rfl|exact KJ U3 rfl rfl lh rfl|exact KJ U3 rfl rfl ll rfl)) ?_)))));refine qV (KK Oh rfl) (qV ((by first|exact KJ U3 rfl rfl bZ rfl|exact KJ U3 rfl rfl lh rfl|exact KJ U3 rfl rfl ll rfl)) ?_);refine qV (LH rfl rfl) (Lq (qV (Lk rfl rfl) (py (Lc.qb (e:=[(0,_),(1,_),(2,_),(3,_),(4,_),(7,_),(8,_),(9,_),(10,_),(11,_),(12,_),(13,_),(45,_)]) ?_))));refine Kx rfl (It (run_seq (qN rfl (qV ((by first|exact KJ z6q rfl rfl bZ rfl|exact KJ z6q rfl rfl lh rfl|exact KJ z6q rfl rfl ll rfl)) ?_))));refine An rfl (qV (KK Np rfl) (qV ((by first|exact KJ U3 rfl rfl bZ rfl|exact KJ U3 rfl rfl lh rfl|exact KJ U3 rfl rfl ll rfl)) ?_));refine qV (M8 rfl rfl (by omega)) ?_;rw[show(v:Int)-(Ld g E v:Int)=((v-Ld g E v:Nat):Int) by omega];refine An rfl (Lz rfl rfl ?_);rw[show(behind:Int)+1=((behind+1:Nat):Int) by omega];have EX:=ih tG _ w3 oH;unfold R7 at EX;refine Mb rfl rfl (N6 (args:=[.tmp 51,.tmp 53]) z7r rfl rfl) (EX) ?_;rintro _ w4 ⟨vb,rfl,dP,ox,h4,av⟩
   obtain⟨vo,vc,rfl,yB⟩:∃o c,vb= .slice (some ⟨o,0,none⟩) (KW g (v-Ld g E v)).length c∧w3.heap.size≤o:=by
    rcases dP.shape with⟨-,e⟩|⟨o,c,e,hc⟩
    ·omega
    ·exact⟨o,c,e,ox o (by rw[e];rfl)⟩
   refine An rfl (qV (Ll (v:= .slice (some ⟨vo,0,none⟩) (KW g (v-Ld g E v)).length vc) rfl rfl) (qV (Ll (v:=I 0) rfl rfl) (KE rfl (KE rfl (qM rfl (An rfl (qV (LQ rfl rfl) ?_)))))));have iI:=(oH.step av (fun j e e'=>e e') h4 (fun j hj=> .inl hj)).bp;refine py (Lc.qb (e:=[(0,_),(2,_),(3,_),(7,_),(8,_),(9,_),(10,_),(11,_),(12,_),(13,_),(58,_)]) ?_);refine Kx rfl (It (qN rfl (An rfl (qV (LG L9 rfl) (qV (Mc rfl rfl) (Lq (An rfl (An rfl (qV (LG L9 rfl) (qV (KK Oh rfl) (qV (KJ U3 rfl rfl iI rfl) (qV (LH rfl rfl) (Lq ?_)))))))))))));refine qV (Lk rfl rfl) (py (Kx rfl (It ?_)));exact(cD _ _ ⟨_,rfl,h4.less (fun j hj=> .inl hj) h3.xk h3.xx h3.x1 h3.x2,av,fun e=>by omega,fun _=>dP,fun j e=>by have e':vo=j:=MA e;omega⟩).qb
  ·refine It ?_;exact(cD _ _ ⟨_,rfl,h3,Kp.refl _ _,fun _=>rfl,fun e=>by omega,fun j e=>by cases e⟩).qb
theorem Vn (iB:g.length<50):∀(d:Nat) {v behind:Nat} {X:Nat→Prop} {w:World},Oy E v≤d→v<g.length→behind+Oy E v≤p.chain→TdM R k x gb pb fb X w→R7 R k x gb pb fb v behind X w
 | 0, v, behind, X, w, hd, hv, yR, ht => Ud iB hv yR ht fun h0 => by
   obtain⟨q1,q2,-⟩:=ht.gw.ok.back hv h0
   omega
 | d + 1, v, behind, X, w, hd, hv, yR, ht => Ud iB hv yR ht fun h0 X' w' HQ => by
   obtain⟨q1,q2,-⟩:=ht.gw.ok.back hv h0;exact Vn iB d (by omega) (by omega) (by omega) HQ
theorem NK.z5r (h:NK p g E){v:Nat}(hv:v<g.length):Oy E v≤p.chain:=by
 rcases h.ent hv with e|⟨h1,h2,h3,l,e',h4,h5,h6,h7⟩
 ·unfold Oy;rw[e];exact Nat.zero_le _
 ·have HP:=of_decide_eq_true h7;unfold Oy;omega
theorem z0B (iB:g.length<50){v:Nat}(hv:v<g.length)(h:Pu R k x X w):Le Tryz.prog 94 [ptr k 0,I (v:Int)] w fun r w'=>∃vv,r= .tuple #[vv,I 0]∧Yg w' vv (KW g v)∧(∀b,vv.ownBlock=some b→w.heap.size≤b)∧Pu R k x (fun j=>X j∨vv.ownBlock=some j) w'∧Kp (fun j=>¬X j) w w':=by
 refine KA (e:=[(0,_),(1,_)]) Tryz.func94 rfl Tryz.ntmps94 rfl rfl (qN rfl (KL rfl rfl (Mz rfl (cs:=[ptr k 0]) rfl) ?_))
 rintro _ w1 ⟨gb,rfl,HR,ad,vB⟩
 refine KE rfl (KE rfl (py (run_seq (qN rfl (qV (KJ Z0 rfl rfl vB rfl) (An rfl (KL rfl rfl (Tb (parts:=[(0,.tmp 10)]) (cs:=[_]) (zs:=[Value.int .i64 0]) Mu LC rfl (by kernel_rfl) rfl rfl rfl (by decide)) ?_)))))))
 rintro _ w2 ⟨vb,rfl,⟨fd,af,K4⟩,HS⟩
 have h2:=(h.ext ad).ext af
 have sh:=af.KD vB
 have Ci:=h2.cells
 have z1:=ad.size
 have z2:=af.size
 refine L2 [.tmp 9,.tmp 11] za9 rfl (ZU h2 hv HS.rd) ?_
 rintro _ w2 ⟨rfl,rfl⟩
 refine KE rfl (qM rfl (An rfl (qV (LQ rfl rfl) (py (Kx rfl (It (qN rfl (qV (KJ Z0 rfl rfl sh rfl) (qV (KZ rfl) (qV (KK Rw rfl) (qV (KK Sj rfl) (qV (La (news:=PO p) Vq rfl ME rfl (KP.cells (i:=2) (n:=5) Ci rfl) rfl) (KL rfl rfl (MN (cs:=[_,_,_,_,_]) ME rfl) ?_)))))))))))))
 rintro _ w3 ⟨pb,rfl,tj,ah,ov⟩
 refine KR rfl (Lo (news:=PO p) ME rfl rfl rfl rfl ov (by simp)) ?_
 rintro w4 ⟨iI,av⟩
 replace iI:KP w4 pb [I (p.L6:Int),I (p.chain:Int),I (p.interval:Int),I (p.zeta:Int),I (p.most:Int)] 77:=iI
 have dh:Ext w2 w4:=ah.Kz av (fun j e=>by omega)
 refine qM rfl (KL rfl rfl (MN (cs:=[_]) z7P rfl) ?_)
 rintro _ w5 ⟨fb,rfl,K5,aR,cP⟩
 refine qM rfl (qV (Zw (first:=[]) (caps:=[.tmp 2,.tmp 7,.tmp 8]) rfl rfl) (KR rfl (Mn z7P rfl rfl rfl cP (by simp)) ?_))
 rintro w6 ⟨wM,aS⟩
 have cB:Ext w4 w6:=aR.Kz aS (fun j e=>by omega)
 have gW:=dh.trans cB
 have z6:=gW.size
 have lg:=sh.lt
 have lp:=iI.lt
 have lf:=wM.lt
 have z24:=dh.size
 have z3:=ah.size
 have z46:=cB.size
 have gY:=(ad.trans af).trans gW
 have h6:Pu R k x (fun j=>X j∨j=gb∨j=pb∨j=fb) w6:=h.grow gY (fun j hj=>hj.imp id fun e=>by omega) (fun j hj=> .inl hj)
 have tq:TdM R k x gb pb fb (fun j=>X j∨j=gb∨j=pb∨j=fb) w6:=⟨h6,gW.KD sh,cB.KD iI,wM,.inr (.inl rfl),.inr (.inr (.inl rfl)),.inr (.inr (.inr rfl))⟩
 have wO:=tq.bf
 have eu:=Vn iB _ (behind:=0) (Nat.le_refl _) hv (by have:=h.ok.z5r hv;omega) tq
 unfold R7 at eu
 refine qM rfl (qV (KJ z6q rfl rfl wO rfl) (An rfl (Mb rfl rfl (N6 (args:=[.tmp 23,.const (Value.int .i64 0)]) z7r rfl rfl) (eu) ?_)))
 rintro _ w7 ⟨vv,rfl,gK,nG,h7,aA⟩
 refine qV (Ll (v:=vv) rfl rfl) (qV (Ll (v:=I 0) rfl rfl) (KE rfl (KE rfl (py (Lc.qb (e:=[(4,_),(5,_)]) ?_)))))
 refine KG Tryz.func94 rfl ?_
 exact⟨_,rfl,vv,rfl,gK,fun j e=>by have:=nG j e;omega,h7.less (fun j hj=>hj.imp .inl id) (.inl h.xk) (.inl h.xx) (.inl h.x1) (.inl h.x2),gY.kp.trans (aA.KT fun j e e'=>e (.inl e'))⟩
end
def stV (b:Bool):Value:= .int .u8 (if b then 1 else 0)
structure Ta (w:World)(m gi:Nat)(L:List Bool):Prop where
 KD:KP w m [I 2,.slice (some ⟨gi,0,none⟩) L.length L.length,.slice none 0 0,.bool false] 110
 sl:Sl w (.slice (some ⟨gi,0,none⟩) L.length L.length) 154 1 L.length (L.map stV)
 ne:gi≠m
 n:L.length≤4096
 n2:2≤L.length
section
variable {w w':World}{m gi:Nat}{L:List Bool}{S:Nat→Prop}
theorem Ta.kp (h:Ta w m gi L)(hk:Kp S w w')(h1:¬S m)(h2:¬S gi):Ta w' m gi L:=
 ⟨hk.KD h.KD h1,h.sl.kp hk fun g e=>by cases e;exact h2,h.ne,h.n,h.n2⟩
theorem Ta.ext (h:Ta w m gi L)(hx:Ext w w'):Ta w' m gi L:=h.kp (S:=fun _=>False) hx id id
theorem Ta.ltm (h:Ta w m gi L):m<w.heap.size:=h.KD.lt
theorem Ta.ltg (h:Ta w m gi L):gi<w.heap.size:=h.sl.lt rfl
theorem Ta.get (h:Ta w m gi L){i:Nat}{b:Bool}(hi:L[i]? =some b):w.cell? ⟨gi,0+i*1,none⟩=some (stV b):=
 LN h.sl.rd (by rw[List.getElem?_map,hi];rfl)
theorem z29 (B:Nat)(hB:2≤B∧B≤4096)(w:World):Le Tryz.prog 22 [I 2,I (B:Int)] w fun v w'=>∃m gi,v= .tuple #[ptr m 0,I 0]∧Ta w' m gi (List.replicate B false)∧w.heap.size≤m∧w.heap.size≤gi∧Ext w w':=by
 refine KA (e:=[(0,_),(1,_)]) Tryz.func22 rfl Tryz.ntmps22 rfl rfl (qN rfl (KE rfl (KE rfl (py (run_seq (qN rfl (An rfl (qV (LW rfl rfl) (Lq (An rfl (An rfl (An rfl (qV (LH rfl rfl) ?_)))))))))))))
 refine Lq (qV (Lk rfl rfl) (An rfl (An rfl (qV (LH rfl rfl) (Lq (qV (Lk rfl rfl) (py (Kx rfl (It (qN rfl (An rfl (An rfl (KL rfl rfl (pmk (c:=B) (n:=B) RB z1m rfl rfl rfl (Nat.le_refl _) (by omega) (by simp only[maxLen];omega)) ?_)))))))))))))
 rintro _ w1 ⟨gi,rfl,⟨rR,ad,ai⟩,j7⟩
 refine qV (Nc (parts:=[(0,.tmp 17),(1,.tmp 19)]) (cs:=[_,_,_,_]) zbv rfl zc4 rfl rfl) (KL rfl rfl (Mz rfl (cs:=[I 2,.slice (some ⟨gi,0,none⟩) B B,.slice none 0 0,.bool false]) rfl) ?_)
 rintro _ w2 ⟨m,rfl,hm,af,ak⟩
 refine KE rfl (KE rfl (py (KG Tryz.func22 rfl ?_)))
 have:=ad.size
 have lg:=j7.lt (g:=gi) rfl
 refine⟨_,rfl,m,gi,rfl,⟨by rw[List.length_replicate];exact ak,?_,by omega,by rw[List.length_replicate];omega,by rw[List.length_replicate];omega⟩,by omega,by omega,ad.trans af⟩
 rw[List.length_replicate,List.map_replicate]
 exact j7.ext af
def MV (L:List Bool)(s n:Nat)(b:Bool):List Bool:=L.take s++(List.replicate n b++L.drop (s+n))
theorem MJ {L:List Bool}{s n:Nat}{b:Bool}(h:s+n≤L.length):(MV L s n b).length=L.length:=by
 unfold MV
 rw[List.length_append,List.length_append,List.length_take,List.length_replicate,List.length_drop];omega
theorem z2z (L:List Bool)(s:Nat)(b:Bool):MV L s 0 b=L:=by simp[MV]
theorem z3n {L:List Bool}{s n:Nat}{b:Bool}(h:s+n<L.length):(MV L s n b).set (s+n) b=MV L s (n+1) b:=by
 have h1:(L.take s++List.replicate n b).length=s+n:=by rw[List.length_append,List.length_take,List.length_replicate];omega
 unfold MV
 rw[←List.append_assoc,List.set_append_right _ _ (by omega),h1,Nat.sub_self,List.drop_eq_getElem_cons h,List.set_cons_zero,List.replicate_succ',List.append_assoc,List.append_assoc]
 rfl
theorem z3k (h:Ta w m gi L)(s n:Nat)(b:Bool)(hs:s+n≤L.length):Le Tryz.prog 108 [ptr m 0,.agg #[I (s:Int),I (n:Int)],stV b] w fun v w'=>v= .tuple #[]∧Ta w' m gi (MV L s n b)∧Kp (fun k=>k=gi) w w':=by
 have hn:=h.n
 refine KA (e:=[(0,_),(1,_),(2,_)]) Tryz.func108 rfl Tryz.ntmps108 rfl rfl (qN rfl (KL rfl rfl (Mz rfl (cs:=[I (s:Int),I (n:Int)]) rfl) ?_))
 rintro _ w1 ⟨b4,rfl,gA,ad,aI⟩
 have lg:=h.ltg
 have l4:=aI.lt
 have h1:=h.ext ad
 refine qM rfl (qV (KK O0 rfl) (qV (KJ U3 rfl rfl aI rfl) (An rfl (py (KB (MQ (α:=Nat) (0) (fun i=>[(0,ptr m 0),(2,stV b),(4,ptr b4 0),(8,I (n:Int)),(9,I (i:Int))]) (fun i w'=>Ta w' m gi (MV L s i b)∧Kp (fun k=>k=gi) w1 w'∧i≤n) (fun i=>n-i) ?hI ?hround))))))
 case hI=>exact⟨by rw[z2z];exact h1,Kp.refl _ _,Nat.zero_le _⟩
 case hround=>
  rintro i w2 ⟨h2,am,hi⟩ ih
  try dsimp only
  refine qN rfl (qV (LW rfl rfl) (py (run_seq (KQ rfl (fun h0=>?_) (fun h0=>?_)))))
  ·have aZ:i<n:=by omega
   have hl:=MJ (L:=L) (s:=s) (n:=i) (b:=b) (by omega);have ak:=h2.KD;have bq:=am.KD aI (by omega);have hg:=Ext.L4 w2;refine It (run_seq (KB (qN rfl (An rfl (KE rfl (py (L5 [10] (fun w'=>Ext w2 w') (by kernel_rfl) rfl (qL [1,2,3,9,10] 0 rfl (fun _ h=>KM rfl) hg (qL [2,3,9,10] 1 rfl (fun _ h=>KZ rfl) hg (qL [3,9,10] 2 rfl (fun _ h=>KK St rfl) hg (qL [9,10] 3 rfl (fun _ h=>(by first|exact KJ RB rfl rfl (h.KD ak) rfl|exact KJ RB rfl rfl (h.KD bq) rfl)) hg ?_)))))))))));refine qL [5,7,9,10] 4 rfl (fun _ h=>KK Pk rfl) hg (qL [7,9,10] 5 rfl (fun _ h=>(by first|exact KJ U3 rfl rfl (h.KD ak) rfl|exact KJ U3 rfl rfl (h.KD bq) rfl)) hg ?_);refine qL [7,9,10] 6 rfl (fun _ h=>KM rfl) hg (qL [9,10] 7 rfl (fun _ h=>PW rfl rfl (by omega)) hg (qL [9,10] 8 rfl (fun _ h=>KM rfl) hg (qL [10] 9 rfl (fun _ h=>Lt RB z1m rfl rfl (by omega)) hg (Lu [10] (by kernel_rfl) (by kernel_rfl) (qO 10 (Lm (i:=10) rfl rfl (MM z1m rfl rfl rfl (h2.ext hg).sl (by rw[List.length_map,hl];omega)) ?_))))));rintro w3 ⟨cI,ax⟩;refine⟨trivial,?_⟩
   have h3:Ta w3 m gi (MV L s (i+1) b):=by
    refine⟨?_,?_,h2.ne,by rw[MJ (by omega)];exact h.n,by rw[MJ (by omega)];exact h.n2⟩
    ·rw[MJ (by omega),←hl];exact ax.KD (hg.KD ak) (fun e=>h2.ne e.symm)
    ·rw[show 0+(s+i)*1=s+i by omega,←List.map_set,z3n (by omega)] at cI;rw[MJ (by omega),←hl];exact cI
   refine qE (KC (KF rfl (Lz rfl rfl (An rfl (py ?_)))));exact(ih (i+1) _ ⟨h3,am.trans (hg.kp.trans ax),by omega⟩ (by omega)).qb
  ·have aZ:i=n:=by omega
   subst aZ;refine KO rfl (LZ Tryz.func108 rfl ?_);exact⟨_,rfl,rfl,h2,ad.kp.trans am⟩
end
structure Pre (L:List Bool)(a:Nat):Prop where
 a2:2≤a
 le:a≤L.length
 tk:∀i,2≤i→i<a→L[i]? =some true
 fr:∀i,a≤i→i<L.length→L[i]? =some false
section
variable {w w':World}{m gi a:Nat}{L:List Bool}{S:Nat→Prop}
theorem T6 {l bm : Nat}(hm : Ta w m gi L)(hp : Pre L a)(ha : a < L.length)(jM : KP w bm [ptr m 0] 55)(J : World → Prop)(hJ : ∀ w w', J w → Ext w w' → J w')
  (hround:∀w',Ext w w'→WW Tryz.prog l [.agg #[I (a:Int),I ((L.length-a:Nat):Int)]] w' fun v w''=>(v= .bool true∧J w''∧KP w'' bm [ptr m 0] 55∧Ta w'' m gi L)∨(v= .bool false∧J w'')):
  Le Tryz.prog 63 [.func (.yield l) #[] #[],ptr bm 0] w fun v w'=>v= .tuple #[]∧J w':=by
 have hn:=hm.n
 have rg:=hp.a2
 have hB:=hm.KD
 refine KA (e:=[(0,_),(1,_)]) Tryz.func63 rfl Tryz.ntmps63 rfl rfl (qN rfl (qV ((by first|exact KJ X5 rfl rfl jM rfl|exact KJ X5 rfl rfl hB rfl)) ?_))
 refine qV (KZ rfl) (qV (KK z6G rfl) (qV ((by first|exact KJ U3 rfl rfl jM rfl|exact KJ U3 rfl rfl hB rfl)) ?_))
 refine KE rfl (py (KB (MQ (α:=Nat) (2) (fun i=>[(0,.func (.yield l) #[] #[]),(1,ptr bm 0),(3,I (i:Int))]) (fun i w'=>KP w' bm [ptr m 0] 55∧Ta w' m gi L∧((2≤i∧i≤a∧Ext w w')∨(i=L.length+1∧J w'))) (fun i=>L.length+1-i) ?hI ?hround)))
 case hI=>exact⟨jM,hm,.inl ⟨Nat.le_refl _,rg,Ext.refl _⟩⟩
 case hround=>
  rintro i w1 ⟨oY,nU,fL⟩ ih;have ai:=nU.KD
  try dsimp only
  refine run_seq (qN rfl (An rfl (qV ((by first|exact KJ X5 rfl rfl oY rfl|exact KJ X5 rfl rfl ai rfl)) ?_)));refine qV (KZ rfl) (qV (KK St rfl) (qV ((by first|exact KJ RB rfl rfl oY rfl|exact KJ RB rfl rfl ai rfl)) ?_));refine qV (LG RB rfl) (qV (LW rfl rfl) (py (KQ rfl (fun h0=>?_) (fun h0=>?_))))
  ·have si : 2 ≤ i ∧ i ≤ a ∧ Ext w w1 := by
    rcases fL with h| h
    ·exact h
    ·omega
   obtain⟨de,K6,ad⟩:=si;refine It (run_seq (KB (qN rfl (An rfl (qV (Nc (parts:=[(0,.tmp 18)]) (cs:=[_,_]) NL rfl zdj rfl rfl) (KL rfl rfl (MN (cs:=[_,_]) NL rfl) ?_))))));rintro _ w2 ⟨b4,rfl,gA,af,aI⟩;refine KR rfl (Lo (news:=[I (i:Int),I 0]) NL rfl rfl rfl rfl aI (by simp)) ?_;rintro w3 ⟨dy,ax⟩;replace dy:KP w3 b4 [I (i:Int),I 0] 97:=dy;have aX:Ext w1 w3:=af.Kz ax (fun j e=>by omega);have ln:=aX.KD oY;have mJ:=nU.ext aX;have ar:=mJ.KD;refine py (run_seq (KB (MQ (α:=Nat) (i) (fun j=>[(0,.func (.yield l) #[] #[]),(1,ptr bm 0),(3,I (j:Int)),(4,ptr b4 0)]) (fun j w'=>w'=w3∧i≤j∧j≤L.length∧(i<j→i=a)) (fun j=>L.length-j) ?hI ?hround)))
   case hI=>exact⟨rfl,Nat.le_refl _,by omega,fun h=>absurd h (by omega)⟩
   case hround =>
    rintro j w4 ⟨rfl,gH,K7,Cj⟩ ih2
    try dsimp only
    rcases Nat.lt_or_ge j L.length with hj|hj
    ·obtain⟨b,hb⟩:∃b,L[j]? =some b:=⟨_,List.getElem?_eq_getElem hj⟩;have bh:=mJ.get hb;refine run_seq (qN rfl (An rfl (qV ((by first|exact KJ X5 rfl rfl ln rfl|exact KJ X5 rfl rfl ar rfl)) ?_)));refine qV (KZ rfl) (qV (KK St rfl) (qV ((by first|exact KJ RB rfl rfl ln rfl|exact KJ RB rfl rfl ar rfl)) ?_));refine qV (LG RB rfl) (qV (LW rfl rfl) (MC (An rfl (qV ((by first|exact KJ X5 rfl rfl ln rfl|exact KJ X5 rfl rfl ar rfl)) ?_))));refine qV (KZ rfl) (qV (KK St rfl) (qV ((by first|exact KJ RB rfl rfl ln rfl|exact KJ RB rfl rfl ar rfl)) ?_));refine An rfl (qV (Lt RB z1m rfl rfl (by omega)) ?_)
     cases b with
     | true =>
       refine qV (Lb (v:= .int .u8 1) za5 rfl rfl bh) ?_
       have HT:i<a:=by
        rcases Nat.lt_or_ge i a with h| h
        ·exact h
        ·have:=hp.fr j (by omega) hj;rw[this] at hb;cases hb
       have tC:j=i:=by
        rcases Nat.lt_or_ge i j with h| h
        ·have:=Cj h;omega
        ·omega
       subst tC;refine qV (Mc rfl rfl) (Lq (qV (LK rfl rfl) (py (Kx rfl (KO rfl (qN rfl (An rfl (qV (KK Pk rfl) (qV (KJ U3 rfl rfl dy rfl) (qV (M8 rfl rfl (by omega)) (qV (KK O0 rfl) (KR rfl (Mn LC rfl rfl rfl dy (by simp)) ?_))))))))))));rintro w5 ⟨aH,aj⟩;rw[show(j:Int)-(j:Int)=0 by omega] at aH;replace aH:KP w5 b4 [I (j:Int),I 0] 97:=aH;have cb:Ext w1 w5:=aX.Kz aj (fun q e=>by have:=af.size;omega);refine qM rfl (qV (KK O0 rfl) (qV (KJ U3 rfl rfl aH rfl) (qV (LH rfl rfl) (An rfl (qS (qS (qS (qS (qV (Lk rfl rfl) (py (Kx rfl (It (KC ?_)))))))))))));refine KF rfl (An rfl (Lz rfl rfl (KE rfl (py ?_))))
       exact(ih (j+1) w5 ⟨cb.KD oY,nU.ext cb,.inl ⟨by omega,by omega,ad.trans cb⟩⟩ (by omega)).qb
     | false =>
       refine qV (Lb (v:= .int .u8 0) za5 rfl rfl bh) (qV (Mc rfl rfl) (MC (qV (LK rfl rfl) ?_)))
       have sj:i=a:=by
        rcases Nat.lt_or_ge i a with h| h
        ·rcases Nat.lt_or_ge i j with h2|h2
         ·exact Cj h2
         ·have e:j=i:=by omega
          subst e;have:=hp.tk j de h;rw[this] at hb;cases hb
        ·omega
       refine py (KS rfl (It (KB (KF rfl (An rfl (Lz rfl rfl (KE rfl (py (KC ?_)))))))));exact(ih2 (j+1) _ ⟨rfl,by omega,by omega,fun _=>sj⟩ (by omega)).qb
    ·have HU:j=L.length:=by omega
     subst HU;have sj:=Cj (by omega);subst sj;refine run_seq (qN rfl (An rfl (qV ((by first|exact KJ X5 rfl rfl ln rfl|exact KJ X5 rfl rfl ar rfl)) ?_)));refine qV (KZ rfl) (qV (KK St rfl) (qV ((by first|exact KJ RB rfl rfl ln rfl|exact KJ RB rfl rfl ar rfl)) ?_));refine qV (LG RB rfl) (qV (LW rfl rfl) (Lq (An rfl (qS (qS (qS (qS (qS (qS (qS (qS (qV (Lk rfl rfl) (py ?_)))))))))))));refine Kx rfl (KO rfl (qN rfl (An rfl (qV (KK Pk rfl) (qV (KJ U3 rfl rfl dy rfl) (qV (M8 rfl rfl (by omega)) (qV (KK O0 rfl) (KR rfl (Mn LC rfl rfl rfl dy (by simp)) ?_))))))));rintro w5 ⟨aH,aj⟩;rw[show(L.length:Int)-(i:Int)=((L.length-i:Nat):Int) by omega] at aH;replace aH:KP w5 b4 [I (i:Int),I ((L.length-i:Nat):Int)] 97:=aH;have cb:Ext w1 w5:=aX.Kz aj (fun q e=>by have:=af.size;omega);refine qM rfl (qV (KK O0 rfl) (qV (KJ U3 rfl rfl aH rfl) (qV (LH rfl rfl) (MC (An rfl (An rfl (qV (La (news:=[I (i:Int),I ((L.length-i:Nat):Int)]) U97 rfl NL rfl (KP.cells (n:=2) aH rfl) rfl) (z0A rfl rfl (yy (args:=[.tmp 49]) rfl rfl) (hround w5 (ad.trans cb)) ?_))))))));rintro v w6 hv;rcases hv with⟨rfl,wP,Ck,HV⟩|⟨rfl,wP⟩
     ·refine qV ((by first|exact LP rfl|exact Nq rfl)) ?_;refine qV (LK rfl rfl) (py (Kx rfl (It (KC (KF rfl (An rfl (Lz rfl rfl (KE rfl (py ?_)))))))));exact(ih (L.length+1) w6 ⟨Ck,HV,.inr ⟨rfl,wP⟩⟩ (by omega)).qb
     ·refine qV ((by first|exact LP rfl|exact Nq rfl)) ?_;refine qV (LK rfl rfl) (py (KS rfl (KG Tryz.func63 rfl ?_)));exact⟨_,rfl,rfl,wP⟩
  ·rcases fL with⟨-,h,-⟩|⟨-,wP⟩
   ·omega
   ·refine KO rfl (LZ Tryz.func63 rfl ?_);exact⟨_,rfl,rfl,wP⟩
theorem SX (w:World)(m:Nat):Le Tryz.prog 35 [ptr m 0] w fun v w'=>∃bm,v= .func (.func 63) #[] #[ptr bm 0]∧KP w' bm [ptr m 0] 55∧w.heap.size≤bm∧Ext w w':=by
 refine KA (e:=[(0,_)]) Tryz.func35 rfl Tryz.ntmps35 rfl rfl (qN rfl (KL rfl rfl (Mz rfl (cs:=[ptr m 0]) rfl) ?_))
 rintro _ w1 ⟨bm,rfl,jM,ad,ai⟩
 refine KE rfl (qM rfl (qV (Zw (first:=[]) (caps:=[.tmp 1]) rfl rfl) (KE rfl (py (KG Tryz.func35 rfl ?_)))))
 exact⟨_,rfl,bm,rfl,ai,by omega,ad⟩
theorem z0U (h:Ta w m gi L)(hp:Pre L a)(ha:a<L.length):Le Tryz.prog 18 [ptr m 0] w fun v w'=>v=I ((L.length-a:Nat):Int)∧Ext w w':=by
 have hn:=h.n
 refine KA (e:=[(0,_)]) Tryz.func18 rfl Tryz.ntmps18 rfl rfl (qN rfl (KE rfl (qM rfl (KL rfl rfl (MN (cs:=[_]) LC rfl) ?_))))
 rintro _ w1 ⟨b3,rfl,eL,ad,ar⟩
 refine KR rfl (Mn LC rfl rfl rfl ar (by simp)) ?_
 rintro w2 ⟨gO,am⟩
 replace gO:KP w2 b3 [I 0] 3:=gO
 have af:Ext w w2:=ad.Kz am (fun j e=>by omega)
 refine py (run_seq (qN rfl (An rfl (qV (z5d X5 rfl rfl) (py (KS rfl (qN rfl (An rfl (L2 [.tmp 7] zbl rfl (SX w2 m) ?_)))))))))
 rintro _ w3 ⟨bm,rfl,jM,lO,ah⟩
 have c6:=af.trans ah
 have g9:=ah.KD gO
 have mJ:=h.ext c6
 have l3:=g9.lt
 have l32:=gO.lt
 have lm:=jM.lt
 have lmm:=h.ltm
 have lmg:=h.ltg
 have z1:=ad.size
 refine py (KB (Ox (ps:=[9]) (p:=[]) (q:=[_]) rfl zb8 ?_))
 rintro l wl eU eM cn hD Rc cY eD
 have Cl:=z5H cY eD
 have zl:=eU.size
 refine Le.mono (T6 (mJ.ext eU) hp ha (eU.KD jM)
  (fun w'=>Rc .ready none w'∧KP w' b3 [I ((L.length-a:Nat):Int)] 3∧Kp (fun k=>k=l∨k=b3) wl w')
  (fun w w' h hx=>⟨hx.kp.rc (S:=fun _=>False) cY h.1 id,hx.KD h.2.1,h.2.2.trans hx.kp⟩) ?_) ?_
 ·intro w4 aB;have ig:=Kp.rc (S:=fun _=>False) aB cY eD id;have cW:=aB.KD (eU.KD g9);have z4:=aB.size;refine PB cY ig rfl rfl (KF rfl (KL rfl rfl (MN (cs:=[_,_]) NL rfl) ?_));rintro _ w5 ⟨b4,rfl,gA,aR,aI⟩;refine KR rfl (Lo (news:=[I (a:Int),I ((L.length-a:Nat):Int)]) NL rfl rfl rfl rfl aI (by simp)) ?_;rintro w6 ⟨bI,aS⟩;replace bI:KP w6 b4 [I (a:Int),I ((L.length-a:Nat):Int)] 97:=bI;have cB:Ext w4 w6:=aR.Kz aS (fun j e=>by omega);have HW:=Kp.rc (S:=fun _=>False) cB cY ig id;have z46:=cB.size;have l4:=bI.lt;refine py (run_beginRound rfl cY HW ?_);rintro w7 h7 aA;have ip:=aA.KD (cB.KD cW) (by omega);have bc:=aA.KD bI (by omega);refine KB (KF rfl (qV ((by first|exact KJ U3 rfl rfl ip rfl|exact KJ U3 rfl rfl bc rfl)) ?_));refine qV (KK O0 rfl) (qV ((by first|exact KJ U3 rfl rfl ip rfl|exact KJ U3 rfl rfl bc rfl)) ?_);refine Lz rfl rfl ?_;rw[show(0:Int)+((L.length-a:Nat):Int)=((L.length-a:Nat):Int) by omega];refine KR rfl (Mn LC rfl rfl rfl ip (by simp)) ?_;rintro w8 ⟨m7,bj⟩;have h8:=Kp.rc bj cY h7 (by omega);refine py (KC (OT cY h8 ?_));intro w9 h9 aJ;have mP:Kp (fun k=>k=l∨k=b3) w4 w9:=((cB.kp.trans (aA.KT fun k e=> .inl e)).trans (bj.KT fun k e=> .inr e)).trans (aJ.KT fun k e=> .inl e);exact .inl ⟨rfl,⟨h9,aJ.KD m7 (by omega),aB.kp.trans mP⟩,mP.KD (aB.KD (eU.KD jM)) (by omega),((mJ.ext eU).ext aB).kp mP (by omega) (by omega)⟩
 ·rintro v wz ⟨rfl,ig,HX,gt⟩;refine⟨_,_,ig,by simp,fun wy ij=>?_⟩;have zz:=gt.size;have zy:=ij.size;have HY:=ij.KD HX (by omega);have wQ:=ij.heap (gt.heap hD (by omega)) (by omega);refine KC (qN rfl (qV (KJ U3 rfl rfl HY rfl) (KE rfl (py (z5A (by simp) (Uq wQ) Tryz.func18 rfl ?_)))));have z3:=ah.size;have cS:Kp (fun k=>k=w3.heap.size) wy (Of [.mk w3.heap.size] wy):=M6 wy w3.heap.size (.deferred none);have Cm:Kp (fun k=>k=l∨k=b3∨k=w3.heap.size) w3 (Of [.mk w3.heap.size] wy):=((eU.kp.trans (gt.KT fun k e=>by omega)).trans (ij.KT fun k e=>by omega)).trans (cS.KT fun k e=>by omega);exact⟨_,rfl,rfl,c6.Kz Cm (fun k e=>by omega)⟩
end
section
variable {w w':World}{m gi a:Nat}{L:List Bool}{S:Nat→Prop}
theorem YF (h:Ta w m gi L)(hp:Pre L a){n:Nat}(du:1≤n)(nY:a+n≤L.length):Le Tryz.prog 72 [ptr m 0,I (n:Int)] w fun v w'=>v= .tuple #[.agg #[I (a:Int),I (n:Int)],I 0]∧Ta w' m gi (MV L a n true)∧Kp (fun k=>k=gi) w w':=by
 have hn:=h.n
 refine KA (e:=[(0,_),(1,_)]) Tryz.func72 rfl Tryz.ntmps72 rfl rfl (qN rfl (KL rfl rfl (Mz rfl (cs:=[ptr m 0]) rfl) ?_))
 rintro _ w1 ⟨b2,rfl,bM,ad,ak⟩
 refine KL rfl rfl (Mz rfl (cs:=[I (n:Int)]) rfl) ?_
 rintro _ w2 ⟨b3,rfl,eL,af,ar⟩
 refine KL rfl rfl (MN (cs:=[_,_]) NL rfl) ?_
 rintro _ w3 ⟨b4,rfl,gA,ah,aI⟩
 refine KL rfl rfl (MN (cs:=[_]) z3x rfl) ?_
 rintro _ w4 ⟨b5,rfl,gI,aB,aG⟩
 have l2:=ak.lt
 have l3:=ar.lt
 have l4:=aI.lt
 have l5:=aG.lt
 have z1:=ad.size
 have z2:=af.size
 have z3:=ah.size
 have z4:=aB.size
 have dW:=aB.KD (ah.KD (af.KD ak))
 have cW:=aB.KD (ah.KD ar)
 have cg:=aB.KD aI
 refine py (run_seq (KB (qN rfl (qV ((by first|exact KJ X5 rfl rfl dW rfl|exact KJ X5 rfl rfl cW rfl)) ?_))))
 refine qV (LO X5 rfl rfl) (KE rfl (py (Kx rfl (qN rfl (qV ((by first|exact KJ U3 rfl rfl dW rfl|exact KJ U3 rfl rfl cW rfl)) ?_)))))
 refine qV (LW rfl rfl) (Lq (KE rfl (py (Kx rfl (It (KC (run_seq (qN rfl (qV ((by first|exact KJ X5 rfl rfl dW rfl|exact KJ X5 rfl rfl cW rfl)) ?_)))))))))
 refine L2 [.tmp 15] zbl rfl (SX w4 m) ?_
 rintro _ w5 ⟨bm,rfl,jM,lO,aR⟩
 have bz:=(((ad.trans af).trans ah).trans aB).trans aR
 have pZ:=h.ext bz
 have lm:=jM.lt
 have lmm:=h.ltm
 have lmg:=h.ltg
 have z5:=aR.size
 refine py (KB (Ox (ps:=[17]) (p:=[]) (q:=[_]) rfl zb8 ?_))
 rintro l wl eU eM cn hD Rc cY eD
 have Cl:=z5H cY eD
 have zl:=eU.size
 have vw:=aR.trans eU
 refine Le.mono (T6 (pZ.ext eU) hp (by omega) (eU.KD jM)
  (fun w'=>Rc .done (some .ret) w'∧KP w' b4 [I (a:Int),I (n:Int)] 97∧KP w' b5 [I 0] 35∧Ta w' m gi (MV L a n true)∧Kp (fun k=>k=l∨k=b4∨k=b5∨k=gi) wl w')
  (fun w w' h hx=>⟨hx.kp.rc (S:=fun _=>False) cY h.1 id,hx.KD h.2.1,hx.KD h.2.2.1,h.2.2.2.1.ext hx,h.2.2.2.2.trans hx.kp⟩) ?_) ?_
 ·intro w6 aK;have ig:=Kp.rc (S:=fun _=>False) aK cY eD id;have z6:=aK.size;refine PB cY ig rfl rfl (KF rfl (KL rfl rfl (MN (cs:=[_,_]) NL rfl) ?_));rintro _ w7 ⟨b6,rfl,nD,bL,aW⟩;refine KR rfl (Lo (news:=[I (a:Int),I ((L.length-a:Nat):Int)]) NL rfl rfl rfl rfl aW (by simp)) ?_;rintro w8 ⟨i5,bj⟩;replace i5:KP w8 b6 [I (a:Int),I ((L.length-a:Nat):Int)] 97:=i5;have gX:Ext w6 w8:=bL.Kz bj (fun j e=>by omega);have Cn:=Kp.rc (S:=fun _=>False) gX cY ig id;have z8:=gX.size;have l6:=i5.lt;refine py (run_beginRound rfl cY Cn ?_);rintro w9 h9 aJ;have oZ:=(vw.trans aK).trans gX;have lq:=aJ.KD (oZ.KD cW) (by omega);have jH:=aJ.KD (oZ.KD dW) (by omega);have i6:=aJ.KD i5 (by omega);have HZ:=((((pZ.ext eU).ext aK).ext gX).kp aJ (by omega) (by omega));refine KB (qN rfl (qV (KK O0 rfl) (qV ((by first|exact KJ U3 rfl rfl lq rfl|exact KJ U3 rfl rfl jH rfl|exact KJ U3 rfl rfl i6 rfl)) ?_)));refine qV ((by first|exact KJ U3 rfl rfl lq rfl|exact KJ U3 rfl rfl jH rfl|exact KJ U3 rfl rfl i6 rfl)) ?_;refine qV (OL rfl rfl) (MC (py (KS rfl (qN rfl (qV ((by first|exact KJ U3 rfl rfl lq rfl|exact KJ U3 rfl rfl jH rfl|exact KJ U3 rfl rfl i6 rfl)) ?_)))));refine qV (KK O0 rfl) (KR rfl (Mn LC rfl rfl rfl i6 (by simp)) ?_);rintro w10 ⟨gF,au⟩;replace gF:KP w10 b6 [I (a:Int),I (n:Int)] 97:=gF;have mQ:=au.KD jH (by omega);have Co:=HZ.kp au (by omega) (by omega);have fg:=Kp.rc au cY h9 (by omega);refine qM rfl (qV (KJ X5 rfl rfl mQ rfl) (qV (La (news:=[I (a:Int),I (n:Int)]) U97 rfl NL rfl (KP.cells (n:=2) gF rfl) rfl) (L2 [.tmp 24,.tmp 25,.const (Value.int .u8 1)] z9D rfl (z3k Co a n true nY) ?_)));rintro _ w11 ⟨rfl,Cp,aM⟩;have wR:=aM.KD gF (by omega);have wS:=aM.KD (au.KD (aJ.KD (oZ.KD cg) (by omega)) (by omega)) (by omega);have wT:=aM.KD (au.KD (aJ.KD (oZ.KD aG) (by omega)) (by omega)) (by omega);have m4:=Kp.rc aM cY fg (by omega);refine py (Lc.qb (e:=[(4,_),(5,_),(6,_)]) ?_);refine qN rfl (qV (La (news:=[I (a:Int),I (n:Int)]) U97 rfl NL rfl (KP.cells (n:=2) wR rfl) rfl) (KR rfl (Lo (news:=[I (a:Int),I (n:Int)]) NL rfl rfl rfl rfl wS (by simp)) ?_));rintro w12 ⟨wU,aU⟩;refine KR rfl (Mn z3x rfl rfl rfl (aU.KD wT (by omega)) (by simp)) ?_;rintro w13 ⟨wV,ck⟩;have Cq:=Kp.rc ck cY (Kp.rc aU cY m4 (by omega)) (by omega);refine py ?_
  -- AT: Code.ret
  refine SI cY Cq ?_;intro w14 I0 p5
  exact .inr ⟨rfl,I0,p5.KD (ck.KD wU (by omega)) (by omega),p5.KD wV (by omega),((Cp.kp aU (by omega) (by omega)).kp ck (by omega) (by omega)).kp p5 (by omega) (by omega),
   (((((((aK.kp.trans gX.kp).trans (aJ.KT fun k e=>by omega)).Kz au (fun k e=>by omega)).trans (aM.KT fun k e=>by omega)).trans (aU.KT fun k e=>by omega)).trans (ck.KT fun k e=>by omega)).trans (p5.KT fun k e=>by omega))⟩
 ·rintro v wz ⟨rfl,ig,Cr,Cs,I1,gt⟩;refine⟨_,_,ig,by simp,fun wy ij=>?_⟩;have zz:=gt.size;have zy:=ij.size;have Ct:=ij.KD Cr (by omega);have Cu:=ij.KD Cs (by omega);have wQ:=ij.heap (gt.heap hD (by omega)) (by omega);have cS:=M6 wy w5.heap.size (.deferred none);have I2:=cS.KD Ct (by omega);have I3:=cS.KD Cu (by omega);refine Rq (by simp) (Uq wQ) Tryz.func72 (.cell U97 rfl NL rfl (KP.cells (n:=2) I2 (news:=[_,_]) rfl) rfl (.cell1 U35 rfl rfl ((I3).cell _) .nil)) ?_;have Cv:Kp (fun k=>k=gi) w (Of [.mk w5.heap.size] wy):=((((bz.kp.trans eU.kp).Kz gt (fun k e=>by omega)).Kz ij (fun k e=>by omega)).Kz cS (fun k e=>by omega));exact⟨_,rfl,rfl,(I1.kp ij (by omega) (by omega)).kp cS (by omega) (by omega),Cv⟩
end
section
variable {w w':World}{m gi a:Nat}{L:List Bool}{S:Nat→Prop}
end

structure Dev where
 due:Int
 Nt:List Int
 z5O:Int
 mask:UInt8
 B:Nat
 N:Nat
 sf:Int→Option Bytes
 cache:List (Int×Bytes)
 down:Bool
 calls:Int
 reads:Int

def zeros (n:Nat):Bytes:=List.replicate n 0
def Dev.kept (D:Dev)(n:Int):Bytes:=(D.sf n).getD (zeros (512*D.N))
def Ua (l:List (Int×Bytes))(n:Int):Option Bytes:=(l.reverse.find? fun x=>x.1==n).map (·.2)
def Dev.now (D:Dev)(n:Int):Bytes:=(Ua D.cache n).getD (D.kept n)
def Dev.has (D:Dev)(n:Int):Bool:=decide (0≤n∧n<(D.B:Int))

def Dev.count (D:Dev):Dev:={D with calls:=D.calls+1,due:=if D.due=0 then 0 else D.due-1}

structure Dev.Ok (D:Dev):Prop where
 hB:16≤D.B∧D.B≤4096
 hN:1≤D.N∧D.N≤8
 due:0≤D.due∧D.due≤9223372036854775807
 sf:∀n s,D.sf n=some s→0≤n∧n<(D.B:Int)∧s.length=512*D.N
 cache:∀x∈D.cache,0≤x.1∧x.1<(D.B:Int)∧x.2.length=512*D.N
 len:0≤D.calls
 reads:True

def Dev.Bd (D:Dev):Prop:=D.calls<1000000000000∧D.cache.length<1000000000000∧True

def wr (x:Int×Bytes):List Value:=[I x.1,S x.2]
def wrs (l:List (Int×Bytes)):List Value:=l.flatMap wr
@[simp] theorem wrs_length (l:List (Int×Bytes)):(wrs l).length=l.length*2:=by
 induction l with
 |nil=>rfl
 |cons x r ih=>simp[wrs,wr,List.flatMap_cons] at ih⊢;omega

def Sq (kp ca:Value)(m:Nat)(D:Dev):List Value:=[I D.due,kp,I D.z5O,Od D.mask,I (D.B:Int),I (D.N:Int),.map (some m),ca,.bool D.down,I D.calls,I D.reads]

@[simp] theorem devCs_length (kp ca:Value) (m:Nat) (D:Dev):(Sq kp ca m D).length=11:=rfl

abbrev KI:Int→Value:=fun z=> .int .i64 z

structure MS (w:World)(p m:Nat)(kp ca:Value)(D:Dev):Prop where
 KD:KP w p (Sq kp ca m D) 107
 map:∃kv,QJ KI w m kv∧∀n,getL kv n=(D.sf n).map S
 cache:Sl w ca 308 2 D.cache.length (wrs D.cache)
 Nt:Sl w kp 3 1 D.Nt.length (D.Nt.map I)
 ok:D.Ok

def fpD (p m:Nat)(kp ca:Value):Nat→Prop:=fun k=>k=p∨k=m∨ca.ownBlock=some k∨kp.ownBlock=some k

def QC (w:World)(p:Nat)(D:Dev)(F:Nat→Prop):Prop:=∃m kp ca,MS w p m kp ca D∧∀k,F k↔fpD p m kp ca k

def Upd (F F':Nat→Prop)(w w':World):Prop:=Kp F w w'∧∀k,F' k→F k∨w.heap.size≤k
theorem Upd.trans {F F' F'':Nat→Prop}{a b c:World}(h:Upd F F' a b)(k:Upd F' F'' b c):Upd F F'' a c:=
 ⟨h.1.Kz k.1 fun i hi=>(h.2 i hi).symm,fun i hi=>by
  rcases k.2 i hi with h'|h'
  ·exact h.2 i h'
  ·exact .inr (Nat.le_trans h.1.size h')⟩
theorem Ext.VX {F:Nat→Prop}{w w':World}(h:Ext w w'):Upd F F w w':=⟨h.kp,fun _ h=> .inl h⟩

theorem MS.pm {w:World}{p m:Nat}{kp ca:Value}{D:Dev}(h:MS w p m kp ca D):¬p=m:=fun e=>by
 obtain⟨kv,⟨⟨es,c,hh,-⟩,-⟩,-⟩:=h.map
 obtain⟨fz,hb,-⟩:=h.KD
 rw[e] at hb;rw[hb] at hh;cases hh
theorem O2 {w:World}{v:Value}{e size n:Nat}{cs:List Value}{b:Nat}(h:Sl w v e size n cs)(hb:v.ownBlock=some b):∃xs fz,w.heap[b]? =some (.cells xs e fz):=by
 rcases h.2 with⟨hz,-⟩|⟨g,cap,cur,hv,-,hg,-⟩
 ·rw[hz] at hb;cases hb
 ·rw[hv] at hb;cases hb;exact⟨_,_,hg⟩
theorem MS.kp {S:Nat→Prop}{w w':World}{p m:Nat}{kp ca:Value}{D:Dev}(h:MS w p m kp ca D)(k:Kp S w w')(hn:∀i,fpD p m kp ca i→¬S i):MS w' p m kp ca D:=
 ⟨k.KD h.KD (hn p (.inl rfl)),let ⟨kv,h1,h2⟩:=h.map;⟨kv,k.map h1 (hn m (.inr (.inl rfl))),h2⟩,h.cache.kp k fun g hg=>hn g (.inr (.inr (.inl hg))),h.Nt.kp k fun g hg=>hn g (.inr (.inr (.inr hg))),h.ok⟩
theorem MS.ext {w w':World}{p m:Nat}{kp ca:Value}{D:Dev}(h:MS w p m kp ca D)(k:Ext w w'):MS w' p m kp ca D:=h.kp k fun _ _=>id
theorem Dev.Ok.count {D:Dev}(h:D.Ok):D.count.Ok:=by
 have:=h.due
 have:=h.len
 refine⟨h.hB,h.hN,?_,h.sf,h.cache,?_,h.reads⟩
 ·simp only[Dev.count];split<;>omega
 ·simp only[Dev.count];omega
theorem MS.turn {w w':World}{p m:Nat}{kp ca:Value}{D D':Dev}(h:MS w p m kp ca D)(hb:KP w' p (Sq kp ca m D') 107)(k:Kp (fun i=>i=p) w w')(h1:D'.sf=D.sf)(h2:D'.cache=D.cache)(h3:D'.Nt=D.Nt)(h4:D'.N=D.N)(aw:D'.Ok):MS w' p m kp ca D':=by
 obtain⟨fz,hp,-⟩:=h.KD
 refine⟨hb,let ⟨kv,hm,hs⟩:=h.map;⟨kv,k.map hm fun e=>h.pm e.symm,by rw[h1];exact hs⟩,?_,?_,aw⟩
 ·rw[h2];refine h.cache.kp k fun g hg p8=>?_;obtain⟨xs,fz',hx⟩:=O2 h.cache hg;rw[p8,hp] at hx;cases hx
 ·rw[h3];refine h.Nt.kp k fun g hg p8=>?_;obtain⟨xs,fz',hx⟩:=O2 h.Nt hg;rw[p8,hp] at hx;cases hx
def VX (f:Int→Option Bytes)(n:Int)(s:Bytes):Int→Option Bytes:=fun x=>if x=n then some s else f x
def z2h (c:Bytes)(i:Nat)(x:Bytes):Bytes:=c.take i++x++c.drop (i+x.length)
def mixN (mask:UInt8)(a b:Bytes):Nat→Bytes
 |0=>a
 |s+1=>if mask.toNat / 2^s%2=1 then z2h (mixN mask a b s) (512*s) ((b.drop (512*s)).take 512) else mixN mask a b s
theorem Zv (c x:Bytes)(i:Nat)(h:i+x.length≤c.length):(z2h c i x).length=c.length:=by
 simp[z2h];omega
theorem QH (mask:UInt8)(a b:Bytes)(N:Nat)(ha:a.length=512*N)(hb:b.length=512*N):∀s,s≤N→(mixN mask a b s).length=512*N
 |0,_=>ha
 | s + 1, h => by
   have ih:=QH mask a b N ha hb s (by omega);simp only[mixN];split
   ·rw[Zv _ _ _ (by simp[ih];omega),ih]
   ·exact ih
def Dev.fallTo (D:Dev)(l:List Int)(tn:Int)(mk:UInt8):Nat→(Int→Option Bytes)
 |0=>D.sf
 | i + 1 => match D.cache[i]? with
   |none=>D.fallTo l tn mk i
   | some x => if (i : Int) = tn then VX (D.fallTo l tn mk i) x.1 (mixN mk (((D.fallTo l tn mk i) x.1).getD (zeros (512 * D.N))) x.2 D.N)
     else if(i:Int)∈l then VX (D.fallTo l tn mk i) x.1 x.2 else D.fallTo l tn mk i
def Dev.z4R (D:Dev)(l:List Int)(tn:Int)(mk:UInt8):Dev:=
 {D with sf:=D.fallTo l tn mk D.cache.length,cache:=[],due:=0,Nt:=[],z5O:=0,mask:=0,down:=true}

theorem Dev.Ok.put {D:Dev}(h:D.Ok){n:Int}{s:Bytes}(hn:0≤n∧n<(D.B:Int))(hs:s.length=512*D.N):Dev.Ok {D with sf:=VX D.sf n s}:=
 ⟨h.hB,h.hN,h.due,fun x t hx=>by
  simp only[VX] at hx;split at hx
  ·rename_i e
   cases hx;exact⟨by omega,by rw[e];exact hn.2,hs⟩
  ·exact h.sf x t hx,h.cache,h.len,h.reads⟩
theorem Dev.Ok.kept {D:Dev}(h:D.Ok)(n:Int):(D.kept n).length=512*D.N:=by
 unfold Dev.kept
 cases hs:D.sf n with
 |none=>simp[zeros]
 |some s=>exact(h.sf n s hs).2.2

theorem MS.put {w w':World}{p m:Nat}{kp ca:Value}{D:Dev}{kv:List (Int×Value)}{n:Int}{s:Bytes}(h:MS w p m kp ca D)(hs:∀n,getL kv n=(D.sf n).map S)(hm:QJ KI w' m (putL kv n (S s)))(k:Kp (fun i=>i=m) w w')
  (aw:Dev.Ok {D with sf:=VX D.sf n s}):MS w' p m kp ca {D with sf:=VX D.sf n s}:=by
 obtain⟨kv0,⟨⟨es,c,hh,-⟩,-⟩,-⟩:=h.map
 refine⟨k.KD h.KD h.pm,⟨_,hm,fun x=>?_⟩,?_,?_,aw⟩
 ·rw[z57,hs x];simp only[VX];split<;>rfl
 ·refine h.cache.kp k fun g hg p8=>?_;obtain⟨xs,fz',hx⟩:=O2 h.cache hg;rw[p8,hh] at hx;cases hx
 ·refine h.Nt.kp k fun g hg p8=>?_;obtain⟨xs,fz',hx⟩:=O2 h.Nt hg;rw[p8,hh] at hx;cases hx
theorem Rd.kpm {w w':World}{v:Value}{size n m:Nat}{cs:List Value}{kv:List (Int×Value)}(h:Rd w v size n cs)(hm:QJ KI w m kv)(k:Kp (fun i=>i=m) w w'):Rd w' v size n cs:=by
 obtain⟨h1,h2⟩:=h
 refine⟨h1,h2.imp id fun⟨b,off,cap,hv,hc⟩=>⟨b,off,cap,hv,fun j u hj=>?_⟩⟩
 have yS:=hc j u hj
 obtain⟨⟨es,c,hh,-⟩,-⟩:=hm
 have bE:¬b=m:=fun e=>by
  rw[e] at yS;simp[World.cell?,hh] at yS
 have aQ:b<w.heap.size:=by
  rcases Nat.lt_or_ge b w.heap.size with h'|h'
  ·exact h'
  ·simp[World.cell?,Array.getElem?_eq_none h'] at yS
 rw[←yS]
 simp only[World.cell?,k.block b aQ bE]
theorem MS.zbF {w:World}{p m:Nat}{kp ca:Value}{D:Dev}(h:MS w p m kp ca D){g:Nat}(hg:ca.ownBlock=some g):¬g=p∧¬g=m∧¬kp.ownBlock=some g:=by
 obtain⟨xs,fz',hx⟩:=O2 h.cache hg
 refine⟨fun e=>?_,fun e=>?_,fun e=>?_⟩
 ·obtain⟨fz,hb,-⟩:=h.KD;rw[e,hb] at hx;cases hx
 ·obtain⟨kv,⟨⟨es,c,hh,-⟩,-⟩,-⟩:=h.map;rw[e,hh] at hx;cases hx
 ·obtain⟨ys,fy,hy⟩:=O2 h.Nt e;rw[hx] at hy;cases hy
theorem MS.zb1 {w:World}{p m:Nat}{kp ca:Value}{D:Dev}(h:MS w p m kp ca D){g:Nat}(hg:kp.ownBlock=some g):¬g=p∧¬g=m∧¬ca.ownBlock=some g:=by
 obtain⟨xs,fz',hx⟩:=O2 h.Nt hg
 refine⟨fun e=>?_,fun e=>?_,fun e=>?_⟩
 ·obtain⟨fz,hb,-⟩:=h.KD;rw[e,hb] at hx;cases hx
 ·obtain⟨kv,⟨⟨es,c,hh,-⟩,-⟩,-⟩:=h.map;rw[e,hh] at hx;cases hx
 ·obtain⟨ys,fy,hy⟩:=O2 h.cache e;rw[hx] at hy;cases hy
theorem MS.lt {w:World}{p m:Nat}{kp ca:Value}{D:Dev}(h:MS w p m kp ca D):∀k,fpD p m kp ca k→k<w.heap.size:=by
 intro k hk
 rcases hk with rfl|rfl|hc|hc
 ·exact h.KD.lt
 ·obtain⟨kv,hm,-⟩:=h.map;exact hm.lt
 ·exact h.cache.lt hc
 ·exact h.Nt.lt hc
theorem QC.kp {S F:Nat→Prop}{w w':World}{p:Nat}{D:Dev}(h:QC w p D F)(k:Kp S w w')(hn:∀i,F i→¬S i):QC w' p D F:=by
 obtain⟨m,kp,ca,h1,h2⟩:=h
 exact⟨m,kp,ca,h1.kp k fun i hi=>hn i ((h2 i).2 hi),h2⟩
theorem QC.ext {F:Nat→Prop}{w w':World}{p:Nat}{D:Dev}(h:QC w p D F)(k:Ext w w'):QC w' p D F:=h.kp k fun _ _=>id
theorem QC.lt {F:Nat→Prop}{w:World}{p:Nat}{D:Dev}(h:QC w p D F):∀k,F k→k<w.heap.size:=by
 obtain⟨m,kp,ca,h1,h2⟩:=h
 intro k hk
 rcases (h2 k).1 hk with rfl|rfl|hc|hc
 ·exact h1.KD.lt
 ·obtain⟨kv,hm,-⟩:=h1.map;exact hm.lt
 ·exact h1.cache.lt hc
 ·exact h1.Nt.lt hc

theorem TW (n:Nat):((List.replicate n (Value.int .u8 0)).drop 0).take n=(zeros n).map Od:=by
 simp[zeros,Od]

section
variable {w:World}{p m:Nat}{kp ca:Value}{D:Dev}

theorem z0I (h:MS w p m kp ca D):Le Tryz.prog 110 [ptr p 0] w fun v w'=>v=I (D.B:Int)∧w'=w:=by
 have hM:=h.KD
 refine KA (e:=[(0,_)]) Tryz.func110 rfl Tryz.ntmps110 rfl rfl (qN rfl (KE rfl (py (run_seq (qN rfl (An rfl (qV (LO U26 rfl rfl) (py (Kx rfl (It (qN rfl (An rfl (qV (KZ rfl) ?_)))))))))))))
 refine qV (KK UA rfl) (qV (KK Tg rfl) (qV (KJ U3 rfl rfl hM rfl) (KE rfl (py (KG Tryz.func110 rfl ?_)))))
 exact⟨_,rfl,rfl,rfl⟩

theorem VH (h:MS w p m kp ca D):Le Tryz.prog 71 [ptr p 0] w fun v w'=>v=I ((512*D.N:Nat):Int)∧w'=w:=by
 have hM:=h.KD
 have hN:=h.ok.hN
 refine KA (e:=[(0,_)]) Tryz.func71 rfl Tryz.ntmps71 rfl rfl (qN rfl (KE rfl (py (run_seq (qN rfl (An rfl (qV (LO U26 rfl rfl) (py (Kx rfl (It (qN rfl (An rfl (qV (KZ rfl) ?_)))))))))))))
 refine qV (KK UA rfl) (qV (KK TF rfl) (qV (KJ U3 rfl rfl hM rfl) (qV (SD rfl rfl (by omega)) (KE rfl (py (KG Tryz.func71 rfl (⟨_,rfl,?_,rfl⟩)))))))
 show I _=I _
 congr 1;omega

theorem Wv (h:MS w p m kp ca D):Le Tryz.prog 163 [ptr p 0] w fun v w'=>v=I (if D.down then 8 else 0)∧w'=w:=by
 have hM:=h.KD
 refine KA (e:=[(0,_)]) Tryz.func163 rfl Tryz.ntmps163 rfl rfl (qN rfl (KE rfl (py (run_seq (KB (qN rfl (An rfl (qV (LO U26 rfl rfl) (KE rfl (py (Kx rfl (qN rfl (An rfl ?_)))))))))))))
 refine qV (KZ rfl) (qV (KK XE rfl) (qV (KJ U4 rfl rfl hM rfl) (KE rfl (py (LF rfl (fun hd=>?_) (fun hd=>?_))))))
 ·refine qN rfl (KE rfl (py (KG Tryz.func163 rfl ?_)));exact⟨_,rfl,by simp[hd,resVal],rfl⟩
 ·refine It (KC (qN rfl (KE rfl (py (KG Tryz.func163 rfl ?_)))));exact⟨_,rfl,by simp[hd,resVal],rfl⟩

theorem z1x (n:Int)(h:MS w p m kp ca D):Le Tryz.prog 164 [ptr p 0,I n] w fun v w'=>v= .bool (D.has n)∧w'=w:=by
 have hM:=h.KD
 refine KA (e:=[(0,_),(1,_)]) Tryz.func164 rfl Tryz.ntmps164 rfl rfl (qN rfl (KE rfl (qM rfl (An rfl (qV (OL rfl rfl) (Ng (fun h1=>?_) (fun h1=>?_)))))))
 ·refine An rfl (An rfl (An rfl (qV (KZ rfl) (qV (KK UA rfl) (qV (KK Tg rfl) (qV (KJ U3 rfl rfl hM rfl) (qV (LW rfl rfl) (qV (LK rfl rfl) (KE rfl (py (KG Tryz.func164 rfl (⟨_,rfl,?_,rfl⟩))))))))))));simp[Dev.has,h1,resVal]
 ·refine An rfl (qS (qS (qS (qS (qS (qS (qS (qV (Lk rfl rfl) (KE rfl (py (KG Tryz.func164 rfl (⟨_,rfl,?_,rfl⟩))))))))))));simp[Dev.has,h1,resVal]

theorem YL (n:Int)(h:MS w p m kp ca D):Le Tryz.prog 188 [ptr p 0,I n] w fun v w'=>v=S (D.kept n)∧Ext w w':=by
 have hM:=h.KD
 have hN:=h.ok.hN
 have eJ:maxLen=9223372036854775807:=rfl
 obtain⟨kv,mR,mc⟩:=h.map
 refine KA (e:=[(0,_),(1,_)]) Tryz.func188 rfl Tryz.ntmps188 rfl rfl (qN rfl (KE rfl (py (run_seq (qN rfl (An rfl (qV (KZ rfl) (qV (KK Xd rfl) (qV (KJ Zq rfl rfl hM rfl) (An rfl (qV (zd9 (k:=n) (K:=KI) Zq (Ol U3) WH rfl rfl mR) ?_)))))))))))
 rw[mc n]
 cases hs:D.sf n with
 | some s =>
   refine An rfl (qV (Ll rfl rfl) (qV (Ll rfl rfl) (KE rfl (KE rfl (qM rfl (An rfl (py (KS rfl (qN rfl (An rfl (KE rfl (py (KG Tryz.func188 rfl ?_)))))))))))))
   exact⟨_,rfl,by simp[Dev.kept,hs,resVal],Ext.refl w⟩
 | none =>
   refine An rfl (qV (Ll rfl rfl) (qV (Ll rfl rfl) (KE rfl (KE rfl (qM rfl (An rfl (py (Kx rfl (It (qN rfl (An rfl (L2 [.tmp 18] z84 rfl (VH h) ?_))))))))))));rintro _ w1 ⟨rfl,rfl⟩;refine KL rfl rfl (pmk (c:=512*D.N) (n:=512*D.N) LU Sf rfl rfl rfl (by omega) (by omega) (by omega)) ?_;rintro _ w1 ⟨b1,rfl,⟨bT,ad,ai⟩,-⟩;refine qV (z2g (l:=zeros (512*D.N)) LU U5 U9 rfl ai (TW _) (by simp[zeros])) ?_;refine KE rfl (py (KG Tryz.func188 rfl ?_));exact⟨_,rfl,by simp[Dev.kept,hs,resVal],ad⟩

theorem Za (h:MS w p m kp ca D)(hc:D.calls<1000000000000):Le Tryz.prog 185 [ptr p 0] w fun v w'=>v= .bool (decide (D.due=1))∧MS w' p m kp ca D.count∧Kp (fun k=>k=p) w w':=by
 have hM:=h.KD
 have p9:=h.ok.due
 have aD:=h.ok.len
 refine KA (e:=[(0,_)]) Tryz.func185 rfl Tryz.ntmps185 rfl rfl (qN rfl (KE rfl (qM rfl (An rfl (qV (KZ rfl) (qV (KK z1N rfl) (qV (KJ U3 rfl rfl hM rfl) (Lz rfl rfl (qV (KZ rfl) (qV (KK z1N rfl) (KR rfl (Mn LC rfl rfl rfl hM (by simp)) ?_)))))))))))
 rintro w1 ⟨dr,aN⟩
 refine py (run_seq (qN rfl (An rfl (qV (KZ rfl) (qV (KK Rs rfl) (qV (KK UB rfl) (qV (KJ U3 rfl rfl dr rfl) (qV (Mc rfl rfl) (py (KQ rfl (fun h0=>?_) (fun h0=>?_)))))))))))
 ·refine qN rfl (KE rfl (py (KG Tryz.func185 rfl ?_)));have e0:(Sq kp ca m D).set (0+9) (I (D.calls+1))=Sq kp ca m D.count:=by simp[Sq,Dev.count,h0]
  rw[e0] at dr;exact⟨_,rfl,by simp[resVal];omega,h.turn dr aN rfl rfl rfl rfl h.ok.count,aN⟩
 ·refine It (qN rfl (An rfl (qV (KZ rfl) (qV (KK Rs rfl) (qV (KK UB rfl) (qV (KJ U3 rfl rfl dr rfl) (qV (M8 rfl rfl (by omega)) (qV (KZ rfl) (qV (KK Rs rfl) (qV (KK UB rfl) (KR rfl (Mn LC rfl rfl rfl dr (by simp)) ?_)))))))))));rintro w2 ⟨lP,am⟩;refine qM rfl (An rfl (qV (KZ rfl) (qV (KK Rs rfl) (qV (KK UB rfl) (qV (KJ U3 rfl rfl lP rfl) (qV (Mc rfl rfl) (KE rfl (py (Lc.qb (e:=[(2,_)]) ?_)))))))));refine KG Tryz.func185 rfl ?_;have e0:((Sq kp ca m D).set (0+9) (I (D.calls+1))).set (0+0+0) (I (D.due-1))=Sq kp ca m D.count:=by simp[Sq,Dev.count,h0]
  rw[e0] at lP;exact⟨_,rfl,by simp[resVal];omega,h.turn lP (aN.trans am) rfl rfl rfl rfl h.ok.count,aN.trans am⟩
end

theorem z1E (xs:List (Int×Bytes))(j:Nat)(h:j<xs.length):((wrs xs).drop (j*2)).take 2=wr xs[j]:=by
 induction xs generalizing j with
 |nil=>simp at h
 | cons x r ih =>
   cases j with
   |zero=>simp[wrs,wr,List.flatMap_cons]
   | succ j =>
     have e:(wrs (x::r))=I x.1::S x.2::wrs r:=by simp[wrs,wr,List.flatMap_cons]
     rw[e,show(j+1)*2=(j*2)+1+1 by omega]
     simpa using ih j (by simpa using h)

theorem VP (a:Option Addr)(n cap:Nat)(w:World):Le Tryz.prog 187 [.slice a n cap] w fun v w'=>∃b,v= .func (.func 204) #[] #[ptr b 0]∧Ul w b [.slice a n cap] 105 w':=by
 refine KA (e:=[(0,_)]) Tryz.func187 rfl Tryz.ntmps187 rfl rfl (qN rfl (KL rfl rfl (Mz rfl rfl) ?_))
 rintro _ w1 ⟨b1,rfl,hN⟩
 refine KE rfl (qM rfl (qV (Zw (first:=[]) (caps:=[.tmp 1]) rfl rfl) (KE rfl (py (KG Tryz.func187 rfl ?_)))))
 exact⟨_,rfl,_,rfl,hN⟩

theorem XA (l bx:Nat)(ca:Value)(xs:List (Int×Bytes))(J:Nat→World→Prop)(Jx:World→Prop)(w:World)(hn:xs.length<4611686018427387904)
  (hJ:∀i w,J i w→(∃T,KP w bx [ca] T)∧Sl w ca 308 2 xs.length (wrs xs))
  (hround:∀i w x,xs.reverse[i]? =some x→J i w→WW Tryz.prog l [I ((xs.length:Int)-1-i),.agg (wr x).toArray] w fun v w'=>(v= .bool true∧J (i+1) w')∨(v= .bool false∧Jx w')) (h0:J 0 w):
  Le Tryz.prog 204 [.func (.yield l) #[] #[],ptr bx 0] w fun v w'=>v= .tuple #[]∧(J xs.length w'∨Jx w'):=by
 obtain⟨⟨T,hM⟩,hS⟩:=hJ 0 w h0
 obtain⟨a,cap,rfl,ha⟩:=hS.rd.shape
 refine KA (e:=[(0,_),(1,_)]) Tryz.func204 rfl Tryz.ntmps204 rfl rfl (qN rfl (qV (KJ V7 rfl rfl hM rfl) (qV (LG V7 rfl) (qV (M8 rfl rfl (by omega)) (KE rfl (py (KB ?_)))))))
 rw[show(xs.length:Int)-1=(xs.length:Int)-1-((0:Nat):Int) by omega]
 refine MQ (α:=Nat) (0) (fun i=>[(0,.func (.yield l) #[] #[]),(1,ptr bx 0),(3,I ((xs.length:Int)-1-i))]) (fun i w=>i≤xs.length∧J i w) (fun i=>xs.length-i) ?hI ?hround
 case hI=>exact⟨by omega,h0⟩
 case hround=>
  rintro i w1 ⟨hi,hj⟩ ih
  try dsimp only
  obtain⟨⟨T1,dr⟩,j7⟩:=hJ i w1 hj;refine run_seq (qN rfl (An rfl (qV (OL rfl rfl) (py (KQ rfl (fun je=>?_) (fun je=>?_))))))
  ·have aQ:i<xs.length:=by omega
   have yQ:=j7.shape;rcases yQ with⟨-,h⟩|⟨gb,cap',kw,jd⟩
   ·omega
   cases kw;obtain⟨x,hx⟩:∃x,xs.reverse[i]? =some x:=⟨_,List.getElem?_eq_getElem (by simpa using aQ)⟩
   have fT:((wrs xs).drop ((xs.length-1-i)*2)).take 2=wr x:=by
    rw[z1E xs _ (by omega)]
    congr 1
    rw[List.getElem?_reverse aQ,List.getElem?_eq_getElem (by omega)] at hx;exact MA hx
   have hz:((xs.length:Int)-1-i)=((xs.length-1-i:Nat):Int):=by omega
   have hy:=hround i w1 x hx hj;rw[hz] at hy⊢;refine It (run_seq (KB (qN rfl (An rfl (An rfl (qV (KJ V7 rfl rfl dr rfl) (An rfl (qV (Lt V7 R0 rfl rfl (by omega)) (qV (La zb4 rfl R0 rfl (j7.part fT) rfl) (z0A rfl rfl (yy (args:=[.tmp 12,.tmp 16]) rfl rfl) (hy) ?_))))))))));rintro v w2 hv;rcases hv with⟨rfl,jT⟩|⟨rfl,af⟩
   ·refine qV ((by first|exact LP rfl|exact Nq rfl)) ?_;refine py (Kx rfl (It (KC (KF rfl (An rfl (qV (M8 rfl rfl (by omega)) (KE rfl (py ?_))))))));rw[show((xs.length-1-i:Nat):Int)-1=(xs.length:Int)-1-((i+1:Nat):Int) by omega];exact(ih (i+1) w2 ⟨by omega,jT⟩ (by omega)).qb
   ·refine qV ((by first|exact LP rfl|exact Nq rfl)) ?_;refine py (KS rfl (KG Tryz.func204 rfl ?_));exact⟨_,rfl,rfl,.inr af⟩
  ·refine KO rfl (LZ Tryz.func204 rfl ?_);have:i=xs.length:=by omega
   subst this;exact⟨_,rfl,rfl,.inl hj⟩

theorem z0J (xs:List (Int×Bytes))(n:Int)(i:Nat):(∀j x,j<i→xs.reverse[j]? =some x→x.1≠n)→∀x,xs.reverse[i]? =some x→x.1=n→Ua xs n=some x.2:=by
 intro fM x hx he
 have aQ:i<xs.reverse.length:=by
  rcases Nat.lt_or_ge i xs.reverse.length with h| h
  ·exact h
  ·rw[List.getElem?_eq_none h] at hx;cases hx
 have:xs.reverse.find? (fun x=>x.1==n)=some x:=by
  rw[List.find?_eq_some_iff_getElem];refine⟨by simp[he],i,aQ,?_,fun j hj=>?_⟩
  ·rw[List.getElem?_eq_getElem aQ] at hx;exact MA hx
  ·have:=fM j _ hj (List.getElem?_eq_getElem (by omega))
   simpa using this
 simp[Ua,this]
theorem z0G (xs:List (Int×Bytes))(n:Int):(∀j x,j<xs.length→xs.reverse[j]? =some x→x.1≠n)→Ua xs n=none:=by
 intro fM
 have:xs.reverse.find? (fun x=>x.1==n)=none:=by
  rw[List.find?_eq_none];intro x hx;obtain⟨j,hj,rfl⟩:=List.getElem_of_mem hx;have:=fM j _ (by simpa using hj) (List.getElem?_eq_getElem hj)
  simpa using this
 simp[Ua,this]

theorem z6F {w:World}{p m:Nat}{kp ca:Value}{D:Dev}(n:Int)(h:MS w p m kp ca D)(hc:D.cache.length<1000000000000):
  Le Tryz.prog 165 [ptr p 0,I n] w fun v w'=>v=S (D.now n)∧Ext w w':=by
 have hM:=h.KD
 have aD:=h.ok.len
 have eK:=hc
 obtain⟨a,cap,rfl,ha⟩:=h.cache.rd.shape
 refine KA (e:=[(0,_),(1,_)]) Tryz.func165 rfl Tryz.ntmps165 rfl rfl (qN rfl (KL rfl rfl (Mz rfl rfl) ?_))
 rintro _ w1 ⟨b3,rfl,eL,ad,ar⟩
 refine KL rfl rfl (MN (cs:=[_]) WH rfl) ?_
 rintro _ w2 ⟨b4,rfl,gA,af,aI⟩
 replace h:=(h.ext ad).ext af
 have lP:=h.KD
 refine py (run_seq (qN rfl (An rfl (qV (KZ rfl) (qV (KK SC rfl) (qV (KJ V7 rfl rfl lP rfl) (L2 [.tmp 10] zb6 rfl (VP a D.cache.length cap _) ?_)))))))
 rintro _ w3 ⟨bx,rfl,eX,ah,fX⟩
 replace h:=h.ext ah
 replace ar:=ah.KD (af.KD ar)
 replace aI:=ah.KD aI
 refine py (KB (Ox (ps:=[12,13]) (p:=[]) (q:=[_]) rfl zbd ?_))
 rintro l w4 aB hl cn hD Rc cY eD
 have K8:=z5H cY eD
 have h3:=h
 replace h:=h.ext aB
 replace ar:=aB.KD ar
 replace aI:=aB.KD aI
 have Cw:=fX.lt
 have lQ:=ar.lt
 have dz:=ad.size
 have dB:=af.size
 have nO:=ah.size
 have I4:bx<w3.heap.size:=fX.lt
 replace fX:=aB.KD fX
 refine Le.mono (XA l bx (.slice a D.cache.length cap) D.cache
  (fun i w'=>Rc .ready none w'∧Kp (fun k=>k=l) w4 w'∧∀j x,j<i→D.cache.reverse[j]? =some x→x.1≠n)
  (fun w'=>Rc .done (some .ret) w'∧Kp (fun k=>k=l∨k=b4) w4 w'∧KP w' b4 [S (D.now n)] 9) w4 (by omega) ?_ ?_ ⟨eD,Kp.refl _ _,by omega⟩) ?_
 ·rintro i w' ⟨h1,h2,-⟩;refine⟨⟨_,h2.KD fX (by omega)⟩,h.cache.kp h2 fun g hg eO=>?_⟩;have:=h3.cache.lt hg;omega
 ·rintro i w' x hx ⟨h1,h2,fM⟩;refine PB cY h1 rfl rfl ?_;have vA:=h2.size;refine KF rfl (KL rfl rfl (MN (cs:=[_,_]) R0 rfl) ?_);rintro _ w5 ⟨b6,rfl,nD,aR,aW⟩;refine KR rfl (Lo R0 rfl rfl rfl rfl aW (by simp)) ?_;rintro w6 ⟨m6,aS⟩;have aK:=aR.Kz aS (fun i hi=>by omega);replace h1:=aK.rc cY h1 id;replace h2:=h2.trans aK.kp;have Cy:=aR.size;have I5:=m6.lt;refine py (run_beginRound rfl cY h1 ?_);rintro w7 h7 aA;have bG:=aA.KD m6 (by omega);have fN:=(h2.trans aA).KD ar (by omega);refine KB (qN rfl (qV (KK Ux rfl) (qV ((by first|exact KJ U3 rfl rfl bG rfl|exact KJ U3 rfl rfl fN rfl)) ?_)));refine qV ((by first|exact KJ U3 rfl rfl bG rfl|exact KJ U3 rfl rfl fN rfl)) ?_;refine qV (Mc rfl rfl) (py (KQ rfl (fun dt=>?_) (fun dt=>?_)))
  ·have ee:=(h2.trans aA).KD aI (by omega);refine qN rfl (qV (KK Xm rfl) (qV ((by first|exact KJ U9 rfl rfl bG rfl|exact KJ U9 rfl rfl fN rfl)) ?_));refine KR rfl (Mn WH rfl rfl rfl ee (by simp)) ?_;rintro w8 ⟨bU,bj⟩;refine py (SI cY (bj.rc cY h7 (by omega)) ?_);intro w9 h9 aJ;refine .inr ⟨rfl,h9,((h2.trans aA).KT fun _ h=> .inl h).trans ((bj.KT fun _ h=> .inr h).trans (aJ.KT fun _ h=> .inl h)),?_⟩
   have Cz:D.now n=x.2:=by
    unfold Dev.now;rw[z0J D.cache n i fM x hx dt]
    rfl
   rw[Cz];exact aJ.KD bU (by omega)
  ·refine It (KC (OT cY h7 ?_));intro w9 h9 aJ;refine .inl ⟨rfl,h9,(h2.trans aA).trans aJ,fun j y hj hy=>?_⟩;rcases Nat.lt_or_ge j i with tC|tC
   ·exact fM j y tC hy
   ·have:j=i:=by omega
    subst this;rw[hx] at hy;cases hy;exact dt
 ·rintro v w' ⟨rfl,⟨h1,h2,fM⟩|⟨h1,h2,hB⟩⟩
  ·refine⟨_,_,h1,by simp,fun w5 h5=>?_⟩;have aj:=h2.trans h5;have aR:Ext w3 w5:=aB.Kz aj (fun i hi=>by omega);replace h3:=h3.ext aR;have fN:=aj.KD ar (by omega);have ee:=aj.KD aI (by omega);have sk:=aj.heap hD (by omega);refine KC (qN rfl (An rfl (qV (KJ U3 rfl rfl fN rfl) (L2 [.tmp 20,.tmp 21] z7L rfl (YL n h3) ?_))));rintro _ w6 ⟨rfl,aK⟩;replace ee:=aK.KD ee;replace sk:=aK.heap sk id;refine KR rfl (Mn WH rfl rfl rfl ee (by simp)) ?_;rintro w7 ⟨bG,aA⟩;replace sk:=aA.heap sk (by omega);have bU:=(M6 w7 w3.heap.size (.deferred none)).KD bG (by omega);refine py (Rq (by simp) (Uq sk) Tryz.func165 (.cell1 U9 rfl rfl ((bU).cell _) .nil) ?_);refine⟨_,rfl,?_,?_⟩
   ·simp[Dev.now,z0G D.cache n fM,resVal]
   ·exact((((ad.trans (af.trans ah)).trans aR).trans aK).Kz aA (fun i hi=>by omega)).Kz (M6 w7 w3.heap.size (.deferred none)) (fun i hi=>by omega)
  ·refine⟨_,_,h1,by simp,fun w5 h5=>?_⟩;have sk:=(h2.trans (h5.KT fun _ h=> .inl h)).heap hD (by omega);have aG:=h5.KD hB (by omega);have bU:=(M6 w5 w3.heap.size (.deferred none)).KD aG (by omega);refine Rq (by simp) (Uq sk) Tryz.func165 (.cell1 U9 rfl rfl ((bU).cell _) .nil) ?_;refine⟨_,rfl,rfl,?_⟩;exact(((ad.trans (af.trans (ah.trans aB))).Kz h2 (fun i hi=>by omega)).Kz h5 (fun i hi=>by omega)).Kz (M6 w5 w3.heap.size (.deferred none)) (fun i hi=>by omega)

section
variable {w:World}{p m:Nat}{kp ca:Value}{D:Dev}

theorem z4A (h:MS w p m kp ca D):Le Tryz.prog 123 [ptr p 0] w fun v w'=>v= .bool D.down∧w'=w:=by
 have hM:=h.KD
 refine KA (e:=[(0,_)]) Tryz.func123 rfl Tryz.ntmps123 rfl rfl (qN rfl (KE rfl (qM rfl (An rfl (qV (LO U26 rfl rfl) (An rfl (An rfl (qV (KZ rfl) (qV (KK XE rfl) (qV (KJ U4 rfl rfl hM rfl) (qV (Lk rfl rfl) (KE rfl (py ?_)))))))))))))
 refine KG Tryz.func123 rfl ?_
 exact⟨_,rfl,rfl,rfl⟩
end

theorem z3f (v:Value)(l:List Int)(x:Int)(w:World)(hl:l.length≤17592186044416)(hr:Rd w v 1 l.length (l.map I)):
  Le Tryz.prog 182 [v,I x] w fun u w'=>(∃k,u=I k∧(0≤k↔x∈l))∧w'=w:=by
 obtain⟨a,cap,rfl,ha⟩:=hr.shape
 refine KA (e:=[(0,_),(1,_)]) Tryz.func182 rfl Tryz.ntmps182 rfl rfl (qN rfl (KE rfl (py (run_seq (qN rfl (An rfl (qV (LG Mu rfl) (An rfl (py (KB (MQ (α:=Nat) (0) (fun i=>[(0,.slice a l.length cap),(1,I x),(7,I (l.length:Int)),(8,I (i:Int))]) (fun i w'=>w'=w∧i≤l.length∧∀j,j<i→l[j]?≠some x) (fun i=>l.length-i) ?hI ?hround)))))))))))
 case hI=>exact⟨rfl,by omega,by omega⟩
 case hround =>
  rintro i _ ⟨rfl,hi,fM⟩ ih
  try dsimp only
  refine qN rfl (qV (LW rfl rfl) (py (run_seq (KQ rfl (fun aQ=>?_) (fun aQ=>?_)))))
  ·have fk:i<l.length:=by omega
   rcases hr.2 with⟨c,-,h⟩|⟨b,off,cap',kw,bh⟩
   ·omega
   cases kw;refine It (run_seq (KB (qN rfl (An rfl (KE rfl (qM rfl (An rfl (An rfl (An rfl (qV (Lt Mu LC rfl rfl (by omega)) (qV (Lb U3 rfl rfl (bh (i*1) (I l[i]) (by simp[fk]))) ?_)))))))))));refine qV (Mc rfl rfl) (py (KQ rfl (fun dt=>?_) (fun dt=>?_)))
   ·refine qN rfl (An rfl (KE rfl (py (KG Tryz.func182 rfl (⟨_,rfl,⟨(i:Int),rfl,?_⟩,rfl⟩)))));constructor
    ·intro _;rw[dt];exact List.getElem_mem fk
    ·intro _;omega
   ·refine It (KC (KF rfl (Lz rfl rfl (An rfl (py ?_)))))
    exact(ih (i+1) _ ⟨rfl,by omega,fun j hj=>by
     rcases Nat.lt_or_ge j i with h| h
     ·exact fM j h
     ·have:j=i:=by omega
      subst this;rw[List.getElem?_eq_getElem fk]
      exact fun h=>dt (MA h).symm⟩ (by omega)).qb
  ·refine KO rfl (qN rfl (KE rfl (py (KG Tryz.func182 rfl (⟨_,rfl,⟨-1,rfl,?_⟩,rfl⟩)))));constructor
   ·intro h;omega
   ·intro h;obtain⟨j,hj,e⟩:=List.getElem_of_mem h;exact absurd (by rw[List.getElem?_eq_getElem hj,e]) (fM j (by omega))

theorem XN (v:Value)(l:List Int)(x:Int)(w:World)(hl:l.length≤17592186044416)(hr:Rd w v 1 l.length (l.map I)):
  Le Tryz.prog 203 [v,I x] w fun u w'=>u= .bool (decide (x∈l))∧w'=w:=by
 refine KA (e:=[(0,_),(1,_)]) Tryz.func203 rfl Tryz.ntmps203 rfl rfl (qN rfl (KE rfl (qM rfl (An rfl (An rfl (L2 [.tmp 5,.tmp 6] z7M rfl (z3f v l x w hl hr) ?_))))))
 rintro _ w1 ⟨⟨k,rfl,hk⟩,rfl⟩
 refine qV (OL rfl rfl) (KE rfl (py (KG Tryz.func203 rfl (⟨_,rfl,?_,rfl⟩))))
 simp only[resVal,hk]

theorem z07 (c x:Bytes)(rest:List Value)(i:Nat)(h:i+x.length≤c.length):M9 (c.map Od++rest) i (x.map Od)=(z2h c i x).map Od++rest:=by
 unfold M9 z2h
 rw[List.take_append_of_le_length (by simp;omega),List.drop_append_of_le_length (by simp;omega)]
 simp

theorem TD {D:Dev}{l:List Int}{tn:Int}{mk:UInt8}{i:Nat}{x:Int×Bytes}(hx:D.cache[i]? =some x):D.fallTo l tn mk (i+1)=
  if(i:Int)=tn then VX (D.fallTo l tn mk i) x.1 (mixN mk (((D.fallTo l tn mk i) x.1).getD (zeros (512*D.N))) x.2 D.N)
   else if(i:Int)∈l then VX (D.fallTo l tn mk i) x.1 x.2 else D.fallTo l tn mk i:=by
 simp only[Dev.fallTo,hx]

theorem z5w {w : World}{p m : Nat}{kp ca cv : Value}{D : Dev}(h : MS w p m kp ca D)(l : List Int)(tn : Int)(mk : UInt8)(hl : l.length ≤ 17592186044416)(hr : Rd w cv 1 l.length (l.map I))(eK : D.cache.length < 2000000000000) :
  Le Tryz.prog 186 [ptr p 0,.agg #[cv,I tn,Od mk]] w fun v w'=>v= .tuple #[]∧MS w' p m (.slice none 0 0) (.slice none 0 0) (D.z4R l tn mk)∧Kp (fun k=>k=p∨k=m) w w':=by
 have aD:=h.ok.len
 have hN:=h.ok.hN
 have I6:=mk.toNat_lt
 have I7:=h.pm
 have CA:=h.lt m (.inr (.inl rfl))
 have EY:∀{w':World},Ext w w'→w.heap.size≤w'.heap.size:=fun h=>h.size
 obtain⟨a,cap,rfl,ha⟩:=h.cache.rd.shape
 obtain⟨ac,capc,rfl,K9⟩:=hr.shape
 refine KA (e:=[(0,_),(1,_)]) Tryz.func186 rfl Tryz.ntmps186 rfl rfl (qN rfl (KL rfl rfl (Mz rfl rfl) ?_))
 rintro _ w1 ⟨b3,rfl,eL,ad,ar⟩
 have h0:=h.ext ad
 have dz:=ad.size
 replace hr:=hr.ext ad
 have Cw:=ar.lt
 have hM:=h0.KD
 refine py (run_seq (qN rfl (An rfl (qV (KZ rfl) (qV (KK SC rfl) (qV (KJ V7 rfl rfl hM rfl) (qV (LG V7 rfl) (An rfl (py (KB (MQ (α:=Nat) (0) (fun i=>[(0,ptr p 0),(3,ptr b3 0),(11,.slice a D.cache.length cap),(12,I (D.cache.length:Int)),(13,I (i:Int))]) (fun i wi=>i≤D.cache.length∧MS wi p m kp (.slice a D.cache.length cap) {D with sf:=D.fallTo l tn mk i}∧Rd wi (.slice ac l.length capc) 1 l.length (l.map I)∧KP wi b3 [.slice ac l.length capc,I tn,Od mk] 102∧Kp (fun k=>k=m) w1 wi) (fun i=>D.cache.length-i) ?hI ?hround)))))))))))
 case hI=>exact⟨by omega,h0,hr,ar,Kp.refl _ _⟩
 case hround =>
  rintro i wi ⟨hi,hd,rQ,eY,qF⟩ ih
  try dsimp only
  have I8:=qF.size;refine qN rfl (qV (LW rfl rfl) (py (run_seq (KQ rfl (fun aQ=>?_) (fun aQ=>?_)))))
  ·have fk : i < D.cache.length := by omega
   have mS:=hd.cache;rcases mS.shape with⟨-,h⟩|⟨gb,cap',kw,jd⟩
   ·exact absurd h (by show ¬D.cache.length=0;omega)
   cases kw;obtain⟨x,hx⟩:∃x,D.cache[i]? =some x:=⟨_,List.getElem?_eq_getElem fk⟩;have E5:D.cache[i]=x:=by rw[List.getElem?_eq_getElem fk] at hx;exact MA hx
   have fT:((wrs D.cache).drop (i*2)).take 2=wr x:=by rw[z1E _ _ fk,E5]
   have i7:=hd.ok.cache x (List.mem_of_getElem? hx);simp only at i7;have ke:=mS.part fT;refine It (run_seq (KB (qN rfl (An rfl (qV (Lt V7 R0 rfl rfl (by omega)) (qV (La zb4 rfl R0 rfl ke rfl) (KL rfl rfl (MN (cs:=[_,_]) R0 rfl) ?_)))))));rintro _ w2 ⟨b5,rfl,gI,af,aG⟩;refine KE rfl (KR rfl (Lo R0 rfl rfl rfl rfl aG (by simp)) ?_);rintro w3 ⟨da,ax⟩;replace da:KP w3 b5 [I x.1,S x.2] 308:=da;have ah:Ext wi w3:=af.Kz ax (fun j hj=>by omega);have gu:=da.lt;replace hd:=hd.ext ah;have kH:=hd.lt;replace rQ:=rQ.ext ah;have pa:=rQ;replace eY:=ah.KD eY;have lQ:=eY.lt;have cm:Kp (fun k=>k=m) w1 w3:=qF.trans ah.kp;have I9:=ah.size;have EZ:¬b3=b5:=by have:=af.size;have:=eY;omega
   refine py (KB (qN rfl (An rfl (qV (KK z5R rfl) (qV ((by first|exact KJ U3 rfl rfl eY rfl|exact KJ U3 rfl rfl da rfl)) ?_)))));refine qV (Mc rfl rfl) (KE rfl (py (KQ rfl (fun yT=>?_) (fun yT=>?_))))
   ·refine qN rfl (An rfl (qV (KK Ux rfl) (qV ((by first|exact KJ U3 rfl rfl eY rfl|exact KJ U3 rfl rfl da rfl)) ?_)));refine L2 [.tmp 23,.tmp 25] z7L rfl (YL x.1 hd) ?_;rintro _ w4 ⟨rfl,aB⟩;obtain⟨k0,iT⟩:∃k0,Dev.kept {D with sf:=D.fallTo l tn mk i} x.1=k0:=⟨_,rfl⟩;have wW:k0.length=512*D.N:=by rw[←iT];exact hd.ok.kept x.1
    rw[iT];refine KL rfl rfl (z4H U9 LU U5 rfl) ?_;rintro _ w5 ⟨bb,capb,rest,rfl,⟨u9,aR,yU⟩,F0⟩;have cX:=aB.trans aR;replace hd:=hd.ext cX;replace rQ:=rQ.ext cX;replace eY:=cX.KD eY;replace da:=cX.KD da;have Ia:=yU.lt;have q9:=hd.KD;have F9:=cX.size;have Ib:=aB.size;have Ic:=hd.KD.lt;refine KE rfl (py (run_seq (qN rfl (An rfl (qV (KZ rfl) (qV (KK UA rfl) (qV (KK TF rfl) (qV (KJ U3 rfl rfl q9 rfl) (An rfl (py (KB (MQ (α:=Nat) (0) (fun s=>[(0,ptr p 0),(3,ptr b3 0),(5,ptr b5 0),(6,.slice (some ⟨bb,0,none⟩) k0.length capb),(11,.slice (some ⟨gb,0,none⟩) D.cache.length cap),(12,I (D.cache.length:Int)),(13,I (i:Int)),(32,I (D.N:Int)),(33,I (s:Int))]) (fun s ws=>s≤D.N∧KP ws bb ((mixN mk k0 x.2 s).map Od++rest) 5∧Kp (fun k=>k=bb) w5 ws) (fun s=>D.N-s) ?hI ?hround))))))))))))
    case hI=>exact⟨by omega,yU,Kp.refl _ _⟩
    case hround=>
     rintro s ws ⟨hs,kl,fV⟩ ihs
     try dsimp only
     have wX:=fV.KD eY (by omega);have sn:=fV.KD da (by omega);have eJ:=QH mk k0 x.2 D.N wW i7.2.2 s hs;refine qN rfl (qV (LW rfl rfl) (py (run_seq (KQ rfl (fun iW=>?_) (fun iW=>?_)))))
     ·have Id:s<D.N:=by omega
      obtain⟨q,hq⟩:∃q,mk.toNat / 2^s=q:=⟨_,rfl⟩;have Ka:q<256:=by rw[←hq];exact Nat.lt_of_le_of_lt (Nat.div_le_self _ _) I6
      refine It (run_seq (KB (qN rfl (An rfl (KE rfl (qM rfl (qV (KK z6n rfl) (qV (KJ U5 rfl rfl wX rfl) (An rfl (qV (Ps s (2^s) rfl rfl (by simp only[IntKind.bits];omega) rfl) ?_))))))))));rw[hq];refine qV (zcB rfl rfl (by omega) (by omega)) ?_;rw[Nat.and_one_is_mod];refine qV (Mc rfl rfl) (py (KQ rfl (fun mD=>?_) (fun mD=>?_)))
      ·have mT:q%2=1:=by omega
       refine KN (fun w'=>Kp (fun k=>k=bb) ws w') (by kernel_rfl) rfl (KH 0 rfl (KM rfl) ((Kp.refl _ ws).drew) (KH 1 rfl (KM rfl) ((Kp.refl _ ws).drew) (KH 2 rfl (SD rfl rfl (by omega)) ((Kp.refl _ ws).drew) (KH 3 rfl (KM rfl) ((Kp.refl _ ws).drew) (KH 4 rfl (PW rfl rfl (by omega)) ((Kp.refl _ ws).drew) (KH 5 rfl (SD rfl rfl (by omega)) ((Kp.refl _ ws).drew) (KH 7 rfl (KK Xm rfl) ((Kp.refl _ ws).drew) (qT 8 rfl (fun _ h=>KJ U9 rfl rfl (h.KD sn (by omega)) rfl) ((Kp.refl _ ws).drew) (KH 9 rfl (KM rfl) ((Kp.refl _ ws).drew) (KH 10 rfl (SD rfl rfl (by omega)) ((Kp.refl _ ws).drew) (KH 11 rfl (UR U9 rfl rfl (by omega)) ((Kp.refl _ ws).drew) (KH 6 rfl (z90 (i:=s*512) (j:=(s+1)*512) LU Sf rfl rfl rfl (by omega) (by omega)) ((Kp.refl _ ws).drew) (qO 12 ?_)))))))))))));refine VK (i:=12) rfl rfl rfl (zde LU Sf rfl rfl ((Ext.L4 ws).KD kl) (by simp[eJ];omega)) ?_;rintro _ w6 ⟨rfl,aW,aS⟩;refine⟨(Kp.refl _ ws).drew.trans aS,?_⟩
       have e6:((x.2.drop (s*512)).take ((s+1)*512-s*512)).map Od=((x.2.drop (512*s)).take 512).map Od:=by
        rw[show(s+1)*512-s*512=512 by omega,Nat.mul_comm]
       rw[e6,show 0+s*512*1=512*s by omega,z07 _ _ _ _ (by simp[eJ,i7.2.2];omega)] at aW
       have em:mixN mk k0 x.2 (s+1)=z2h (mixN mk k0 x.2 s) (512*s) ((x.2.drop (512*s)).take 512):=by
        simp only[mixN,hq,mT,if_true]
       rw[←em] at aW;refine qE (KC (KF rfl (Lz rfl rfl (An rfl (py ?_)))));exact(ihs (s+1) w6 ⟨by omega,aW,fV.trans ((Kp.refl _ ws).drew.trans aS)⟩ (by omega)).qb
      ·have mT:¬q%2=1:=by omega
       have em:mixN mk k0 x.2 (s+1)=mixN mk k0 x.2 s:=by simp only[mixN,hq,mT,if_false]
       rw[←em] at kl;refine It (KC (KF rfl (Lz rfl rfl (An rfl (py ?_)))));exact(ihs (s+1) ws ⟨by omega,kl,fV⟩ (by omega)).qb
     ·have AU:s=D.N:=by omega
      subst AU;have tH:=hd.kp fV fun k hk ep=>by have:=kH k hk;omega
      obtain⟨kv,mR,mc⟩:=tH.map;have Fa:=tH.KD;have Fb:Ext w3 ws:=cX.Kz fV (fun j hj=>by omega);have sq:=pa.ext Fb;refine KO rfl (KN (fun w'=>Kp (fun k=>k=m) ws w') (by kernel_rfl) rfl (KH 0 rfl (KM rfl) ((Kp.refl _ ws).drew) (KH 1 rfl (KZ rfl) ((Kp.refl _ ws).drew) (KH 2 rfl (KK Xd rfl) ((Kp.refl _ ws).drew) (qT 3 rfl (fun _ hS=>(by first|exact KJ Zq rfl rfl (hS.KD Fa tH.pm) rfl|exact KJ Zq rfl rfl (hS.KD sn (by omega)) rfl)) ((Kp.refl _ ws).drew) ?_)))));refine KH 4 rfl (KK Ux rfl) ((Kp.refl _ ws).drew) (qT 5 rfl (fun _ hS=>(by first|exact KJ U3 rfl rfl (hS.KD Fa tH.pm) rfl|exact KJ U3 rfl rfl (hS.KD sn (by omega)) rfl)) ((Kp.refl _ ws).drew) ?_);refine KH 6 rfl (KM rfl) ((Kp.refl _ ws).drew) (qT 7 rfl (fun _ h=>z2g (l:=mixN mk k0 x.2 D.N) LU U5 U9 rfl (h.KD kl (by omega)) (Yl _ _ _ (by omega)) (by omega)) ((Kp.refl _ ws).drew) (qO 8 (Lm (i:=8) rfl rfl (zmu (k:=x.1) (K:=KI) Zq (Ol U3) rfl rfl rfl (Ext.map (Ext.L4 ws) mR)) ?_)));rintro w7 ⟨fO,aA⟩;refine⟨(Kp.refl _ ws).drew.trans aA,?_⟩;have i8:=(Kp.refl (fun i=>i=m) ws).drew.trans aA;have qa:=tH.put mc fO i8 (tH.ok.put ⟨i7.1,i7.2.1⟩ (QH mk k0 x.2 D.N wW i7.2.2 D.N (Nat.le_refl _)))
      have ef:VX (D.fallTo l tn mk i) x.1 (mixN mk k0 x.2 D.N)=D.fallTo l tn mk (i+1):=by
       rw[TD hx,if_pos yT,←iT];rfl
      simp only[ef] at qa;refine qE (KC (KC (KF rfl (Lz rfl rfl (An rfl (py ?_))))));exact(ih (i+1) w7 ⟨by omega,qa,sq.kpm mR i8,i8.KD wX (by omega),cm.trans (Fb.kp.trans i8)⟩ (by omega)).qb
   ·have wY:=hd.KD;refine qN rfl (qV (KK z6w rfl) (qV ((by first|exact KJ Mu rfl rfl eY rfl|exact KJ Mu rfl rfl da rfl)) ?_));refine An rfl (L2 [.tmp 66,.tmp 67] za0 rfl (XN (.slice ac l.length capc) l (i:Int) w3 hl pa) ?_);rintro _ w4 ⟨rfl,rfl⟩;refine KE rfl (py (KQ rfl (fun aZ=>?_) (fun aZ=>?_)))
    ·obtain⟨kv,mR,mc⟩:=hd.map;refine KN (fun w'=>Kp (fun k=>k=m) w4 w') (by kernel_rfl) rfl (KH 0 rfl (KM rfl) ((Kp.refl _ w4).drew) (KH 1 rfl (KZ rfl) ((Kp.refl _ w4).drew) (KH 2 rfl (KK Xd rfl) ((Kp.refl _ w4).drew) (qT 3 rfl (fun _ hS=>(by first|exact KJ Zq rfl rfl (hS.KD wY hd.pm) rfl|exact KJ Zq rfl rfl (hS.KD da (by omega)) rfl)) ((Kp.refl _ w4).drew) ?_))));refine KH 4 rfl (KK Ux rfl) ((Kp.refl _ w4).drew) (qT 5 rfl (fun _ hS=>(by first|exact KJ U3 rfl rfl (hS.KD wY hd.pm) rfl|exact KJ U3 rfl rfl (hS.KD da (by omega)) rfl)) ((Kp.refl _ w4).drew) ?_);refine KH 6 rfl (KK Xm rfl) ((Kp.refl _ w4).drew) (qT 7 rfl (fun _ hS=>(by first|exact KJ U9 rfl rfl (hS.KD wY hd.pm) rfl|exact KJ U9 rfl rfl (hS.KD da (by omega)) rfl)) ((Kp.refl _ w4).drew) ?_);refine qO 8 (Lm (i:=8) rfl rfl (zmu (k:=x.1) (K:=KI) Zq (Ol U3) rfl rfl rfl (Ext.map (Ext.L4 w4) mR)) ?_);rintro w7 ⟨fO,aA⟩;refine⟨(Kp.refl _ w4).drew.trans aA,?_⟩;have i8:=(Kp.refl (fun i=>i=m) w4).drew.trans aA;have qa:=hd.put mc fO i8 (hd.ok.put ⟨i7.1,i7.2.1⟩ i7.2.2)
     have ef:VX (D.fallTo l tn mk i) x.1 x.2=D.fallTo l tn mk (i+1):=by
      rw[TD hx,if_neg yT,if_pos aZ]
     simp only[ef] at qa;refine qE (KC (KC (KF rfl (Lz rfl rfl (An rfl (py ?_))))));exact(ih (i+1) w7 ⟨by omega,qa,pa.kpm mR i8,i8.KD eY (by omega),cm.trans i8⟩ (by omega)).qb
    ·have ef:D.fallTo l tn mk i=D.fallTo l tn mk (i+1):=by
      rw[TD hx,if_neg yT,if_neg aZ]
     rw[ef] at hd;refine It (KC (KC (KF rfl (Lz rfl rfl (An rfl (py ?_))))));exact(ih (i+1) w4 ⟨by omega,hd,pa,eY,cm⟩ (by omega)).qb
  ·have aZ:i=D.cache.length:=by omega
   subst aZ;have wY:=hd.KD;refine KO rfl (qN rfl (An rfl (qV (KZ rfl) (qV (KK SC rfl) (KR rfl (Mn z1S rfl rfl rfl wY (by simp)) ?_)))));rintro w5 ⟨aG,aj⟩;refine qM rfl (An rfl (qV (Nc (parts:=[]) (cs:=[_,_,_,_]) z1i rfl zaR rfl rfl) (qV (KZ rfl) (qV (KK Rs rfl) (KR rfl (Lo z1i rfl rfl rfl rfl aG (by simp)) ?_)))));rintro w6 ⟨aW,aS⟩;replace aW:KP w6 p [I 0,.slice none 0 0,I 0,Od 0,I (D.B:Int),I (D.N:Int),.map (some m),.slice none 0 0,.bool D.down,I D.calls,I D.reads] 107:=aW;refine py (KF rfl (An rfl (qV (KZ rfl) (qV (KK XE rfl) (KR rfl (Mn PS rfl rfl rfl aW (by simp)) ?_)))));rintro w7 ⟨bG,aA⟩;refine py (LZ Tryz.func186 rfl ?_);have i9:=(aj.trans aS).trans aA;obtain⟨kv,mR,mc⟩:=hd.map;refine⟨_,rfl,rfl,⟨bG,⟨kv,i9.map mR fun e=>hd.pm e.symm,mc⟩,Sl.nil w7 _ _,Sl.nil w7 _ _,?_⟩,?_⟩
   ·exact⟨hd.ok.hB,hd.ok.hN,by simp[Dev.z4R],hd.ok.sf,fun x hx=>by simp[Dev.z4R] at hx,by have:=aD;simp[Dev.z4R];omega,hd.ok.reads⟩
   ·exact((Ext.kp ad).trans (qF.KT fun _ h=> .inr h)).trans (i9.KT fun _ h=> .inl h)

def Dev.push (D:Dev)(n:Int)(s:Bytes):Dev:={D with cache:=D.cache++[(n,s)]}
theorem z5a {P:Program}{e:Env}{d:Option Nat}{ty t t':TypeId}{pos:String}{aft:Array Edge}{g:Option (Nat×Bool)}{x y:Operand}{w:World}{a b:Int}(hx:look e x=some (I a))(hy:look e y=some (I b)):Y P e ⟨d,.binOp .add t x y t',ty,pos,aft,g⟩ (I (IntKind.i64.wrap (a+b))) w w:=fun ρ hρ=>by simp[execOp,go_sem,hρ _ _ hx,hρ _ _ hy]
def Dev.z7a (D:Dev):Dev:=D.z4R D.Nt D.z5O D.mask
def Dev.write (D:Dev)(n:Int)(s:Bytes):Dev×Int:=
 if D.down then(D,8)
 else if D.has n=false∨s.length≠512*D.N then(D,1)
 else if D.due=1 then(((D.push n s).count).z7a,8) else((D.push n s).count,0)

def Dev.read (D:Dev)(n:Int):Dev×Bytes×Int:=
 if D.down then(D,[],8) else if D.has n=false then(D,[],1) else({D with reads:=IntKind.i64.wrap (D.reads+1)},D.now n,0)

def Vi (w:World)(p m:Nat)(kp ca:Value)(D':Dev)(w':World):Prop:=∃kp' ca',MS w' p m kp' ca' D'∧Upd (fpD p m kp ca) (fpD p m kp' ca') w w'
theorem Vi.same {w w':World}{p m:Nat}{kp ca:Value}{D:Dev}(h:MS w' p m kp ca D)(k:Ext w w'):Vi w p m kp ca D w':=⟨kp,ca,h,k.VX⟩
theorem z5y {w w':World}{p m:Nat}{kp ca:Value}(k:Kp (fun i=>i=p∨i=m) w w'):Upd (fpD p m kp ca) (fpD p m (.slice none 0 0) (.slice none 0 0)) w w':=
 ⟨k.KT fun i hi=>hi.elim .inl fun h=> .inr (.inl h),fun i hi=>by
  rcases hi with h|h|h| h
  ·exact .inl (.inl h)
  ·exact .inl (.inr (.inl h))
  ·cases h
  ·cases h⟩

section
variable {w:World}{p m:Nat}{kp ca:Value}{D:Dev}

theorem z4v (n:Int)(h:MS w p m kp ca D)(hc:D.Bd):
  Le Tryz.prog 127 [ptr p 0,I n] w fun v w'=>v= .tuple #[S (D.read n).2.1,I (D.read n).2.2]∧Vi w p m kp ca (D.read n).1 w':=by
 refine KA (e:=[(0,_),(1,_)]) Tryz.func127 rfl Tryz.ntmps127 rfl rfl (qN rfl (KE rfl (KE rfl (py (run_seq (qN rfl (An rfl (L2 [.tmp 7] z7A rfl (Wv h) ?_))))))))
 rintro _ w1 ⟨rfl,rfl⟩
 cases hd:D.down with
 | true =>
   refine KE rfl (qM rfl (An rfl (qV (LQ rfl rfl) (py (KQ rfl (fun hz=>?_) (fun hz=>?_))))))
   ·refine qN rfl (An rfl (KE rfl (KE rfl (py (KG Tryz.func127 rfl ?_)))));have e:D.read n=(D,[],8):=by simp[Dev.read,hd]
    rw[e];exact⟨_,rfl,rfl,Vi.same h (Ext.refl _)⟩
   ·exact absurd (by decide) hz
 | false =>
   refine KE rfl (qM rfl (An rfl (qV (LQ rfl rfl) (py (KQ rfl (fun hz=>?_) (fun hz=>?_))))))
   ·exact absurd hz (by decide)
   ·refine It (run_seq (qN rfl (An rfl (An rfl (L2 [.tmp 12,.tmp 13] z7d rfl (z1x n h) ?_)))));rintro _ w2 ⟨rfl,rfl⟩
    cases hh:D.has n with
    | false =>
      refine qV ((by first|exact LP rfl|exact Nq rfl)) ?_;refine py (KS rfl (qN rfl (KE rfl (KE rfl (py (KG Tryz.func127 rfl ?_))))));have e:D.read n=(D,[],1):=by simp[Dev.read,hd,hh]
      rw[e]
      exact⟨_,rfl,rfl,Vi.same h (Ext.refl _)⟩
    | true =>
      refine qV ((by first|exact LP rfl|exact Nq rfl)) ?_;refine py (Kx rfl ?_);have hM:=h.KD;refine It (qN rfl (An rfl (qV (KZ rfl) (qV (KK z1G rfl) (qV (KJ U3 rfl rfl hM rfl) (qV (z5a rfl rfl) (qV (KZ rfl) (qV (KK z1G rfl) (KR rfl (Mn LC rfl rfl rfl hM (by simp)) ?_)))))))));rintro w3 ⟨wZ,ax⟩;have h3:=h.turn (D':={D with reads:=IntKind.i64.wrap (D.reads+1)}) wZ ax rfl rfl rfl rfl ⟨h.ok.hB,h.ok.hN,h.ok.due,h.ok.sf,h.ok.cache,h.ok.len,trivial⟩;refine qM rfl (An rfl (An rfl (L2 [.tmp 23,.tmp 24] zaN rfl (z6F n h3 hc.2.1) ?_)));rintro _ w4 ⟨rfl,aB⟩;refine KE rfl (KE rfl (py (KG Tryz.func127 rfl ?_)));have e:D.read n=({D with reads:=IntKind.i64.wrap (D.reads+1)},D.now n,0):=by simp[Dev.read,hd,hh]
      rw[e];exact⟨_,rfl,rfl,kp,ca,h3.ext aB,(ax.KT fun _ h=> .inl h).trans aB.kp,fun _ h=> .inl h⟩

theorem z3t (n : Int)(s : Bytes)(h : MS w p m kp ca D)(hc : D.Bd)(hk : D.Nt.length ≤ 17592186044416) :
  Le Tryz.prog 162 [ptr p 0,I n,S s] w fun v w'=>v=I (D.write n s).2∧Vi w p m kp ca (D.write n s).1 w':=by
 have eJ:maxLen=9223372036854775807:=rfl
 obtain⟨fm,eK,oJ⟩:=hc
 have Ie:=h.ok.len
 refine KA (e:=[(0,_),(1,_),(2,_)]) Tryz.func162 rfl Tryz.ntmps162 rfl rfl (qN rfl (KE rfl (py (run_seq (qN rfl (An rfl (L2 [.tmp 8] z7A rfl (Wv h) ?_)))))))
 rintro _ w1 ⟨rfl,rfl⟩
 cases hd:D.down with
 | true =>
   refine KE rfl (qM rfl (An rfl (qV (LQ rfl rfl) (py (KQ rfl (fun hz=>?_) (fun hz=>?_))))))
   ·refine qN rfl (An rfl (KE rfl (py (KG Tryz.func162 rfl ?_))));have e:D.write n s=(D,8):=by simp[Dev.write,hd]
    rw[e];exact⟨_,rfl,rfl,Vi.same h (Ext.refl _)⟩
   ·exact absurd (by decide) hz
 | false =>
   refine KE rfl (qM rfl (An rfl (qV (LQ rfl rfl) (py (KQ rfl (fun hz=>?_) (fun hz=>?_))))))
   ·exact absurd hz (by decide)
   ·refine It (run_seq (qN rfl (An rfl (An rfl (L2 [.tmp 13,.tmp 14] z7d rfl (z1x n h) ?_)))));rintro _ w2 ⟨rfl,rfl⟩
    cases hh:D.has n with
    | false =>
      refine qV ((by first|exact LP rfl|exact Nq rfl)) ?_;refine An rfl (qS (qS (qS (qS (qS (qV (LK rfl rfl) (py (KS rfl (qN rfl (KE rfl (py (KG Tryz.func162 rfl ?_))))))))))));have e:D.write n s=(D,1):=by simp[Dev.write,hd,hh]
      rw[e]
      exact⟨_,rfl,rfl,Vi.same h (Ext.refl _)⟩
    | true =>
      have hn:0≤n∧n<(D.B:Int):=by simpa[Dev.has] using hh
      refine qV ((by first|exact LP rfl|exact Nq rfl)) ?_;refine An rfl (An rfl (qV (QE U9 rfl) (An rfl (L2 [.tmp 20] z84 rfl (VH h) ?_))));rintro _ w3 ⟨rfl,rfl⟩;refine qV (LQ rfl rfl) (qV (Lk rfl rfl) (py (KQ rfl (fun cn=>?_) (fun cn=>?_))))
      ·refine qN rfl (KE rfl (py (KG Tryz.func162 rfl ?_)))
       have e:D.write n s=(D,1):=by
        have:s.length≠512*D.N:=by omega
        simp[Dev.write,hd,hh,this]
       rw[e];exact⟨_,rfl,rfl,Vi.same h (Ext.refl _)⟩
      ·have gl:s.length=512*D.N:=by omega
       obtain⟨a,cap,rfl,ha⟩:=h.cache.rd.shape;have hM:=h.KD;refine It (qN rfl (An rfl (An rfl (qV (KZ rfl) (qV (KK SC rfl) (qV (KJ V7 rfl rfl hM rfl) (An rfl (An rfl (qV (Nc (parts:=[(0,.tmp 29),(1,.tmp 30)]) (cs:=[_,_]) R0 rfl z9p rfl rfl) (KL rfl rfl (Tb (parts:=[(0,.tmp 31)]) (cs:=[_,_]) (zs:=[Value.int .i64 0,Value.string ⟨#[]⟩]) V7 R0 rfl (by kernel_rfl) rfl rfl rfl (by decide)) ?_))))))))));rintro _ w4 ⟨b4,rfl,⟨gA,aB,aI⟩,dP⟩;have If:=h.cache.ext aB;refine KL rfl rfl (pap V7 R0 rfl (by decide) rfl rfl If dP.rd (by intro c hc;simp at hc;rcases hc with rfl|rfl<;>rfl) (by omega) (by omega)) ?_;rintro v' w5 ⟨fZ,aj,qc,-⟩;have Cf:oneV v'=true:=by rcases fZ.shape with⟨rfl,-⟩|⟨g,cap,rfl,-⟩<;>rfl
       have h4:=h.ext aB
       have kq:∀g,(Value.slice a D.cache.length cap).ownBlock=some g→¬g=p:=fun g hg p8=>by
        obtain⟨xs,fz',hx⟩:=O2 h4.cache hg;obtain⟨fz,hb,-⟩:=h4.KD;rw[p8,hb] at hx;cases hx
       have q9:=aj.KD h4.KD (fun hg=>kq p hg rfl);refine qV (KZ rfl) (qV (KK SC rfl) (KR rfl (Mn z1S rfl rfl Cf q9 (by simp)) ?_));rintro w6 ⟨aW,aS⟩;have dM:=h.KD.lt
       have h6:MS w6 p m kp v' (D.push n s):=by
        refine⟨aW,?_,?_,?_,?_⟩
        ·obtain⟨kv,mR,mc⟩:=h4.map;exact⟨kv,aS.map (aj.map mR fun hg=>(h4.zbF hg).2.1 rfl) fun e=>h4.pm e.symm,mc⟩
        ·have e:wrs (D.push n s).cache=wrs D.cache++[I n,S s]:=by simp[Dev.push,wrs,wr]
         have e2:(D.push n s).cache.length=D.cache.length+1:=by simp[Dev.push]
         rw[e,e2];refine fZ.kp aS fun g hg=>?_;rcases qc g hg with h'|h'
         ·exact(h4.zbF h').1
         ·have:=aB.size;omega
        ·refine(h4.Nt.kp aj fun g hg hc=>(h4.zb1 hg).2.2 hc).kp aS fun g hg=>(h4.zb1 hg).1
        ·refine⟨h.ok.hB,h.ok.hN,h.ok.due,h.ok.sf,fun x hx=>?_,h.ok.len,h.ok.reads⟩;simp only[Dev.push,List.mem_append,List.mem_singleton] at hx;rcases hx with hx|rfl
         ·exact h.ok.cache x hx
         ·exact⟨hn.1,hn.2,gl⟩
       refine py (Lc.qb (e:=[(0,_),(6,_)]) ?_);refine run_seq (qN rfl (An rfl (L2 [.tmp 36] zbJ rfl (Za h6 fm) ?_)));rintro _ w7 ⟨rfl,h7,aA⟩
       have hu:Upd (fpD p m kp (.slice a D.cache.length cap)) (fpD p m kp v') w3 w7:=by
        refine⟨(aB.kp.trans (aj.KT fun i hi=> .inr (.inr (.inl hi)))).trans ((aS.KT fun i hi=> .inl hi).trans (aA.KT fun i hi=> .inl hi)),fun i hi=>?_⟩;rcases hi with h'|h'|h'|h'
        ·exact .inl (.inl h')
        ·exact .inl (.inr (.inl h'))
        ·rcases qc i h' with Fc|Fc
         ·exact .inl (.inr (.inr (.inl Fc)))
         ·have:=aB.size;exact .inr (by omega)
        ·exact .inl (.inr (.inr (.inr h')))
       refine py (KQ rfl (fun p9=>?_) (fun p9=>?_))
       ·have CB:=h7.KD;refine qN rfl (An rfl (An rfl (qV (KZ rfl) (qV (KK Rs rfl) (qV (KK z6M rfl) (qV (La zcj rfl z4C rfl (KP.cells (n:=3) CB (news:=[_,_,_]) rfl) rfl) (L2 [.tmp 38,.tmp 43] z9S rfl (z5w h7 D.Nt D.z5O D.mask hk (h7.Nt.rd) (by show(D.cache++[(n,s)]).length<2000000000000;simp;omega)) ?_)))))));rintro _ w8 ⟨rfl,h8,bj⟩;refine qM rfl (KE rfl (py (KG Tryz.func162 rfl ?_)))
        have e:D.write n s=(((D.push n s).count).z7a,8):=by
         have mU:D.due=1:=p9;simp[Dev.write,hd,hh,gl,mU]
        rw[e];exact⟨_,rfl,rfl,_,_,h8,hu.trans (z5y bj)⟩
       ·refine It (qN rfl (KE rfl (py (KG Tryz.func162 rfl ?_))))
        have e:D.write n s=((D.push n s).count,0):=by
         have mU:¬D.due=1:=p9;simp[Dev.write,hd,hh,gl,mU]
        rw[e];exact⟨_,rfl,rfl,_,_,h7,hu⟩

end

section
variable {w:World}{p m:Nat}{kp ca:Value}{D:Dev}

def Dev.z1R (D:Dev)(n:Nat):List Bytes:=(List.range n).map fun j:Nat=>D.now (j:Int)
@[simp] theorem imageTo_length (D:Dev) (n:Nat):(D.z1R n).length=n:=by simp[Dev.z1R]

theorem z5G {w:World}{v:Value}{e size n:Nat}{cs:List Value}(h:Sl w v e size n cs):oneV v=true:=by
 rcases h.shape with⟨rfl,-⟩|⟨g,cap,rfl,-⟩<;>rfl

end

def Uh (b n:Int):Prop:=16≤b∧b≤4096∧1≤n∧n≤8
instance (b n:Int):Decidable (Uh b n):=by unfold Uh;infer_instance
def Dev.fresh (B N:Nat):Dev:=⟨0,[],0,0,B,N,fun _=>none,[],false,0,0⟩

theorem z3e (b n:Int)(w:World):Le Tryz.prog 40 [.agg #[I b,I n]] w fun v w'=>v=I (if Uh b n then 0 else 1)∧Ext w w':=by
 refine KA (e:=[(0,_)]) Tryz.func40 rfl Tryz.ntmps40 rfl rfl (qN rfl (KL rfl rfl (Mz rfl rfl) ?_))
 rintro _ w1 ⟨b1,rfl,bT,ad,ai⟩
 by_cases hg:Uh b n
 ·obtain⟨g1,g2,g3,g4⟩:=hg;refine KE rfl (py (run_seq (qN rfl (qV (KK Tg rfl) (qV (KJ U3 rfl rfl ai rfl) (qV (LW rfl rfl) (Lq (An rfl (qV (KK Tg rfl) (qV (KJ U3 rfl rfl ai rfl) (qV (LH rfl rfl) (Lq (qV (Lk rfl rfl) ?_)))))))))))));refine An rfl (qV (KK TF rfl) (qV (KJ U3 rfl rfl ai rfl) (qV (LW rfl rfl) (Lq (qV (Lk rfl rfl) (An rfl (qV (KK TF rfl) (qV (KJ U3 rfl rfl ai rfl) (qV (LH rfl rfl) (Lq (qV (Lk rfl rfl) (py (Kx rfl ?_)))))))))))));refine It (qN rfl (KE rfl (py (KG Tryz.func40 rfl ?_))));exact⟨_,rfl,by rw[if_pos ⟨g1,g2,g3,g4⟩];rfl,ad⟩
 ·refine KE rfl (py (run_seq (qN rfl (qV (KK Tg rfl) (qV (KJ U3 rfl rfl ai rfl) (qV (LW rfl rfl) (Ng (fun h1=>?_) (fun h1=>?_))))))))
  ·refine An rfl (qS (qS (qS (qV (LK rfl rfl) (An rfl (qS (qS (qS (qV (LK rfl rfl) (An rfl (qS (qS (qS ?_)))))))))))));refine qV (LK rfl rfl) (py (KS rfl (qN rfl (KE rfl (py (KG Tryz.func40 rfl ?_))))));exact⟨_,rfl,by rw[if_neg hg];rfl,ad⟩
  ·refine An rfl (qV (KK Tg rfl) (qV (KJ U3 rfl rfl ai rfl) (qV (LH rfl rfl) (qV (Lk rfl rfl) (Ng (fun h2=>?_) (fun h2=>?_))))))
   ·refine An rfl (qS (qS (qS (qV (LK rfl rfl) (An rfl (qS (qS (qS (qV (LK rfl rfl) (py (KS rfl (qN rfl (KE rfl ?_)))))))))))));refine py (KG Tryz.func40 rfl ?_);exact⟨_,rfl,by rw[if_neg hg];rfl,ad⟩
   ·refine An rfl (qV (KK TF rfl) (qV (KJ U3 rfl rfl ai rfl) (qV (LW rfl rfl) (qV (Lk rfl rfl) (Ng (fun h3=>?_) (fun h3=>?_))))))
    ·refine An rfl (qS (qS (qS (qV (LK rfl rfl) (py (KS rfl (qN rfl (KE rfl (py (KG Tryz.func40 rfl ?_))))))))));exact⟨_,rfl,by rw[if_neg hg];rfl,ad⟩
    ·have:8<n:=by unfold Uh at hg;omega
     refine An rfl (qV (KK TF rfl) (qV (KJ U3 rfl rfl ai rfl) (qV (LH rfl rfl) (MC (qV (Lk rfl rfl) (py (KS rfl (qN rfl (KE rfl (py (KG Tryz.func40 rfl ?_)))))))))));exact⟨_,rfl,by rw[if_neg hg];rfl,ad⟩

theorem z8u (B N:Nat)(w:World)(hg:Uh B N):Le Tryz.prog 21 [.agg #[I (B:Int),I (N:Int)]] w fun v w'=>∃p m,v= .tuple #[ptr p 0,I 0]∧MS w' p m (.slice none 0 0) (.slice none 0 0) (Dev.fresh B N)∧Ext w w'∧w.heap.size≤p∧w.heap.size≤m:=by
 obtain⟨g1,g2,g3,g4⟩:=hg
 refine KA (e:=[(0,_)]) Tryz.func21 rfl Tryz.ntmps21 rfl rfl (qN rfl (KL rfl rfl (Mz rfl rfl) ?_))
 rintro _ w1 ⟨b1,rfl,bT,ad,ai⟩
 refine KE rfl (KE rfl (py (run_seq (qN rfl (qV (La U69 rfl z4k rfl (KP.cells (n:=2) ai (news:=[_,_]) rfl) rfl) (L2 [.tmp 5] zcM rfl (z3e B N _) ?_))))))
 rintro _ w2 ⟨rfl,af⟩
 rw[if_pos ⟨g1,g2,g3,g4⟩]
 replace ai:=af.KD ai
 refine KE rfl (qM rfl (An rfl (qV (LQ rfl rfl) (py (KQ rfl (fun hz=>?_) (fun hz=>?_))))))
 ·exact absurd hz (by decide)
 ·refine It (qN rfl (qV (La U69 rfl z4k rfl (KP.cells (n:=2) ai (news:=[_,_]) rfl) rfl) (KL rfl rfl (pmm) ?_)));rintro _ w3 ⟨m,rfl,hm,ah,wZ⟩;refine qV (Nc (parts:=[(1,.tmp 10),(2,.tmp 11)]) (cs:=[_,_,_,_,_,_,_,_,_,_,_]) zaf rfl zaz rfl rfl) (KL rfl rfl (Mz rfl rfl) ?_);rintro _ w4 ⟨p,rfl,hp,aB,aI⟩;refine KE rfl (KE rfl (py (KG Tryz.func21 rfl ?_)));have dz:=ad.size;have dB:=af.size;have nO:=ah.size;have Ig:QJ KI w4 m []:=⟨⟨#[],0,aB.heap wZ id,rfl⟩,by simp⟩;refine⟨_,rfl,p,m,rfl,⟨aI,⟨[],Ig,fun n=>rfl⟩,Sl.nil w4 _ _,Sl.nil w4 _ _,?_⟩,((ad.trans af).trans ah).trans aB,by omega,by omega⟩;exact⟨⟨by show 16≤B;omega,by show B≤4096;omega⟩,⟨by show 1≤N;omega,by show N≤8;omega⟩,(by simp[Dev.fresh]),(fun n s h=>by cases h),(fun x hx=>by cases hx),(by simp[Dev.fresh]),(by simp[Dev.fresh])⟩

def over (s:Bytes)(at':Nat)(d:Bytes):Bytes:=s.take at'++d++s.drop (at'+d.length)
def Dev.z74 (D:Dev)(n at':Int)(d:Bytes):Prop:=D.has n=true∧0≤at'∧at'+(d.length:Int)≤((512*D.N:Nat):Int)
instance (D:Dev) (n at':Int) (d:Bytes):Decidable (D.z74 n at' d):=by unfold Dev.z74;infer_instance
def zdr (n:Int)(a:Nat)(d:Bytes)(x:Int×Bytes):Int×Bytes:=if x.1=n then(x.1,over x.2 a d) else x
def z7v (n:Int)(a:Nat)(d:Bytes)(l:List (Int×Bytes))(i:Nat):List (Int×Bytes):=(l.take i).map (zdr n a d)++l.drop i
@[simp] theorem corTo_length (n:Int) (a:Nat) (d:Bytes) (l:List (Int×Bytes)) (i:Nat):(z7v n a d l i).length=l.length:=by simp[z7v];omega

theorem z0F (l:List (Int×Bytes))(x:Int×Bytes)(n:Int):Ua (l++[x]) n=if x.1=n then some x.2 else Ua l n:=by
 unfold Ua
 rw[List.reverse_append,List.reverse_singleton,List.singleton_append,List.find?_cons]
 by_cases h:x.1=n
 ·simp[h]
 ·have hb:(x.1==n)=false:=by simpa using h
  simp[hb,h]
/-! ### Bounds -/
def Dev.Small (D:Dev)(k:Nat):Prop:=D.calls≤k∧D.cache.length≤k∧True∧D.Nt.length≤17592186044416
theorem Dev.Small.bd {D:Dev}{k:Nat}(h:D.Small k)(hk:k<1000000000000):D.Bd:=⟨by have:=h.1;omega,by have:=h.2.1;omega,trivial⟩
/-! ### By footprints -/
def z3c (w:World)(p:Nat)(F:Nat→Prop)(D':Dev)(w':World):Prop:=∃F',QC w' p D' F'∧Upd F F' w w'
theorem Vi.toA {w w':World}{p m:Nat}{kp ca:Value}{D':Dev}{F:Nat→Prop}(hF:∀k,F k↔fpD p m kp ca k)(h:Vi w p m kp ca D' w'):z3c w p F D' w':=by
 have e:F=fpD p m kp ca:=funext fun k=>propext (hF k)
 subst e
 obtain⟨kp',ca',h1,h2⟩:=h
 exact⟨_,⟨m,kp',ca',h1,fun k=>Iff.rfl⟩,h2⟩
section
variable {w:World}{p:Nat}{D:Dev}{F:Nat→Prop}
theorem z3A (h:QC w p D F):Le Tryz.prog 123 [ptr p 0] w fun v w'=>v= .bool D.down∧w'=w:=by
 obtain⟨m,kp,ca,h1,hF⟩:=h;exact z4A h1
theorem z2O (h:QC w p D F):Le Tryz.prog 71 [ptr p 0] w fun v w'=>v=I ((512*D.N:Nat):Int)∧w'=w:=by
 obtain⟨m,kp,ca,h1,hF⟩:=h;exact VH h1
theorem Ui (h:QC w p D F):Le Tryz.prog 110 [ptr p 0] w fun v w'=>v=I (D.B:Int)∧w'=w:=by
 obtain⟨m,kp,ca,h1,hF⟩:=h;exact z0I h1
theorem z0f (n:Int)(s:Bytes)(h:QC w p D F){k:Nat}(hs:D.Small k)(hk:k<1000000000000):
  Le Tryz.prog 162 [ptr p 0,I n,S s] w fun v w'=>v=I (D.write n s).2∧z3c w p F (D.write n s).1 w':=by
 obtain⟨m,kp,ca,h1,hF⟩:=h
 exact(z3t n s h1 (hs.bd hk) hs.2.2.2).mono fun v w' ⟨e,h2⟩=>⟨e,h2.toA hF⟩
theorem z2F (n:Int)(h:QC w p D F){k:Nat}(hs:D.Small k)(hk:k<1000000000000):
  Le Tryz.prog 127 [ptr p 0,I n] w fun v w'=>v= .tuple #[S (D.read n).2.1,I (D.read n).2.2]∧z3c w p F (D.read n).1 w':=by
 obtain⟨m,kp,ca,h1,hF⟩:=h
 exact(z4v n h1 (hs.bd hk)).mono fun v w' ⟨e,h2⟩=>⟨e,h2.toA hF⟩
theorem z6b (B N:Nat)(w:World)(hg:Uh B N):Le Tryz.prog 21 [.agg #[I (B:Int),I (N:Int)]] w fun v w'=>∃p F,v= .tuple #[ptr p 0,I 0]∧QC w' p (Dev.fresh B N) F∧Ext w w'∧∀i,F i→w.heap.size≤i:=
 (z8u B N w hg).mono fun v w' ⟨p,m,e,h,hx,h1,h2⟩=>⟨p,_,e,⟨m,_,_,h,fun k=>Iff.rfl⟩,hx,fun i hi=>by
  rcases hi with h|h|h| h
  ·omega
  ·omega
  ·cases h
  ·cases h⟩
end

theorem z3c.kpF {w w':World}{p:Nat}{F:Nat→Prop}{D':Dev}(h:z3c w p F D' w'):Kp F w w':=by
 obtain⟨F',-,hu⟩:=h
 exact hu.1
def ZS (z b:Int):Int:=(z.tmod b+b).tmod b
theorem P8 (z b:Int)(hb:0<b): -b<z.tmod b∧z.tmod b<b:=by
 have h2:=Int.tmod_lt_of_pos z hb
 refine⟨?_,h2⟩
 have h3:=Int.tmod_lt_of_pos (-z) hb
 rw[Int.neg_tmod] at h3
 omega
theorem Ri (z b:Int)(hb:0<b):0≤ZS z b∧ZS z b<b:=by
 obtain⟨h1,h2⟩:=P8 z b hb
 unfold ZS
 exact⟨Int.tmod_nonneg _ (by omega),Int.tmod_lt_of_pos _ hb⟩

theorem z4Z {D:Dev}{n:Int}{s:Bytes}(hd:D.down=false)(h0:D.due=0)(hn:0≤n∧n<(D.B:Int))(hs:s.length=512*D.N):D.write n s=((D.push n s).count,0):=by
 have hh:D.has n=true:=by simp[Dev.has];omega
 unfold Dev.write
 rw[if_neg (by simp[hd]),if_neg (by simp[hh,hs]),if_neg (by omega)]
def grow:Nat→Bytes→Nat→Bytes
 |0,s,_=>s
 |f+1,s,n=>if s.length<n then grow f (s++s) n else s
def fill (s:Bytes)(n:Nat):Bytes:=(grow (n+1) (if s=[] then [0] else s) n).take n
section
variable {κ:Type}[DecidableEq κ]{K:κ→Value}{P:Program}{e:Env}{d:Option Nat}{ty t kt el:TypeId}{pos:String}{aft:Array Edge}{g:Option (Nat×Bool)}{x y u:Operand}{w:World}{m:Nat}{z:Value}{size bytes:Nat}{k:κ}
theorem zcL (ht:P.underlying t=some (.map kt el))(hK:Ky P kt K)(hz:TI P el z size bytes)(hx:look e x=some (.map none))(hy:look e y=some (K k)):
  Y P e ⟨d,.lookup t x y false,ty,pos,aft,g⟩ z w w:=fun ρ hρ=>by
 have yI:=hz.zero (w:=w)
 have qs:=fun b=>hK.same.choose_spec.2.2 w b 9999 k
 have hu:=hK.same.choose_spec.1
 simp[execOp,hρ _ _ hx,hρ _ _ hy,Instr.lookup,run_underlying ht,qs,yI,Instr.findKey,run_underlying hu,Instr.findNow]
end
structure QM (w:World)(ks mp:Value)(l:List Int):Prop where
 sl:Sl w ks 3 1 l.length (l.map I)
 mp:(mp= .map none∧l=[])∨∃b,mp= .map (some b)∧Nr KI w b (l.map fun k=>(k,I 1))
 n:l.length≤8192
def Fq (ks mp:Value)(b:Nat):Prop:=ks.ownBlock=some b∨mp= .map (some b)
section
variable {w w':World}{ks mp:Value}{l:List Int}{S:Nat→Prop}{c o:Nat}{cs:List Value}{k:Int}
theorem QM.kp (h:QM w ks mp l)(hk:Kp S w w')(hn:∀b,Fq ks mp b→¬S b):QM w' ks mp l:=
 ⟨h.sl.kp hk fun g e=>hn g (.inl e),by
  rcases h.mp with e|⟨b,e,hm⟩
  ·exact .inl e
  ·exact .inr ⟨b,e,hm.kp hk (hn b (.inr e))⟩,h.n⟩
theorem QM.lt (h:QM w ks mp l){b:Nat}(hb:Fq ks mp b):b<w.heap.size:=by
 rcases hb with e| e
 ·exact h.sl.lt e
 ·rcases h.mp with⟨e',-⟩|⟨b',e',hm⟩
  ·rw[e'] at e;cases e
  ·rw[e'] at e;cases e;exact hm.lt
theorem QM.ne (h:QM w ks mp l){b:Nat}(hb:ks.ownBlock=some b):mp≠ .map (some b):=fun e=>by
 obtain⟨cur,h1⟩:=h.sl.typed hb
 rcases h.mp with⟨e',-⟩|⟨b',e',hm⟩
 ·rw[e'] at e;cases e
 ·rw[e'] at e;cases e;obtain⟨⟨es,cl,h2,-⟩,-⟩:=hm;rw[h1] at h2;cases h2
theorem QM.nd (h:QM w ks mp l):l.Nodup:=by
 rcases h.mp with⟨-,e⟩|⟨b',e',hm⟩
 ·rw[e];exact List.nodup_nil
 ·have:=hm.nd;rw[List.map_map] at this;have e:((fun p:Int×Value=>p.1) ∘ fun k:Int=>(k,I 1))=id:=rfl;rw[e,List.map_id] at this;exact this
theorem Yd (l:List Int)(k:Int):getL (l.map fun k=>(k,I 1)) k=if k∈l then some (I 1) else none:=by
 induction l with
 |nil=>rfl
 | cons a l ih =>
   show(if k=a then some (I 1) else getL (l.map fun k=>(k,I 1)) k)=_;rw[ih];by_cases h:k=a
   ·simp[h]
   ·simp[h]
theorem z3U (l:List Int)(k:Int):delL (l.map fun k=>(k,I 1)) k=(l.erase k).map fun k=>(k,I 1):=by
 induction l with
 |nil=>rfl
 | cons a l ih =>
   show(if k=a then l.map (fun k=>(k,I 1)) else(a,I 1)::delL (l.map fun k=>(k,I 1)) k)=_;rw[ih,List.erase_cons];by_cases h:k=a
   ·subst h;simp
   ·rw[if_neg h,if_neg (by simpa using fun e=>h e.symm)];rfl
theorem yqk {P:Program}{e:Env}{d:Option Nat}{ty t kt el:TypeId}{pos:String}{aft:Array Edge}{g:Option (Nat×Bool)}{x y:Operand}{bytes:Nat}(ht:P.underlying t=some (.map kt el))(hK:P.underlying kt=some (.int .i64))(hz:TI P el (I 0) 1 bytes)(hx:look e x=some mp)(hy:look e y=some (I k))(hq:QM w ks mp l):
  Y P e ⟨d,.lookup t x y false,ty,pos,aft,g⟩ (I (if k∈l then 1 else 0)) w w:=by
 rcases hq.mp with⟨rfl,rfl⟩|⟨b,rfl,hm⟩
 ·rw[if_neg (by simp)];exact zcL (k:=k) (K:=KI) ht (Ol hK) hz hx hy
 ·have h:=ylk (k:=k) (K:=KI) (d:=d) (ty:=ty) (pos:=pos) (aft:=aft) (g:=g) ht (Ol hK) hz hx hy hm.l;rw[Yd] at h;by_cases hk:k∈l
  ·rw[if_pos hk] at h⊢;exact h
  ·rw[if_neg hk] at h⊢;exact h
theorem z3I (hB:KP w c cs 167)(h1:cs[o+1]? =some mp)(hq:QM w ks mp l):Le Tryz.prog 152 [ptr c o,I k] w fun v w'=>v= .bool (decide (k∈l))∧w'=w:=by
 refine KA (e:=[(0,_),(1,_)]) Tryz.func152 rfl Tryz.ntmps152 rfl rfl (qN rfl (KE rfl (qM rfl (An rfl (qV (KZ rfl) (qV (KK Sk rfl) (qV (KJ Wg rfl rfl hB h1) (An rfl (qV (yqk (k:=k) Wg U3 LC rfl rfl hq) (qV (LH rfl rfl) (KE rfl (py (KG Tryz.func152 rfl ?_)))))))))))))
 refine⟨_,rfl,?_,rfl⟩
 by_cases hk:k∈l
 ·simp[hk,resVal]
 ·simp[hk,resVal]
theorem z0H {lv:Value}(x:Int)(hR:Rd w lv 1 l.length (l.map I))(hl:l.length≤4294967296):
  Le Tryz.prog 182 [lv,I x] w fun v w'=>w'=w∧((x∉l∧v=I (-1))∨∃i:Nat,v=I (i:Int)∧l[i]? =some x∧x∉l.take i):=by
 obtain⟨a,cap,rfl,-⟩:=hR.shape
 refine KA (e:=[(0,_),(1,_)]) Tryz.func182 rfl Tryz.ntmps182 rfl rfl (qN rfl (KE rfl (py (run_seq (qN rfl (An rfl (qV (LG Mu rfl) (An rfl (py (KB (MQ (α:=Nat) (0) (fun i=>[(0,.slice a l.length cap),(1,I x),(7,I (l.length:Int)),(8,I (i:Int))]) (fun i w'=>w'=w∧i≤l.length∧x∉l.take i) (fun i=>l.length-i) ?hI ?hround)))))))))))
 case hI=>exact⟨rfl,Nat.zero_le _,by simp⟩
 case hround=>
  rintro i wi ⟨rfl,hi,fM⟩ ih
  try dsimp only
  refine qN rfl (qV (LW rfl rfl) (py (run_seq (KQ rfl (fun aQ=>?_) (fun aQ=>?_)))))
  ·have sr:i<l.length:=by omega
   obtain⟨s,ss⟩:∃s,l[i]? =some s:=⟨_,List.getElem?_eq_getElem sr⟩
   obtain⟨lb,lo,lc,e5⟩:∃b o c',Value.slice a l.length cap= .slice (some ⟨b,o,none⟩) l.length c':=by
    rcases hR.2 with⟨c,hc,h0⟩|⟨b,off,c',hc,-⟩
    ·omega
    ·exact⟨b,off,c',hc⟩
   cases e5;refine It (run_seq (KB (qN rfl (An rfl (KE rfl (qM rfl (An rfl (An rfl (An rfl (qV (Lt Mu LC rfl rfl (by omega)) (qV (Lb U3 rfl rfl (LN hR (show(l.map I)[i]? =some (I s) by rw[List.getElem?_map,ss];rfl))) ?_)))))))))));refine qV (Mc rfl rfl) (py (KQ rfl (fun he=>?_) (fun he=>?_)))
   ·refine qN rfl (An rfl (KE rfl (py (KG Tryz.func182 rfl ?_))));exact⟨_,rfl,rfl,.inr ⟨i,rfl,by rw[he];exact ss,fM⟩⟩
   ·refine It (KC (KF rfl (Lz rfl rfl (An rfl (py ((ih (i+1) _ ⟨rfl,sr,fun hh=>?_⟩ (by omega)).qb))))));rw[Ls ss,List.mem_append,List.mem_singleton] at hh;rcases hh with h| h
    ·exact fM h
    ·exact he h
  ·have:i=l.length:=by omega
   subst this;rw[List.take_length] at fM;refine KO rfl (qN rfl (KE rfl (py (KG Tryz.func182 rfl ?_))));exact⟨_,rfl,rfl,.inl ⟨fM,rfl⟩⟩
theorem z5I {i:Nat}{x:Int}(h:l[i]? =some x)(hn:x∉l.take i):l.take i++l.drop (i+1)=l.erase x:=by
 obtain⟨hi,e⟩:=List.getElem?_eq_some_iff.1 h
 conv=>rhs;rw[←List.take_append_drop i l]
 rw[List.erase_append_right _ hn,List.drop_eq_getElem_cons hi,e,List.erase_cons_head]
theorem Yw {α:Type}{l:List α}{i:Nat}{a:α}(h:l[i]? =some a):l.set i a=l:=by
 obtain⟨hi,e⟩:=List.getElem?_eq_some_iff.1 h
 rw[←e,List.set_getElem_self]
theorem z35 (hB:KP w c cs 167)(h0:cs[o]? =some ks)(h1:cs[o+1]? =some mp)(hq:QM w ks mp l)(nc:¬Fq ks mp c):Le Tryz.prog 153 [ptr c o,I k] w fun v w'=>∃ks',v= .tuple #[]∧KP w' c (cs.set o ks') 167∧QM w' ks' mp (l.erase k)∧(∀b,Fq ks' mp b→Fq ks mp b)∧Kp (fun b=>b=c∨Fq ks mp b) w w':=by
 have hn:=hq.n
 have gE:=hq.nd
 refine KA (e:=[(0,_),(1,_)]) Tryz.func153 rfl Tryz.ntmps153 rfl rfl (qN rfl (An rfl (qV (KZ rfl) (qV (KK LA rfl) (qV (KJ Mu rfl rfl hB h0) (An rfl (L2 [.tmp 8,.tmp 9] z7M rfl (z0H k hq.sl.rd (by omega)) ?_)))))))
 rintro _ w ⟨rfl,hv⟩
 rcases hv with⟨hk,rfl⟩|⟨i,rfl,hi,tF⟩
 ·refine KE rfl (qM rfl (An rfl (qV (OL rfl rfl) (Lq (py (Kx rfl (It (LZ Tryz.func153 rfl (⟨_,rfl,ks,rfl,?_,?_,fun b hb=>hb,Kp.refl _ _⟩)))))))))
  ·rw[Yw h0];exact hB
  ·rw[List.erase_of_not_mem hk];exact hq
 ·have CC:k∈l:=List.mem_of_getElem? hi;have cL:=(List.getElem?_eq_some_iff.1 hi).1;refine KE rfl (qM rfl (An rfl (qV (OL rfl rfl) (MC (py (KS rfl (qN rfl (An rfl (An rfl (qV (KZ rfl) (qV (KK LA rfl) (qV (KJ Mu rfl rfl hB h0) (An rfl ?_)))))))))))));refine An rfl (Lz rfl rfl (L2 [.tmp 17,.tmp 18,.tmp 20] zbc rfl (z5F hq.sl (fun c hc=>by obtain⟨z,-,rfl⟩:=List.mem_map.1 hc;rfl) cL (by omega)) ?_));rintro ks2 w2 ⟨cH,am,tI⟩
  have e2:(l.map I).take i++(l.map I).drop (i+1)=(l.erase k).map I:=by
   rw[←List.map_take,←List.map_drop,←List.map_append,z5I hi tF]
  rw[e2] at cH;have jh:(l.erase k).length=l.length-1:=List.length_erase_of_mem CC;rw[←jh] at cH;have iR:¬ks.ownBlock=some c:=fun e=>nc (.inl e);have ak:=am.KD hB iR;refine qV (KZ rfl) (qV (KK LA rfl) (KR rfl (Mn ZI rfl rfl (z5G cH) ak (by have:=(List.getElem?_eq_some_iff.1 h0).1;omega)) ?_));rintro w3 ⟨ar,ax⟩
  obtain⟨b,rfl,hm⟩:∃b,mp= .map (some b)∧Nr KI w b (l.map fun k=>(k,I 1)):=by
   rcases hq.mp with⟨-,e⟩| h
   ·rw[e] at CC;cases CC
   ·exact h
  have Fe:c≠b:=fun e=>nc (.inr (by rw[e]));have yx:ks.ownBlock≠some b:=fun e=>hq.ne e rfl;have x8:o+1<cs.length:=(List.getElem?_eq_some_iff.1 h1).1;have mJ:=(hm.kp am yx).kp ax (fun e=>Fe e.symm);have Cq:(cs.set (o+0) ks2)[o+1]? =some (Value.map (some b)):=by rw[List.getElem?_set_ne (by omega)];exact h1
  refine py (KF rfl (An rfl (qV (KZ rfl) (qV (KK Sk rfl) (qV (KJ Wg rfl rfl ar Cq) (An rfl (z47 rfl (zas (k:=k) (K:=KI) Wg (Ol U3) rfl rfl mJ rfl) ?_)))))));rintro _ w4 ⟨j8,av⟩;rw[z3U] at j8;refine py (Lc.qb (e:=[]) ?_);refine LZ Tryz.func153 rfl ?_;have jF:Kp (fun j=>j=c∨Fq ks (.map (some b)) j) w w4:=((am.KT fun j e=> .inr (.inl e)).trans (ax.KT fun j e=> .inl e)).trans (av.KT fun j e=> .inr (.inr (by rw[e])));exact⟨_,rfl,ks2,rfl,av.KD ar Fe,⟨(cH.kp ax fun g e e'=>nc (.inl (e'▸tI g e))).kp av fun g e e'=>yx (e'▸tI g e),.inr ⟨b,rfl,j8⟩,by omega⟩,fun j hj=>hj.imp (tI j) id,jF⟩
theorem z4w (hB:KP w c cs 167)(h0:cs[o]? =some ks)(h1:cs[o+1]? =some mp)(hq:QM w ks mp l)(nc:¬Fq ks mp c)(hk:k∉l)(hl:l.length≤8191):Le Tryz.prog 157 [ptr c o,I k] w fun v w'=>∃ks' mp',v= .tuple #[]∧KP w' c ((cs.set (o+1) mp').set o ks') 167∧QM w' ks' mp' (l++[k])∧(∀b,Fq ks' mp' b→Fq ks mp b∨w.heap.size≤b)∧Kp (fun b=>b=c∨Fq ks mp b) w w':=by
 have hn:=hq.n
 have gE:=hq.nd
 have lc:=hB.lt
 have x8:o+1<cs.length:=(List.getElem?_eq_some_iff.1 h1).1
 obtain⟨mo,rfl,Ih⟩:∃mo,mp= .map mo∧((mo=none∧l=[])∨∃b,mo=some b∧Nr KI w b (l.map fun k=>(k,I 1))):=by
  rcases hq.mp with⟨e,e2⟩|⟨b,e,e2⟩
  ·exact⟨_,e,.inl ⟨rfl,e2⟩⟩
  ·exact⟨_,e,.inr ⟨b,rfl,e2⟩⟩
 refine KA (e:=[(0,_),(1,_)]) Tryz.func157 rfl Tryz.ntmps157 rfl rfl (run_seq (qN rfl (An rfl (qV (KZ rfl) (qV (KK Sk rfl) (qV (KJ Wg rfl rfl hB h1) (qV (zaZ Wg rfl rfl) (py (Lp (fun e' w'=>∃b,e'=[(0,ptr c o),(1,I k)]∧KP w' c (cs.set (o+1) (.map (some b))) 167∧Nr KI w' b (l.map fun k=>(k,I 1))∧Sl w' ks 3 1 l.length (l.map I)∧(mo=some b∨w.heap.size≤b)∧Kp (fun j=>j=c) w w'∧b≠c∧ks.ownBlock≠some b) ?cD (fun cD=>?cQ))))))))))
 case cD=>
  rintro e' w1 ⟨b,rfl,ai,dr,j7,hb,aN,Ff,fU⟩;have m4:(cs.set (o+1) (Value.map (some b)))[o+1]? =some (.map (some b)):=List.getElem?_set_self x8;have fg:(cs.set (o+1) (Value.map (some b)))[o]? =some ks:=by rw[List.getElem?_set_ne (by omega)];exact h0
  have z1:=aN.size;refine qN rfl (An rfl (qV (KZ rfl) (qV (KK Sk rfl) (qV (KJ Wg rfl rfl ai m4) (An rfl (KR rfl (z8S (k:=k) (K:=KI) Wg (Ol U3) rfl rfl rfl dr) ?_))))));rintro w2 ⟨lP,am⟩;rw[P7 _ _ _ (by rw[Yd,if_neg hk])] at lP;have ak:=am.KD ai (fun e=>Ff e.symm);have cH:=j7.kp am (fun g e e'=>fU (e'▸e));refine py (KF rfl (An rfl (An rfl (qV (KZ rfl) (qV (KK LA rfl) (qV (KJ Mu rfl rfl ak fg) (An rfl (KL rfl rfl (Tb (parts:=[(0,.tmp 23)]) (cs:=[_]) (zs:=[Value.int .i64 0]) Mu LC rfl (by kernel_rfl) rfl rfl rfl (by decide)) ?_))))))));rintro _ w3 ⟨b24,rfl,⟨Ii,ah,dW⟩,CD⟩;have lb:=lP.lt;have z2:=am.size;refine KL rfl rfl (pap Mu LC rfl (by decide) rfl rfl (cH.ext ah) CD.rd (by intro c hc;simp at hc;subst hc;rfl) (by omega) (by simp only[maxLen];omega)) ?_;rintro ks4 w4 ⟨dP,av,Fg,-⟩;have z3:=ah.size;have z4:=av.size;have iR:ks.ownBlock≠some c:=fun e=>nc (.inl e);have aI:=av.KD (ah.KD ak) iR;have j8:=(lP.ext ah).kp av fU;refine qV (KZ rfl) (qV (KK LA rfl) (KR rfl (Mn ZI rfl rfl (z5G dP) aI (by rw[List.length_set];omega)) ?_));rintro w5 ⟨aG,aj⟩;refine py (LZ Tryz.func157 rfl ?_)
  have lk4:∀g,ks4.ownBlock=some g→g≠c:=fun g e e'=>by
   rcases Fg g e with h| h
   ·exact iR (e'▸h)
   ·omega
  have aD:(l++[k]).length=l.length+1:=by simp
  refine⟨_,rfl,ks4,.map (some b),rfl,aG,⟨?_,.inr ⟨b,rfl,?_⟩,by omega⟩,fun j hj=>?_,?_⟩
  ·rw[List.map_append,aD];exact dP.kp aj fun g e e'=>lk4 g e e'
  ·rw[List.map_append];exact j8.kp aj Ff
  ·rcases hj with hj|hj
   ·rcases Fg j hj with h| h
    ·exact .inl (.inl h)
    ·exact .inr (by omega)
   ·cases hj;rcases hb with h| h
    ·exact .inl (.inr (by rw[h]))
    ·exact .inr h
  ·have CE:Kp (fun j=>j=c∨Fq ks (.map mo) j) w w2:=by
    rcases hb with h| h
    ·exact(aN.KT fun j e=> .inl e).trans (am.KT fun j e=> .inr (.inr (by rw[h,e])))
    ·exact(aN.KT fun j e=> .inl e).Kz am (fun j e=>by omega)
   exact((CE.trans ah.kp).trans (av.KT fun j e=> .inr (.inl e))).trans (aj.KT fun j e=> .inl e)
 case cQ=>
  rcases Ih with⟨rfl,rfl⟩|⟨b,rfl,hm⟩
  ·refine KS rfl (KF rfl (An rfl (KL rfl rfl (pmm) ?_)));rintro _ w1 ⟨b,rfl,hb,ad,cw⟩;have dr:Nr KI w1 b []:=Nr.new cw;have ai:=ad.KD hB;refine qV (KZ rfl) (qV (KK Sk rfl) (KR rfl (Mn z1b rfl rfl rfl ai x8) ?_));rintro w2 ⟨ak,am⟩;refine py ?_;have lb:=dr.lt;exact(cD _ _ ⟨b,rfl,ak,dr.kp am (by omega),(hq.sl.ext ad).kp am (fun g e e'=>nc (.inl (e'▸e))),.inr (by omega),ad.kp.trans am,by omega,fun e=>by have:=hq.sl.lt e;omega⟩).qb
  ·refine Kx rfl (It ?_);exact(cD _ _ ⟨b,rfl,by rw[Yw h1];exact hB,hm,hq.sl,.inl rfl,Kp.refl _ _,fun e=>nc (.inr (by rw[e])),fun e=>hq.ne e rfl⟩).qb
end
def Arc.li (A:Arc):Nat→List Int
 |0=>A.once
 |1=>A.often
 |2=>A.KX
 |_=>A.KU
def Arc.Mi (A:Arc):Nat→List Int→Arc
 |0,l=>{A with once:=l}
 |1,l=>{A with often:=l}
 |2,l=>{A with KX:=l}
 |_,l=>{A with KU:=l}
theorem Arc.z8M (A:Arc){j:Nat}(hj:j<4)(l:List Int)(i:Nat)(hi:i<4):(A.Mi j l).li i=if i=j then l else A.li i:=by
 match j,hj,i,hi with
 |0,_,0,_|0,_,1,_|0,_,2,_|0,_,3,_|1,_,0,_|1,_,1,_|1,_,2,_|1,_,3,_|2,_,0,_|2,_,1,_|2,_,2,_|2,_,3,_|3,_,0,_|3,_,1,_|3,_,2,_|3,_,3,_=>rfl
def z2x (V:Nat→Value×Value)(j:Nat)(q:Value×Value)(i:Nat):Value×Value:=if i=j then q else V i
def Zz (S:Nat)(T:Int)(V:Nat→Value×Value)(p:Nat):List Value:=[I (S:Int),(V 0).1,(V 0).2,(V 1).1,(V 1).2,(V 2).1,(V 2).2,(V 3).1,(V 3).2,I T,.map (some p)]
abbrev FV (V:Nat→Value×Value)(j b:Nat):Prop:=Fq (V j).1 (V j).2 b
structure NH (w:World)(c:Nat)(A:Arc)(V:Nat→Value×Value)(p:Nat):Prop where
 KD:KP w c (Zz A.size A.target V p) 167
 q:∀j,j<4→QM w (V j).1 (V j).2 (A.li j)
 pins:QJ KI w p []
 Qu:∀i j,i<4→j<4→i≠j→∀b,FV V i b→¬FV V j b
 nc:∀j,j<4→¬FV V j c
 np:∀j,j<4→¬FV V j p
 cp:c≠p
def Nw (c:Nat)(V:Nat→Value×Value)(p b:Nat):Prop:=b=c∨b=p∨∃j,j<4∧FV V j b
section
variable {w w' w2:World}{c p:Nat}{A A' A2:Arc}{V V' V2:Nat→Value×Value}{S:Nat→Prop}{k:Int}
theorem NH.kp (h:NH w c A V p)(hk:Kp S w w')(hn:∀b,Nw c V p b→¬S b):NH w' c A V p:=
 ⟨hk.KD h.KD (hn _ (.inl rfl)),fun j hj=>(h.q j hj).kp hk fun b hb=>hn b (.inr (.inr ⟨j,hj,hb⟩)),hk.map h.pins (hn _ (.inr (.inl rfl))),h.Qu,h.nc,h.np,h.cp⟩
theorem NH.ext (h:NH w c A V p)(hx:Ext w w'):NH w' c A V p:=h.kp (S:=fun _=>False) hx fun _ _=>id
theorem NH.lt (h:NH w c A V p){b:Nat}(hb:Nw c V p b):b<w.heap.size:=by
 rcases hb with e|e|⟨j,hj,hb⟩
 ·rw[e];exact h.KD.lt
 ·rw[e];exact h.pins.lt
 ·exact(h.q j hj).lt hb
structure RE (w:World)(c:Nat)(V:Nat→Value×Value)(p:Nat)(w':World)(A':Arc)(V':Nat→Value×Value):Prop where
 m:NH w' c A' V' p
 fp:∀b,Nw c V' p b→Nw c V p b∨w.heap.size≤b
 k:Kp (Nw c V p) w w'
theorem RE.trans (h:RE w c V p w' A' V')(h2:RE w' c V' p w2 A2 V2):RE w c V p w2 A2 V2:=
 ⟨h2.m,fun b hb=>by
  rcases h2.fp b hb with e| e
  ·exact h.fp b e
  ·exact .inr (by have:=h.k.size;omega),h.k.Kz h2.k fun b hb=>(h.fp b hb).symm⟩
theorem NH.r (h:NH w c A V p)(hx:Ext w w'):RE w c V p w' A V:=⟨h.ext hx,fun b hb=> .inl hb,hx.kp⟩
theorem NH.VX {j:Nat}(hj:j<4)(h:NH w c A V p){ks mp:Value}{l:List Int}(hB:KP w' c (Zz A.size A.target (z2x V j (ks,mp)) p) 167)(hs:(A.Mi j l).size=A.size∧(A.Mi j l).target=A.target)(hq:QM w' ks mp l)(hf:∀b,Fq ks mp b→FV V j b∨w.heap.size≤b)(hk:Kp (fun b=>b=c∨FV V j b) w w'):RE w c V p w' (A.Mi j l) (z2x V j (ks,mp)):=by
 have aQ:∀{b:Nat},Nw c V p b→b<w.heap.size:=h.lt
 have aZ:∀i,i<4→i≠j→∀b,FV V i b→¬(b=c∨FV V j b):=fun i hi gH b hb e=>by
  rcases e with e| e
  ·exact h.nc i hi (e▸hb)
  ·exact h.Qu i j hi hj gH b hb e
 have dz:∀i,i≠j→z2x V j (ks,mp) i=V i:=fun i e=>if_neg e
 have dB:z2x V j (ks,mp) j=(ks,mp):=if_pos rfl
 refine⟨⟨by rw[hs.1,hs.2];exact hB,fun i hi=>?_,hk.map h.pins (fun e=>?_),fun i i2 hi de bE b hb bM=>?_,fun i hi hb=>?_,fun i hi hb=>?_,h.cp⟩,fun b hb=>?_,hk.KT fun b hb=>?_⟩
 ·rw[Arc.z8M A hj l i hi];by_cases e:i=j
  ·rw[if_pos e,e,dB];exact hq
  ·rw[if_neg e,dz i e];exact(h.q i hi).kp hk fun b hb=>aZ i hi e b hb
 ·rcases e with e| e
  ·exact h.cp e.symm
  ·exact h.np j hj e
 ·by_cases e:i=j
  ·have e2:i2≠j:=fun e2=>bE (e.trans e2.symm);unfold FV at hb bM;rw[e,dB] at hb;rw[dz i2 e2] at bM;rcases hf b hb with h1|h1
   ·exact h.Qu j i2 hj de (fun e3=>e2 e3.symm) b h1 bM
   ·have:=aQ (.inr (.inr ⟨i2,de,bM⟩));omega
  ·unfold FV at hb bM;rw[dz i e] at hb;by_cases e2:i2=j
   ·rw[e2,dB] at bM;rcases hf b bM with h1|h1
    ·exact h.Qu i j hi hj e b hb h1
    ·have:=aQ (.inr (.inr ⟨i,hi,hb⟩));omega
   ·rw[dz i2 e2] at bM;exact h.Qu i i2 hi de bE b hb bM
 ·by_cases e:i=j
  ·unfold FV at hb;rw[e,dB] at hb;rcases hf c hb with h1|h1
   ·exact h.nc j hj h1
   ·have:=h.KD.lt;omega
  ·unfold FV at hb;rw[dz i e] at hb;exact h.nc i hi hb
 ·by_cases e:i=j
  ·unfold FV at hb;rw[e,dB] at hb;rcases hf p hb with h1|h1
   ·exact h.np j hj h1
   ·have:=h.pins.lt;omega
  ·unfold FV at hb;rw[dz i e] at hb;exact h.np i hi hb
 ·rcases hb with e|e|⟨i,hi,hb⟩
  ·exact .inl (.inl e)
  ·exact .inl (.inr (.inl e))
  ·by_cases e:i=j
   ·unfold FV at hb;rw[e,dB] at hb;rcases hf b hb with h1|h1
    ·exact .inl (.inr (.inr ⟨j,hj,h1⟩))
    ·exact .inr h1
   ·unfold FV at hb;rw[dz i e] at hb;exact .inl (.inr (.inr ⟨i,hi,hb⟩))
 ·rcases hb with e| e
  ·exact .inl e
  ·exact .inr (.inr ⟨j,hj,e⟩)
theorem Rg (S:Nat)(T:Int)(V:Nat→Value×Value)(p:Nat){j:Nat}(hj:j<4):(Zz S T V p)[1+2*j]? =some (V j).1∧(Zz S T V p)[1+2*j+1]? =some (V j).2:=by
 match j,hj with
 |0,_|1,_|2,_|3,_=>exact⟨rfl,rfl⟩
theorem z6t (S:Nat)(T:Int)(V:Nat→Value×Value)(p:Nat){j:Nat}(hj:j<4)(ks mp:Value):((Zz S T V p).set (1+2*j+1) mp).set (1+2*j) ks=Zz S T (z2x V j (ks,mp)) p:=by
 match j,hj with
 |0,_|1,_|2,_|3,_=>rfl
theorem z43 (S:Nat)(T:Int)(V:Nat→Value×Value)(p:Nat){j:Nat}(hj:j<4)(ks:Value):(Zz S T V p).set (1+2*j) ks=Zz S T (z2x V j (ks,(V j).2)) p:=by
 match j,hj with
 |0,_|1,_|2,_|3,_=>rfl
theorem UK (A:Arc){j:Nat}(hj:j<4)(l:List Int):(A.Mi j l).size=A.size∧(A.Mi j l).target=A.target:=by
 match j,hj with
 |0,_|1,_|2,_|3,_=>exact⟨rfl,rfl⟩
theorem Sy (h:NH w c A V p){j:Nat}(hj:j<4):Le Tryz.prog 152 [ptr c (1+2*j),I k] w fun v w'=>v= .bool (decide (k∈A.li j))∧w'=w:=
 z3I h.KD (Rg _ _ _ _ hj).2 (h.q j hj)
theorem LI (h:NH w c A V p){j:Nat}(hj:j<4):Le Tryz.prog 153 [ptr c (1+2*j),I k] w fun v w'=>v= .tuple #[]∧∃V',RE w c V p w' (A.Mi j ((A.li j).erase k)) V':=by
 refine(z35 h.KD (Rg _ _ _ _ hj).1 (Rg _ _ _ _ hj).2 (h.q j hj) (h.nc j hj) (k:=k)).mono fun v w' hv=>?_
 obtain⟨ks',rfl,hB,hq,hf,hk⟩:=hv
 rw[z43 _ _ _ _ hj] at hB
 exact⟨rfl,_,h.VX hj hB (UK A hj _) hq (fun b hb=> .inl (hf b hb)) hk⟩
theorem Md (h:NH w c A V p){j:Nat}(hj:j<4)(hk:k∉A.li j)(hl:(A.li j).length≤8191):Le Tryz.prog 157 [ptr c (1+2*j),I k] w fun v w'=>v= .tuple #[]∧∃V',RE w c V p w' (A.Mi j (A.li j++[k])) V':=by
 refine(z4w h.KD (Rg _ _ _ _ hj).1 (Rg _ _ _ _ hj).2 (h.q j hj) (h.nc j hj) hk hl).mono fun v w' hv=>?_
 obtain⟨ks',mp',rfl,hB,hq,hf,hk⟩:=hv
 rw[z6t _ _ _ _ hj] at hB
 exact⟨rfl,_,h.VX hj hB (UK A hj _) hq hf hk⟩
def ZY (n:Nat):Arc:=⟨n,[],[],[],[],0⟩
theorem z5Y {n:Nat}(h:1≤n):(ZY n).Ok:=⟨h,List.nodup_nil,Nat.zero_le _,Nat.zero_le _,Nat.zero_le _,⟨Int.le_refl _,by show(0:Int)≤(n:Int);omega⟩⟩
theorem z4j (n:Nat)(h1:1≤n)(h2:n≤4096)(w:World):Le Tryz.prog 41 [I (n:Int)] w fun v w'=>∃c V p,v= .tuple #[ptr c 0,I 0]∧NH w' c (ZY n) V p∧(∀b,Nw c V p b→w.heap.size≤b)∧Ext w w':=by
 refine KA (e:=[(0,_)]) Tryz.func41 rfl Tryz.ntmps41 rfl rfl (qN rfl (KE rfl (KE rfl (py (run_seq (qN rfl (An rfl (qV (LW rfl rfl) (Lq (An rfl (An rfl (qV (LH rfl rfl) (Lq ?_)))))))))))))
 refine qV (Lk rfl rfl) (py (Kx rfl (It (qN rfl (An rfl (KL rfl rfl (pmm) ?_))))))
 rintro _ w1 ⟨p,rfl,hp,ad,cw⟩
 refine qV (Nc (parts:=[(0,.tmp 10),(6,.tmp 11)]) (cs:=[_,_,_,_,_,_,_,_,_,_,_]) za3 rfl z9a rfl rfl) (KL rfl rfl (Mz rfl (cs:=Zz n 0 (fun _=>(.slice none 0 0,.map none)) p) rfl) ?_)
 rintro _ w2 ⟨c,rfl,hc,af,ak⟩
 refine KE rfl (KE rfl (py (KG Tryz.func41 rfl ?_)))
 have dr:Nr KI w1 p []:=Nr.new cw
 have lp:=dr.lt
 have fM:∀b,¬Fq (.slice none 0 0) (.map none) b:=fun b e=>by rcases e with e|e<;>cases e
 refine⟨_,rfl,c,_,p,rfl,⟨ak,fun j hj=>⟨?_,?_,?_⟩,af.map dr.l,fun i j hi hj bE b hb=>absurd hb (fM b),fun j hj=>fM c,fun j hj=>fM p,by omega⟩,fun b hb=>?_,ad.trans af⟩
 ·have e:(ZY n).li j=[]:=by match j,hj with|0,_|1,_|2,_|3,_=>rfl
  rw[e];exact Sl.nil _ _ _
 ·left
  refine⟨rfl,?_⟩
  match j,hj with|0,_|1,_|2,_|3,_=>rfl
 ·have e:(ZY n).li j=[]:=by match j,hj with|0,_|1,_|2,_|3,_=>rfl
  rw[e];exact Nat.zero_le _
 ·rcases hb with e|e|⟨j,hj,hb⟩
  ·have:=ad.size;omega
  ·omega
  ·exact absurd hb (fM b)
end
section
variable {w w' w2:World}{c p:Nat}{A A' A2:Arc}{V V' V2:Nat→Value×Value}{S:Nat→Prop}{k:Int}
theorem NH.cells (h:NH w c A V p):KP w c [I (A.size:Int),(V 0).1,(V 0).2,(V 1).1,(V 1).2,(V 2).1,(V 2).2,(V 3).1,(V 3).2,I A.target,.map (some p)] 167:=h.KD
theorem z3q (h:NH w c A V p):Le Tryz.prog 151 [ptr c 0,I k] w fun v w'=>v= .bool (decide (k∈A.once∨k∈A.often))∧w'=w:=by
 have h0:=Sy h (j:=0) (k:=k) (by decide)
 have h1:=Sy h (j:=1) (k:=k) (by decide)
 rw[show A.li 0=A.once from rfl] at h0
 rw[show A.li 1=A.often from rfl] at h1
 refine KA (e:=[(0,_),(1,_)]) Tryz.func151 rfl Tryz.ntmps151 rfl rfl (qN rfl (KE rfl (qM rfl (An rfl (qV (z5d U89 rfl rfl) (An rfl (An rfl (qV (KZ rfl) (qV (KK M7 rfl) (An rfl (L2 [.tmp 10,.tmp 11] U0 rfl (h0) ?_)))))))))))
 rintro _ w ⟨rfl,rfl⟩
 by_cases iT:k∈A.once
 ·rw[decide_eq_true iT];refine An rfl (qS (qS (qS (qS (qS (qV (LK rfl rfl) (qV (LK rfl rfl) (KE rfl (py (KG Tryz.func151 rfl ?_))))))))));exact⟨_,rfl,by rw[decide_eq_true (Or.inl iT)];rfl,rfl⟩
 ·rw[decide_eq_false iT];refine An rfl (An rfl (qV (KZ rfl) (qV (KK Mx rfl) (An rfl (L2 [.tmp 16,.tmp 17] U0 rfl (h1) ?_)))));rintro _ w ⟨rfl,rfl⟩;refine qV (Lk rfl rfl) (qV (LK rfl rfl) (KE rfl (py (KG Tryz.func151 rfl (⟨_,rfl,?_,rfl⟩)))));by_cases aN:k∈A.often
  ·simp[iT,aN,resVal]
  ·simp[iT,aN,resVal]
def RM:List Int→Value
 |[]=> .tuple #[I 0,.bool false]
 |a::_=> .tuple #[I a,.bool true]
theorem PY (h:NH w c A V p){j:Nat}(hj:j<4):Le Tryz.prog 158 [ptr c 0,ptr c (1+2*j)] w fun v w'=>v=RM (A.li j)∧w'=w:=by
 have hB:=h.cells
 have hg:=(Rg A.size A.target V p hj).1
 have hq:=h.q j hj
 obtain⟨ka,kc,fV,x9⟩:∃a c,(V j).1= .slice a (A.li j).length c∧(a=none→(A.li j).length=0):=hq.sl.rd.shape
 rw[fV] at hg
 have hR:=hq.sl.rd
 have hn:=hq.n
 rw[fV] at hR
 refine KA (e:=[(0,_),(1,_)]) Tryz.func158 rfl Tryz.ntmps158 rfl rfl (qN rfl (KE rfl (KE rfl (py (run_seq (qN rfl (An rfl (qV (KZ rfl) (qV (KK LA rfl) (qV (KJ Mu rfl rfl h.KD hg) (qV (LG Mu rfl) (An rfl (py ?_)))))))))))))
 refine KB ?_
 cases hl:A.li j with
 | nil =>
   rw[hl] at hR;refine MQ (α:=Unit) (()) (fun _=>[(0,ptr c 0),(12,.slice ka 0 kc),(13,I 0),(14,I 0)]) (fun _ w'=>w'=w) (fun _=>0) ?hI ?hround
   case hI=>rfl
   case hround=>
    rintro i w2 rfl ih
    try dsimp only
    refine qN rfl (qV (LW rfl rfl) (Lq (py (run_seq (Kx rfl (KO rfl (qN rfl (KE rfl (qM rfl (An rfl (KE rfl (KE rfl (py ?_)))))))))))));refine KG Tryz.func158 rfl ?_
    exact⟨_,rfl,rfl,rfl⟩
 | cons x r =>
   rw[hl] at hR x9 hn
   obtain⟨kb,rfl⟩:∃b,ka=some b:=by
    cases ka with
    |none=>have:=x9 rfl;simp at this
    |some b=>exact⟨b,rfl⟩
   obtain⟨lb,lo,lc,e5⟩:∃b o c',Value.slice (some kb) (x::r).length kc= .slice (some ⟨b,o,none⟩) (x::r).length c':=by
    rcases hR.2 with⟨c,hc,h0⟩|⟨b,off,c',hc,-⟩
    ·simp at h0
    ·exact⟨b,off,c',hc⟩
   cases e5;have gM:0<(x::r).length:=by simp
   refine MQ (α:=Unit) (()) (fun _=>[(0,ptr c 0),(12,.slice (some ⟨lb,lo,none⟩) (x::r).length kc),(13,I ((x::r).length:Int)),(14,I ((0:Nat):Int))]) (fun _ w'=>w'=w) (fun _=>0) ?hI ?hround
   case hI=>rfl
   case hround=>
    rintro i w2 rfl ih
    try dsimp only
    refine qN rfl (qV (LW rfl rfl) (MC (py (run_seq (KS rfl (It (run_seq (KB (qN rfl (qV (Lt Mu LC rfl rfl (by omega)) (qV (Lb U3 rfl rfl (LN hR (i:=0) (show((x::r).map I)[0]? =some (I x) from rfl))) (KE rfl (qM rfl ?_)))))))))))));refine An rfl (qV (KZ rfl) (qV (KK z60 rfl) (qV (KJ Wg rfl rfl hB rfl) (An rfl (qV (ylk (k:=x) (K:=KI) Wg (Ol U3) LC rfl rfl h.pins) (qV (Mc rfl rfl) (MC (py (KS rfl (qN rfl (An rfl (KE rfl (KE rfl ?_)))))))))))));refine py (KG Tryz.func158 rfl ?_);exact⟨_,rfl,rfl,rfl⟩
theorem WO (h:NH w c A V p)(hA:A.Ok)(cn:A.size≤1000):Le Tryz.prog 159 [ptr c 0] w fun v w'=>v= .bool (decide (A.once.length+A.often.length=A.size))∧Ext w w':=by
 have hB:=h.cells
 have hh:=hA.held
 obtain⟨a0,c0,e0,-⟩:∃a c,(V 0).1= .slice a A.once.length c∧_:=(h.q 0 (by decide)).sl.rd.shape
 obtain⟨a1,c1,e1,-⟩:∃a c,(V 1).1= .slice a A.often.length c∧_:=(h.q 1 (by decide)).sl.rd.shape
 rw[e0,e1] at hB
 have hg:=Ext.L4 w
 refine KA (e:=[(0,_)]) Tryz.func159 rfl Tryz.ntmps159 rfl rfl (qN rfl (KE rfl (py (run_seq (KN (fun w'=>Ext w w') (by kernel_rfl) rfl (KH 0 rfl (KM rfl) hg (KH 1 rfl (KZ rfl) hg (KH 2 rfl (KK M7 rfl) hg (KH 3 rfl (KK LA rfl) hg (qT 4 rfl (fun _ h=>KJ Mu rfl rfl (h.KD hB) rfl) hg (KH 5 rfl (LG Mu rfl) hg (KH 6 rfl (KM rfl) hg (KH 7 rfl (KZ rfl) hg ?_)))))))))))))
 refine KH 8 rfl (KK Mx rfl) hg (KH 9 rfl (KK LA rfl) hg (qT 10 rfl (fun _ h=>KJ Mu rfl rfl (h.KD hB) rfl) hg (KH 11 rfl (LG Mu rfl) hg (KH 12 rfl (PW rfl rfl (by omega)) hg (KH 13 rfl (KM rfl) hg (KH 14 rfl (KZ rfl) hg (KH 15 rfl (KK Nh rfl) hg (qT 16 rfl (fun _ h=>KJ U3 rfl rfl (h.KD hB) rfl) hg (KH 17 rfl (Mc rfl rfl) hg (KH 18 rfl (ML rfl) hg (qE (KG Tryz.func159 rfl (⟨_,rfl,?_,hg⟩)))))))))))))
 show Value.bool _=Value.bool _
 congr 1
 exact decide_eq_decide.2 (by omega)
end
def MD (YB:Bool)(g:Option Int):List Value:=[.bool YB,.bool g.isSome,I (g.getD 0)]
abbrev z6O (YB:Bool)(g:Option Int):Value:= .agg (MD YB g).toArray
section
variable {w w' w2:World}{c p:Nat}{A A' A2:Arc}{V V' V2:Nat→Value×Value}{S:Nat→Prop}{k:Int}
theorem Arc.Ok.lens (h:A.Ok)(cn:A.size≤1000)(j:Nat):(A.li j).length≤2000:=by
 have h1:=h.held
 have h2:=h.first
 have h3:=h.total
 have h4:=A.Mf
 unfold Arc.li
 split<;>omega
theorem Oo (h : NH w c A V p)(hA : A.Ok)(cn : A.size ≤ 1000)(bo : Bool) : Le Tryz.prog 160 [ptr c 0, .bool bo] w fun v w' => v = z6O false (A.room bo).2 ∧ ∃ V', RE w c V p w' (A.room bo).1 V' := by
 have il:=hA.lens cn 2
 have lQ:=hA.lens cn 3
 have Ij:=hA.tg
 have gM:=hA.pos
 have gE:=hA.nd
 unfold Arc.all at gE
 rw[List.nodup_append] at gE
 obtain⟨nd1,nd2,nd3⟩:=gE
 rw[List.nodup_append] at nd2
 obtain⟨nd4,nd5,nd6⟩:=nd2
 rw[List.nodup_append] at nd5
 obtain⟨nd7,nd8,nd9⟩:=nd5
 have aQ:∀{b:Nat},Nw c V p b→b<w.heap.size:=h.lt
 refine KA (e:=[(0,_),(1,_)]) Tryz.func160 rfl Tryz.ntmps160 rfl rfl (qN rfl (KL rfl rfl (MN (cs:=[_,_,_]) Lf rfl) ?_))
 rintro _ w1 ⟨b4,rfl,gA,ad,aI⟩
 have nU:=h.ext ad
 have n4:∀b,Nw c V p b→b≠b4:=fun b hb e=>by have:=aQ hb;omega
 refine py (run_seq (qN rfl (An rfl (L2 [.tmp 11] z7j rfl (WO nU hA cn) ?_))))
 rintro _ w2 ⟨rfl,af⟩
 have bq:=af.KD aI
 have aL:=ad.trans af
 have e8:=h.ext aL
 by_cases bS:¬A.once.length+A.often.length=A.size
 ·rw[decide_eq_false bS];have iJ:A.room bo=(A,none):=by unfold Arc.room;rw[if_neg bS]
  refine qV ((by first|exact LP rfl|exact Nq rfl)) ?_;refine py (KS rfl (qN rfl (qV (La (news:=MD false none) Nv rfl Lf rfl (KP.cells (n:=3) bq rfl) rfl) (KR rfl (Lo (news:=MD false none) Lf rfl rfl rfl rfl bq (by simp)) ?_))));rintro w3 ⟨dy,ax⟩;replace dy:KP w3 b4 [.bool false,.bool false,I 0] 232:=dy;refine py (L8 Tryz.func160 (.cell Nv rfl Lf rfl (KP.cells (n:=3) dy (news:=[_,_,_]) rfl) rfl .nil) ?_);rw[iJ];exact⟨_,rfl,rfl,V,e8.kp ax (fun b hb=>n4 b hb),fun b hb=> .inl hb,(aL.Kz ax (fun j e=>by omega)).kp⟩
 ·have bS := Classical.not_not.1 bS; rw [decide_eq_true bS]; refine qV ((by first | exact LP rfl | exact Nq rfl)) ?_; refine py (Kx rfl ?_); have ak := e8.cells; obtain ⟨a0, c0, e0, -⟩ : ∃ a c, (V 0).1 = .slice a A.once.length c ∧ _ := (h.q 0 (by decide)).sl.rd.shape; rw [e0] at ak; have f0 := PY e8 (j := 0) (by decide); have f1 := PY e8 (j := 1) (by decide); rw [show A.li 0 = A.once from rfl] at f0; rw [show A.li 1 = A.often from rfl] at f1
  cases ho:A.once with
  | nil =>
    cases hf:A.often with
    | nil =>
      exfalso;rw[ho,hf] at bS;simp at bS
      omega
    | cons x1 r1 =>
      have iJ:A.room bo=({A with often:=r1,KU:=A.KU++[x1]},some x1):=by unfold Arc.room;rw[if_pos bS,ho,hf]
      have Ik:A.once.length=0:=by rw[ho];rfl
      have g0:RM A.once= .tuple #[I 0,.bool false]:=by rw[ho];rfl
      have g1:RM A.often= .tuple #[I x1,.bool true]:=by rw[hf];rfl
      rw[g0] at f0;rw[g1] at f1;refine It (qN rfl (An rfl (An rfl (qV (KZ rfl) (qV (KK M7 rfl) (L2 [.tmp 16,.tmp 19] SV rfl (f0) ?_))))));rintro _ w2 ⟨rfl,rfl⟩;refine An rfl (qV (Ll (v:=I 0) rfl rfl) (qV (Ll (v:= .bool false) rfl rfl) (KE rfl (KE rfl (qM rfl (An rfl (An rfl (qV (KZ rfl) (qV (KK Mx rfl) (L2 [.tmp 24,.tmp 27] SV rfl (f1) ?_))))))))));rintro _ w2 ⟨rfl,rfl⟩;refine An rfl (qV (Ll (v:=I x1) rfl rfl) (qV (Ll (v:= .bool true) rfl rfl) (KE rfl (KE rfl (py (Lc.qb (e:=[(0,_),(1,_),(4,_),(5,_),(6,_),(7,_),(8,_)]) ?_))))));refine qN rfl (An rfl (qV (KZ rfl) (qV (KK M7 rfl) (qV (KK LA rfl) (qV (KJ Mu rfl rfl ak rfl) (qV (LG Mu rfl) (KE rfl (qM rfl (An rfl (qV (OL rfl rfl) (Lq (An rfl (qS ?_)))))))))))));refine qS (qS (qS (qS (qS (qS (qS (qS (qS (qS (qS (qS (qS (qS ?_)))))))))))));refine qS (qS (qV (Lk rfl rfl) (KE rfl (py (Lc.qb (e:=[(0,_),(4,_),(5,_),(6,_),(7,_),(8,_),(10,_)]) ?_)))));refine run_seq (qN rfl (An rfl (An rfl (qS (qV (Lk rfl rfl) (An rfl (An rfl (qV ((by first|exact LP rfl|exact Nq rfl)) ?_))))))));refine An rfl (An rfl (qV ((by first|exact LP rfl|exact Nq rfl)) ?_));refine qV (LK rfl rfl) (qV (Lk rfl rfl) (py (Kx rfl (It (qN rfl (An rfl (qV (KZ rfl) (qV (KK Mx rfl) (An rfl (L2 [.tmp 84,.tmp 85] NN rfl (LI e8 (j:=1) (k:=x1) (by decide)) ?_))))))))));rintro _ w3 ⟨rfl,V3,cf⟩;have ia:(A.li 1).erase x1=r1:=by show A.often.erase x1=r1;rw[hf];simp
      rw[ia] at cf
      have di:x1∉(A.Mi 1 r1).li 3:=by
       show x1∉A.KU;intro e;exact nd6 x1 (by rw[hf];simp) x1 (by simp[e]) rfl
      refine qM rfl (An rfl (qV (KZ rfl) (qV (KK Mw rfl) (An rfl (L2 [.tmp 89,.tmp 90] Oa rfl (Md cf.m (j:=3) (k:=x1) (by decide) di (by show A.KU.length≤_;exact Nat.le_trans lQ (by decide))) ?_)))));rintro _ w4 ⟨rfl,V4,bO⟩;have hr:=(e8.r (Ext.refl w2)).trans (cf.trans bO);have cg:=hr.k.KD bq (fun e=>n4 _ e rfl);refine py (Lc.qb (e:=[(4,_),(7,_)]) ?_);refine qN rfl (An rfl (qV (Nc (parts:=[(1,.const (Value.bool true)),(2,.tmp 92)]) (cs:=[_,_,_]) Lf rfl QB rfl rfl) (KR rfl (Lo (news:=MD false (some x1)) Lf rfl rfl rfl rfl cg (by simp)) ?_)));rintro w5 ⟨aH,aj⟩;replace aH:KP w5 b4 [.bool false,.bool true,I x1] 232:=aH;refine py (L8 Tryz.func160 (.cell Nv rfl Lf rfl (KP.cells (n:=3) aH (news:=[_,_,_]) rfl) rfl .nil) ?_)
      have dR:∀b,Nw c V4 p b→b≠b4:=fun b hb e=>by
       rcases hr.fp b hb with h5|h5
       ·exact n4 b h5 e
       ·have:=bq.lt;omega
      rw[iJ]
      exact⟨_,rfl,rfl,V4,hr.m.kp aj dR,fun b hb=>(hr.fp b hb).imp id (fun e=>by have:=aL.size;omega),(aL.kp.trans hr.k).Kz aj (fun j e=> .inl (by omega))⟩
  | cons x0 r0 =>
    have Ik:1≤A.once.length:=by rw[ho];simp
    cases hf:A.often with
    | nil =>
      have iJ:A.room bo=({A with once:=r0,KX:=A.KX++[x0]},some x0):=by unfold Arc.room;rw[if_pos bS,ho,hf]
      have g0:RM A.once= .tuple #[I x0,.bool true]:=by rw[ho];rfl
      have g1:RM A.often= .tuple #[I 0,.bool false]:=by rw[hf];rfl
      rw[g0] at f0;rw[g1] at f1;refine It (qN rfl (An rfl (An rfl (qV (KZ rfl) (qV (KK M7 rfl) (L2 [.tmp 16,.tmp 19] SV rfl (f0) ?_))))));rintro _ w2 ⟨rfl,rfl⟩;refine An rfl (qV (Ll (v:=I x0) rfl rfl) (qV (Ll (v:= .bool true) rfl rfl) (KE rfl (KE rfl (qM rfl (An rfl (An rfl (qV (KZ rfl) (qV (KK Mx rfl) (L2 [.tmp 24,.tmp 27] SV rfl (f1) ?_))))))))));rintro _ w2 ⟨rfl,rfl⟩;refine An rfl (qV (Ll (v:=I 0) rfl rfl) (qV (Ll (v:= .bool false) rfl rfl) (KE rfl (KE rfl (py (Lc.qb (e:=[(0,_),(1,_),(4,_),(5,_),(6,_),(7,_),(8,_)]) ?_))))));refine qN rfl (An rfl (qV (KZ rfl) (qV (KK M7 rfl) (qV (KK LA rfl) (qV (KJ Mu rfl rfl ak rfl) (qV (LG Mu rfl) (KE rfl (qM rfl (An rfl (qV (OL rfl rfl) (MC (An rfl ?_))))))))))))

      by_cases h1:(A.once.length:Int)>A.target
      ·skip
       refine An rfl (An rfl (qV (KZ rfl) (qV (KK Mo rfl) (qV (KJ U3 rfl rfl ak rfl) (qV (LH rfl rfl) (MC (An rfl (qS (qS (qS (qS (qS (qS ?_)))))))))))));refine qS (qS (qS (qV (LK rfl rfl) (qV (LK rfl rfl) (KE rfl (py (Lc.qb (e:=[(0,_),(4,_),(5,_),(6,_),(7,_),(8,_),(10,_)]) ?_)))))));refine run_seq (qN rfl (An rfl (An rfl (An rfl (qV (LK rfl rfl) (An rfl (qS (qS (qS (qS (qS (qS (qV (LK rfl rfl) ?_)))))))))))));refine py (KS rfl (qN rfl (An rfl (qV (KZ rfl) (qV (KK M7 rfl) (An rfl (L2 [.tmp 72,.tmp 73] NN rfl (LI e8 (j:=0) (k:=x0) (by decide)) ?_)))))));rintro _ w3 ⟨rfl,V3,cf⟩;have ia:(A.li 0).erase x0=r0:=by show A.once.erase x0=r0;rw[ho];simp
       rw[ia] at cf
       have di:x0∉(A.Mi 0 r0).li 2:=by
        show x0∉A.KX;intro e;exact nd3 x0 (by rw[ho];simp) x0 (by simp[e]) rfl
       refine qM rfl (An rfl (qV (KZ rfl) (qV (KK Ml rfl) (An rfl (L2 [.tmp 77,.tmp 78] Oa rfl (Md cf.m (j:=2) (k:=x0) (by decide) di (by show A.KX.length≤_;exact Nat.le_trans il (by decide))) ?_)))));rintro _ w4 ⟨rfl,V4,bO⟩;have hr:=(e8.r (Ext.refl w2)).trans (cf.trans bO);have cg:=hr.k.KD bq (fun e=>n4 _ e rfl);refine py (Lc.qb (e:=[(0,_),(4,_),(5,_),(7,_)]) ?_);refine qN rfl (An rfl (qV (Nc (parts:=[(1,.const (Value.bool true)),(2,.tmp 80)]) (cs:=[_,_,_]) Lf rfl QB rfl rfl) (KR rfl (Lo (news:=MD false (some x0)) Lf rfl rfl rfl rfl cg (by simp)) ?_)));rintro w5 ⟨aH,aj⟩;replace aH:KP w5 b4 [.bool false,.bool true,I x0] 232:=aH;refine py (L8 Tryz.func160 (.cell Nv rfl Lf rfl (KP.cells (n:=3) aH (news:=[_,_,_]) rfl) rfl .nil) ?_)
       have dR:∀b,Nw c V4 p b→b≠b4:=fun b hb e=>by
        rcases hr.fp b hb with h5|h5
        ·exact n4 b h5 e
        ·have:=bq.lt;omega
       rw[iJ];exact⟨_,rfl,rfl,V4,hr.m.kp aj dR,fun b hb=>(hr.fp b hb).imp id (fun e=>by have:=aL.size;omega),(aL.kp.trans hr.k).Kz aj (fun j e=> .inl (by omega))⟩
      ·refine An rfl (An rfl (qV (KZ rfl) (qV (KK Mo rfl) (qV (KJ U3 rfl rfl ak rfl) (qV (LH rfl rfl) (Lq (An rfl ?_)))))));by_cases h2:(A.once.length:Int)=A.target
       ·refine An rfl (An rfl (qV (KZ rfl) (qV (KK Mo rfl) (qV (KJ U3 rfl rfl ak rfl) (qV (Mc rfl rfl) (MC (An rfl ?_)))))))
        cases bo with
        | true =>
          refine An rfl ?_
          skip
          refine qV (LK rfl rfl) (qV (Lk rfl rfl) (qV (LK rfl rfl) (KE rfl (py (Lc.qb (e:=[(0,_),(4,_),(5,_),(6,_),(7,_),(8,_),(10,_)]) ?_)))));refine run_seq (qN rfl (An rfl (An rfl (An rfl (qV (LK rfl rfl) (An rfl (qS (qS (qS (qS (qS (qS (qV (LK rfl rfl) ?_)))))))))))));refine py (KS rfl (qN rfl (An rfl (qV (KZ rfl) (qV (KK M7 rfl) (An rfl (L2 [.tmp 72,.tmp 73] NN rfl (LI e8 (j:=0) (k:=x0) (by decide)) ?_)))))));rintro _ w3 ⟨rfl,V3,cf⟩;have ia:(A.li 0).erase x0=r0:=by show A.once.erase x0=r0;rw[ho];simp
          rw[ia] at cf
          have di:x0∉(A.Mi 0 r0).li 2:=by
           show x0∉A.KX;intro e;exact nd3 x0 (by rw[ho];simp) x0 (by simp[e]) rfl
          refine qM rfl (An rfl (qV (KZ rfl) (qV (KK Ml rfl) (An rfl (L2 [.tmp 77,.tmp 78] Oa rfl (Md cf.m (j:=2) (k:=x0) (by decide) di (by show A.KX.length≤_;exact Nat.le_trans il (by decide))) ?_)))));rintro _ w4 ⟨rfl,V4,bO⟩;have hr:=(e8.r (Ext.refl w2)).trans (cf.trans bO);have cg:=hr.k.KD bq (fun e=>n4 _ e rfl);refine py (Lc.qb (e:=[(0,_),(4,_),(5,_),(7,_)]) ?_);refine qN rfl (An rfl (qV (Nc (parts:=[(1,.const (Value.bool true)),(2,.tmp 80)]) (cs:=[_,_,_]) Lf rfl QB rfl rfl) (KR rfl (Lo (news:=MD false (some x0)) Lf rfl rfl rfl rfl cg (by simp)) ?_)));rintro w5 ⟨aH,aj⟩;replace aH:KP w5 b4 [.bool false,.bool true,I x0] 232:=aH;refine py (L8 Tryz.func160 (.cell Nv rfl Lf rfl (KP.cells (n:=3) aH (news:=[_,_,_]) rfl) rfl .nil) ?_)
          have dR:∀b,Nw c V4 p b→b≠b4:=fun b hb e=>by
           rcases hr.fp b hb with h5|h5
           ·exact n4 b h5 e
           ·have:=bq.lt;omega
          rw[iJ]
          exact⟨_,rfl,rfl,V4,hr.m.kp aj dR,fun b hb=>(hr.fp b hb).imp id (fun e=>by have:=aL.size;omega),(aL.kp.trans hr.k).Kz aj (fun j e=> .inl (by omega))⟩
        | false =>
          refine An rfl ?_
          skip
          refine qV (LK rfl rfl) (qV (Lk rfl rfl) (qV (LK rfl rfl) (KE rfl (py (Lc.qb (e:=[(0,_),(4,_),(5,_),(6,_),(7,_),(8,_),(10,_)]) ?_)))));refine run_seq (qN rfl (An rfl (An rfl (qS (qV (Lk rfl rfl) (An rfl (An rfl (qV ((by first|exact LP rfl|exact Nq rfl)) ?_))))))));refine An rfl (An rfl (qV ((by first|exact LP rfl|exact Nq rfl)) ?_));refine qV (LK rfl rfl) (qV (Lk rfl rfl) (py (KS rfl (qN rfl (An rfl (qV (KZ rfl) (qV (KK M7 rfl) (An rfl (L2 [.tmp 72,.tmp 73] NN rfl (LI e8 (j:=0) (k:=x0) (by decide)) ?_)))))))));rintro _ w3 ⟨rfl,V3,cf⟩;have ia:(A.li 0).erase x0=r0:=by show A.once.erase x0=r0;rw[ho];simp
          rw[ia] at cf
          have di:x0∉(A.Mi 0 r0).li 2:=by
           show x0∉A.KX;intro e;exact nd3 x0 (by rw[ho];simp) x0 (by simp[e]) rfl
          refine qM rfl (An rfl (qV (KZ rfl) (qV (KK Ml rfl) (An rfl (L2 [.tmp 77,.tmp 78] Oa rfl (Md cf.m (j:=2) (k:=x0) (by decide) di (by show A.KX.length≤_;exact Nat.le_trans il (by decide))) ?_)))));rintro _ w4 ⟨rfl,V4,bO⟩;have hr:=(e8.r (Ext.refl w2)).trans (cf.trans bO);have cg:=hr.k.KD bq (fun e=>n4 _ e rfl);refine py (Lc.qb (e:=[(0,_),(4,_),(5,_),(7,_)]) ?_);refine qN rfl (An rfl (qV (Nc (parts:=[(1,.const (Value.bool true)),(2,.tmp 80)]) (cs:=[_,_,_]) Lf rfl QB rfl rfl) (KR rfl (Lo (news:=MD false (some x0)) Lf rfl rfl rfl rfl cg (by simp)) ?_)));rintro w5 ⟨aH,aj⟩;replace aH:KP w5 b4 [.bool false,.bool true,I x0] 232:=aH;refine py (L8 Tryz.func160 (.cell Nv rfl Lf rfl (KP.cells (n:=3) aH (news:=[_,_,_]) rfl) rfl .nil) ?_)
          have dR:∀b,Nw c V4 p b→b≠b4:=fun b hb e=>by
           rcases hr.fp b hb with h5|h5
           ·exact n4 b h5 e
           ·have:=bq.lt;omega
          rw[iJ];exact⟨_,rfl,rfl,V4,hr.m.kp aj dR,fun b hb=>(hr.fp b hb).imp id (fun e=>by have:=aL.size;omega),(aL.kp.trans hr.k).Kz aj (fun j e=> .inl (by omega))⟩
       ·refine An rfl (An rfl (qV (KZ rfl) (qV (KK Mo rfl) (qV (KJ U3 rfl rfl ak rfl) (qV (Mc rfl rfl) (Lq (An rfl ?_)))))))
        skip
        refine qS (qV (Lk rfl rfl) (qV (Lk rfl rfl) (qV (LK rfl rfl) (KE rfl (py (Lc.qb (e:=[(0,_),(4,_),(5,_),(6,_),(7,_),(8,_),(10,_)]) ?_))))));refine run_seq (qN rfl (An rfl (An rfl (qS (qV (Lk rfl rfl) (An rfl (An rfl (qV ((by first|exact LP rfl|exact Nq rfl)) ?_))))))));refine An rfl (An rfl (qV ((by first|exact LP rfl|exact Nq rfl)) ?_));refine qV (LK rfl rfl) (qV (Lk rfl rfl) (py (KS rfl (qN rfl (An rfl (qV (KZ rfl) (qV (KK M7 rfl) (An rfl (L2 [.tmp 72,.tmp 73] NN rfl (LI e8 (j:=0) (k:=x0) (by decide)) ?_)))))))));rintro _ w3 ⟨rfl,V3,cf⟩;have ia:(A.li 0).erase x0=r0:=by show A.once.erase x0=r0;rw[ho];simp
        rw[ia] at cf
        have di:x0∉(A.Mi 0 r0).li 2:=by
         show x0∉A.KX;intro e;exact nd3 x0 (by rw[ho];simp) x0 (by simp[e]) rfl
        refine qM rfl (An rfl (qV (KZ rfl) (qV (KK Ml rfl) (An rfl (L2 [.tmp 77,.tmp 78] Oa rfl (Md cf.m (j:=2) (k:=x0) (by decide) di (by show A.KX.length≤_;exact Nat.le_trans il (by decide))) ?_)))));rintro _ w4 ⟨rfl,V4,bO⟩;have hr:=(e8.r (Ext.refl w2)).trans (cf.trans bO);have cg:=hr.k.KD bq (fun e=>n4 _ e rfl);refine py (Lc.qb (e:=[(0,_),(4,_),(5,_),(7,_)]) ?_);refine qN rfl (An rfl (qV (Nc (parts:=[(1,.const (Value.bool true)),(2,.tmp 80)]) (cs:=[_,_,_]) Lf rfl QB rfl rfl) (KR rfl (Lo (news:=MD false (some x0)) Lf rfl rfl rfl rfl cg (by simp)) ?_)));rintro w5 ⟨aH,aj⟩;replace aH:KP w5 b4 [.bool false,.bool true,I x0] 232:=aH;refine py (L8 Tryz.func160 (.cell Nv rfl Lf rfl (KP.cells (n:=3) aH (news:=[_,_,_]) rfl) rfl .nil) ?_)
        have dR:∀b,Nw c V4 p b→b≠b4:=fun b hb e=>by
         rcases hr.fp b hb with h5|h5
         ·exact n4 b h5 e
         ·have:=bq.lt;omega
        rw[iJ]
        exact⟨_,rfl,rfl,V4,hr.m.kp aj dR,fun b hb=>(hr.fp b hb).imp id (fun e=>by have:=aL.size;omega),(aL.kp.trans hr.k).Kz aj (fun j e=> .inl (by omega))⟩
    | cons x1 r1 =>
      have g0:RM A.once= .tuple #[I x0,.bool true]:=by rw[ho];rfl
      have g1:RM A.often= .tuple #[I x1,.bool true]:=by rw[hf];rfl
      rw[g0] at f0;rw[g1] at f1;refine It (qN rfl (An rfl (An rfl (qV (KZ rfl) (qV (KK M7 rfl) (L2 [.tmp 16,.tmp 19] SV rfl (f0) ?_))))));rintro _ w2 ⟨rfl,rfl⟩;refine An rfl (qV (Ll (v:=I x0) rfl rfl) (qV (Ll (v:= .bool true) rfl rfl) (KE rfl (KE rfl (qM rfl (An rfl (An rfl (qV (KZ rfl) (qV (KK Mx rfl) (L2 [.tmp 24,.tmp 27] SV rfl (f1) ?_))))))))));rintro _ w2 ⟨rfl,rfl⟩;refine An rfl (qV (Ll (v:=I x1) rfl rfl) (qV (Ll (v:= .bool true) rfl rfl) (KE rfl (KE rfl (py (Lc.qb (e:=[(0,_),(1,_),(4,_),(5,_),(6,_),(7,_),(8,_)]) ?_))))));refine qN rfl (An rfl (qV (KZ rfl) (qV (KK M7 rfl) (qV (KK LA rfl) (qV (KJ Mu rfl rfl ak rfl) (qV (LG Mu rfl) (KE rfl (qM rfl (An rfl (qV (OL rfl rfl) (MC (An rfl ?_))))))))))))

      by_cases h1:(A.once.length:Int)>A.target
      ·have iJ:A.room bo=({A with once:=r0,KX:=A.KX++[x0]},some x0):=by unfold Arc.room;rw[if_pos bS,ho,hf];exact if_pos (by rw[←ho];exact .inl h1)
       refine An rfl (An rfl (qV (KZ rfl) (qV (KK Mo rfl) (qV (KJ U3 rfl rfl ak rfl) (qV (LH rfl rfl) (MC (An rfl (qS (qS (qS (qS (qS (qS ?_)))))))))))));refine qS (qS (qS (qV (LK rfl rfl) (qV (LK rfl rfl) (KE rfl (py (Lc.qb (e:=[(0,_),(4,_),(5,_),(6,_),(7,_),(8,_),(10,_)]) ?_)))))));refine run_seq (qN rfl (An rfl (An rfl (An rfl (qV (LK rfl rfl) (An rfl (qS (qS (qS (qS (qS (qS (qV (LK rfl rfl) ?_)))))))))))));refine py (KS rfl (qN rfl (An rfl (qV (KZ rfl) (qV (KK M7 rfl) (An rfl (L2 [.tmp 72,.tmp 73] NN rfl (LI e8 (j:=0) (k:=x0) (by decide)) ?_)))))));rintro _ w3 ⟨rfl,V3,cf⟩;have ia:(A.li 0).erase x0=r0:=by show A.once.erase x0=r0;rw[ho];simp
       rw[ia] at cf
       have di:x0∉(A.Mi 0 r0).li 2:=by
        show x0∉A.KX;intro e;exact nd3 x0 (by rw[ho];simp) x0 (by simp[e]) rfl
       refine qM rfl (An rfl (qV (KZ rfl) (qV (KK Ml rfl) (An rfl (L2 [.tmp 77,.tmp 78] Oa rfl (Md cf.m (j:=2) (k:=x0) (by decide) di (by show A.KX.length≤_;exact Nat.le_trans il (by decide))) ?_)))));rintro _ w4 ⟨rfl,V4,bO⟩;have hr:=(e8.r (Ext.refl w2)).trans (cf.trans bO);have cg:=hr.k.KD bq (fun e=>n4 _ e rfl);refine py (Lc.qb (e:=[(0,_),(4,_),(5,_),(7,_)]) ?_);refine qN rfl (An rfl (qV (Nc (parts:=[(1,.const (Value.bool true)),(2,.tmp 80)]) (cs:=[_,_,_]) Lf rfl QB rfl rfl) (KR rfl (Lo (news:=MD false (some x0)) Lf rfl rfl rfl rfl cg (by simp)) ?_)));rintro w5 ⟨aH,aj⟩;replace aH:KP w5 b4 [.bool false,.bool true,I x0] 232:=aH;refine py (L8 Tryz.func160 (.cell Nv rfl Lf rfl (KP.cells (n:=3) aH (news:=[_,_,_]) rfl) rfl .nil) ?_)
       have dR:∀b,Nw c V4 p b→b≠b4:=fun b hb e=>by
        rcases hr.fp b hb with h5|h5
        ·exact n4 b h5 e
        ·have:=bq.lt;omega
       rw[iJ];exact⟨_,rfl,rfl,V4,hr.m.kp aj dR,fun b hb=>(hr.fp b hb).imp id (fun e=>by have:=aL.size;omega),(aL.kp.trans hr.k).Kz aj (fun j e=> .inl (by omega))⟩
      ·refine An rfl (An rfl (qV (KZ rfl) (qV (KK Mo rfl) (qV (KJ U3 rfl rfl ak rfl) (qV (LH rfl rfl) (Lq (An rfl ?_)))))));by_cases h2:(A.once.length:Int)=A.target
       ·refine An rfl (An rfl (qV (KZ rfl) (qV (KK Mo rfl) (qV (KJ U3 rfl rfl ak rfl) (qV (Mc rfl rfl) (MC (An rfl ?_)))))))
        cases bo with
        | true =>
          refine An rfl ?_;have iJ:A.room true=({A with once:=r0,KX:=A.KX++[x0]},some x0):=by unfold Arc.room;rw[if_pos bS,ho,hf];exact if_pos (by rw[←ho];exact .inr ⟨h2,rfl⟩)
          refine qV (LK rfl rfl) (qV (Lk rfl rfl) (qV (LK rfl rfl) (KE rfl (py (Lc.qb (e:=[(0,_),(4,_),(5,_),(6,_),(7,_),(8,_),(10,_)]) ?_)))));refine run_seq (qN rfl (An rfl (An rfl (An rfl (qV (LK rfl rfl) (An rfl (qS (qS (qS (qS (qS (qS (qV (LK rfl rfl) ?_)))))))))))));refine py (KS rfl (qN rfl (An rfl (qV (KZ rfl) (qV (KK M7 rfl) (An rfl (L2 [.tmp 72,.tmp 73] NN rfl (LI e8 (j:=0) (k:=x0) (by decide)) ?_)))))));rintro _ w3 ⟨rfl,V3,cf⟩;have ia:(A.li 0).erase x0=r0:=by show A.once.erase x0=r0;rw[ho];simp
          rw[ia] at cf
          have di:x0∉(A.Mi 0 r0).li 2:=by
           show x0∉A.KX;intro e;exact nd3 x0 (by rw[ho];simp) x0 (by simp[e]) rfl
          refine qM rfl (An rfl (qV (KZ rfl) (qV (KK Ml rfl) (An rfl (L2 [.tmp 77,.tmp 78] Oa rfl (Md cf.m (j:=2) (k:=x0) (by decide) di (by show A.KX.length≤_;exact Nat.le_trans il (by decide))) ?_)))));rintro _ w4 ⟨rfl,V4,bO⟩;have hr:=(e8.r (Ext.refl w2)).trans (cf.trans bO);have cg:=hr.k.KD bq (fun e=>n4 _ e rfl);refine py (Lc.qb (e:=[(0,_),(4,_),(5,_),(7,_)]) ?_);refine qN rfl (An rfl (qV (Nc (parts:=[(1,.const (Value.bool true)),(2,.tmp 80)]) (cs:=[_,_,_]) Lf rfl QB rfl rfl) (KR rfl (Lo (news:=MD false (some x0)) Lf rfl rfl rfl rfl cg (by simp)) ?_)));rintro w5 ⟨aH,aj⟩;replace aH:KP w5 b4 [.bool false,.bool true,I x0] 232:=aH;refine py (L8 Tryz.func160 (.cell Nv rfl Lf rfl (KP.cells (n:=3) aH (news:=[_,_,_]) rfl) rfl .nil) ?_)
          have dR:∀b,Nw c V4 p b→b≠b4:=fun b hb e=>by
           rcases hr.fp b hb with h5|h5
           ·exact n4 b h5 e
           ·have:=bq.lt;omega
          rw[iJ]
          exact⟨_,rfl,rfl,V4,hr.m.kp aj dR,fun b hb=>(hr.fp b hb).imp id (fun e=>by have:=aL.size;omega),(aL.kp.trans hr.k).Kz aj (fun j e=> .inl (by omega))⟩
        | false =>
          refine An rfl ?_;have iJ:A.room false=({A with often:=r1,KU:=A.KU++[x1]},some x1):=by unfold Arc.room;rw[if_pos bS,ho,hf];exact if_neg (by rw[←ho];rintro(e|⟨e,e2⟩);exact h1 e;cases e2)
          refine qV (LK rfl rfl) (qV (Lk rfl rfl) (qV (LK rfl rfl) (KE rfl (py (Lc.qb (e:=[(0,_),(4,_),(5,_),(6,_),(7,_),(8,_),(10,_)]) ?_)))));refine run_seq (qN rfl (An rfl (An rfl (qS (qV (Lk rfl rfl) (An rfl (An rfl (qV ((by first|exact LP rfl|exact Nq rfl)) ?_))))))));refine An rfl (An rfl (qV ((by first|exact LP rfl|exact Nq rfl)) ?_));refine qV (LK rfl rfl) (qV (Lk rfl rfl) (py (Kx rfl (It (qN rfl (An rfl (qV (KZ rfl) (qV (KK Mx rfl) (An rfl (L2 [.tmp 84,.tmp 85] NN rfl (LI e8 (j:=1) (k:=x1) (by decide)) ?_))))))))));rintro _ w3 ⟨rfl,V3,cf⟩;have ia:(A.li 1).erase x1=r1:=by show A.often.erase x1=r1;rw[hf];simp
          rw[ia] at cf
          have di:x1∉(A.Mi 1 r1).li 3:=by
           show x1∉A.KU;intro e;exact nd6 x1 (by rw[hf];simp) x1 (by simp[e]) rfl
          refine qM rfl (An rfl (qV (KZ rfl) (qV (KK Mw rfl) (An rfl (L2 [.tmp 89,.tmp 90] Oa rfl (Md cf.m (j:=3) (k:=x1) (by decide) di (by show A.KU.length≤_;exact Nat.le_trans lQ (by decide))) ?_)))));rintro _ w4 ⟨rfl,V4,bO⟩;have hr:=(e8.r (Ext.refl w2)).trans (cf.trans bO);have cg:=hr.k.KD bq (fun e=>n4 _ e rfl);refine py (Lc.qb (e:=[(4,_),(7,_)]) ?_);refine qN rfl (An rfl (qV (Nc (parts:=[(1,.const (Value.bool true)),(2,.tmp 92)]) (cs:=[_,_,_]) Lf rfl QB rfl rfl) (KR rfl (Lo (news:=MD false (some x1)) Lf rfl rfl rfl rfl cg (by simp)) ?_)));rintro w5 ⟨aH,aj⟩;replace aH:KP w5 b4 [.bool false,.bool true,I x1] 232:=aH;refine py (L8 Tryz.func160 (.cell Nv rfl Lf rfl (KP.cells (n:=3) aH (news:=[_,_,_]) rfl) rfl .nil) ?_)
          have dR:∀b,Nw c V4 p b→b≠b4:=fun b hb e=>by
           rcases hr.fp b hb with h5|h5
           ·exact n4 b h5 e
           ·have:=bq.lt;omega
          rw[iJ];exact⟨_,rfl,rfl,V4,hr.m.kp aj dR,fun b hb=>(hr.fp b hb).imp id (fun e=>by have:=aL.size;omega),(aL.kp.trans hr.k).Kz aj (fun j e=> .inl (by omega))⟩
       ·refine An rfl (An rfl (qV (KZ rfl) (qV (KK Mo rfl) (qV (KJ U3 rfl rfl ak rfl) (qV (Mc rfl rfl) (Lq (An rfl ?_)))))));have iJ:A.room bo=({A with often:=r1,KU:=A.KU++[x1]},some x1):=by unfold Arc.room;rw[if_pos bS,ho,hf];exact if_neg (by rw[←ho];rintro(e|⟨e,e2⟩);exact h1 e;exact h2 e)
        refine qS (qV (Lk rfl rfl) (qV (Lk rfl rfl) (qV (LK rfl rfl) (KE rfl (py (Lc.qb (e:=[(0,_),(4,_),(5,_),(6,_),(7,_),(8,_),(10,_)]) ?_))))));refine run_seq (qN rfl (An rfl (An rfl (qS (qV (Lk rfl rfl) (An rfl (An rfl (qV ((by first|exact LP rfl|exact Nq rfl)) ?_))))))));refine An rfl (An rfl (qV ((by first|exact LP rfl|exact Nq rfl)) ?_));refine qV (LK rfl rfl) (qV (Lk rfl rfl) (py (Kx rfl (It (qN rfl (An rfl (qV (KZ rfl) (qV (KK Mx rfl) (An rfl (L2 [.tmp 84,.tmp 85] NN rfl (LI e8 (j:=1) (k:=x1) (by decide)) ?_))))))))));rintro _ w3 ⟨rfl,V3,cf⟩;have ia:(A.li 1).erase x1=r1:=by show A.often.erase x1=r1;rw[hf];simp
        rw[ia] at cf
        have di:x1∉(A.Mi 1 r1).li 3:=by
         show x1∉A.KU;intro e;exact nd6 x1 (by rw[hf];simp) x1 (by simp[e]) rfl
        refine qM rfl (An rfl (qV (KZ rfl) (qV (KK Mw rfl) (An rfl (L2 [.tmp 89,.tmp 90] Oa rfl (Md cf.m (j:=3) (k:=x1) (by decide) di (by show A.KU.length≤_;exact Nat.le_trans lQ (by decide))) ?_)))));rintro _ w4 ⟨rfl,V4,bO⟩;have hr:=(e8.r (Ext.refl w2)).trans (cf.trans bO);have cg:=hr.k.KD bq (fun e=>n4 _ e rfl);refine py (Lc.qb (e:=[(4,_),(7,_)]) ?_);refine qN rfl (An rfl (qV (Nc (parts:=[(1,.const (Value.bool true)),(2,.tmp 92)]) (cs:=[_,_,_]) Lf rfl QB rfl rfl) (KR rfl (Lo (news:=MD false (some x1)) Lf rfl rfl rfl rfl cg (by simp)) ?_)));rintro w5 ⟨aH,aj⟩;replace aH:KP w5 b4 [.bool false,.bool true,I x1] 232:=aH;refine py (L8 Tryz.func160 (.cell Nv rfl Lf rfl (KP.cells (n:=3) aH (news:=[_,_,_]) rfl) rfl .nil) ?_)
        have dR:∀b,Nw c V4 p b→b≠b4:=fun b hb e=>by
         rcases hr.fp b hb with h5|h5
         ·exact n4 b h5 e
         ·have:=bq.lt;omega
        rw[iJ];exact⟨_,rfl,rfl,V4,hr.m.kp aj dR,fun b hb=>(hr.fp b hb).imp id (fun e=>by have:=aL.size;omega),(aL.kp.trans hr.k).Kz aj (fun j e=> .inl (by omega))⟩
end
end Go.Proofs.YtpldpcjdjcgicaaGreatDoor
