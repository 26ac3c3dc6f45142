/- Merged by program. -/
import Derived.Test.YtpldpcjdjcgicaaGreatDoorBTp7
import Derived.Room.AppendFits
import Derived.Lib.UnsafeStr
set_option linter.all false
set_option maxRecDepth 1000000
set_option maxHeartbeats 16000000
namespace Go.Proofs.YtpldpcjdjcgicaaGreatDoor
open Go Go.RowKit
theorem Xj (s:Bytes):Lib.strCells ⟨s.toArray⟩=s.map Px:=by simp[Lib.strCells,Px]
section
variable {P:Program}{e:Env}{d:Option Nat}{ty t tu tn el:TypeId}{pos:String}{aft:Array Edge}{g:Option (Nat×Bool)}{x y:Operand}{w w':World}{n k:Nat}{v:Value}{cs:List Value}{s:Bytes}{kn:IntKind}{za:Int}
theorem ZZ (ht:P.underlying t=some (.slice el))(hu:P.underlying tu=some .string)(hs:TI P el (.int .u8 0) 1 1)(hv:Sl w v el 1 n cs)(hb:n+s.length<=140737488355328):
  ∃v' w',(Builtin.append_ #[t,tu] ty #[v,S s]).run P w= .ok v' w'/\Sl w' v' el 1 (n+s.length) (cs++s.map Px)/\Kp (λk=>v.ownBlock=some k) w w'/\(∀g,v'.ownBlock=some g->v.ownBlock=some g\/w.heap.size<=g):=by
 have f7:maxLen=9223372036854775807:=rfl
 obtain⟨i,hi,oD,jv,qg⟩:=hs
 have e1:=Pb s
 have e2:=Xj s
 rcases id hv.2 with⟨rfl,rfl⟩|⟨g,cap,cur,rfl,Jj,hg,je,mu,gK,Ge⟩
 ·have hx:cs=[]:=List.eq_nil_of_length_eq_zero (by simpa using hv.1);subst hx;obtain⟨v',w',hr,ho,hg,-⟩:=Lib.run_append_own_string (P:=P) w w.heap.size t tu ty el i ht hu hi oD jv qg (.slice none 0 0) 0 [] (World.ownsRow_nil w w.heap.size el 1) ⟨s.toArray⟩ (by rw[e1];omega) (by rw[e1];exact hb) (Nat.le_refl _);rw[e1,e2] at ho;refine⟨v',w',hr,⟨ho.1,?_⟩,Kp.QW hg,λg hg=> .inr (World.ownsRow.lt ho g hg).1⟩;rcases ho.2 with Jk|⟨g,cap2,cur2,kC,bY,dx⟩
  ·exact .inl Jk
  ·exact .inr ⟨g,cap2,cur2,kC,Nat.zero_le _,dx⟩
 ·by_cases gS:n+s.length<=cap
  ·by_cases hc:0<cap
   ·obtain⟨w',hr,ho,cH⟩:=Lib.run_append_fits_string (P:=P) w 0 t tu ty el i ht hu hi jv (some ⟨g,0,none⟩) n cap cs hv ⟨s.toArray⟩ hc (by rw[e1];exact gS);rw[e1,e2] at ho;rw[e1] at hr;exact⟨_,w',hr,ho,Kp.QW cH,λg' cH=> .inl (by simpa[Value.ownBlock] using cH)⟩
   ·obtain⟨v',w',hr,ho,cH,-⟩:=Lib.run_append_own_string (P:=P) w 0 t tu ty el i ht hu hi oD jv qg (.slice (some ⟨g,0,none⟩) n cap) n cs hv ⟨s.toArray⟩ (by rw[e1];omega) (by rw[e1];exact hb) (Nat.zero_le _);have zU:s=[]:=List.eq_nil_of_length_eq_zero (by omega);subst zU;have dx:=Lib.run_append_room_string (P:=P) w t tu ty el i ht hu hi jv g n cap cur hg ⟨[].toArray⟩ (by rw[e1];exact gS) (by rw[e1];simp only[Nat.mul_one] at gK;simp only[List.length_nil];omega);rw[dx] at hr;cases hr;rw[e1,e2] at ho;exact⟨_,_,dx,ho,Kp.QW cH,λg' cH=> .inl (by simpa[Value.ownBlock] using cH)⟩
  ·obtain⟨v',w',hr,ho,cH,-⟩:=Lib.run_append_own_string (P:=P) w 0 t tu ty el i ht hu hi oD jv qg (.slice (some ⟨g,0,none⟩) n cap) n cs hv ⟨s.toArray⟩ (by rw[e1];omega) (by rw[e1];exact hb) (Nat.zero_le _);have dx:=Lib.run_append_grow_string (P:=P) w t tu ty el i (.int .u8 0) ht hu hi oD ⟨g,0,none⟩ n cap cs (by rw[jv];exact hv.1) (World.ownsRow.cells hv (g:=g) rfl) ⟨s.toArray⟩ (by rw[e1];omega) (by rw[e1];omega) (by rw[e1];exact growslice_fits (by omega) (by rw[qg];omega));rw[dx] at hr;cases hr;rw[e1,e2] at ho;refine⟨_,_,dx,by rw[<-e1] at ho⊢;exact ho,Kp.QW cH,λg' cH=> .inr ?_⟩;simp[Value.ownBlock] at cH;omega
theorem zbs (ht:P.underlying t=some (.slice el))(hu:P.underlying tu=some .string)(hs:TI P el (.int .u8 0) 1 1)(hx:look e x=some v)(hy:look e y=some (S s))(hv:Sl w v el 1 n cs)(hb:n+s.length<=140737488355328):
  Yp P e ⟨d,.call ⟨.builtin .append,#[x,y],#[t,tu]⟩,ty,pos,aft,g⟩ w λv' w'=>Sl w' v' el 1 (n+s.length) (cs++s.map Px)/\Kp (λk=>v.ownBlock=some k) w w'/\(∀g,v'.ownBlock=some g->v.ownBlock=some g\/w.heap.size<=g):=by
 obtain⟨v',w',hr,nr⟩:=ZZ (P:=P) (ty:=ty) ht hu hs hv hb
 refine⟨v',w',fun ρ hρ=>?_,nr⟩
 simp[execOp,resolve,invoke,builtin,hρ _ _ hx,hρ _ _ hy,hr]
theorem z05 (k:Nat):Builtin.zeroCells (Value.int .u8 0).cells k=(Lib.strCells ⟨(zeros k).toArray⟩).toArray:=by
 rw[Xj]
 apply Array.ext'
 rw[Tu (.int .u8 0) k rfl]
 simp[zeros,Px]
theorem zeo [rk:PI za k](ht:P.underlying t=some (.slice el))(hn:P.underlying tn=some (.int kn))(hu:P.underlying tu=some .string)(hs:TI P el (.int .u8 0) 1 1)(hx:look e x=some v)(hy:look e y=some (I za))(hv:Sl w v el 1 n cs)(hb:n+k<=140737488355328):
  Yp P e ⟨d,.call ⟨.builtin .append,#[x,y],#[t,tn]⟩,ty,pos,aft,g⟩ w λv' w'=>Sl w' v' el 1 (n+k) (cs++(zeros k).map Px)/\Kp (λk=>v.ownBlock=some k) w w'/\(∀g,v'.ownBlock=some g->v.ownBlock=some g\/w.heap.size<=g):=by
 obtain⟨rfl⟩:=rk
 have hl:(zeros k).length=k:=by simp[zeros]
 obtain⟨v',w',hr,h1,h2⟩:=ZZ (P:=P) (ty:=ty) (s:=zeros k) ht hu hs hv (by rw[hl];exact hb)
 rw[hl] at h1
 have he:(Builtin.append_ #[t,tn] ty #[v,I (k:Int)]).run P w= .ok v' w':=by
  rw[<-hr];obtain⟨i,hi,oD,jv,qg⟩:=hs;have hw:IntKind.i64.wrap (k:Int)=k:=by rw[IntKind.wrap_i64];omega
  have tq:¬((k:Int)<0):=by omega
  have Gf:¬(281474976710656<(k:Int)*(i.bytes:Int)):=by rw[qg];omega
  have hf:=λw=>Lib.run_firstCells_string (P:=P) w i.size ⟨(zeros k).toArray⟩;have cz:(ByteArray.mk (zeros k).toArray).size=k:=by rw[Pb,hl]
  rw[cz] at hf
  obtain⟨a,c,Jl⟩:∃a c,v= .slice a n c:=by
   rcases hv.2 with⟨rfl,rfl⟩|⟨g,cap,cur,rfl,_⟩
   ·exact⟨_,_,rfl⟩
   ·exact⟨_,_,rfl⟩
  subst Jl;have Gg:k=0->(Lib.strCells ⟨(zeros k).toArray⟩).toArray=#[]:=λe=>by subst e;rfl
  have Jm:c<=maxLen/\n<=c:=by
   rcases hv.2 with⟨h,h'⟩|⟨g,cap,cur,h,_,_,h1,h2,_⟩
   ·cases h;exact⟨by simp[maxLen],by omega⟩
   ·cases h;exact⟨h2,h1⟩
  have bJ:n+k<=c\/¬(281474976710656<Builtin.nextslicecap (n+k) c*i.bytes):=by
   by_cases hr:n+k<=c
   ·exact .inl hr
   ·have:=growslice_fits (need:=n+k) (old:=c) (bytes:=i.bytes) (by omega) (by rw[qg];omega);exact .inr (by omega)
  have DM:¬(9223372036854775807<((n:Int)+(k:Int))):=by omega
  by_cases hk:k=0
  ·subst hk;have e0:=Gg rfl;have jB:n<=c:=Jm.2;have mI:IntKind.i64.wrap 0=0:=by rw[IntKind.wrap_i64];omega
   have iB:=hf w;rw[jv,e0] at iB;simp[Builtin.append_,run_underlying ht,run_underlying hn,run_underlying hu,sizeOf,typeInfo,zeroValue,hi,oD,jv,asInt,asIntOf,mI,Builtin.lenOf,cz,jB,iB]
  ·have bB:=z05 k;have rq:∀w,(Builtin.firstCells 1 k (.string ⟨(zeros k).toArray⟩)).run P w= .ok (Builtin.zeroCells (Value.int .u8 0).cells k) w:=λw=>by rw[bB];have:=hf w;rw[jv] at this;exact this
   have eC:¬(k*i.size=0):=by rw[jv];omega
   by_cases hr:n+k<=c
   ·simp[Builtin.append_,run_underlying ht,run_underlying hn,run_underlying hu,sizeOf,typeInfo,zeroValue,hi,oD,jv,asInt,asIntOf,hw,tq,Gf,Builtin.lenOf,cz,hr,rq,hk]
   ·have DN:=bJ.resolve_left hr;simp[Builtin.append_,run_underlying ht,run_underlying hn,run_underlying hu,sizeOf,typeInfo,zeroValue,hi,oD,jv,asInt,asIntOf,hw,tq,Gf,Builtin.lenOf,cz,hr,rq,hk,DM,DN]
 refine⟨v',w',fun ρ hρ=>?_,h1,h2⟩
 simp[execOp,resolve,invoke,builtin,hρ _ _ hx,hρ _ _ hy,he]
end
/-! ### Writers -/
def swC (s st len:Nat)(rest:Value)(at' n:Nat)(sum:Nat)(put:Value)(dn:Bool):List Value:=[ptr s 0,I (st:Int),I (len:Int),rest,I (at':Int),I (n:Int),U sum,put,.bool dn]
section
variable {w w':World}{Q:NZ}{txt:Int->Bytes}{K:Nat}{X:Nat->Prop}
theorem Z1 (n:Nat)(hn:n<=2000000)(w:World):Mm Tryz.prog 43 [I 512,I (n:Int)] w λv w'=>v= .tuple #[I (((n+523) / 512:Nat):Int),I 0]/\w'=w:=by
 refine It (e:=[(0,_),(1,_)]) Tryz.func43 rfl Tryz.ntmps43 rfl rfl (qN rfl (M6 rfl (LU rfl (run_seq (qN rfl (LM rfl (Nr rfl rfl (MC (M4 rfl rfl (Nc rfl rfl (MC (ME rfl rfl (M4 rfl rfl ?_)))))))))))))
 refine qV (yre rfl rfl (by omega)) (MY rfl rfl (MC (ME rfl rfl (M4 rfl rfl (Nr rfl rfl (MC (ME rfl rfl (M4 rfl rfl (LM rfl (qV (SV rfl rfl (by omega)) (NP rfl rfl (Nc rfl rfl (MC ?_)))))))))))))
 refine ME rfl rfl (LO (Mn.qb (e:=[(0,_),(1,_),(4,_),(5,_),(27,_)]) ?_))
 refine An rfl (py (qN rfl (LM rfl (MK rfl rfl (LM rfl (MK rfl rfl (NP rfl rfl (LM rfl (qV (Tg rfl rfl (by omega)) (M6 rfl (LU rfl ?_)))))))))))
 rw[show((n:Int)+12+512-1) / 512=(((n+523) / 512:Nat):Int) by omega]
 refine LP Tryz.func43 rfl ?_
 exact⟨_,rfl,rfl,rfl⟩
theorem VN (h:Sp Q txt K X w){st len:Nat}(h1:1<=len)(h2:st+len<=Q.L.length):Mm Tryz.prog 74 [.agg #[ptr Q.s 0,I (st:Int),I (len:Int)]] w λv w'=>v=I 0/\Ext w w':=by
 have dO:=h.n
 refine It (e:=[(0,_)]) Tryz.func74 rfl Tryz.ntmps74 rfl rfl (qN rfl (LV rfl rfl (NN rfl (cs:=[ptr Q.s 0,I (st:Int),I (len:Int)]) rfl) ?_))
 rintro _ w1 ⟨b1,rfl,bR,ad,ai⟩
 have hP:=h.ext' ad
 have hg:=Ext.Ma w1
 have Gh:=(hP.ext' hg).dev
 have Gi:=(hP.ext' hg).blocks
 refine LU rfl (run_seq (LK (qN rfl (M0 Ri rfl (qV (LR T7 rfl rfl ai rfl) (qV (MU T7 rfl rfl) (LU rfl (An rfl (run_seq (NF (λw'=>Ext w1 w') rfl (LS 0 rfl (Mo Qv rfl) hg (LS 1 rfl (Mo O5 rfl) hg (qT 2 rfl (λ_ h=>LR U3 rfl rfl (h.LN ai) rfl) hg ?_)))))))))))))
 refine LS 3 rfl (XF rfl rfl) hg (QG (M9 4 rfl rfl (hg) (LS 5 rfl (Mo Qv rfl) hg (LS 6 rfl (Mo NR rfl) hg (qT 7 rfl (λ_ h=>LR U3 rfl rfl (h.LN ai) rfl) hg (LS 8 rfl (XF rfl rfl) hg (QG (LS 9 rfl (R8 rfl rfl) hg (M9 10 rfl rfl (hg) (LS 11 rfl (Mo Qv rfl) hg (LS 12 rfl (Mo NR rfl) hg (qT 13 rfl (λ_ h=>LR U3 rfl rfl (h.LN ai) rfl) hg (LS 14 rfl (Mo Ri rfl) hg ?_)))))))))))))
 refine qT 15 rfl (λ_ h=>LR T7 rfl rfl (h.LN ai) rfl) hg (Pw 16 rfl z9s rfl (Gh) ?_)
 rintro _ w2 ⟨rfl,rfl⟩
 refine⟨hg,?_⟩
 refine Pw 17 rfl z0R rfl (Gi) ?_
 rintro _ w2 ⟨rfl,rfl⟩
 refine⟨hg,?_⟩
 refine LS 18 rfl (yge rfl rfl) hg (QG (LS 19 rfl (R8 rfl rfl) hg (M9 20 rfl rfl (hg) (LS 21 rfl (Mo Qv rfl) hg (LS 22 rfl (Mo O5 rfl) hg (qT 23 rfl (λ_ h=>LR U3 rfl rfl (h.LN ai) rfl) hg (LS 24 rfl (Mo Ri rfl) hg (qT 25 rfl (λ_ h=>LR T7 rfl rfl (h.LN ai) rfl) hg (LS 28 rfl (Mo Qv rfl) hg (LS 29 rfl (Mo NR rfl) hg (qT 30 rfl (λ_ h=>LR U3 rfl rfl (h.LN ai) rfl) hg (Pw 26 rfl z9s rfl (Gh) ?_))))))))))))
 rintro _ w2 ⟨rfl,rfl⟩
 refine⟨hg,?_⟩
 refine Pw 27 rfl z0R rfl (Gi) ?_
 rintro _ w2 ⟨rfl,rfl⟩
 refine⟨hg,?_⟩
 refine LS 31 rfl (TF rfl rfl (by omega)) hg (LS 32 rfl (UZ rfl rfl) hg (QG (LS 33 rfl (R8 rfl rfl) hg (LS 34 rfl (NK rfl) hg (qE (Mn.qb (e:=[(2,_),(7,_)]) ?_))))))
 refine An rfl (py (LL (qN rfl (LU rfl (LP Tryz.func74 rfl ?_)))))
 exact⟨_,rfl,rfl,ad.trans hg⟩
theorem WM (h:Sp Q txt K X w){st len:Nat}(h2:len<=100000):Mm Tryz.prog 81 [.agg #[ptr Q.s 0,I (st:Int),I (len:Int)]] w λv w'=>v=I ((len:Int)*512-12)/\Ext w w':=by
 refine It (e:=[(0,_)]) Tryz.func81 rfl Tryz.ntmps81 rfl rfl (qN rfl (LV rfl rfl (NN rfl (cs:=[ptr Q.s 0,I (st:Int),I (len:Int)]) rfl) ?_))
 rintro _ w1 ⟨b1,rfl,bR,ad,ai⟩
 have hP:=h.ext' ad
 have hg:=Ext.Ma w1
 have Jn:=(hP.ext' hg).size
 refine LU rfl (run_seq (NF (λw'=>Ext w1 w') rfl (LS 0 rfl (Mo Qv rfl) hg (LS 1 rfl (Mo O5 rfl) hg (qT 2 rfl (λ_ h=>LR U3 rfl rfl (h.LN ai) rfl) hg (LS 3 rfl (Mo Ri rfl) hg (qT 4 rfl (λ_ h=>LR T7 rfl rfl (h.LN ai) rfl) hg (Pw 5 rfl z0m rfl (Jn) ?_))))))))
 rintro _ w2 ⟨rfl,rfl⟩
 refine⟨hg,?_⟩
 refine LS 6 rfl (SV rfl rfl (by omega)) hg (LS 7 rfl (TF rfl rfl (by omega)) hg (LS 8 rfl (NK rfl) hg (qE (LP Tryz.func81 rfl ?_))))
 exact⟨_,rfl,rfl,ad.trans hg⟩
theorem UI {wb s st len at' n sum:Nat}{rest put:Value}(hB:LX w wb (swC s st len rest at' n sum put false) 175):Mm Tryz.prog 76 [ptr wb 0] w λv w'=>v=I 0/\w'=w:=by
 replace hB:LX w wb [ptr s 0,I (st:Int),I (len:Int),rest,I (at':Int),I (n:Int),U sum,put,.bool false] 175:=hB
 refine It (e:=[(0,_)]) Tryz.func76 rfl Tryz.ntmps76 rfl rfl (qN rfl (LU rfl (run_seq (LK (qN rfl (LM rfl (qV (MU Sy rfl rfl) (LU rfl (An rfl (qN rfl (LM rfl (Mp rfl (M0 Ul rfl ?_)))))))))))))
 refine qV (LR U4 rfl rfl hB rfl) (LU rfl (An rfl (py (LL (qN rfl (LU rfl (LP Tryz.func76 rfl ?_)))))))
 exact⟨_,rfl,rfl,rfl⟩
theorem z1x (h:Sp Q txt K X w){wb st len at' n sum:Nat}{rest put:Value}(h2:len<=100000)(hn:n<=100000000)(hB:LX w wb (swC Q.s st len rest at' n sum put false) 175):Mm Tryz.prog 77 [ptr wb 0] w λv w'=>v=I ((len:Int)*512-12-(n:Int))/\Ext w w':=by
 replace hB:LX w wb [ptr Q.s 0,I (st:Int),I (len:Int),rest,I (at':Int),I (n:Int),U sum,put,.bool false] 175:=hB
 have hg:=Ext.Ma w
 have Jo:=WM (h.ext' hg) (st:=st) h2
 refine It (e:=[(0,_)]) Tryz.func77 rfl Tryz.ntmps77 rfl rfl (qN rfl (LU rfl (run_seq (qN rfl (LM rfl (qV (MU Sy rfl rfl) (M4 rfl rfl (Mp rfl (M0 Ul rfl (qV (LR U4 rfl rfl hB rfl) (ME rfl rfl (LO (An rfl ?_)))))))))))))
 refine py (run_seq (NF (λw'=>Ext w w') rfl (M9 0 rfl rfl (hg) (LS 1 rfl (MS rfl) hg (LS 2 rfl (Mo T9 rfl) hg (qT 3 rfl (λ_ h=>Mk z82 rfl SN rfl (LX.cells (n:=3) (h.LN hB) (news:=[_,_,_]) rfl) rfl) hg (M9 5 rfl rfl (hg) (LS 6 rfl (MS rfl) hg (LS 7 rfl (Mo WJ rfl) hg (qT 8 rfl (λ_ h=>LR U3 rfl rfl (h.LN hB) rfl) hg (Pw 4 rfl zen rfl (Jo) ?_)))))))))))
 rintro _ w2 ⟨rfl,af⟩
 refine⟨(hg.trans af),?_⟩
 refine LS 9 rfl (TF rfl rfl (by omega)) ((hg.trans af)) (LS 10 rfl (NK rfl) ((hg.trans af)) (qE (LP Tryz.func77 rfl ?_)))
 exact⟨_,rfl,rfl,hg.trans af⟩
end
def X7 (bs bx bw:Nat):Value:= .func (.func 75) #[] #[ptr bs 0,ptr bx 0,ptr bw 0]
structure ZS (s st len wb bs bx bw:Nat)(rest:Value)(at' n sum:Nat)(w:World):Prop where
 wr:LX w wb (swC s st len rest at' n sum (X7 bs bx bw) false) 175
 sb:LX w bs [ptr s 0] 27
 xb:LX w bx [I (st:Int),I (len:Int)] 97
 pb:LX w bw [ptr wb 0] 118
 ne:bs≠wb/\bx≠wb/\bw≠wb
section
variable {w w':World}{Q:NZ}{txt:Int->Bytes}{K:Nat}{X S':Nat->Prop}{s st len wb bs bx bw at' n sum:Nat}{rest:Value}
theorem ZS.kp (h:ZS s st len wb bs bx bw rest at' n sum w)(hk:Kp S' w w')(h1:¬S' wb)(h2:¬S' bs)(h3:¬S' bx)(h4:¬S' bw):ZS s st len wb bs bx bw rest at' n sum w':=
 ⟨hk.LN h.wr h1,hk.LN h.sb h2,hk.LN h.xb h3,hk.LN h.pb h4,h.ne⟩
theorem ZS.ext (h:ZS s st len wb bs bx bw rest at' n sum w)(hx:Ext w w'):ZS s st len wb bs bx bw rest at' n sum w':=h.kp (S':=λ_=>False) hx id id id id
theorem ZS.re {rest2:Value}{at2 n2 sum2:Nat}(h:ZS s st len wb bs bx bw rest at' n sum w)(hk:Kp (λb=>b=wb) w w')(hB:LX w' wb (swC s st len rest2 at2 n2 sum2 (X7 bs bx bw) false) 175):ZS s st len wb bs bx bw rest2 at2 n2 sum2 w':=
 ⟨hB,hk.LN h.sb h.ne.1,hk.LN h.xb h.ne.2.1,hk.LN h.pb h.ne.2.2,h.ne⟩
theorem ZS.cells (h:ZS s st len wb bs bx bw rest at' n sum w):LX w wb [ptr s 0,I (st:Int),I (len:Int),rest,I (at':Int),I (n:Int),U sum,X7 bs bx bw,.bool false] 175:=h.wr
theorem Vn (hP:Sp Q txt K X w)(hX:∀b,X b->b<w.heap.size)(hK:K<1000000000000)(h:ZS Q.s st len wb bs bx bw rest at' n sum w)(aY:X wb/\X bs/\X bx/\X bw)(zV:st+at'<Q.L.length)(t:Bytes)(ht:t.length=512):
  Mm Tryz.prog 75 [S t,ptr bs 0,ptr bx 0,ptr bw 0] w λv w'=>v=I 0/\Sp Q (Vf txt ((st+at':Nat):Int) (some t)) (K+1) X w'/\ZS Q.s st len wb bs bx bw rest (at'+1) n sum w'/\Kp (λb=>¬X b\/b=wb) w w':=by
 have dO:=hP.n
 have gR:=h.sb
 have gl:=h.xb
 have js:=h.pb
 have hB:=h.cells
 have hg:=Ext.Ma w
 refine It (e:=[(0,_),(1,_),(2,_),(3,_)]) Tryz.func75 rfl Tryz.ntmps75 rfl rfl (qN rfl (LU rfl (run_seq (NF (λw'=>Kp (λb=>¬X b) w w') rfl (qT 0 rfl (λ_ hS=>(by first|exact LR T7 rfl rfl (hS.LN gR (λe=>e aY.2.1)) rfl|exact LR T7 rfl rfl (hS.LN gl (λe=>e aY.2.2.1)) rfl|exact LR T7 rfl rfl (hS.LN js (λe=>e aY.2.2.2)) rfl|exact LR T7 rfl rfl (hS.LN hB (λe=>e aY.1)) rfl)) (hg.kp) ?_)))))
 refine LS 1 rfl (Mo NR rfl) (hg.kp) (qT 2 rfl (λ_ hS=>(by first|exact LR U3 rfl rfl (hS.LN gR (λe=>e aY.2.1)) rfl|exact LR U3 rfl rfl (hS.LN gl (λe=>e aY.2.2.1)) rfl|exact LR U3 rfl rfl (hS.LN js (λe=>e aY.2.2.2)) rfl|exact LR U3 rfl rfl (hS.LN hB (λe=>e aY.1)) rfl)) (hg.kp) ?_)
 refine qT 3 rfl (λ_ hS=>(by first|exact LR Sy rfl rfl (hS.LN gR (λe=>e aY.2.1)) rfl|exact LR Sy rfl rfl (hS.LN gl (λe=>e aY.2.2.1)) rfl|exact LR Sy rfl rfl (hS.LN js (λe=>e aY.2.2.2)) rfl|exact LR Sy rfl rfl (hS.LN hB (λe=>e aY.1)) rfl)) (hg.kp) ?_
 refine LS 4 rfl (MS rfl) (hg.kp) (LS 5 rfl (Mo Uj rfl) (hg.kp) (qT 6 rfl (λ_ hS=>(by first|exact LR U3 rfl rfl (hS.LN gR (λe=>e aY.2.1)) rfl|exact LR U3 rfl rfl (hS.LN gl (λe=>e aY.2.2.1)) rfl|exact LR U3 rfl rfl (hS.LN js (λe=>e aY.2.2.2)) rfl|exact LR U3 rfl rfl (hS.LN hB (λe=>e aY.1)) rfl)) (hg.kp) ?_))
 refine LS 7 rfl (R9 rfl rfl (by omega)) (hg.kp) (M9 8 rfl rfl (hg.kp) ?_)
 rw[show(st:Int)+(at':Int)=((st+at':Nat):Int) by omega]
 refine Pw 9 rfl zb4 rfl ((hP.ext' hg).write (λb hb=>by have:=hX b hb;have:=hg.size;omega) hK (no:=((st+at':Nat):Int)) (by omega) (by omega) t ht) ?_
 rintro _ w1 ⟨rfl,jt,aK⟩
 refine⟨hg.kp.trans aK,?_⟩
 have io:Kp (λb=>¬X b) w w1:=hg.kp.trans aK
 have h1:=h.kp io (λe=>e aY.1) (λe=>e aY.2.1) (λe=>e aY.2.2.1) (λe=>e aY.2.2.2)
 have ai:=h1.cells
 have y7:=h1.pb
 have kR:∀b,X b->b<w1.heap.size:=λb hb=>by have:=hX b hb;have:=io.size;omega
 refine LS 10 rfl (NK rfl) (hg.kp.trans aK) (qE (qN rfl (qV ((by first|exact LR Sy rfl rfl y7 rfl|exact LR Sy rfl rfl ai rfl)) ?_)))
 refine Mp rfl (M0 Uj rfl (qV ((by first|exact LR U3 rfl rfl y7 rfl|exact LR U3 rfl rfl ai rfl)) ?_))
 refine MK rfl rfl (Mp rfl (M0 Uj rfl (M1 rfl (NC MO rfl rfl rfl ai (by simp)) ?_)))
 rintro w2 ⟨am,ao⟩
 have dK:LX w2 wb (swC Q.s st len rest (at'+1) n sum (X7 bs bx bw) false) 175:=am
 have h2:=h1.re ao dK
 have pR:=h2.cells
 have tr:=h2.pb
 have aa:=Ext.Ma w2
 have dI:=jt.own ao (λb e=>by rw[e];exact aY.1)
 refine LO (run_seq (Me [11] (λw'=>Ext w2 w') (by kernel_rfl) rfl (qL [9,10,11] 0 rfl (λ_ h=>(by first|exact LR Sy rfl rfl (h.LN tr) rfl|exact LR Sy rfl rfl (h.LN pR) rfl)) aa ?_)))
 refine qL [2,3,4,5,6,7,8,9,10,11] 1 rfl (λ_ h=>(by first|exact LR Sy rfl rfl (h.LN tr) rfl|exact LR Sy rfl rfl (h.LN pR) rfl)) aa ?_
 refine qL [3,4,5,6,7,8,9,10,11] 2 rfl (λ_ h=>MS rfl) aa (qL [4,5,6,7,8,9,10,11] 3 rfl (λ_ h=>Mo Ul rfl) aa (qL [5,6,7,8,9,10,11] 4 rfl (λ_ h=>(by first|exact LR U4 rfl rfl (h.LN tr) rfl|exact LR U4 rfl rfl (h.LN pR) rfl)) aa ?_))
 refine qL [6,7,8,9,10,11] 5 rfl (λ_ h=>My rfl) aa (qL [7,8,9,10,11] 6 rfl (λ_ h=>My rfl) aa (qL [8,9,10,11] 7 rfl (λ_ h=>yne rfl rfl) aa (qL [9,10,11] 8 rfl (λ_ h=>R8 rfl rfl) aa (qL [10,11] 9 rfl (λ_ h=>MS rfl) aa (qL [11] 10 rfl (λ_ h=>Mo Ul rfl) aa (Pv [11] ?_))))))
 have aq:=aa.LN pR
 refine qO 11 (Mx (i:=11) rfl rfl (NC RX rfl rfl rfl aq (by simp)) ?_)
 rintro w3 ⟨ir,ar⟩
 refine⟨trivial,?_⟩
 refine qE (Mn.qb (e:=[(5,_),(6,_)]) ?_)
 refine qN rfl (LM rfl (LU rfl (LP Tryz.func75 rfl ?_)))
 have h3:=(h2.ext aa).re ar (show LX w3 wb (swC Q.s st len rest (at'+1) n sum (X7 bs bx bw) false) 175 from ir)
 exact⟨_,rfl,rfl,(dI.ext' aa).own ar (λb e=>by rw[e];exact aY.1),h3,((io.LZ λb e=> .inl e).trans (ao.LZ λb e=> .inr e)).trans (aa.kp.trans (ar.LZ λb e=> .inr e))⟩
end
section
variable {P:Program}{e:Env}{d:Option Nat}{ty t t' el:TypeId}{pos:String}{aft:Array Edge}{g:Option (Nat×Bool)}{x:Operand}{w:World}{l:Bytes}{v:Value}
theorem zaE (hs:P.underlying t=some (.slice el))(he:P.underlying el=some (.int .u8))(hd:P.underlying t'=some .string)(hx:look e x=some v)(hr:Rd w v 1 l.length (l.map Px))(hl:0<l.length):
  Y P e ⟨d,.convert t t' x,ty,pos,aft,g⟩ (S l) w w:=fun ρ hρ=>by
 rcases hr.2 with⟨⟨ca,c⟩,hv,h0⟩|⟨b,off,cap,hv,hc⟩
 ·omega
 ·subst hv;have hr:=run_convert_bytes_back (P:=P) w t t' el ⟨b,off,none⟩ cap l hs he hd (λj hj=>by rw[Nz];exact hc j _ (by simp[hj,Px]));simp[execOp,hρ _ _ hx,hr]
end
section
variable {w w':World}{Q:NZ}{txt:Int->Bytes}{K:Nat}{X S':Nat->Prop}{s st len wb bs bx bw at' n sum:Nat}{rest:Value}
theorem ZH (hP:Sp Q txt K X w){st len:Nat}(h1:1<=len)(h2:st+len<=Q.L.length):
  Mm Tryz.prog 46 [ptr Q.s 0,.agg #[I (st:Int),I (len:Int)]] w λv w'=>∃wb bs bx bw sum,v= .tuple #[ptr wb 0,I 0]/\sum<4294967296/\ZS Q.s st len wb bs bx bw (.slice none 0 0) 0 0 sum w'/\(w.heap.size<=wb/\w.heap.size<=bs/\w.heap.size<=bx/\w.heap.size<=bw)/\Ext w w':=by
 have qj:Sums.crc []<4294967296:=Sums.zaW _
 obtain⟨c0,tt⟩:∃c0,Sums.crc []=c0:=⟨_,rfl⟩
 rw[tt] at qj
 refine It (e:=[(0,_),(1,_)]) Tryz.func46 rfl Tryz.ntmps46 rfl rfl (qN rfl (LV rfl rfl (NN rfl (cs:=[ptr Q.s 0]) rfl) ?_))
 rintro _ w1 ⟨bs,rfl,wk,ad,gR⟩
 refine LV rfl rfl (NN rfl (cs:=[I (st:Int),I (len:Int)]) rfl) ?_
 rintro _ w2 ⟨bx,rfl,eR,af,gl⟩
 have j7:=af.LN gR
 have Jp:=hP.ext' (ad.trans af)
 have ak:=Ext.Ma w2
 have bB:=ak.size
 refine M6 rfl (LU rfl (run_seq (MA (λe' w'=>∃wb bw,e'=[(2,ptr bs 0),(3,ptr bx 0),(6,ptr bw 0)]/\LX w' wb [ptr Q.s 0,I (st:Int),I (len:Int),.slice none 0 0,I 0,I 0,U c0,.nilFunc,.bool false] 175/\LX w' bw [ptr wb 0] 118/\Ext w2 w'/\w2.heap.size<=wb/\w2.heap.size<=bw/\wb≠bw) ?cu (λcu=>?cM))))
 case cu=>
  rintro e' w3 ⟨wb,bw,rfl,aq,lF,ah,nl,DO,bI⟩;have lbs:=gR.lt;have lbx:=gl.lt;have dy:=af.size;have eX:=Jp.ext' ah;refine run_seq (qN rfl (qV ((by first|exact LR Sy rfl rfl lF rfl|exact LR Sy rfl rfl aq rfl)) ?_));refine Mp rfl (M0 T9 rfl (qV ((by first|exact Mk z82 rfl SN rfl (LX.cells (n:=3) lF (news:=[_,_,_]) rfl) rfl|exact Mk z82 rfl SN rfl (LX.cells (n:=3) aq (news:=[_,_,_]) rfl) rfl)) ?_));refine Mb zej rfl (VN eX h1 h2) ?_;rintro _ w4 ⟨rfl,aC⟩;have lD:=aC.LN lF;have aM:=aC.LN aq;refine M6 rfl (qM rfl (LM rfl (MY rfl rfl (LO (An rfl (py (qN rfl (qV ((by first|exact LR Sy rfl rfl lD rfl|exact LR Sy rfl rfl aM rfl)) ?_))))))));refine qV (ZU (first:=[]) (caps:=[.tmp 2,.tmp 3,.tmp 6]) rfl rfl) (Mp rfl (M0 WE rfl (M1 rfl (NC zaH rfl rfl rfl aM (by simp)) ?_)));rintro w5 ⟨aF,aj⟩;have zJ:=aj.LN lD (λe=>bI e.symm);refine qM rfl (qV (LR Sy rfl rfl zJ rfl) (M6 rfl (LU rfl (LP Tryz.func46 rfl ?_))));have ic:Ext w2 w5:=(ah.trans aC).LJ aj (λj e=>by omega);refine⟨_,rfl,wb,bs,bx,bw,c0,rfl,qj,⟨aF,ic.LN j7,ic.LN gl,zJ,⟨by omega,by omega,λe=>bI e.symm⟩⟩,⟨by omega,by omega,by omega,by omega⟩,(ad.trans af).trans ic⟩
 case cM=>
 refine Me [7] (λw'=>Ext w2 w') (by kernel_rfl) rfl (qL [2,4,5,7] 0 rfl (λ_ h=>(by first|exact LR T7 rfl rfl (h.LN j7) rfl|exact LR T7 rfl rfl (h.LN gl) rfl)) ak ?_)
 refine qL [2,4,5,7] 1 rfl (λ_ hS=>(by first|exact Mk U97 rfl Ox rfl (LX.cells (n:=2) (hS.LN j7) (news:=[_,_]) rfl) rfl|exact Mk U97 rfl Ox rfl (LX.cells (n:=2) (hS.LN gl) (news:=[_,_]) rfl) rfl)) ak ?_
 refine qL [4,5,7] 2 rfl (λ_ h=>OJ (cs:=[_,_,_]) SN rfl za7 rfl rfl) ak (Sv (i:=3) (j:=6) (by kernel_rfl) ?_ ?_)
 ·refine O4 (i:=3) rfl rfl rfl (yc (args:=[.const (Value.string (⟨#[]⟩))]) zcN rfl) (z4k [] _ (by simp)) ?_;rintro _ w3 ⟨rfl,ah⟩;refine⟨ak.trans ah,?_⟩;rw[tt];have ak:=ak.trans ah
  try have aX:=ah.LN aX
  have bB:=Nat.le_trans bB ah.size;refine qL [5,7] 4 rfl (λ_ h=>OJ (cs:=[_,_,_,_,_,_,_,_,_]) z9Q rfl zah rfl rfl) ak (Sv (i:=5) (j:=6) (by kernel_rfl) ?_ ?_)
  ·refine MV (i:=5) rfl rfl rfl (NN rfl (cs:=[ptr Q.s 0,I (st:Int),I (len:Int),.slice none 0 0,I 0,I 0,U c0,.nilFunc,.bool false]) rfl) ?_;rintro _ w5 ⟨wb,rfl,nl,aT,aF⟩;refine⟨ak.trans aT,?_⟩;have ak:=ak.trans aT
   try have aX:=aT.LN aX
   have sq:w2.heap.size<=wb:=by omega
   have bB:=Nat.le_trans bB aT.size;refine Nw (i:=6) (by kernel_rfl) (MV (i:=6) rfl rfl rfl (O9 (cs:=[_]) YF rfl) ?_);rintro _ w6 ⟨bw,rfl,DO,aN,aX⟩;refine⟨ak.trans aN,?_⟩;have ak:=ak.trans aN
   try have aF:=aN.LN aF
   have y8:w2.heap.size<=bw:=by omega
   have bB:=Nat.le_trans bB aN.size;refine Pv [7] (qO 7 (Mx (i:=7) rfl rfl (NC YF rfl rfl rfl aX (by simp)) ?_));rintro w7 ⟨bN,aA⟩;refine⟨trivial,?_⟩;refine qE ?_;replace bN:LX w7 bw [ptr wb 0] 118:=bN
   have j8:wb≠bw:=by
    intro e;have h5:=aF;rw[e] at h5;obtain⟨fz,h5,-⟩:=h5;obtain⟨fz6,h6,-⟩:=aX;rw[h5] at h6;cases h6
   have jA:=aA.LN aF j8;exact(cu _ _ ⟨wb,bw,rfl,jA,bN,ak.LJ aA (λj e=>by omega),sq,y8,j8⟩).qb
  ·refine MV (i:=6) rfl rfl rfl (O9 (cs:=[_]) YF rfl) ?_;rintro _ w6 ⟨bw,rfl,DO,aN,aX⟩;refine⟨ak.trans aN,?_⟩;have ak:=ak.trans aN
   try have aF:=aN.LN aF
   have y8:w2.heap.size<=bw:=by omega
   have bB:=Nat.le_trans bB aN.size;refine Nw (i:=5) (by kernel_rfl) (MV (i:=5) rfl rfl rfl (NN rfl (cs:=[ptr Q.s 0,I (st:Int),I (len:Int),.slice none 0 0,I 0,I 0,U c0,.nilFunc,.bool false]) rfl) ?_);rintro _ w5 ⟨wb,rfl,nl,aT,aF⟩;refine⟨ak.trans aT,?_⟩;have ak:=ak.trans aT
   try have aX:=aT.LN aX
   have sq:w2.heap.size<=wb:=by omega
   have bB:=Nat.le_trans bB aT.size;refine Pv [7] (qO 7 (Mx (i:=7) rfl rfl (NC YF rfl rfl rfl aX (by simp)) ?_));rintro w7 ⟨bN,aA⟩;refine⟨trivial,?_⟩;refine qE ?_;replace bN:LX w7 bw [ptr wb 0] 118:=bN
   have j8:wb≠bw:=by
    intro e;have h5:=aF;rw[e] at h5;obtain⟨fz,h5,-⟩:=h5;obtain⟨fz6,h6,-⟩:=aX;rw[h5] at h6;cases h6
   have jA:=aA.LN aF j8;exact(cu _ _ ⟨wb,bw,rfl,jA,bN,ak.LJ aA (λj e=>by omega),sq,y8,j8⟩).qb
 ·refine MV (i:=6) rfl rfl rfl (O9 (cs:=[_]) YF rfl) ?_;rintro _ w6 ⟨bw,rfl,DO,aN,aX⟩;refine⟨ak.trans aN,?_⟩;have ak:=ak.trans aN
  try have aF:=aN.LN aF
  have y8:w2.heap.size<=bw:=by omega
  have bB:=Nat.le_trans bB aN.size;refine Nw (i:=3) (by kernel_rfl) (O4 (i:=3) rfl rfl rfl (yc (args:=[.const (Value.string (⟨#[]⟩))]) zcN rfl) (z4k [] _ (by simp)) ?_);rintro _ w3 ⟨rfl,ah⟩;refine⟨ak.trans ah,?_⟩;rw[tt];have ak:=ak.trans ah
  try have aX:=ah.LN aX
  have bB:=Nat.le_trans bB ah.size;refine qL [5,7] 4 rfl (λ_ h=>OJ (cs:=[_,_,_,_,_,_,_,_,_]) z9Q rfl zah rfl rfl) ak (Nw (i:=5) (by kernel_rfl) (MV (i:=5) rfl rfl rfl (NN rfl (cs:=[ptr Q.s 0,I (st:Int),I (len:Int),.slice none 0 0,I 0,I 0,U c0,.nilFunc,.bool false]) rfl) ?_));rintro _ w5 ⟨wb,rfl,nl,aT,aF⟩;refine⟨ak.trans aT,?_⟩;have ak:=ak.trans aT
  try have aX:=aT.LN aX
  have sq:w2.heap.size<=wb:=by omega
  have bB:=Nat.le_trans bB aT.size;refine Pv [7] (qO 7 (Mx (i:=7) rfl rfl (NC YF rfl rfl rfl aX (by simp)) ?_));rintro w7 ⟨bN,aA⟩;refine⟨trivial,?_⟩;refine qE ?_;replace bN:LX w7 bw [ptr wb 0] 118:=bN
  have j8:wb≠bw:=by
   intro e;have h5:=aF;rw[e] at h5;obtain⟨fz,h5,-⟩:=h5;obtain⟨fz6,h6,-⟩:=aX;rw[h5] at h6;cases h6
  have jA:=aA.LN aF j8;exact(cu _ _ ⟨wb,bw,rfl,jA,bN,ak.LJ aA (λj e=>by omega),sq,y8,j8⟩).qb
end
section
variable {w w':World}{Q:NZ}{txt:Int->Bytes}{K:Nat}{X S':Nat->Prop}{st len wb bs bx bw at' n sum:Nat}{rest:Value}{T:Bytes}
theorem z5r (T:Bytes)(k:Nat):((T.drop (512*k)).map Px).drop 512=(T.drop (512*(k+1))).map Px:=by
 rw[<-List.map_drop,List.drop_drop]
 congr 2
def SwI (Q:NZ)(txt:Int->Bytes)(K:Nat)(X:Nat->Prop)(st len wb bs bx bw:Nat)(T:Bytes)(sum:Nat)(w:World)(k:Nat)(w':World):Prop:=
 ∃txt' rest,Sp Q txt' (K+k) (λb=>X b\/rest.ownBlock=some b) w'/\ZS Q.s st len wb bs bx bw rest k T.length sum w'/\Sl w' rest 5 1 (T.length-512*k) ((T.drop (512*k)).map Px)/\(∀j,j<k->txt' ((st+j:Nat):Int)=(T.drop (512*j)).take 512)/\(∀y:Int,y<(st:Int)\/(st:Int)+(k:Int)<=y->txt' y=txt y)/\Kp (λb=>¬X b\/b=wb) w w'/\(∀b,rest.ownBlock=some b->w.heap.size<=b)
theorem z0r (hP:Sp Q txt K X w)(hX:∀b,X b->b<w.heap.size)(hK:K<=100000000000)(h:ZS Q.s st len wb bs bx bw (.slice none 0 0) 0 0 sum w)(gx:sum<4294967296)(aY:X wb/\X bs/\X bx/\X bw)(bJ:st+len<=Q.L.length)(h1:1<=len)(hT:T.length<=len*512-12):
  Mm Tryz.prog 47 [ptr wb 0,S T] w λv w'=>v=I 0/\∃sum',sum'<4294967296/\SwI Q txt K X st len wb bs bx bw T sum' w (T.length / 512) w':=by
 have f7:maxLen=9223372036854775807:=rfl
 have dO:=hP.n
 refine It (e:=[(0,_),(1,_)]) Tryz.func47 rfl Tryz.ntmps47 rfl rfl (qN rfl (LU rfl (run_seq (qN rfl (LM rfl (Mb ze9 rfl (UI h.wr) ?_))))))
 rintro _ w ⟨rfl,rfl⟩
 refine M6 rfl (qM rfl (LM rfl (MY rfl rfl (LO (An rfl (py (run_seq (qN rfl (LM rfl (qV (Ra U9 rfl) (LM rfl (Mb zeE rfl (z1x hP (by omega) (by omega) h.wr) ?_))))))))))))
 rintro _ w1 ⟨rfl,ad⟩
 have jt:=hP.ext' ad
 have dP:=h.ext ad
 have ai:=dP.cells
 refine Nc rfl rfl (MC (LO (An rfl (py (qN rfl (LM rfl (Mp rfl (M0 WJ rfl (qV (LR U3 rfl rfl ai rfl) (LM rfl (qV (Ra U9 rfl) (MK rfl rfl (Mp rfl ?_)))))))))))))
 refine M0 WJ rfl ?_
 rw[show((0:Nat):Int)+(T.length:Int)=(T.length:Int) by omega]
 refine M1 rfl (NC MO rfl rfl rfl ai (by simp)) ?_
 rintro w2 ⟨am,ao⟩
 have cS:=dP.re ao (show LX w2 wb (swC Q.s st len (.slice none 0 0) 0 T.length sum (X7 bs bx bw) false) 175 from am)
 have dI:=jt.own ao (λb e=>by rw[e];exact aY.1)
 have dK:=cS.cells
 refine qM rfl (M4 rfl rfl (Mp rfl (M0 Zs rfl (qV (LR N5 rfl rfl dK rfl) (LM rfl (Mb zdk rfl (z7g sum T _ gx (by omega)) ?_))))))
 rintro _ w3 ⟨rfl,ah⟩
 have rf:=Sums.z9B T gx
 obtain⟨sum3,gm⟩:∃sum3,Sums.on sum T=sum3:=⟨_,rfl⟩
 rw[gm] at rf⊢
 have od:=cS.ext ah
 have aq:=od.cells
 refine Mp rfl (M0 Zs rfl (M1 rfl (NC Mc rfl rfl rfl aq (by simp)) ?_))
 rintro w4 ⟨aM,ax⟩
 have ub:=od.re ax (show LX w4 wb (swC Q.s st len (.slice none 0 0) 0 T.length sum3 (X7 bs bx bw) false) 175 from aM)
 have jK:=(dI.ext' ah).own ax (λb e=>by rw[e];exact aY.1)
 have ew:=ub.cells
 refine LO (Mn.qb (e:=[(0,_),(1,_),(4,_)]) ?_)
 refine qN rfl (M4 rfl rfl (Mp rfl (M0 Pa rfl (qV (LR N1 rfl rfl ew rfl) (LM rfl (LV rfl rfl (zbs N1 U9 TQ rfl rfl (Sl.nil w4 _ 1) (by omega)) ?_))))))
 rintro v5 w5 ⟨gp,aj,sd⟩
 simp only[List.nil_append,Nat.zero_add] at gp
 replace aj:Ext w4 w5:=aj.LZ (λb e=>by cases e)
 have tv:∀b,v5.ownBlock=some b->w4.heap.size<=b:=λb e=>(sd b e).elim (λe=>by cases e) id
 obtain⟨a5,c5,rfl,-⟩:=gp.rd.shape
 have o5:=ub.ext aj
 have aF:=o5.cells
 have bC:Kp (λb=>¬X b\/b=wb) w w5:=(((ad.kp.trans (ao.LZ λb e=> .inr e)).trans ah.kp).trans (ax.LZ λb e=> .inr e)).trans aj.kp
 have z4:w.heap.size<=w4.heap.size:=by have:=ad.size;have:=ao.size;have:=ah.size;have:=ax.size;omega
 have lwb:=aF.lt
 have lwb0:=hX _ aY.1
 refine Mp rfl (M0 Pa rfl (M1 rfl (NC Tz rfl rfl rfl aF (by simp)) ?_))
 rintro w6 ⟨aX,aR⟩
 have Dj:=o5.re aR (show LX w6 wb (swC Q.s st len (.slice a5 T.length c5) 0 T.length sum3 (X7 bs bx bw) false) 175 from aX)
 have pS:Sp Q txt K (λb=>X b\/(Value.slice a5 T.length c5).ownBlock=some b) w6:=(jK.ext aj (λb e=>e.imp id (tv b))).own aR (λb e=> .inl (by rw[e];exact aY.1))
 have iW:=gp.kp aR (λb hb e=>by have:=tv b hb;omega)
 have mC:=Dj.cells
 have ii:=bC.trans (aR.LZ λb e=>Or.inr e)
 refine qM rfl (LM rfl (Mp rfl (M0 T9 rfl (M0 Ri rfl (qV (LR T7 rfl rfl mC rfl) (Mb z0m rfl (pS.size) ?_))))))
 rintro _ w6 ⟨rfl,rfl⟩
 refine LU rfl (run_seq (LK (Oe (α:=Nat) (0) (λk=>[(0,ptr wb 0),(6,I 512)]) (λk w'=>k<=T.length / 512/\SwI Q txt K X st len wb bs bx bw T sum3 w k w') (λk=>T.length / 512-k) ?hI ?hround)))
 case hI=>exact⟨Nat.zero_le _,txt,_,pS,Dj,iW,λj hj=>by omega,λy hy=>rfl,ii,λb hb=>by have:=tv b hb;omega⟩
 case hround=>
  rintro k w8 ⟨hk,txt1,rest,oh,vB,eB,iE,zW,bj,me⟩ ih;obtain⟨a8,c8,rfl,-⟩:=eB.rd.shape;have ce:=vB.cells;have Fh:=bj.size
  try dsimp only
  refine run_seq (qN rfl (LM rfl (Mp rfl (M0 Pa rfl (qV (LR N1 rfl rfl ce rfl) (NX N1 rfl (LM rfl (PQ rfl rfl (LO (LY rfl (λh0=>?_) (λh0=>?_)))))))))))
  ·have Jq:512*k+512<=T.length:=by omega
   rcases eB.shape with⟨e,un⟩|⟨gb,cc,e,Dw⟩
   ·omega
   cases e;have IE:=me gb rfl;have hg:=Ext.Ma w8;have de:((T.drop (512*k)).take 512).length=512:=by rw[List.length_take,List.length_drop];omega
   have DP:Rd w8 (.slice (some ⟨gb,0,none⟩) 512 c8) 1 ((T.drop (512*k)).take 512).length (((T.drop (512*k)).take 512).map Px):=by
    rw[de,List.map_take];exact Rk eB.rd (by omega)
   have Jr:∀b,(X b\/(Value.slice (some ⟨gb,0,none⟩) (T.length-512*k) c8).ownBlock=some b)->b<w8.heap.size:=λb hb=>by
    rcases hb with e| e
    ·have:=hX b e;omega
    ·exact eB.lt e
   refine py (LK (run_seq (run_seq (Me [11,12] (λw'=>Ext w8 w') (by kernel_rfl) rfl (qL [1,2,3,11,12] 0 rfl (λ_ h=>My rfl) hg (qL [2,3,11,12] 1 rfl (λ_ h=>MS rfl) hg (qL [3,11,12] 2 rfl (λ_ h=>Mo WE rfl) hg (qL [11,12] 3 rfl (λ_ h=>LR U62 rfl rfl (h.LN ce) rfl) hg (qL [5,6,7,9,10,11,12] 4 rfl (λ_ h=>My rfl) hg (qL [6,7,9,10,11,12] 5 rfl (λ_ h=>MS rfl) hg (qL [7,9,10,11,12] 6 rfl (λ_ h=>Mo Pa rfl) hg (qL [9,10,11,12] 7 rfl (λ_ h=>LR N1 rfl rfl (h.LN ce) rfl) hg (qL [9,10,11,12] 8 rfl (λ_ h=>My rfl) hg ?_)))))))))))));refine qL [10,11,12] 9 rfl (λ_ h=>z8j N1 TQ rfl rfl (by omega)) hg (qL [11,12] 10 rfl (λ_ hS=>zaE (l:=(T.drop (512*k)).take 512) N1 U5 U9 rfl (DP.ext hS) (by omega)) hg (Pv [11] (qO 11 (SS (i:=11) rfl rfl rfl (OC zbc rfl rfl) (Vn (oh.ext' hg) (λb hb=>by have:=Jr b hb;have:=hg.size;omega) (by omega) (vB.ext hg) ⟨.inl aY.1,.inl aY.2.1,.inl aY.2.2.1,.inl aY.2.2.2⟩ (by omega) ((T.drop (512*k)).take 512) de) ?_))));rintro _ w9 ⟨rfl,rg,zS,aL⟩;refine⟨trivial,?_⟩;refine LS 12 rfl (NK rfl) trivial (qE (qN rfl (LM rfl (MY rfl rfl ?_))));have cB:=zS.cells;have tw:=hg.kp.trans aL
   have uK:=eB.kp tw (λb hb e=>by
    rcases e with e| e
    ·exact e (.inr hb)
    ·have e1:gb=b:=NV hb
     omega)
   have Fi:=tw.size;refine LO (An rfl (py (LQ rfl (M4 rfl rfl (Mp rfl (M0 Pa rfl (qV (LR N1 rfl rfl cB rfl) (LM rfl (qV (UW N1 TQ rfl rfl (by omega) (by omega)) (LV rfl rfl (pap N1 TQ rfl (by decide) rfl rfl (Sl.nil w9 _ 1) (Q7 (i:=512) uK.rd (by omega) (by omega)) (λc hc=>by obtain⟨z,-,rfl⟩:=List.mem_map.1 (List.mem_of_mem_drop hc);rfl) (by omega) (by omega)) ?_))))))))));rintro v10 w10 ⟨cf,aw,cg,-⟩;rw[List.nil_append,z5r,Nat.zero_add,show T.length-512*k-512=T.length-512*(k+1) by omega] at cf;replace aw:Ext w9 w10:=aw.LZ (λb e=>by cases e);have nJ:∀b,v10.ownBlock=some b->w9.heap.size<=b:=λb e=>(cg b e).elim (λe=>by cases e) id;obtain⟨a10,c10,rfl,-⟩:=cf.rd.shape;have y9:=zS.ext aw;have fd:=y9.cells;refine Mp rfl (M0 Pa rfl (M1 rfl (NC Tz rfl rfl rfl fd (by simp)) ?_));rintro w11 ⟨aH,aU⟩;have DQ:=y9.re aU (show LX w11 wb (swC Q.s st len (.slice a10 (T.length-512*(k+1)) c10) (k+1) T.length sum3 (X7 bs bx bw) false) 175 from aH);have kr:Sp Q (Vf txt1 ((st+k:Nat):Int) (some ((T.drop (512*k)).take 512))) (K+k+1) (λb=>X b\/(Value.slice a10 (T.length-512*(k+1)) c10).ownBlock=some b) w11:=(rg.ext aw (λb e=>e.elim (λe=> .inl (.inl e)) (λe=> .inr (nJ b e)))).own aU (λb e=> .inl (by rw[e];exact aY.1));have rN:=cf.kp aU (λb hb e=>by have:=nJ b hb;omega);refine LO (LL ((ih (k+1) w11 ⟨by omega,_,_,kr,DQ,rN,λj hj=>?_,λy hy=>?_,?_,λb hb=>by have:=nJ b hb;omega⟩ (by omega)).qb))
   ·by_cases e:j=k
    ·subst e;exact Ow _ _ _
    ·rw[NU _ _ (by omega)];exact iE j (by omega)
   ·rw[NU _ _ (by omega)];exact zW y (by omega)
   ·refine(bj.LJ tw λb e=>?_).trans (aw.kp.trans (aU.LZ λb e=> .inr e));rcases e with e| e
    ·by_cases hb:X b
     ·exact absurd (.inl hb) e
     ·exact .inr (.inl hb)
    ·exact .inr (.inr e)
  ·have DR:k=T.length / 512:=by omega
   subst DR;refine LW rfl (qN rfl (LU rfl (LP Tryz.func47 rfl ?_)));exact⟨_,rfl,rfl,sum3,rf,txt1,_,oh,vB,eB,iE,zW,bj,me⟩
end
section
variable {w w':World}{Q:NZ}{txt:Int->Bytes}{K:Nat}{X S':Nat->Prop}{st len wb bs bx bw at' n sum:Nat}{rest:Value}{T:Bytes}
def Tt (n sum:Nat):Bytes:=Ql 8 n++Ql 4 sum
theorem Zw (n sum:Nat):(Tt n sum).length=12:=by simp[Tt,Mz]
theorem z19 (hP:Sp Q txt K (λb=>X b\/rest.ownBlock=some b) w)(hX:∀b,X b->b<w.heap.size)(hK:K<=200000000000)(h:ZS Q.s st len wb bs bx bw rest (T.length / 512) T.length sum w)(gx:sum<4294967296)(aY:X wb/\X bs/\X bx/\X bw)(bJ:st+len<=Q.L.length)(aB:len=(T.length+523) / 512)
  (hS:Sl w rest 5 1 (T.length%512) ((T.drop (512*(T.length / 512))).map Px)) (bI:∀b,rest.ownBlock=some b->¬X b) (iE:∀j,j<T.length / 512->txt ((st+j:Nat):Int)=(T.drop (512*j)).take 512):
  Mm Tryz.prog 48 [ptr wb 0] w λv w'=>v=I 0/\∃txt',Sp Q txt' (K+2) X w'/\(∀j,512*j<T.length->∃z,txt' ((st+j:Nat):Int)=(T.drop (512*j)).take 512++z)/\(∃z,txt' ((st+(len-1):Nat):Int)=z++Tt T.length sum/\z.length=500)/\(∀y:Int,y<(st:Int)\/(st:Int)+(len:Int)<=y->txt' y=txt y)/\Kp (λb=>¬X b\/b=wb) w w':=by
 have f7:maxLen=9223372036854775807:=rfl
 have dO:=hP.n
 obtain⟨a0,c0,rfl,-⟩:=hS.rd.shape
 have hB:=h.cells
 have Js:∀b,(Value.slice a0 (T.length%512) c0).ownBlock=some b->b<w.heap.size:=λb hb=>hS.lt hb
 have hg:=Ext.Ma w
 refine It (e:=[(0,_)]) Tryz.func48 rfl Tryz.ntmps48 rfl rfl (qN rfl (LU rfl (run_seq (qN rfl (LM rfl (Mb ze9 rfl (UI h.wr) ?_))))))
 rintro _ w ⟨rfl,rfl⟩
 refine M6 rfl (qM rfl (LM rfl (MY rfl rfl (LO (An rfl (py (qN rfl (LM rfl (Mp rfl (M0 T9 rfl (M0 Ri rfl (qV (LR T7 rfl rfl hB rfl) (Mb z0m rfl (hP.size) ?_)))))))))))))
 rintro _ w ⟨rfl,rfl⟩
 refine LU rfl (run_seq (run_seq (MA (λe' w'=>∃q,e'=[(0,ptr wb 0),(4,I 512),(38,.bool q)]/\(q=true↔T.length / 512<len-1)/\Ext w w') ?dJ (λdJ=>?eL))))
 case dJ=>
  rintro e' w1 ⟨q,rfl,hq,ad⟩;have jt:=hP.ext' ad;have h1:=h.ext ad;have jq:=hS.ext ad;have ai:=h1.cells;have mw:=ad.size;refine MA (λe' w'=>e'=[(0,ptr wb 0),(4,I 512)]/\∃txt1 rest1 at1 l,Sp Q txt1 (K+1) (λb=>X b\/rest1.ownBlock=some b) w'/\ZS Q.s st len wb bs bx bw rest1 at1 T.length sum w'/\Sl w' rest1 5 1 l.length (l.map Px)/\l.length<=500/\(∀b,rest1.ownBlock=some b->¬X b)/\l=T.drop (512*(len-1))/\(∀j,j<len-1->512*j<T.length->∃z,txt1 ((st+j:Nat):Int)=(T.drop (512*j)).take 512++z)/\(∀y:Int,y<(st:Int)\/(st:Int)+(len:Int)<=y->txt1 y=txt y)/\Kp (λb=>¬X b\/b=wb) w w') ?av (λav=>?dr)
  case av=>
   rintro e' w2 ⟨rfl,txt1,rest1,at1,l,dI,h2,cN,Fv,f9,hl,DS,DT,ao⟩;obtain⟨a2,c2,rfl,-⟩:=cN.rd.shape;have am:=h2.cells;have aa:=Ext.Ma w2;have nZ:=ao.size;refine run_seq (NF (λw'=>Kp (λb=>(Value.slice a2 l.length c2).ownBlock=some b) w2 w') rfl (M9 0 rfl rfl (aa.kp) (LS 1 rfl (MS rfl) (aa.kp) (LS 2 rfl (Mo Pa rfl) (aa.kp) (qT 3 rfl (λ_ h=>LR N1 rfl rfl (h.LN am (λe=>f9 _ e aY.1)) rfl) (aa.kp) (M9 4 rfl rfl (aa.kp) (LS 5 rfl (TF rfl rfl (by omega)) (aa.kp) (M9 6 rfl rfl (aa.kp) (LS 7 rfl (MS rfl) (aa.kp) (LS 8 rfl (Mo Pa rfl) (aa.kp) (qT 9 rfl (λ_ h=>LR N1 rfl rfl (h.LN am (λe=>f9 _ e aY.1)) rfl) (aa.kp) (LS 10 rfl (OZ N1 rfl) (aa.kp) (LS 11 rfl (TF rfl rfl (by omega)) (aa.kp) ?_)))))))))))));rw[show(512:Int)-12-(l.length:Int)=((500-l.length:Nat):Int) by omega];refine qO 12 (VP (i:=12) rfl rfl rfl (zeo N1 U3 U9 TQ rfl rfl (cN.ext aa) (by omega)) ?_);rintro v3 w3 ⟨cO,ar,pd⟩;refine⟨aa.kp.trans ar,?_⟩;have ya:l.length+(500-l.length)=500:=by omega
   rw[ya,<-List.map_append] at cO;obtain⟨a3,c3,rfl,-⟩:=cO.rd.shape;have cL:=aa.kp.trans ar
   have eJ:∀b,(Value.slice a3 500 c3).ownBlock=some b->¬X b:=λb hb e=>by
    rcases pd b hb with e2|e2
    ·exact f9 b e2 e
    ·have:=hX b e;have:=aa.size;omega
   have eX:Sp Q txt1 (K+1) (λb=>X b\/(Value.slice a3 500 c3).ownBlock=some b) w3:=dI.step cL (λb e=> .inr e) (λb e=>e.elim (λe=> .inl (.inl e)) (λe=>(pd b e).imp .inr (λe=>by have:=aa.size;omega)));have h3:=h2.kp cL (λe=>f9 _ e aY.1) (λe=>f9 _ e aY.2.1) (λe=>f9 _ e aY.2.2.1) (λe=>f9 _ e aY.2.2.2);have aq:=h3.cells;have cw:Kp (λb=>¬X b\/b=wb) w w3:=ao.LJ cL (λb e=> .inr (.inl (f9 b e)));refine LS 13 rfl (NK rfl) (aa.kp.trans ar) (qE (qN rfl (M4 rfl rfl (Mp rfl (M0 T9 rfl (M0 Qv rfl (M0 O5 rfl (qV (LR U3 rfl rfl aq rfl) (NP rfl rfl (Mp rfl (M0 Uj rfl ?_)))))))))));rw[show(len:Int)-1=((len-1:Nat):Int) by omega];refine M1 rfl (NC MO rfl rfl rfl aq (by simp)) ?_;rintro w4 ⟨aM,ax⟩;have h4:=h3.re ax (show LX w4 wb (swC Q.s st len (.slice a2 l.length c2) (len-1) T.length sum (X7 bs bx bw) false) 175 from aM);have jK:=eX.own ax (λb e=> .inl (by rw[e];exact aY.1));have ee:=cO.kp ax (λb hb e=>eJ b hb (by rw[e];exact aY.1));have ew:=h4.cells;have ae:=Ext.Ma w4;have kf:=cw.trans (ax.LZ λb e=>Or.inr e);have jh:=Mz 8 T.length;have eA:=Mz 4 sum;have rh:(l++zeros (500-l.length)).length=500:=by rw[List.length_append,show(zeros (500-l.length)).length=500-l.length by simp[zeros]];omega
   rw[List.length_append] at rh;refine LO (Mn.qb (e:=[(0,_),(6,_)]) ?_);refine run_seq (Me [20,21] (λw'=>Ext w4 w') (by kernel_rfl) rfl (qL [1,2,3,20,21] 0 rfl (λ_ h=>My rfl) ae (qL [2,3,20,21] 1 rfl (λ_ h=>MS rfl) ae (qL [3,20,21] 2 rfl (λ_ h=>Mo WE rfl) ae (qL [20,21] 3 rfl (λ_ h=>LR U62 rfl rfl (h.LN ew) rfl) ae (qL [5,12,19,20,21] 4 rfl (λ_ h=>My rfl) ae (qL [7,8,9,10,11,12,18,19,20,21] 6 rfl (λ_ h=>My rfl) ae (qL [8,9,10,11,12,18,19,20,21] 7 rfl (λ_ h=>MS rfl) ae (qL [9,10,11,12,18,19,20,21] 8 rfl (λ_ h=>Mo WJ rfl) ae (qL [10,11,12,18,19,20,21] 9 rfl (λ_ h=>LR U3 rfl rfl (h.LN ew) rfl) ae (qL [11,12,18,19,20,21] 10 rfl (λ_ h=>(by first|exact MH rfl U3 Ns (by omega)|exact Oc rfl U3 Ns)) ae ?_)))))))))));refine qL [14,15,16,17,18,19,20,21] 13 rfl (λ_ h=>My rfl) ae (qL [15,16,17,18,19,20,21] 14 rfl (λ_ h=>MS rfl) ae (qL [16,17,18,19,20,21] 15 rfl (λ_ h=>Mo Zs rfl) ae (qL [17,18,19,20,21] 16 rfl (λ_ h=>LR N5 rfl rfl (h.LN ew) rfl) ae (qL [18,19,20,21] 17 rfl (λ_ h=>MH rfl N5 Ns (by omega)) ae (qL [12,19,20,21] 5 rfl (λ_ h=>zaE (l:=l++zeros (500-l.length)) N1 U5 U9 rfl (by rw[List.length_append,rh];exact ee.rd.ext h) (by rw[List.length_append];omega)) ae ?_)))));refine Nw (i:=11) (by kernel_rfl) (O4 (i:=11) rfl rfl rfl (yc zbT rfl) (Wb T.length 8 _ (by omega) (by omega)) ?_);rintro _ w5 ⟨rfl,aT⟩;refine⟨ae.trans aT,?_⟩;refine qL [19,20,21] 12 rfl (λ_ h=>SQ rfl rfl (by first|omega|(simp;done)|(simp;omega))) (ae.trans aT) ?_;refine Nw (i:=18) (by kernel_rfl) (O4 (i:=18) rfl rfl rfl (yc zbT rfl) (Wb sum 4 _ (by omega) (by omega)) ?_);rintro _ w6 ⟨rfl,aN⟩;refine⟨(ae.trans aT).trans aN,?_⟩;have cJ:=(ae.trans aT).trans aN
   have nK:∀b,(X b\/(Value.slice a3 500 c3).ownBlock=some b)->b<w6.heap.size:=λb hb=>by
    have:=cJ.size;have:=ax.size;have:=cL.size;rcases hb with e| e
    ·have:=hX b e;omega
    ·have:=cO.lt e;omega
   refine qL [20,21] 19 rfl (λ_ h=>SQ rfl rfl (by first|omega|(simp;done)|(simp;omega))) ((ae.trans aT).trans aN) ?_;refine Pv [20] ?_;have jo:(l++zeros (500-l.length)++Ql 8 T.length++Ql 4 sum).length=512:=by rw[List.length_append,List.length_append,List.length_append,rh,Mz,Mz]
   refine qO 20 (SS (i:=20) rfl rfl rfl (OC zbc rfl rfl) (Vn (jK.ext' cJ) nK (by omega) (h4.ext cJ) ⟨.inl aY.1,.inl aY.2.1,.inl aY.2.2.1,.inl aY.2.2.2⟩ (by omega) _ jo) ?_);rintro _ w7 ⟨rfl,yb,h7,aA⟩;refine⟨trivial,?_⟩;have bN:=h7.cells;refine LS 21 rfl (NK rfl) trivial (qE (qN rfl (LM rfl (Mp rfl (M0 Ul rfl (M1 rfl (NC RX rfl rfl rfl bN (by simp)) ?_))))));rintro w8 ⟨ce,bj⟩;have oh:=(yb.own bj (λb e=> .inl (by rw[e];exact aY.1))).less (Y:=X) (λb e=> .inl e);refine LO (Mn.qb (e:=[(7,_)]) ?_);refine qN rfl (LM rfl (LU rfl (LP Tryz.func48 rfl (⟨_,rfl,rfl,_,oh,λj hj=>?_,⟨l++zeros (500-l.length),?_,by rw[List.length_append,rh]⟩,λy hy=>?_,?_⟩))))
   ·by_cases e:j=len-1
    ·subst e;refine⟨zeros (500-l.length)++Ql 8 T.length++Ql 4 sum,?_⟩;rw[Ow];show l++_++_++_=_;rw[<-hl,List.take_of_length_le (by omega)];simp only[List.append_assoc]
    ·obtain⟨z,hz⟩:=DS j (by omega) hj;exact⟨z,by rw[NU _ _ (by omega)];exact hz⟩
   ·rw[Ow];show _++_++_=_;unfold Tt;simp only[List.append_assoc]
   ·rw[NU _ _ (by omega)];exact DT y hy
   ·refine((kf.trans cJ.kp).LJ aA λb e=>?_).trans (bj.LZ λb e=> .inr e);rcases e with e| e
    ·by_cases hb:X b
     ·exact absurd (.inl hb) e
     ·exact .inr (.inl hb)
    ·exact .inr (.inr e)
  case dr=>
   refine MR rfl (λgy=>?_) (λgy=>?_)
   ·have wI:=hq.1 gy;have hr:500<T.length%512/\T.length / 512=len-2/\2<=len:=by omega
    have aG:=Ext.Ma w1;refine run_seq (run_seq (Me [17,18] (λw'=>Kp (λb=>(Value.slice a0 (T.length%512) c0).ownBlock=some b) w1 w') (by kernel_rfl) rfl (qL [1,2,3,17,18] 0 rfl (λ_ h=>My rfl) (aG.kp) (qL [2,3,17,18] 1 rfl (λ_ h=>MS rfl) (aG.kp) (qL [3,17,18] 2 rfl (λ_ h=>Mo WE rfl) (aG.kp) (qL [17,18] 3 rfl (λ_ h=>LR U62 rfl rfl (h.LN ai (λe=>bI _ e aY.1)) rfl) (aG.kp) (qL [5,6,7,15,16,17,18] 4 rfl (λ_ h=>My rfl) (aG.kp) (qL [6,7,15,16,17,18] 5 rfl (λ_ h=>MS rfl) (aG.kp) (qL [7,15,16,17,18] 6 rfl (λ_ h=>Mo Pa rfl) (aG.kp) (qL [15,16,17,18] 7 rfl (λ_ h=>LR N1 rfl rfl (h.LN ai (λe=>bI _ e aY.1)) rfl) (aG.kp) (qL [14,15,16,17,18] 8 rfl (λ_ h=>My rfl) (aG.kp) (qL [10,11,12,13,14,15,16,17,18] 9 rfl (λ_ h=>My rfl) (aG.kp) (qL [11,12,13,14,15,16,17,18] 10 rfl (λ_ h=>MS rfl) (aG.kp) ?_)))))))))))));refine qL [12,13,14,15,16,17,18] 11 rfl (λ_ h=>Mo Pa rfl) (aG.kp) (qL [13,14,15,16,17,18] 12 rfl (λ_ h=>LR N1 rfl rfl (h.LN ai (λe=>bI _ e aY.1)) rfl) (aG.kp) (qL [14,15,16,17,18] 13 rfl (λ_ h=>OZ N1 rfl) (aG.kp) (qL [15,16,17,18] 14 rfl (λ_ h=>TF rfl rfl (by omega)) (aG.kp) ?_)));rw[show(512:Int)-((T.length%512:Nat):Int)=((512-T.length%512:Nat):Int) by omega];refine Nw (i:=15) (by kernel_rfl) (MV (i:=15) rfl rfl rfl (zeo N1 U3 U9 TQ rfl rfl (jq.ext aG) (by omega)) ?_);rintro v2 w2 ⟨cN,ao,rq⟩;refine⟨aG.kp.trans ao,?_⟩;rw[show T.length%512+(512-T.length%512)=512 by omega,<-List.map_append] at cN;have rh:(T.drop (512*(T.length / 512))++zeros (512-T.length%512)).length=512:=by rw[List.length_append,List.length_drop,show(zeros (512-T.length%512)).length=512-T.length%512 by simp[zeros]];omega
    refine Nw (i:=16) (by kernel_rfl) (z9R (i:=16) rfl rfl rfl (zaE (l:=T.drop (512*(T.length / 512))++zeros (512-T.length%512)) N1 U5 U9 rfl (by rw[rh];exact cN.rd) (by omega)) (aG.kp.trans ao) ?_);have aV:=aG.kp.trans ao;have dI:Sp Q txt K X w2:=jt.step aV (λb e=> .inr e) (λb e=> .inl (.inl e));have h2:=h1.kp aV (λe=>bI _ e aY.1) (λe=>bI _ e aY.2.1) (λe=>bI _ e aY.2.2.1) (λe=>bI _ e aY.2.2.2);have nZ:=aV.size;refine Pv [17] (qO 17 (SS (i:=17) rfl rfl rfl (OC zbc rfl rfl) (Vn dI (λb hb=>by have:=hX b hb;omega) (by omega) h2 aY (by omega) _ rh) ?_));rintro _ w3 ⟨rfl,eX,h3,ar⟩;refine⟨trivial,?_⟩;have aq:=h3.cells;refine LS 18 rfl (NK rfl) trivial (qE (qN rfl (LM rfl (MY rfl rfl (LO (An rfl (py (LQ rfl (LM rfl (Mp rfl (M0 Pa rfl (M1 rfl (NC Tz rfl rfl rfl aq (by simp)) ?_))))))))))));rintro w4 ⟨aM,ax⟩;have h4:=h3.re ax (show LX w4 wb (swC Q.s st len (.slice none 0 0) (T.length / 512+1) T.length sum (X7 bs bx bw) false) 175 from aM);have jK:=eX.own ax (λb e=>by rw[e];exact aY.1);have ky:(T.drop (512*(T.length / 512))).take 512=T.drop (512*(T.length / 512)):=List.take_of_length_le (by rw[List.length_drop];omega);refine LO (Mn.qb (e:=[(0,_),(4,_)]) ?_);refine(av _ _ ⟨rfl,_,.slice none 0 0,_,[],jK.less (λb e=>e.elim id (λe=>by cases e)),h4,Sl.nil w4 _ 1,Nat.zero_le _,(λb e=>by cases e),(List.drop_of_length_le (by omega)).symm,λj hj kD=>?_,λy hy=>?_,?_⟩).qb
    ·by_cases e:j=T.length / 512
     ·subst e;exact⟨zeros (512-T.length%512),by rw[Ow,ky];rfl⟩
     ·exact⟨[],by rw[NU _ _ (by omega),List.append_nil];exact iE j (by omega)⟩
    ·rw[NU _ _ (by omega)]
    ·refine((ad.kp.LJ aV λb e=> .inr (.inl (bI b e))).trans ar).trans (ax.LZ λb e=> .inr e)
   ·have wI:¬T.length / 512<len-1:=λe=>by rw[hq.2 e] at gy;cases gy
    have Jt:T.length / 512=len-1:=by omega
    have eT:(T.drop (512*(T.length / 512))).length=T.length%512:=by rw[List.length_drop];omega
    refine py ((av _ _ ⟨rfl,txt,.slice a0 (T.length%512) c0,T.length / 512,T.drop (512*(T.length / 512)),jt.more (by omega),h1,by rw[eT];exact jq,by omega,bI,by rw[Jt],λj hj kD=>⟨[],by rw[List.append_nil];exact iE j (by omega)⟩,λy hy=>rfl,ad.kp⟩).qb)
 case eL=>
  refine NF (λw'=>Ext w w') rfl (M9 0 rfl rfl (hg) (LS 1 rfl (MS rfl) hg (LS 2 rfl (Mo Uj rfl) hg (qT 3 rfl (λ_ h=>LR U3 rfl rfl (h.LN hB) rfl) hg (M9 4 rfl rfl (hg) (LS 5 rfl (MS rfl) hg (LS 6 rfl (Mo T9 rfl) hg (LS 7 rfl (Mo Qv rfl) hg (LS 8 rfl (Mo O5 rfl) hg (qT 9 rfl (λ_ h=>LR U3 rfl rfl (h.LN hB) rfl) hg (LS 10 rfl (TF rfl rfl (by omega)) hg ?_)))))))))));rw[show(len:Int)-1=((len-1:Nat):Int) by omega];rcases Nat.lt_or_ge (T.length / 512) (len-1) with hq|hq
  ·refine LS 11 rfl (XF rfl rfl) hg (Qq (M9 12 rfl rfl (hg) (M9 13 rfl rfl (hg) (LS 14 rfl (MS rfl) hg (LS 15 rfl (Mo Pa rfl) hg (qT 16 rfl (λ_ h=>LR N1 rfl rfl (h.LN hB) rfl) hg (LS 17 rfl (OZ N1 rfl) hg (LS 18 rfl (UZ rfl rfl) hg (Qq (LS 19 rfl (Rx rfl rfl) hg (qE (Mn.qb (e:=[(0,_),(2,_),(4,_),(38,_)]) ?_))))))))))));exact(dJ _ _ ⟨true,rfl,⟨λ_=>hq,λ_=>rfl⟩,hg⟩).qb
  ·refine LS 11 rfl (XF rfl rfl) hg (QG (M9 12 rfl rfl (hg) (qJ 13 rfl (hg) (qJ 14 rfl (hg) (qJ 15 rfl (hg) (qJ 16 rfl (hg) (qJ 17 rfl (hg) (qJ 18 rfl (hg) (LS 19 rfl (R8 rfl rfl) hg (qE (Mn.qb (e:=[(0,_),(2,_),(4,_),(38,_)]) ?_)))))))))));exact(dJ _ _ ⟨false,rfl,⟨λe=>(by cases e),λe=>by omega⟩,hg⟩).qb
end
end Go.Proofs.YtpldpcjdjcgicaaGreatDoor
namespace Go.Proofs.YtpldpcjdjcgicaaGreatDoor
open Go Go.RowKit Go.Shelf
def BdM (w:World)(b:Nat)(l:Bytes)(v:Value):Prop:=(∃p,(p= .pointer none\/p=ptr b 0)/\LX w b [p,v] 157)/\Sl w v 5 1 l.length (l.map Px)/\v.ownBlock≠some b
section
variable {w w':World}{b:Nat}{l s:Bytes}{v:Value}{S':Nat->Prop}
theorem BdM.kp (h:BdM w b l v)(hk:Kp S' w w')(h1:¬S' b)(h2:∀g,v.ownBlock=some g->¬S' g):BdM w' b l v:=by
 obtain⟨⟨p,hp,hB⟩,hS,hn⟩:=h
 exact⟨⟨p,hp,hk.LN hB h1⟩,hS.kp hk h2,hn⟩
theorem BdM.new (h:LX w b [.pointer none,.slice none 0 0] 157):BdM w b [] (.slice none 0 0):=⟨⟨_,.inl rfl,h⟩,Sl.nil w _ 1,λe=>by cases e⟩
theorem LX.shape {cs:List Value}{T:TypeId}(h:LX w b cs T):w.shape? b=some (T,cs.length):=by
 obtain⟨fz,hb,-⟩:=h
 simp[World.shape?,hb]
theorem z6x (h:BdM w b l v):Mm Tryz.prog 95 [ptr b 0] w λr w'=>r= .tuple #[]/\BdM w' b l v/\Kp (λk=>k=b) w w':=by
 obtain⟨⟨p,hp,hB⟩,hS,hn⟩:=h
 rcases hp with rfl|rfl
 ·refine Calls.mono (Any.Builder_copyCheck_fresh {zaq with} zaQ.toX72 b w (hB.cell 0) hB.shape (hB.free (i:=0) (by simp))) λ_ _ ⟨he,hw⟩=>⟨_,he,rfl,?_,?_⟩
  ·rw[hw];have hk:=PY w b 0 (ptr b 0);exact⟨⟨_,.inr rfl,SJ hB 0 (ptr b 0)⟩,hS.kp hk (λg hg e=>hn (e▸hg)),hn⟩
  ·rw[hw];exact PY w b 0 _
 ·exact Calls.mono (Any.Builder_copyCheck_used {zaq with} zaQ.toX72 b w (hB.cell 0)) λ_ _ ⟨he,hw⟩=>⟨_,he,rfl,by rw[hw];exact⟨⟨_,.inr rfl,hB⟩,hS,hn⟩,by rw[hw];exact Kp.refl _ _⟩
theorem z1l (h:BdM w b l v)(s:Bytes)(hl:l.length+s.length<=140737488355328):Mm Tryz.prog 64 [ptr b 0,S s] w λ_ w'=>∃v',BdM w' b (l++s) v'/\Kp (λk=>k=b\/v.ownBlock=some k) w w'/\(∀g,v'.ownBlock=some g->v.ownBlock=some g\/w.heap.size<=g):=by
 refine It (e:=[(0,_),(1,_)]) Tryz.func64 rfl Tryz.ntmps64 rfl rfl (qN rfl (M6 rfl (M6 rfl (qM rfl (LM rfl (Mb zeX rfl (z6x h) ?_))))))
 rintro _ w1 ⟨rfl,⟨⟨p,hp,ai⟩,jq,cK⟩,aK⟩
 have mw:=aK.size
 have l1:=ai.lt
 refine qM rfl (M4 rfl rfl (Mp rfl (M0 Wu rfl (qV (LR N1 rfl rfl ai rfl) (LM rfl (LV rfl rfl (zbs N1 U9 TQ rfl rfl jq hl) ?_))))))
 rintro v2 w2 ⟨cN,ao,ur⟩
 have am:=ao.LN ai cK
 have nZ:=ao.size
 have gW:v2.ownBlock≠some b:=λe=>by
  rcases ur b e with e| e
  ·exact cK e
  ·omega
 refine Mp rfl (M0 Wu rfl (M1 rfl (NC Tz rfl rfl (Tm cN) am (by simp)) ?_))
 rintro w3 ⟨aq,ar⟩
 refine qM rfl (LM rfl (qV (Ra U9 rfl) (M6 rfl (LU rfl (LP Tryz.func64 rfl ?_)))))
 rw[<-List.length_append,<-List.map_append] at cN
 refine⟨_,rfl,v2,⟨⟨p,hp,aq⟩,cN.kp ar (λg hg e=>gW (e▸hg)),gW⟩,((aK.LZ λk e=> .inl e).trans (ao.LZ λk e=> .inr e)).trans (ar.LZ λk e=> .inl e),λg hg=>(ur g hg).imp id λe=>by omega⟩
theorem z5h (w:World)(a:Addr)(n:Nat):Kp (λk=>k=a.block) w (w.freeze a n):=by
 by_cases h0:n=0
 ·subst h0;rw[show w.freeze a 0=w by simp[World.freeze]];exact Kp.refl _ w
 ·unfold World.freeze;rw[if_neg h0]
  exact⟨rfl,rfl,rfl,by simp,λk _ hn=>by
   simp only[Array.getElem?_modify]
   rw[if_neg (λh=>hn h.symm)]⟩
section
variable {P:Program}{e:Env}{d:Option Nat}{ty t it el:TypeId}{pos:String}{aft:Array Edge}{g:Option (Nat×Bool)}{x y:Operand}{n c:Nat}{a:Option Addr}
theorem zff (hx:look e x=some (.slice a n c))(hc:a≠none->c≠0):Y P e ⟨d,.call ⟨.builtin .unsafeSliceData,#[x],#[t]⟩,ty,pos,aft,g⟩ (.pointer a) w w:=fun ρ hρ=>by
 have hr:∀w,(Builtin.unsafeSliceData_ #[t] ty #[.slice a n c]).run P w= .ok (.pointer a) w:=λw=>by
  cases a with
  |none=>rfl
  |some a=>exact Lib.run_unsafeSliceData_row (P:=P) w #[t] ty a n c (hc (by simp))
 simp[execOp,resolve,invoke,builtin,hρ _ _ hx,hr]
theorem zg0 (hp:P.underlying t=some (.pointer el))(hc:P.cellsOf el=1)(hx:look e x=some (.pointer a))(hy:look e y=some (I (l.length:Int)))(hS:Sl w (.slice a l.length c) el 1 l.length (l.map Px))(DM:l.length<=9223372036854775807)(h0:l=[]\/∃g,a=some ⟨g,0,none⟩):
  Yp P e ⟨d,.call ⟨.builtin .unsafeString,#[x,y],#[t,it]⟩,ty,pos,aft,g⟩ w λr w'=>r=S l/\Kp (λk=>(Value.slice a l.length c).ownBlock=some k) w w':=by
 by_cases hl:l=[]
 ·subst hl;have hr:=Lib.run_unsafeString_none (P:=P) w t it ty a;refine⟨_,w,fun ρ hρ=>?_,rfl,Kp.refl _ _⟩;have h1:=hρ _ _ hx;have h2:ρ y= .int .i64 0:=hρ _ _ hy;simp[execOp,resolve,invoke,builtin,h1,h2,hr]
  rfl
 ·obtain⟨b,rfl⟩:=h0.resolve_left hl;obtain⟨cur,jw,je,mu,aB,mx⟩:=hS.row;have bh:=World.ownsRow.cells hS (g:=b) rfl;simp only[Nat.mul_one] at aB mx
  have hr:=Lib.run_unsafeString_row (P:=P) w t it ty el hp hc b cur.length (by unfold Rb at jw;simp[World.shape?,jw]) l hl (by omega) DM (λj x hj=>by
   have:=bh j (Px x) (by rw[List.getElem?_map,hj];rfl)
   exact this)
  refine⟨_,_,fun ρ hρ=>?_,rfl,(z5h w ⟨b,0,none⟩ l.length).LZ λk e=>by rw[show k=b from e];rfl⟩;simp[execOp,resolve,invoke,builtin,hρ _ _ hx,hρ _ _ hy,hr]
end
theorem YM (h:BdM w b l v)(h0:l=[]->v= .slice none 0 0)(hl:l.length<=140737488355328):Mm Tryz.prog 65 [ptr b 0] w λr w'=>r=S l/\Kp (λk=>v.ownBlock=some k) w w':=by
 obtain⟨⟨p,hp,hB⟩,hS,hn⟩:=h
 obtain⟨a,c,rfl,ha⟩:=hS.rd.shape
 have hg:=Ext.Ma w
 have zO:l=[]\/∃g,a=some ⟨g,0,none⟩:=by
  rcases hS.shape with⟨e,h1⟩|⟨g,cap,e,h1⟩
  ·exact .inl (List.eq_nil_of_length_eq_zero h1)
  ·cases e;exact .inr ⟨g,rfl⟩
 have qj:a≠none->c≠0:=λe=>by
  by_cases rW:l=[]
  ·have:=h0 rW
   injection this with e1 _ _
   exact absurd e1 e
  ·have qU:l.length≠0:=by simpa using rW
   rcases hS.shape with⟨_,h1⟩|⟨g,cap,e2,h1⟩
   ·omega
   ·cases e2;omega
 refine It (e:=[(0,_)]) Tryz.func65 rfl Tryz.ntmps65 rfl rfl (qN rfl (LU rfl (run_seq (Me [10,11] (λw'=>Ext w w') (by kernel_rfl) rfl (qL [1,2,3,4,10,11] 0 rfl (λ_ h=>My rfl) hg (qL [2,3,4,10,11] 1 rfl (λ_ h=>MS rfl) hg (qL [3,4,10,11] 2 rfl (λ_ h=>Mo Wu rfl) hg (qL [4,10,11] 3 rfl (λ_ h=>LR N1 rfl rfl (h.LN hB) rfl) hg (qL [6,7,8,9,10,11] 5 rfl (λ_ h=>My rfl) hg (qL [7,8,9,10,11] 6 rfl (λ_ h=>MS rfl) hg (qL [8,9,10,11] 7 rfl (λ_ h=>Mo Wu rfl) hg (qL [9,10,11] 8 rfl (λ_ h=>LR N1 rfl rfl (h.LN hB) rfl) hg (qL [10,11] 9 rfl (λ_ h=>OZ N1 rfl) hg ?_)))))))))))))
 refine qL [10,11] 4 rfl (λ_ h=>zff rfl qj) hg (Pv [10] (qO 10 (VP (i:=10) rfl rfl rfl (zg0 zfs (by kernel_rfl) rfl rfl (hS.ext hg) (by omega) zO) ?_)))
 rintro _ w1 ⟨rfl,aK⟩
 refine⟨trivial,?_⟩
 refine LS 11 rfl (NK rfl) trivial (qE (LP Tryz.func65 rfl ?_))
 exact⟨_,rfl,rfl,hg.kp.trans aK⟩
end
end Go.Proofs.YtpldpcjdjcgicaaGreatDoor
namespace Go.Proofs.YtpldpcjdjcgicaaGreatDoor
open Go Go.RowKit
def srC (s st len n sum:Nat):List Value:=[ptr s 0,I (st:Int),I (len:Int),I (n:Int),U sum]
section
variable {w w':World}{Q:NZ}{txt:Int->Bytes}{K:Nat}{X S':Nat->Prop}{st len n sum rb:Nat}{T:Bytes}
theorem z2f (hP:Sp Q txt K X w)(hX:∀b,X b->b<w.heap.size)(hK:K<1000000000000)(h1:1<=len)(bJ:st+len<=Q.L.length)(hn:n<=len*512-12)(gx:sum<4294967296)(hf:∃z,txt ((st+(len-1):Nat):Int)=z++Tt n sum/\z.length=500):
  Mm Tryz.prog 49 [ptr Q.s 0,.agg #[I (st:Int),I (len:Int)]] w λv w'=>∃rb,v= .tuple #[ptr rb 0,I 0]/\LX w' rb (srC Q.s st len n sum) 179/\w.heap.size<=rb/\Sp Q txt K (λb=>X b\/b=rb) w'/\Kp (λb=>¬X b) w w':=by
 have dO:=hP.n
 obtain⟨z,hz,vt⟩:=hf
 have jo:=Zw n sum
 refine It (e:=[(0,_),(1,_)]) Tryz.func49 rfl Tryz.ntmps49 rfl rfl (qN rfl (LV rfl rfl (NN rfl (cs:=[I (st:Int),I (len:Int)]) rfl) ?_))
 rintro _ w1 ⟨bx,rfl,eR,ad,gl⟩
 refine M6 rfl (M6 rfl (qM rfl (LM rfl (qV (Mk (news:=[I (st:Int),I (len:Int)]) U97 rfl Ox rfl (gl.cells (n:=2) rfl) rfl) (qV (OJ (cs:=[_,_,_]) SN rfl za7 rfl rfl) (qV (OJ (cs:=[_,_,_,_,_]) ze7 rfl zd7 rfl rfl) (LV rfl rfl (NN rfl (cs:=[ptr Q.s 0,I (st:Int),I (len:Int),I 0,U 0]) rfl) ?_)))))))
 rintro _ w2 ⟨rb,rfl,B7,af,am⟩
 have aI:=ad.trans af
 have DU:=af.LN gl
 have z1:=ad.size
 have z2:=af.size
 have dI:Sp Q txt K (λb=>X b\/b=rb) w2:=hP.ext aI (λb e=>e.imp id λe=>by omega)
 refine LU rfl (run_seq (qN rfl (LM rfl (Mp rfl (M0 UB rfl (qV (Mk z82 rfl SN rfl (LX.cells (n:=3) am (news:=[_,_,_]) rfl) rfl) (Mb zej rfl (VN dI h1 bJ) ?_)))))))
 rintro _ w3 ⟨rfl,ah⟩
 have eX:=dI.ext' ah
 have aq:=ah.LN am
 have yd:=ah.LN DU
 have z3:=ah.size
 have l2:=am.lt
 have dQ:=eX.read (λb hb=>by
  rcases hb with e| e
  ·have:=hX b e;omega
  ·omega) hK (no:=((st+(len-1):Nat):Int)) (by omega) (by omega)
 rw[hz] at dQ
 refine M6 rfl (qM rfl (LM rfl (MY rfl rfl (LO (An rfl (py (qN rfl (LM rfl (M0 NR rfl (qV (LR U3 rfl rfl yd rfl) (M0 O5 rfl (qV (LR U3 rfl rfl yd rfl) (MK rfl rfl ?_)))))))))))))
 refine NP rfl rfl ?_
 rw[show(st:Int)+(len:Int)-1=((st+(len-1):Nat):Int) by omega]
 refine Mb z6r rfl (dQ) ?_
 rintro _ w4 ⟨rfl,jK,ax⟩
 have aM:=ax.LN aq (λe=>e (.inr rfl))
 refine LM rfl (MW rfl rfl (MW rfl rfl (M6 rfl (LU rfl (Mn.qb (e:=[(4,_),(5,_),(6,_),(8,_),(9,_)]) ?_)))))
 refine run_seq (qN rfl (LM rfl (MY rfl rfl (LO (An rfl (py (qN rfl (M4 rfl rfl (qV (Ra U9 rfl) ?_)))))))))
 rw[show((z++Tt n sum).length:Int)=512 by rw[List.length_append,jo,vt];rfl]
 refine NP rfl rfl ?_
 rw[show(512:Int)-12=((500:Nat):Int) by omega]
 refine qV (VU (m:=500) U9 rfl rfl (by rw[List.length_append,jo,vt];omega)) ?_
 rw[show(z++Tt n sum).drop 500=Tt n sum from List.drop_left' vt]
 refine M6 rfl (qM rfl (LM rfl (qV (YI (m:=8) U9 rfl rfl (by rw[jo];omega)) ?_)))
 rw[show(Tt n sum).take 8=Ql 8 n from List.take_left' (Mz _ _)]
 have rv:valB (Md (Ql 8 n))=n:=WC (by omega)
 have DV:valB (Md (Ql 4 sum))=sum:=WC (by omega)
 have jh:=Mz 8 n
 have eA:=Mz 4 sum
 refine Mb zcW rfl (YD (Ql 8 n) (by omega) _) ?_
 rintro _ w5 ⟨rfl,aT⟩
 rw[rv]
 have aF:=aT.LN aM
 have gh:=jK.ext' aT
 refine LU rfl (run_seq (qN rfl (M4 rfl rfl (Mp rfl (M0 UB rfl (qV (Mk z82 rfl SN rfl (LX.cells (n:=3) aF (news:=[_,_,_]) rfl) rfl) (Mb zen rfl (WM gh (by omega)) ?_)))))))
 rintro _ w6 ⟨rfl,aN⟩
 have aX:=aN.LN aF
 have pS:=gh.ext' aN
 refine qV ((by first|exact MH rfl U3 Ns (by omega)|exact Oc rfl U3 Ns)) ?_
 refine Nc rfl rfl (MC (LO (Mn.qb (e:=[(4,_),(5,_),(6,_),(10,_),(11,_),(54,_)]) ?_)))
 refine An rfl (py (qN rfl (M4 rfl rfl (LM rfl (qV (MB rfl Ns U3 (by omega)) (LM rfl (qV (VU (m:=8) U9 rfl rfl (by rw[jo];omega)) ?_)))))))
 rw[show(Tt n sum).drop 8=Ql 4 sum from List.drop_left' (Mz _ _)]
 refine Mb zcW rfl (YD (Ql 4 sum) (by omega) _) ?_
 rintro _ w7 ⟨rfl,bQ⟩
 rw[DV]
 have bN:=bQ.LN aX
 refine qV (Xt rfl Ns N5) (Mp rfl (M0 WD rfl (M1 rfl (NC MO rfl rfl rfl bN (by simp)) ?_)))
 rintro w8 ⟨ce,bj⟩
 replace ce:LX w8 rb [ptr Q.s 0,I (st:Int),I (len:Int),I (n:Int),U 0] 179:=ce
 refine Mp rfl (M0 z8T rfl ?_)
 rw[Nat.mod_eq_of_lt (show sum<2^32 by omega)]
 refine M1 rfl (NC Mc rfl rfl rfl ce (by simp)) ?_
 rintro w9 ⟨cB,aL⟩
 refine qM rfl (LM rfl (M6 rfl (LU rfl (LP Tryz.func49 rfl ?_))))
 have rg:=(((pS.ext' bQ).own bj (λb e=> .inr e)).own aL (λb e=> .inr e))
 refine⟨_,rfl,rb,rfl,cB,by omega,rg,?_⟩
 have DW:Kp (λb=>¬X b) w w4:=((aI.trans ah).kp (S:=λb=>¬X b)).trans (ax.LZ λb e e2=>e (.inl e2))
 refine(((DW.trans (aT.trans (aN.trans bQ)).kp).LJ bj λb e=> .inl (by omega)).LJ aL λb e=> .inl (by omega))
theorem z5a (hB:LX w rb (srC Q.s st len n sum) 179):Mm Tryz.prog 261 [ptr rb 0] w λv w'=>v=I (n:Int)/\w'=w:=by
 replace hB:LX w rb [ptr Q.s 0,I (st:Int),I (len:Int),I (n:Int),U sum] 179:=hB
 refine It (e:=[(0,_)]) Tryz.func261 rfl Tryz.ntmps261 rfl rfl (qN rfl (LU rfl (run_seq (qN rfl (LM rfl (qV (MU z9d rfl rfl) (LO (An rfl (py (qN rfl (LM rfl (Mp rfl (M0 WD rfl ?_)))))))))))))
 refine qV (LR U3 rfl rfl hB rfl) (LU rfl (LP Tryz.func261 rfl ?_))
 exact⟨_,rfl,rfl,rfl⟩
theorem z7T (hP:Sp Q txt K (λb=>X b\/b=rb) w)(hX:∀b,X b->b<w.heap.size)(tz:¬X rb)(hK:K<1000000000000)(bJ:st+len<=Q.L.length)(hL:Laid txt st T)(hB:LX w rb (srC Q.s st len T.length sum) 179)(hT:T.length<=len*512)(off n:Nat)(ho:off+n<=T.length):
  Mm Tryz.prog 262 [ptr rb 0,I (off:Int),I (n:Int)] w λv w'=>v= .tuple #[S ((T.drop off).take n),I 0]/\Sp Q txt K (λb=>X b\/b=rb) w'/\LX w' rb (srC Q.s st len T.length sum) 179/\Kp (λb=>¬X b) w w':=by
 have dO:=hP.n
 have lrb:=hB.lt
 replace hB:LX w rb [ptr Q.s 0,I (st:Int),I (len:Int),I (T.length:Int),U sum] 179:=hB
 refine It (e:=[(0,_),(1,_),(2,_)]) Tryz.func262 rfl Tryz.ntmps262 rfl rfl (qN rfl (M6 rfl (LU rfl (run_seq (LK (qN rfl (LM rfl (qV (MU z9d rfl rfl) (LU rfl (An rfl (qN rfl (LM rfl (Nr rfl rfl ?_)))))))))))))
 refine MC (M4 rfl rfl (Nr rfl rfl (MC (ME rfl rfl (M4 rfl rfl (LM rfl (Mp rfl (M0 WD rfl (qV (LR U3 rfl rfl hB rfl) (Nc rfl rfl (MC (ME rfl rfl (M4 rfl rfl ?_)))))))))))))
 refine LM rfl (Mp rfl (M0 WD rfl (qV (LR U3 rfl rfl hB rfl) (LM rfl (NP rfl rfl (Nc rfl rfl (MC (ME rfl rfl (LU rfl (Mn.qb (e:=[(0,_),(1,_),(2,_),(6,_),(7,_),(15,_)]) ?_))))))))))
 refine An rfl (py (LL (qN rfl (LM rfl (Mp rfl (M0 UB rfl (M0 Ri rfl (qV (LR T7 rfl rfl hB rfl) (Mb z0m rfl (hP.size) ?_)))))))))
 rintro _ w ⟨rfl,rfl⟩
 refine M6 rfl (qM rfl (LV rfl rfl (O9 (cs:=[_,_]) z9X rfl) ?_))
 rintro _ w1 ⟨bb,rfl,u7,ad,uo⟩
 have tA:=BdM.new uo
 have z1:=ad.size
 refine LO (run_seq (LK (Oe (α:=Nat×Value) ((0,Value.slice none 0 0)) (λy=>[(0,ptr rb 0),(1,I ((off+y.1:Nat):Int)),(2,I ((n-y.1:Nat):Int)),(8,I 512),(9,ptr bb 0)]) (λy w'=>y.1<=n/\BdM w' bb ((T.drop off).take y.1) y.2/\(y.1=0->y.2= .slice none 0 0)/\(∀g,y.2.ownBlock=some g->w.heap.size<=g)/\Sp Q txt K (λb=>(X b\/b=rb)\/b=bb\/y.2.ownBlock=some b) w'/\Kp (λb=>¬(X b\/b=rb)) w w') (λy=>n-y.1) ?hI ?hround)))
 case hI=>exact⟨Nat.zero_le _,tA,λ_=>rfl,λg hg=>(by cases hg),hP.ext ad (λb e=>e.imp id λe=>e.elim (λe=>by omega) (λe=>by cases e)),ad.kp⟩
 case hround=>
  rintro⟨m,v⟩ w2 ⟨hm,kk,Gj,eY,dI,ao⟩ ih;dsimp only at hm kk Gj eY dI ih⊢;have am:=ao.LN hB (λe=>e (.inr rfl));have hg:=Ext.Ma w2;have z2:=ao.size;have lbb:bb<w2.heap.size:=by obtain⟨⟨p,hp,hb⟩,-,-⟩:=kk;exact hb.lt
  have kZ:∀b,((X b\/b=rb)\/b=bb\/v.ownBlock=some b)->b<w2.heap.size:=λb hb=>by
   rcases hb with(e|e)|e| e
   ·have:=hX b e;omega
   ·omega
   ·omega
   ·exact kk.2.1.lt e
  try dsimp only
  refine run_seq (qN rfl (LM rfl (Nc rfl rfl (LO (LY rfl (λh0=>?_) (λh0=>?_))))))
  ·obtain⟨q,hq⟩:∃q,min (n-m) (512-(off+m)%512)=q:=⟨_,rfl⟩;have de:=dI.VF (x:=((st+(off+m) / 512:Nat):Int)) (by omega) (by omega);have jg:=hL.piece (off:=off+m) (n:=q) (by omega) (by omega);have dQ:=(dI.ext' hg).read (λb hb=>by have:=kZ b hb;have:=hg.size;omega) hK (no:=((st+(off+m) / 512:Nat):Int)) (by omega) (by omega);obtain⟨t,ht⟩:∃t,txt ((st+(off+m) / 512:Nat):Int)=t:=⟨_,rfl⟩;rw[ht] at de jg dQ;refine py (LK (run_seq (NF (λw'=>Kp (λb=>¬((X b\/b=rb)\/b=bb\/v.ownBlock=some b)) w2 w') rfl (M9 0 rfl rfl (hg.kp) (LS 1 rfl (MS rfl) (hg.kp) (LS 2 rfl (Mo UB rfl) (hg.kp) (LS 3 rfl (Mo Ri rfl) (hg.kp) (qT 4 rfl (λ_ hS=>LR T7 rfl rfl (hS.LN am (λe=>e (.inl (.inr rfl)))) rfl) (hg.kp) (M9 5 rfl rfl (hg.kp) (LS 6 rfl (MS rfl) (hg.kp) (LS 7 rfl (Mo UB rfl) (hg.kp) (LS 8 rfl (Mo Qv rfl) (hg.kp) (LS 9 rfl (Mo NR rfl) (hg.kp) ?_)))))))))))));refine qT 10 rfl (λ_ hS=>LR U3 rfl rfl (hS.LN am (λe=>e (.inl (.inr rfl)))) rfl) (hg.kp) (M9 11 rfl rfl (hg.kp) (M9 12 rfl rfl (hg.kp) (LS 13 rfl (Tg rfl rfl (by omega)) (hg.kp) (LS 14 rfl (R9 rfl rfl (by omega)) (hg.kp) ?_))));rw[show(st:Int)+((off+m:Nat):Int) / 512=((st+(off+m) / 512:Nat):Int) by omega];refine Pw 15 rfl z6r rfl (dQ) ?_;rintro _ w3 ⟨rfl,eX,ar⟩;refine⟨hg.kp.trans ar,?_⟩;have cL:=hg.kp.trans ar;have tB:=kk.kp cL (λe=>e (.inr (.inl rfl))) (λg hg e=>e (.inr (.inr hg)));refine M9 16 rfl rfl (hg.kp.trans ar) (LS 17 rfl (NO rfl rfl) (hg.kp.trans ar) (LS 18 rfl (NO rfl rfl) (hg.kp.trans ar) (LS 19 rfl (NK rfl) (hg.kp.trans ar) (LS 20 rfl (NK rfl) (hg.kp.trans ar) (qE (run_seq (qN rfl (LM rfl (MY rfl rfl (LO (An rfl (py (qN rfl ?_)))))))))))));refine M4 rfl rfl (LM rfl (qV (yre rfl rfl (by omega)) ?_));rw[show((off+m:Nat):Int)%512=(((off+m)%512:Nat):Int) by omega];refine qV (VU U9 rfl rfl (by omega)) (M6 rfl (qM rfl (M4 rfl rfl (LM rfl (qV (Ra U9 rfl) (qV (ymi rfl rfl) ?_))))));rw[show min ((n-m:Nat):Int) ((t.drop ((off+m)%512)).length:Int)=((q:Nat):Int) by rw[List.length_drop];omega];refine qV (YI (m:=q) U9 rfl rfl (by rw[List.length_drop];omega)) ?_;rw[jg];have Cc:((T.drop (off+m)).take q).length=q:=by rw[List.length_take,List.length_drop];omega
   have gu:((T.drop off).take m).length<=m:=by rw[List.length_take];omega
   refine M6 rfl (qM rfl (LM rfl (Mb zdu rfl (z1l tB ((T.drop (off+m)).take q) (by omega)) ?_)));rintro _ w4 ⟨v4,pT,ax,oH⟩;have z3:=cL.size;refine qM rfl (M4 rfl rfl (qV (Ra U9 rfl) ?_));rw[Cc];refine MK rfl rfl (LU rfl (LQ rfl (M4 rfl rfl (qV (Ra U9 rfl) ?_))));rw[Cc];refine NP rfl rfl (LU rfl (LL ?_));rw[show((off+m:Nat):Int)+(q:Int)=((off+(m+q):Nat):Int) by omega,show((n-m:Nat):Int)-(q:Int)=((n-(m+q):Nat):Int) by omega];refine(ih (m+q,v4) _ ⟨by dsimp only;omega,?_,λe=>by dsimp only at e;omega,λg hg=>(oH g hg).elim (eY g) (λe=>by omega),?_,?_⟩ (by dsimp only;omega)).qb
   ·dsimp only;rw[List.take_add,List.drop_drop];exact pT
   ·exact eX.step ax (λb e=> .inr e) (λb e=>by
     rcases e with e|e| e
     ·exact .inl (.inl e)
     ·exact .inl (.inr (.inl e))
     ·exact(oH b e).imp (λe=> .inr (.inr e)) id)
   ·refine(ao.trans (cL.LZ λb e e2=>e (.inl e2))).LJ ax λb e=> .inl ?_;rcases e with e| e
    ·omega
    ·exact eY b e
  ·have Ju:m=n:=by omega
   subst Ju;refine LW rfl (qN rfl (Mb zda rfl (YM kk (λe=>Gj (by have:=congrArg List.length e;rw[List.length_take,List.length_drop,List.length_nil] at this;omega)) (by rw[List.length_take,List.length_drop];omega)) ?_));rintro _ w3 ⟨rfl,ar⟩;refine M6 rfl (LU rfl (LP Tryz.func262 rfl ?_));have cw:Kp (λb=>¬(X b\/b=rb)) w w3:=ao.LJ ar (λb e=> .inl (eY b e));exact⟨_,rfl,rfl,dI.step ar (λb e=> .inr (.inr e)) (λb e=> .inl (.inl e)),cw.LN hB (λe=>e (.inr rfl)),cw.LZ λb e e2=>e (.inl e2)⟩
end
section
variable {t:TypeId}{u:Value}{p:MZ}{g:List (List Nat)}{E:List (Nat×Nat)}{R:Src t u (TL p g E)}{k x:Nat}{X Y S:Nat->Prop}{w w':World}
theorem z1F (k v:Nat)(w:World):Mm Tryz.prog 62 [ptr k 0,I (v:Int)] w λr w'=>∃bk bi,r= .func (.func 93) #[] #[ptr bk 0,ptr bi 0]/\LX w' bk [ptr k 0] 28/\LX w' bi [I (v:Int)] 3/\w.heap.size<=bk/\w.heap.size<=bi/\Ext w w':=by
 refine It (e:=[(0,_),(1,_)]) Tryz.func62 rfl Tryz.ntmps62 rfl rfl (qN rfl (LV rfl rfl (NN rfl (cs:=[ptr k 0]) rfl) ?_))
 rintro _ w1 ⟨bk,rfl,gd,ad,uh⟩
 refine LV rfl rfl (NN rfl (cs:=[I (v:Int)]) rfl) ?_
 rintro _ w2 ⟨bi,rfl,uv,af,DX⟩
 refine M6 rfl (qM rfl (qV (ZU (first:=[]) (caps:=[.tmp 2,.tmp 3]) rfl rfl) (LU rfl (LP Tryz.func62 rfl ?_))))
 have:=ad.size
 exact⟨_,rfl,bk,bi,rfl,af.LN uh,DX,by omega,by omega,ad.trans af⟩
theorem z3c {l bk bi v:Nat}(iV:g.length<50)(hv:v<g.length)(h:R7 R k x X w)(gd:LX w bk [ptr k 0] 28)(uv:LX w bi [I (v:Int)] 3)(Z:Nat->Prop)(hZ:∀j,Z j->X j)(J:(Nat->Prop)->Nat->World->Prop)(F:World->Prop)
  (h0:∀(Y:Nat->Prop) (w':World),(∀j,X j->Y j)->(∀j,Y j->X j\/w.heap.size<=j)->R7 R k x Y w'->Kp (λj=>¬X j) w w'->J Y 0 w')
  (hround:∀(Y:Nat->Prop) (i s:Nat) (w':World),(∀j,X j->Y j)->(∀j,Y j->X j\/w.heap.size<=j)->(Mg g v)[i]? =some s->J Y i w'->Z8 Tryz.prog l [Ms s,I 0] w' λr w''=>(r= .bool true/\J Y (i+1) w''/\Kp (λj=>¬Y j\/Z j) w' w'')\/(r= .bool false/\F w'')):
  Mm Tryz.prog 93 [.func (.yield l) #[] #[],ptr bk 0,ptr bi 0] w λr w'=>r= .tuple #[]/\((∃Y,(∀j,X j->Y j)/\(∀j,Y j->X j\/w.heap.size<=j)/\J Y (Mg g v).length w')\/F w'):=by
 have aP:=h.lt
 have fK:(Mg g v).length<=g.length:=by
  unfold Mg;rw[List.getElem?_eq_getElem hv];exact h.ok.gr.len (List.getElem_mem hv)
 refine It (e:=[(0,_),(1,_),(2,_)]) Tryz.func93 rfl Tryz.ntmps93 rfl rfl (qN rfl (qV ((by first|exact LR YS rfl rfl gd rfl|exact LR YS rfl rfl uv rfl)) ?_))
 refine qV ((by first|exact LR U3 rfl rfl gd rfl|exact LR U3 rfl rfl uv rfl)) ?_
 refine Mb zfH rfl (z1D iV hv h) ?_
 rintro _ w1 ⟨vv,rfl,jq,iB,h1,aK⟩
 have dQ:=jq.rd
 obtain⟨a,c,rfl,ha⟩:=dQ.shape
 refine LM rfl (qV (NO (v:= .slice a (Mg g v).length c) rfl rfl) (qV (NO (v:=I 0) rfl rfl) (M6 rfl (LU rfl (run_seq (qN rfl (LM rfl (MY rfl rfl (LO (An rfl (py (qN rfl (LM rfl ?_)))))))))))))
 refine NX Ml rfl (LM rfl (LO (LK ?_)))
 obtain⟨Y,hY⟩:∃Y:Nat->Prop,(λj=>X j\/(Value.slice a (Mg g v).length c).ownBlock=some j)=Y:=⟨_,rfl⟩
 rw[hY] at h1
 have bH:∀j,X j->Y j:=λj hj=>by rw[<-hY];exact .inl hj
 have uw:∀j,Y j->X j\/w.heap.size<=j:=λj hj=>by
  rw[<-hY] at hj;exact hj.imp id (iB j)
 have Gk:∀j,(Value.slice a (Mg g v).length c).ownBlock=some j->Y j/\¬Z j:=λj hj=>⟨by rw[<-hY];exact .inr hj,λe=>by have h2:=iB j hj;have h3:=aP j (hZ j e);omega⟩
 refine Oe (α:=Nat) (0) (λi=>[(0,.func (.yield l) #[] #[]),(19,.slice a (Mg g v).length c),(20,I ((Mg g v).length:Int)),(21,I (i:Int))]) (λi w'=>i<=(Mg g v).length/\J Y i w'/\Rd w' (.slice a (Mg g v).length c) 1 (Mg g v).length ((Mg g v).map Ms)) (λi=>(Mg g v).length-i) ?hI ?hround
 case hI=>exact⟨Nat.zero_le _,h0 Y w1 bH uw h1 aK,dQ⟩
 case hround=>
  rintro i w2 ⟨hi,hJ,ye⟩ ih
  try dsimp only
  refine qN rfl (Nr rfl rfl (LO (run_seq (LY rfl (λhq=>?_) (λhq=>?_)))))
  ·obtain⟨s,hs⟩:∃s,(Mg g v)[i]? =some s:=⟨_,List.getElem?_eq_getElem (by omega)⟩;rcases ye.2 with⟨⟨ca,cc⟩,iJ,un⟩|⟨b,off,cap,iJ,hc⟩
   ·omega
   cases iJ;have bh:w2.cell? ⟨b,off+i*1,none⟩=some (Ms s):=hc (i*1) _ (by rw[Nat.mul_one,List.getElem?_map,hs];rfl);refine py (run_seq (LK (qN rfl (qV (MN Ml Mc rfl rfl (by omega)) (qV (Mt N5 rfl rfl bh) (M6 rfl (qM rfl (M4 rfl rfl (z2D rfl rfl (yy rfl rfl) (hround Y i s w2 bH uw hs hJ) ?_)))))))));rintro r w3 gK;rcases gK with⟨rfl,Jv,ar⟩|⟨rfl,hF⟩
   ·refine qV ((by first|exact ML rfl|exact Oh rfl)) ?_;refine LO (An rfl (py (LL (LQ rfl (MK rfl rfl (LM rfl (LO ?_)))))));exact(ih (i+1) _ ⟨by omega,Jv,ye.kp ar (λj hj e=>e.elim (λe=>e (Gk j hj).1) (Gk j hj).2)⟩ (by omega)).qb
   ·refine qV ((by first|exact ML rfl|exact Oh rfl)) ?_;refine LO (M3 rfl (LP Tryz.func93 rfl ?_));exact⟨_,rfl,rfl,.inr hF⟩
  ·have cR:i=(Mg g v).length:=by omega
   subst cR;refine LW rfl (N9 Tryz.func93 rfl ?_);exact⟨_,rfl,rfl,.inl ⟨Y,bH,uw,hJ⟩⟩
end
structure StO (Q:NZ)(txt:Int->Bytes)(K st len:Nat)(T:Bytes):Prop where
 k:K<1000000000000
 fit:st+len<=Q.L.length
 laid:Laid txt st T
 len:T.length<=len*512
def z5L {Q:NZ}{txt:Int->Bytes}{K st len:Nat}{T:Bytes}(o:StO Q txt K st len T)(rb sum:Nat):Src 121 (ptr rb 0) T where
 inv X w:=Sp Q txt K (λb=>X b\/b=rb) w/\LX w rb (srC Q.s st len T.length sum) 179/\¬X rb
 fl:=261
 fr:=262
 cl:=zeb
 cr:=zbY
 ml:=by kernel_rfl
 mr:=by kernel_rfl
 ext:=λh hx hY=>⟨h.1.ext hx λb e=>e.elim (λe=>(hY b e).elim (λe=> .inl (.inl e)) .inr) (λe=> .inl (.inr e)),hx.LN h.2.1,λe=>(hY _ e).elim h.2.2 (λe=>by have:=h.2.1.lt;omega)⟩
 step:=λh hk hS hY=>⟨h.1.step hk (λb e=> .inl (hS b e)) λb e=>e.elim (λe=>(hY b e).elim (λe=> .inl (.inl e)) .inr) (λe=> .inl (.inr e)),hk.LN h.2.1 (λe=>h.2.2 (hS _ e)),λe=>(hY _ e).elim h.2.2 (λe=>by have:=h.2.1.lt;omega)⟩
 len:=λh=>(z5a (Q:=Q) h.2.1).mono λv w' ⟨hv,hw⟩=>⟨hv,by rw[hw];exact Ext.refl _⟩
 rd:=λoff n h hX zN=>(z7T h.1 hX h.2.2 o.k o.fit o.laid h.2.1 o.len off n zN).mono λv w' ⟨hv,h1,h2,h3⟩=>⟨hv,⟨h1,h2,h.2.2⟩,h3⟩
section
variable {t:TypeId}{u:Value}{p:MZ}{g:List (List Nat)}{E:List (Nat×Nat)}{k x:Nat}{X Y S:Nat->Prop}{w w':World}
theorem R7.re {R R':Src t u (TL p g E)}(h:R7 R k x X w)(hk:Kp S w w')(hS:∀j,S j->j≠k/\j≠x/\j≠1/\j≠2)(hI:R'.inv X w'):R7 R' k x X w':=
 ⟨h.ok,hk.LN h.LN (λe=>(hS _ e).1 rfl),hk.LN h.ix (λe=>(hS _ e).2.1 rfl),h.xk,h.xx,hI,λj hj=>by have:=h.lt j hj;have:=hk.size;omega,h.x1,h.x2,hk.LN h.gam (λe=>(hS _ e).2.2.1 rfl),hk.LN h.una (λe=>(hS _ e).2.2.2 rfl)⟩
theorem z2J {Q:NZ}{txt:Int->Bytes}{K st len rb sum:Nat}(hp:Pm p g E)(o:StO Q txt K st len (TL p g E))(hI:(z5L o rb sum).inv X w)(hX:∀j,X j->j<w.heap.size)(x1:X 1)(x2:X 2)(hG:LX w 1 (OU .gamma) 298)(hU:LX w 2 (OU .unary) 298):
  Mm Tryz.prog 50 [ptr rb 0] w λv w'=>∃k x,v= .tuple #[ptr k 0,I 0]/\w.heap.size<=k/\w.heap.size<=x/\R7 (z5L o rb sum) k x (λj=>X j\/j=x\/j=k) w'/\Kp (λj=>¬X j) w w':=by
 refine It (e:=[(0,_)]) Tryz.func50 rfl Tryz.ntmps50 rfl rfl (qN rfl (M6 rfl (LU rfl (run_seq (qN rfl (LM rfl (qV (MU z9d rfl rfl) (LO (An rfl (py (qN rfl (LM rfl (qV (zcV z9d (λ_ h=>by cases h) rfl) ?_)))))))))))))
 refine Mb zg4 rfl (z2T hp (z5L o rb sum) hI hX) ?_
 rintro _ w1 ⟨k,x,rfl,ai,am,hx,hk,bI,lP,aK⟩
 refine MW rfl rfl (MW rfl rfl (M6 rfl (LU rfl (LP Tryz.func50 rfl ?_))))
 have z1:=aK.size
 have l1:=ai.lt
 have l2:=am.lt
 refine⟨_,rfl,k,x,rfl,hk,hx,⟨hp,ai,am,.inr (.inr rfl),.inr (.inl rfl),lP,λj hj=>?_,.inl x1,.inl x2,aK.LN hG (λe=>e x1),aK.LN hU (λe=>e x2)⟩,aK⟩
 rcases hj with e|e| e
 ·have:=hX j e;omega
 ·omega
 ·omega
end
theorem z92 {n each:Nat}(he:1<=each):max (1:Int) (((n:Int)+(each:Int)-1) / (each:Int))=((Q8 n each:Nat):Int):=by
 unfold Q8
 rw[show(n:Int)+(each:Int)-1=((n+each-1:Nat):Int) by omega]
 have h:((n+each-1:Nat):Int) / (each:Int)=(((n+each-1) / each:Nat):Int):=rfl
 rw[h]
 generalize (n+each-1) / each=q
 omega
section
variable {w w':World}{Q:NZ}{txt:Int->Bytes}{K:Nat}{X:Nat->Prop}{vb width st each n:Nat}{xs:List Nat}
abbrev shV (n width each:Nat):Value:= .agg #[I (n:Int),I (width:Int),I (each:Int)]
theorem UP (n width each:Nat)(he:1<=each/\each<=512)(hn:n<=4194304)(w:World):Mm Tryz.prog 51 [shV n width each] w λv w'=>v=I (Q8 n each:Int)/\Ext w w':=by
 refine It (e:=[(0,_)]) Tryz.func51 rfl Tryz.ntmps51 rfl rfl (qN rfl (LV rfl rfl (NN rfl (cs:=[I (n:Int),I (width:Int),I (each:Int)]) rfl) ?_))
 rintro _ w1 ⟨b1,rfl,bR,ad,ai⟩
 refine M6 rfl (qM rfl (M0 Ur rfl (qV (LR U3 rfl rfl ai rfl) (M0 Sb rfl (qV (LR U3 rfl rfl ai rfl) (MK rfl rfl (NP rfl rfl (M0 Sb rfl (qV (LR U3 rfl rfl ai rfl) (qV (Tg rfl rfl (by omega)) (qV (yma rfl rfl) (LU rfl ?_))))))))))))
 rw[z92 he.1]
 refine LP Tryz.func51 rfl ?_
 exact⟨_,rfl,rfl,ad⟩
theorem WS (n width each x:Nat)(hw:width=1\/width=2\/width=4\/width=8)(hx:x<2^(8*width))(w:World):Mm Tryz.prog 54 [shV n width each,M7 x] w λv w'=>v= .bool true/\Ext w w':=by
 refine It (e:=[(0,_),(1,_)]) Tryz.func54 rfl Tryz.ntmps54 rfl rfl (qN rfl (LV rfl rfl (NN rfl (cs:=[I (n:Int),I (width:Int),I (each:Int)]) rfl) ?_))
 rintro _ w1 ⟨b1,rfl,bR,ad,ai⟩
 refine M6 rfl (qM rfl (M0 Qd rfl (qV (LR U3 rfl rfl ai rfl) ?_)))
 by_cases h8:width=8
 ·refine NS rfl rfl (O8 (LM rfl (qS (qS (qS (qS (qS (qS (NB rfl rfl (LU rfl (LP Tryz.func54 rfl ?_)))))))))));exact⟨_,rfl,rfl,ad⟩
 ·have Jw:8*width<=32:=by omega
  have hp:1*2^(8*width)%18446744073709551616=2^(8*width):=by
   have:=Nat.pow_le_pow_right (show 0<2 by decide) Jw;rw[Nat.one_mul,Nat.mod_eq_of_lt (by omega)]
  refine NS rfl rfl (MC (M4 rfl rfl (M0 Qd rfl (qV (LR U3 rfl rfl ai rfl) (qV (SV rfl rfl (by omega)) ?_)))));rw[show(8:Int)*(width:Int)=((8*width:Nat):Int) by omega];refine qV (NJ (8*width) (2^(8*width)) rfl rfl (by omega) rfl) ?_;rw[hp]
  generalize 2^(8*width)=P at hx⊢
  refine Nr rfl rfl (O8 (ME rfl rfl (LU rfl (LP Tryz.func54 rfl ?_))));exact⟨_,rfl,rfl,ad⟩
theorem TS (n width each x:Nat)(hw:width<=8)(hx:x<18446744073709551616)(w:World):Mm Tryz.prog 56 [shV n width each,M7 x] w λv w'=>v=S (Ql width x)/\Ext w w':=by
 have f7:maxLen=9223372036854775807:=rfl
 refine It (e:=[(0,_),(1,_)]) Tryz.func56 rfl Tryz.ntmps56 rfl rfl (qN rfl (LV rfl rfl (NN rfl (cs:=[I (n:Int),I (width:Int),I (each:Int)]) rfl) ?_))
 rintro _ w0 ⟨b0,rfl,qK,il,jj⟩
 refine M6 rfl (qM rfl (M0 Qd rfl (qV (LR U3 rfl rfl jj rfl) (LV rfl rfl (pmk (c:=width) (n:=width) N1 TQ rfl rfl rfl (by omega) (by omega) (by omega)) ?_))))
 rintro _ w1 ⟨b1,rfl,⟨bR,ad,ai⟩,-⟩
 refine LU rfl (run_seq (qN rfl (LM rfl (NX N1 rfl (LM rfl (LO (LK ?_)))))))
 rw[<-Yn x width] at ai
 have l0:=jj.lt
 refine Oe (α:=Nat) (0) (λk=>[(1,M7 x),(2,ptr b0 0),(5,.slice (some ⟨b1,0,none⟩) width width),(11,I (width:Int)),(12,I (k:Int))]) (λk w'=>k<=width/\LX w' b1 (Xd x width k) 5/\LX w' b0 [I (n:Int),I (width:Int),I (each:Int)] 135/\Ext w0 w') (λk=>width-k) ?hI ?hround
 case hI=>exact⟨by omega,ai,ad.LN jj,ad⟩
 case hround=>
  rintro k w2 ⟨hk,am,yf,af⟩ ih
  try dsimp only
  refine qN rfl (Nr rfl rfl (LO (run_seq (LY rfl (λaP=>?_) (λaP=>?_)))))
  ·have DL:k<width:=by omega
   refine py (run_seq (LK (qN rfl (LM rfl (LU rfl (LQ rfl (M4 rfl rfl (LM rfl (M0 Qd rfl (qV (LR U3 rfl rfl yf rfl) (NP rfl rfl (LM rfl (NP rfl rfl ?_)))))))))))));refine qV (SV rfl rfl (by omega)) ?_;rw[show(8:Int)*(((width:Int)-1)-(k:Int))=((8*(width-1-k):Nat):Int) from by omega];refine qV (Qm (8*(width-1-k)) (2^(8*(width-1-k))) rfl rfl (by simp only[IntKind.bits];omega) rfl) ?_;refine qV (z0G rfl Ns U5) (qV (MN N1 TQ rfl rfl (by omega)) (M1 rfl (NC TQ rfl rfl rfl am (by simp;omega)) ?_));rintro w3 ⟨aq,ar⟩;rw[z1z x width k DL] at aq;refine LO (LL (LQ rfl (MK rfl rfl (LM rfl (LO ?_)))));exact(ih (k+1) w3 ⟨by omega,aq,ar.LN yf (by omega),af.LJ ar (λi hi=>by rw[hi,bR];exact Nat.le_refl _)⟩ (by omega)).qb
  ·have:k=width:=by omega
   subst this;rw[z0n] at am;refine LW rfl (qN rfl (LM rfl (qV (z2l (l:=Ql k x) N1 U5 U9 rfl am (by rw[List.drop_zero];exact List.take_of_length_le (by rw[List.length_map,Mz];omega)) (by simp[Ql])) ?_)));refine LU rfl (LP Tryz.func56 rfl ?_);exact⟨_,rfl,rfl,il.trans af⟩
theorem Pu (h:St Q txt vb width st xs w):Mm Tryz.prog 53 [ptr vb 0] w λv w'=>v=I 0/\w'=w:=by
 have hB:=h.cells
 refine It (e:=[(0,_)]) Tryz.func53 rfl Tryz.ntmps53 rfl rfl (qN rfl (LU rfl (run_seq (LK (qN rfl (LM rfl (qV (MU U80 rfl rfl) (LU rfl (An rfl (qN rfl (LM rfl (Mp rfl (M0 z3p rfl ?_)))))))))))))
 refine qV (LR U4 rfl rfl hB rfl) (LU rfl (An rfl (py (LL (qN rfl (LU rfl (LP Tryz.func53 rfl ?_)))))))
 exact⟨_,rfl,rfl,rfl⟩
theorem z0B (h:St Q txt vb width st xs w){i:Nat}(hi:i<xs.length)(hn:Q.L.length<=4096):Mm Tryz.prog 59 [ptr vb 0,I (i:Int)] w λv w'=>v= .tuple #[I ((st+i / (512 / width):Nat):Int),I ((i%(512 / width)*width:Nat):Int)]/\Ext w w':=by
 have hB:=h.cells
 have hg:=Ext.Ma w
 obtain⟨e1,e2,e3,e4,e5⟩:=h.e
 obtain⟨a1,a2,a3⟩:=h.at_ hi
 have ju:=h.n
 have hd:((i:Nat):Int) / ((512 / width:Nat):Int)=((i / (512 / width):Nat):Int):=rfl
 have hm:((i:Nat):Int)%((512 / width:Nat):Int)=((i%(512 / width):Nat):Int):=rfl
 have zR:((i%(512 / width):Nat):Int)*(width:Int)=((i%(512 / width)*width:Nat):Int):=by rw[Int.natCast_mul]
 have ot:(st:Int)+((i / (512 / width):Nat):Int)=((st+i / (512 / width):Nat):Int):=by rw[Int.natCast_add]
 generalize i / (512 / width)=q at*
 generalize i%(512 / width)=r at*
 generalize 512 / width=each at*
 refine It (e:=[(0,_),(1,_)]) Tryz.func59 rfl Tryz.ntmps59 rfl rfl (qN rfl (M6 rfl (LU rfl (run_seq (NF (λw'=>Ext w w') rfl (M9 0 rfl rfl (hg) (LS 1 rfl (MS rfl) hg (LS 2 rfl (Mo UY rfl) hg (LS 3 rfl (Mo NR rfl) hg (qT 4 rfl (λ_ h=>LR U3 rfl rfl (h.LN hB) rfl) hg (M9 5 rfl rfl (hg) (M9 6 rfl rfl (hg) (LS 7 rfl (MS rfl) hg ?_)))))))))))))
 refine LS 8 rfl (Mo NA rfl) hg (LS 9 rfl (Mo Sb rfl) hg (qT 10 rfl (λ_ h=>LR U3 rfl rfl (h.LN hB) rfl) hg (M9 13 rfl rfl (hg) (M9 14 rfl rfl (hg) (LS 15 rfl (MS rfl) hg (LS 16 rfl (Mo NA rfl) hg (LS 17 rfl (Mo Sb rfl) hg (qT 18 rfl (λ_ h=>LR U3 rfl rfl (h.LN hB) rfl) hg (M9 20 rfl rfl (hg) (LS 21 rfl (MS rfl) hg (LS 22 rfl (Mo NA rfl) hg (LS 23 rfl (Mo Qd rfl) hg (qT 24 rfl (λ_ h=>LR U3 rfl rfl (h.LN hB) rfl) hg ?_)))))))))))))
 refine LS 11 rfl (Tg rfl rfl (by omega)) hg ?_
 rw[hd]
 refine LS 12 rfl (R9 rfl rfl (by omega)) hg (LS 26 rfl (NK rfl) hg ?_)
 rw[ot]
 refine LS 19 rfl (yre rfl rfl (by omega)) hg ?_
 rw[hm]
 refine LS 25 rfl (SV rfl rfl (by rw[zR];omega)) hg ?_
 rw[zR]
 refine LS 27 rfl (NK rfl) hg (qE (Mn.qb (e:=[(4,_),(5,_)]) ?_))
 refine LP Tryz.func59 rfl ?_
 exact⟨_,rfl,rfl,hg⟩
end
section
variable {w w':World}{Q:NZ}{txt:Int->Bytes}{K:Nat}{X:Nat->Prop}{vb width st each n:Nat}{xs:List Nat}
theorem St.ze3 (h:St Q txt vb width st xs w){i x:Nat}(hi:xs[i]? =some x):x<2^(8*width)/\x<18446744073709551616:=by
 have h1:=(h.t i x hi).2
 have:=Nat.pow_le_pow_right (show 0<2 by decide) (show 8*width<=64 by have:=h.e;omega)
 exact⟨h1,by omega⟩
theorem Vq (hP:Sp Q txt K X w)(hX:∀b,X b->b<w.heap.size)(hK:K<1000000000000)(hv:St Q txt vb width st xs w)(dc:X vb){i x:Nat}(hi:xs[i]? =some x):
  Mm Tryz.prog 34 [ptr vb 0,I (i:Int)] w λv w'=>v= .tuple #[M7 x,I 0]/\Sp Q txt K X w'/\Kp (λb=>¬X b) w w':=by
 have dO:=hP.n
 have aY:i<xs.length:=by
  rcases Nat.lt_or_ge i xs.length with h| h
  ·exact h
  ·rw[List.getElem?_eq_none h] at hi;cases hi
 have zV:=z0B hv aY dO
 obtain⟨a1,a2,a3⟩:=hv.at_ aY
 have tC:=(hv.t i x hi).1
 have lY:=(hv.ze3 hi).1
 have de:=hP.VF (x:=((st+i / (512 / width):Nat):Int)) (Int.natCast_nonneg _) (Int.ofNat_lt.2 a1)
 have ju:=hv.n
 have Ln:=hv.e.2.2.2.2
 have nL:∀w1,Ext w w1->Mm Tryz.prog 60 [ptr Q.s 0,I ((st+i / (512 / width):Nat):Int)] w1 λv w'=>v= .tuple #[S (txt ((st+i / (512 / width):Nat):Int)),I 0]/\Sp Q txt K X w'/\Kp (λb=>¬X b) w1 w':=λw1 ad=>(hP.ext' ad).read (λb hb=>by have:=hX b hb;have:=ad.size;omega) hK (Int.natCast_nonneg _) (Int.ofNat_lt.2 a1)
 generalize i / (512 / width)=q at*
 generalize i%(512 / width)=r at*
 generalize ho:r*width=o at*
 obtain⟨t,ht⟩:∃t,txt ((st+q:Nat):Int)=t:=⟨_,rfl⟩
 rw[ht] at tC de nL
 have hB:=hv.cells
 refine It (e:=[(0,_),(1,_)]) Tryz.func34 rfl Tryz.ntmps34 rfl rfl (qN rfl (M6 rfl (LU rfl (run_seq (qN rfl (LM rfl (Mb z5y rfl (Pu hv) ?_)))))))
 rintro _ w ⟨rfl,rfl⟩
 refine M6 rfl (qM rfl (LM rfl (MY rfl rfl (LO (An rfl (py (run_seq (qN rfl (LM rfl (Nr rfl rfl (MC (M4 rfl rfl (LM rfl ?_)))))))))))))
 refine Mp rfl (M0 NA rfl (M0 Ur rfl (qV (LR U3 rfl rfl hB rfl) (PQ rfl rfl (MC (ME rfl rfl (LO (An rfl (py (qN rfl (M4 rfl rfl (Mb zcJ rfl (zV) ?_))))))))))))
 rintro _ w1 ⟨rfl,ad⟩
 have ai:=ad.LN hB
 refine LM rfl (MW rfl rfl (MW rfl rfl (M6 rfl (LU rfl (Mn.qb (e:=[(0,_),(4,_),(5,_),(7,_),(8,_)]) ?_)))))
 refine qN rfl (LM rfl (Mp rfl (M0 S4 rfl (qV (LR T7 rfl rfl ai rfl) (LM rfl (Mb z6r rfl (nL w1 ad) ?_))))))
 rintro _ w2 ⟨rfl,dI,ao⟩
 have am:=ao.LN ai (λe=>e dc)
 refine LM rfl (MW rfl rfl (MW rfl rfl (M6 rfl (LU rfl (run_seq (qN rfl (LM rfl (MY rfl rfl (LO (An rfl (py (qN rfl (LU rfl ?_)))))))))))))
 refine run_seq (qN rfl (M4 rfl rfl (M4 rfl rfl (Mp rfl (M0 NA rfl (M0 Qd rfl (qV (LR U3 rfl rfl am rfl) (MK rfl rfl ?_))))))))
 rw[show(o:Int)+(width:Int)=((o+width:Nat):Int) by omega]
 refine qV (zea (m:=o) (n:=o+width) U9 rfl rfl rfl (by omega)) ?_
 rw[show o+width-o=width by omega,tC]
 have ff:=Mz width x
 obtain⟨s,hs⟩:∃s,Ql width x=s:=⟨_,rfl⟩
 have iT:valB (Md s)=x:=by rw[<-hs];exact WC lY
 rw[hs] at ff⊢
 refine LV rfl rfl (z7Z U9 N1 U5 rfl) ?_
 rintro _ w3 ⟨b7,c7,rest,rfl,⟨kX,ah,aq⟩,C3⟩
 refine NX N1 rfl (LM rfl (LO (Mn.qb (e:=[(4,_),(5,_),(11,_),(58,_),(59,_),(60,_)]) ?_)))
 refine LK (Oe (α:=Nat) (0) (λi=>[(11,M7 (valB (Md (s.take i)))),(58,.slice (some ⟨b7,0,none⟩) s.length c7),(59,I (s.length:Int)),(60,I (i:Int))]) (λi w'=>w'=w3/\i<=s.length) (λi=>s.length-i) ?hI ?hround)
 case hI=>exact⟨rfl,Nat.zero_le _⟩
 case hround=>
  rintro i w4 ⟨rfl,hi⟩ ih
  try dsimp only
  refine qN rfl (Nr rfl rfl (LO (run_seq (LY rfl (λh0=>?_) (λh0=>?_)))))
  ·obtain⟨c,hc⟩:∃c,s[i]? =some c:=⟨_,List.getElem?_eq_getElem (by omega)⟩;have dU:=c.toNat_lt;have ot:=WN hc
   have aP:valB (Md (s.take i))<72057594037927936:=by
    have h1:=Nu (Md (s.take i));rw[bitsT_length,List.length_take] at h1;have h2:2^(8*min i s.length)<=2^56:=Nat.pow_le_pow_right (by decide) (by omega);omega
   have bh:w4.cell? ⟨b7,0+i*1,none⟩=some (Px c):=by
    rw[aq.cell,Nat.zero_add,Nat.mul_one,List.getElem?_append_left (by rw[List.length_map];omega),List.getElem?_map,hc];rfl
   refine py (run_seq (LK (qN rfl (qV (MN N1 TQ rfl rfl (by omega)) (qV (Mt U5 rfl rfl bh) ?_)))))
   generalize valB (Md (s.take i))=q at ot aP
   refine LU rfl (LQ rfl (LM rfl (qV (NJ 8 256 rfl rfl (by decide) rfl) (LM rfl (qV ((by first|exact Yi rfl U5 Ns (by decide)|exact MH rfl U5 Ns (by omega))) ?_)))));refine qV (Xp rfl rfl (by omega) (by omega)) ?_
   have nX:(q*256%18446744073709551616 |||c.toNat)=valB (Md (s.take (i+1))):=by
    rw[ot,Nat.mod_eq_of_lt (by omega),Nat.mul_comm q];exact(Nat.two_pow_add_eq_or_of_lt (i:=8) dU q).symm
   rw[nX];refine LU rfl (LL (LQ rfl (MK rfl rfl (LM rfl (LO ?_)))));exact(ih (i+1) _ ⟨rfl,by omega⟩ (by omega)).qb
  ·have cR:i=s.length:=by omega
   subst cR;rw[List.take_length,iT];refine LW rfl (qN rfl (LM rfl (M6 rfl (LU rfl (LP Tryz.func34 rfl ?_)))));exact⟨_,rfl,rfl,dI.ext' ah,(ad.kp.trans ao).trans ah.kp⟩
theorem YL (hP:Sp Q txt K X w)(hX:∀b,X b->b<w.heap.size)(hK:K<1000000000000)(hv:St Q txt vb width st xs w)(dc:X vb){i x:Nat}(hi:i<xs.length)(hx:x<2^(8*width)):
  Mm Tryz.prog 30 [ptr vb 0,I (i:Int),M7 x] w λv w'=>v=I 0/\VcW Q txt (K+1) X vb width st (xs.set i x) w w':=by
 have dO:=hP.n
 have zV:∀w1,Ext w w1->Mm Tryz.prog 59 [ptr vb 0,I (i:Int)] w1 λv w'=>v= .tuple #[I ((st+i / (512 / width):Nat):Int),I ((i%(512 / width)*width:Nat):Int)]/\Ext w1 w':=λw1 ad=>z0B (hv.ext ad) hi dO
 obtain⟨a1,a2,a3⟩:=hv.at_ hi
 obtain⟨e1,e2,e3,e4,e5⟩:=hv.e
 have lY:x<18446744073709551616:=by
  have:=Nat.pow_le_pow_right (show 0<2 by decide) (show 8*width<=64 by omega);omega
 have de:=hP.VF (x:=((st+i / (512 / width):Nat):Int)) (Int.natCast_nonneg _) (Int.ofNat_lt.2 a1)
 have ju:=hv.n
 obtain⟨t,ht⟩:∃t,txt ((st+i / (512 / width):Nat):Int)=t:=⟨_,rfl⟩
 have gn:=hv.t.set (by omega) hx hi ht (by rw[ht] at de;omega)
 have nL:∀w1,Ext w w1->Mm Tryz.prog 60 [ptr Q.s 0,I ((st+i / (512 / width):Nat):Int)] w1 λv w'=>v= .tuple #[S (txt ((st+i / (512 / width):Nat):Int)),I 0]/\Sp Q txt K X w'/\Kp (λb=>¬X b) w1 w':=λw1 ad=>(hP.ext' ad).read (λb hb=>by have:=hX b hb;have:=ad.size;omega) hK (Int.natCast_nonneg _) (Int.ofNat_lt.2 a1)
 have ge:(xs.set i x).length=xs.length:=by simp
 have hB:=hv.cells
 have ov:=hv.wd
 have bJ:=hv.fit
 rw[ht] at de nL
 have tD:∀w',LX w' vb [I (xs.length:Int),I (width:Int),I ((512 / width:Nat):Int),I (st:Int),I (Q8 xs.length (512 / width):Int),ptr Q.s 0,.bool false] 137->St Q (Vf txt ((st+i / (512 / width):Nat):Int) (some (t.take (i%(512 / width)*width)++Ql width x++t.drop (i%(512 / width)*width+width)))) vb width st (xs.set i x) w':=λw' hb=>⟨by rw[ge];exact hb,ov,gn,by rw[ge];exact ju,by rw[ge];exact bJ⟩
 clear gn
 have mm:st+i / (512 / width)<Q.L.length:=a1
 generalize i / (512 / width)=q at*
 generalize i%(512 / width)=r at*
 generalize ho:r*width=o at*
 have ff:=Mz width x
 have ox:(t.take o++Ql width x++t.drop (o+width)).length=512:=by rw[List.length_append,List.length_append,List.length_take,List.length_drop,ff];omega
 refine It (e:=[(0,_),(1,_),(2,_)]) Tryz.func30 rfl Tryz.ntmps30 rfl rfl (qN rfl (LU rfl (run_seq (qN rfl (LM rfl (Mb z5y rfl (Pu hv) ?_))))))
 rintro _ w ⟨rfl,rfl⟩
 refine M6 rfl (qM rfl (LM rfl (MY rfl rfl (LO (An rfl (py (run_seq (qN rfl (LM rfl (Nr rfl rfl (MC (M4 rfl rfl (LM rfl ?_)))))))))))))
 refine Mp rfl (M0 NA rfl (M0 Ur rfl (qV (LR U3 rfl rfl hB rfl) (PQ rfl rfl (MC (ME rfl rfl (M4 rfl rfl (Mp rfl (M0 NA rfl (qV (Mk z5E rfl Uk rfl (LX.cells (n:=3) hB (news:=[_,_,_]) rfl) rfl) (LM rfl (Mb zey rfl (WS xs.length width (512 / width) x ov hx w) ?_))))))))))))
 rintro _ w1 ⟨rfl,ad⟩
 have ai:=ad.LN hB
 refine qV ((by first|exact ML rfl|exact Oh rfl)) ?_
 refine ME rfl rfl (LO (Mn.qb (e:=[(0,_),(1,_),(2,_),(6,_),(36,_)]) ?_))
 refine An rfl (py (qN rfl (M4 rfl rfl (Mb zcJ rfl (zV w1 ad) ?_))))
 rintro _ w2 ⟨rfl,af⟩
 have am:=af.LN ai
 refine LM rfl (MW rfl rfl (MW rfl rfl (M6 rfl (M6 rfl (qM rfl (LM rfl (Mp rfl (M0 S4 rfl (qV (LR T7 rfl rfl am rfl) (LM rfl (Mb z6r rfl (nL w2 (ad.trans af)) ?_)))))))))))
 rintro _ w3 ⟨rfl,eX,ar⟩
 have aq:=ar.LN am (λe=>e dc)
 have ag:=Ext.Ma w3
 have cw:Kp (λb=>¬X b) w w3:=(ad.trans af).kp.trans ar
 have aP:(t.take o).length=o:=by rw[List.length_take];omega
 have zX:(t.drop (o+width)).length=512-(o+width):=by rw[List.length_drop];omega
 refine LM rfl (MW rfl rfl (MW rfl rfl (M6 rfl (LU rfl (run_seq (qN rfl (LM rfl (MY rfl rfl (LO (Mn.qb (e:=[(0,_),(2,_),(6,_),(8,_),(9,_),(10,_),(11,_),(53,_)]) ?_))))))))))
 refine An rfl (py (run_seq (NF (λw'=>Kp (λb=>¬X b) w3 w') rfl (M9 0 rfl rfl (ag.kp) (LS 1 rfl (MS rfl) (ag.kp) (LS 2 rfl (Mo S4 rfl) (ag.kp) (qT 3 rfl (λ_ h=>LR T7 rfl rfl (h.LN aq (λe=>e dc)) rfl) (ag.kp) (M9 4 rfl rfl (ag.kp) (M9 5 rfl rfl (ag.kp) (M9 6 rfl rfl (ag.kp) (LS 7 rfl (YI U9 rfl rfl (by omega)) (ag.kp) (M9 8 rfl rfl (ag.kp) (LS 9 rfl (MS rfl) (ag.kp) ?_)))))))))))))
 refine LS 10 rfl (Mo NA rfl) (ag.kp) (qT 11 rfl (λ_ hS=>Mk z5E rfl Uk rfl (LX.cells (n:=3) (hS.LN aq (λe=>e dc)) (news:=[_,_,_]) rfl) rfl) (ag.kp) (M9 12 rfl rfl (ag.kp) (M9 15 rfl rfl (ag.kp) (M9 16 rfl rfl (ag.kp) (M9 17 rfl rfl (ag.kp) (LS 18 rfl (MS rfl) (ag.kp) (LS 19 rfl (Mo NA rfl) (ag.kp) (LS 20 rfl (Mo Qd rfl) (ag.kp) (qT 21 rfl (λ_ h=>LR U3 rfl rfl (h.LN aq (λe=>e dc)) rfl) (ag.kp) (LS 22 rfl (R9 rfl rfl (by omega)) (ag.kp) ?_))))))))))
 rw[show(o:Int)+(width:Int)=((o+width:Nat):Int) by omega]
 refine LS 23 rfl (VU U9 rfl rfl (by omega)) (ag.kp) (Pw 13 rfl zaM rfl (TS _ _ _ x e5 lY _) ?_)
 rintro _ w4 ⟨rfl,aC⟩
 refine⟨ag.kp.trans aC.kp,?_⟩
 have db:=ag.trans aC
 refine LS 14 rfl (SQ rfl rfl (by first|omega|(simp;done)|(simp;omega))) (ag.kp.trans aC.kp) ?_
 refine LS 24 rfl (SQ rfl rfl (by rw[List.length_append,aP,ff,zX];omega)) (ag.kp.trans aC.kp) ?_
 refine Pw 25 rfl zb4 rfl ((eX.ext' db).write (λb hb=>by have:=hX b hb;have:=cw.size;have:=db.size;omega) hK (no:=((st+q:Nat):Int)) (by omega) (by omega) _ ox) ?_
 rintro _ w5 ⟨rfl,gh,aj⟩
 refine⟨db.kp.trans aj,?_⟩
 have j9:Kp (λb=>¬X b) w3 w5:=db.kp.trans aj
 refine LS 26 rfl (NK rfl) (db.kp.trans aj) (qE (Mn.qb (e:=[(6,_)]) ?_))
 refine LP Tryz.func30 rfl ?_
 exact⟨_,rfl,rfl,_,gh,tD w5 (j9.LN aq (λe=>e dc)),λy hy=>NU _ _ (by rw[ge] at hy;omega),cw.trans j9⟩
end
section
variable {w w':World}{Q:NZ}{txt:Int->Bytes}{K:Nat}{X:Nat->Prop}{vb width st each n:Nat}{xs:List Nat}
theorem W1 (hP:Sp Q txt K X w)(hX:∀b,X b->b<w.heap.size)(hK:K<=900000000000)(hv:St Q txt vb width st xs w)(dc:X vb){f:Nat}(oE:CF Tryz.prog f)(caps:List Value)(LN:Nat->Bytes)(aB:∀b,(LN b).length<=512)
  (hf:∀(b:Nat) (w1:World),b<Q8 xs.length (512 / width)->Kp (λb=>¬X b) w w1->Mm Tryz.prog f ([I (b:Int)]++caps) w1 λv w2=>v=S (LN b)/\Ext w1 w2):
  Mm Tryz.prog 57 [ptr vb 0,.func (.func f) #[] caps.toArray] w λv w'=>v=I 0/\∃txt',Sp Q txt' (K+Q8 xs.length (512 / width)) X w'/\Kp (λb=>¬X b) w w'/\(∀b,b<Q8 xs.length (512 / width)->txt' ((st+b:Nat):Int)=LN b++zeros (512-(LN b).length))/\(∀y:Int,y<(st:Int)\/(st:Int)+(Q8 xs.length (512 / width):Int)<=y->txt' y=txt y):=by
 have f7:maxLen=9223372036854775807:=rfl
 have dO:=hP.n
 have hB:=hv.cells
 have bJ:=hv.fit
 have ju:=hv.n
 obtain⟨e1,e2,e3,e4,e5⟩:=hv.e
 have wk:=UP xs.length width (512 / width) ⟨by omega,e2⟩ ju w
 obtain⟨N,hN⟩:∃N,Q8 xs.length (512 / width)=N:=⟨_,rfl⟩
 rw[hN] at hB bJ wk hf⊢
 refine It (e:=[(0,_),(1,_)]) Tryz.func57 rfl Tryz.ntmps57 rfl rfl (qN rfl (LU rfl (run_seq (qN rfl (LM rfl (Mp rfl (M0 NA rfl (qV (Mk z5E rfl Uk rfl (LX.cells (n:=3) hB (news:=[_,_,_]) rfl) rfl) (Mb zd5 rfl (wk) ?_)))))))))
 rintro _ w1 ⟨rfl,ad⟩
 refine LM rfl (LO (LK (Oe (α:=Nat) (0) (λk=>[(0,ptr vb 0),(1,.func (.func f) #[] caps.toArray),(12,I (N:Int)),(13,I (k:Int))]) (λk w'=>k<=N/\Kp (λb=>¬X b) w w'/\∃txt',Sp Q txt' (K+k) X w'/\(∀b,b<k->txt' ((st+b:Nat):Int)=LN b++zeros (512-(LN b).length))/\(∀y:Int,y<(st:Int)\/(st:Int)+(k:Int)<=y->txt' y=txt y)) (λk=>N-k) ?hI ?hround)))
 case hI=>exact⟨Nat.zero_le _,ad.kp,txt,hP.ext' ad,λb hb=>by omega,λy _=>rfl⟩
 case hround=>
  rintro k w2 ⟨hk,ao,txt2,dI,Gl,oo⟩ ih;have am:=ao.LN hB (λe=>e dc)
  try dsimp only
  refine qN rfl (Nr rfl rfl (LO (run_seq (LY rfl (λh0=>?_) (λh0=>?_)))))
  ·have DY:k<N:=by omega
   refine py (run_seq (LK (qN rfl (LM rfl (M6 rfl (qM rfl (M4 rfl rfl (Nj rfl rfl (OC oE rfl rfl) (hf k w2 DY ao) ?_))))))));rintro _ w3 ⟨rfl,ah⟩;have aq:=ah.LN am;have eX:=dI.ext' ah;have ag:=Ext.Ma w3;have hl:=aB k;have cw:=ao.trans ah.kp;obtain⟨t,ht⟩:∃t,LN k=t:=⟨_,rfl⟩;rw[ht] at hl⊢;have hz:(zeros (512-t.length)).length=512-t.length:=by simp[zeros]
   have cz:=eX.size;have xO:∀w4,Ext w3 w4->Mm Tryz.prog 44 [ptr Q.s 0] w4 λv w'=>v=I 512/\w'=w4:=λw4 hx=>(eX.ext' hx).size;refine LU rfl (run_seq (NF (λw'=>Kp (λb=>¬X b) w3 w') rfl (M9 0 rfl rfl (ag.kp) (LS 1 rfl (MS rfl) (ag.kp) (LS 2 rfl (Mo S4 rfl) (ag.kp) (qT 3 rfl (λ_ h=>LR T7 rfl rfl (h.LN aq (λe=>e dc)) rfl) (ag.kp) (M9 4 rfl rfl (ag.kp) (LS 5 rfl (MS rfl) (ag.kp) (LS 6 rfl (Mo UY rfl) (ag.kp) (LS 7 rfl (Mo NR rfl) (ag.kp) (qT 8 rfl (λ_ h=>LR U3 rfl rfl (h.LN aq (λe=>e dc)) rfl) (ag.kp) (M9 9 rfl rfl (ag.kp) (LS 10 rfl (R9 rfl rfl (by omega)) (ag.kp) ?_)))))))))))));refine M9 11 rfl rfl (ag.kp) (M9 12 rfl rfl (ag.kp) (LS 13 rfl (MS rfl) (ag.kp) (LS 14 rfl (Mo S4 rfl) (ag.kp) (qT 15 rfl (λ_ h=>LR T7 rfl rfl (h.LN aq (λe=>e dc)) rfl) (ag.kp) (M9 17 rfl rfl (ag.kp) (LS 18 rfl (Ra U9 rfl) (ag.kp) (Pw 16 rfl z0m rfl (xO _ ag) ?_)))))));rintro _ w4 ⟨rfl,rfl⟩;refine⟨ag.kp,?_⟩;refine LS 19 rfl (TF rfl rfl (by omega)) (ag.kp) ?_;rw[show(512:Int)-(t.length:Int)=((512-t.length:Nat):Int) by omega];refine qO 20 (VP (i:=20) rfl rfl rfl (pmk (c:=512-t.length) (n:=512-t.length) N1 TQ rfl rfl rfl (by omega) (by omega) (by omega)) ?_);rintro _ w4 ⟨b4,rfl,⟨eA,aC,aM⟩,-⟩;refine⟨ag.kp.trans aC.kp,?_⟩;have db:=ag.trans aC;refine qO 21 (zd8 (i:=21) rfl rfl rfl (z2l (l:=zeros (512-t.length)) N1 U5 U9 rfl aM (VV _) hz) (db.kp) (LS 22 rfl (SQ rfl rfl (by rw[hz];omega)) (db.kp) ?_));have ox:(t++zeros (512-t.length)).length=512:=by rw[List.length_append,hz];omega
   rw[show(st:Int)+(k:Int)=((st+k:Nat):Int) by omega];refine Pw 23 rfl zb4 rfl ((eX.ext' db).write (λb hb=>by have:=hX b hb;have:=cw.size;have:=db.size;omega) (by omega) (no:=((st+k:Nat):Int)) (by omega) (by omega) _ ox) ?_;rintro _ w5 ⟨rfl,gh,aj⟩;refine⟨db.kp.trans aj,?_⟩;have j9:Kp (λb=>¬X b) w3 w5:=db.kp.trans aj;refine LS 24 rfl (NK rfl) (db.kp.trans aj) (qE (qN rfl (LM rfl (MY rfl rfl (LO (An rfl (py (LL (LQ rfl (MK rfl rfl (LM rfl (LO ((ih (k+1) w5 ⟨by omega,cw.trans j9,_,gh,λb hb=>?_,λy hy=>?_⟩ (by omega)).qb)))))))))))))
   ·by_cases e:b=k
    ·subst e;rw[Ow,ht];rfl
    ·rw[NU _ _ (by omega)];exact Gl b (by omega)
   ·rw[NU _ _ (by omega)];exact oo y (by omega)
  ·have DY:k=N:=by omega
   subst DY;refine LW rfl (qN rfl (LU rfl (LP Tryz.func57 rfl ?_)));exact⟨_,rfl,rfl,txt2,dI,ao,Gl,oo⟩
theorem z1p (l:Bytes):∀n,((List.replicate n l).flatten).length=n*l.length
 |0=>by simp
 |n+1=>by rw[List.replicate_succ,List.flatten_cons,List.length_append,z1p l n,Nat.add_mul];omega
theorem z0w {bf:Nat}{s:Bytes}(b:Nat)(hB:LX w bf [S s] 9):Mm Tryz.prog 58 ([I (b:Int)]++[ptr bf 0]) w λv w2=>v=S s/\Ext w w2:=by
 show Mm _ _ [I (b:Int),ptr bf 0] _ _
 refine It (e:=[(0,_),(1,_)]) Tryz.func58 rfl Tryz.ntmps58 rfl rfl (qN rfl (M6 rfl (qM rfl (qV (LR U9 rfl rfl hB rfl) (LU rfl (LP Tryz.func58 rfl ?_))))))
 exact⟨_,rfl,rfl,Ext.refl _⟩
theorem XE (hP:Sp Q txt K X w)(hX:∀b,X b->b<w.heap.size)(hK:K<=900000000000)(hv:St Q txt vb width st xs w)(dc:X vb){x:Nat}(hx:x<2^(8*width)):
  Mm Tryz.prog 29 [ptr vb 0,M7 x] w λv w'=>v=I 0/\VcW Q txt (K+Q8 xs.length (512 / width)) X vb width st (List.replicate xs.length x) w w':=by
 have hB:=hv.cells
 have ju:=hv.n
 obtain⟨e1,e2,e3,e4,e5⟩:=hv.e
 have lY:x<18446744073709551616:=by
  have:=Nat.pow_le_pow_right (show 0<2 by decide) (show 8*width<=64 by omega);omega
 have ff:=Mz width x
 have jo:(List.replicate (512 / width) (Ql width x)).flatten.length=512:=by
  rw[z1p,ff];exact e3
 refine It (e:=[(0,_),(1,_)]) Tryz.func29 rfl Tryz.ntmps29 rfl rfl (qN rfl (LU rfl (run_seq (qN rfl (LM rfl (Mb z5y rfl (Pu hv) ?_))))))
 rintro _ w ⟨rfl,rfl⟩
 refine M6 rfl (qM rfl (LM rfl (MY rfl rfl (LO (An rfl (py (run_seq (qN rfl (LM rfl (Mp rfl (M0 NA rfl (qV (Mk z5E rfl Uk rfl (LX.cells (n:=3) hB (news:=[_,_,_]) rfl) rfl) (LM rfl ?_)))))))))))))
 refine Mb zey rfl (WS xs.length width (512 / width) x hv.wd hx w) ?_
 rintro _ w1 ⟨rfl,ad⟩
 have ai:=ad.LN hB
 have aG:=Ext.Ma w1
 refine qV ((by first|exact ML rfl|exact Oh rfl)) ?_
 refine LO (An rfl (py (run_seq (MA (λe' w'=>∃bf,e'=[(0,ptr vb 0),(6,ptr bf 0)]/\LX w' bf [S (List.replicate (512 / width) (Ql width x)).flatten] 9/\Ext w1 w'/\w1.heap.size<=bf) ?cu (λcu=>?cM)))))
 case cu=>
  rintro e' w2 ⟨bf,rfl,cW,af,DZ⟩;have aI:=ad.trans af;have mw:=ad.size;have dI:Sp Q txt K (λb=>X b\/b=bf) w2:=hP.ext aI (λb e=>e.imp id λe=>by omega);have lbf:=cW.lt;have hw:=W1 dI (λb hb=>by rcases hb with e|e;(have:=hX b e;have:=aI.size;omega);omega) hK (hv.ext aI) (.inl dc) zfS [ptr bf 0] (λ_=>(List.replicate (512 / width) (Ql width x)).flatten) (λ_=>by rw[jo];omega) (λb w3 _ ar=>z0w b (ar.LN cW (λe=>e (.inr rfl))));refine qN rfl (LM rfl (qV (ZU (first:=[]) (caps:=[.tmp 6]) rfl rfl) (Mb zdV rfl (hw) ?_)));rintro _ w3 ⟨rfl,txt3,eX,ar,ph,yg⟩;refine LU rfl (LP Tryz.func29 rfl ?_);have da:Kp (λb=>¬X b) w1 w3:=af.kp.trans (ar.LZ λb e e2=>e (.inl e2));have ge:(List.replicate xs.length x).length=xs.length:=List.length_replicate;refine⟨_,rfl,rfl,txt3,eX.less (λb e=> .inl e),⟨?_,hv.wd,ZR.fill hx (by omega) (λi hi=>?_),by rw[ge];exact ju,by rw[ge];exact hv.fit⟩,λy hy=>yg y (by rw[ge] at hy;exact hy),ad.kp.trans da⟩
  ·rw[ge];exact(ad.kp.trans da).LN hB (λe=>e dc)
  ·have pJ:=VI (each:=512 / width) (by omega) hi;exact⟨_,ph _ pJ⟩
 case cM=>
  have ak:=aG;have bB:=ak.size;refine Me [13] (λw'=>Ext w1 w') (by kernel_rfl) rfl (qL [1,2,3,5,11,13] 0 rfl (λ_ h=>My rfl) ak (qL [2,3,5,11,13] 1 rfl (λ_ h=>MS rfl) ak (qL [3,5,11,13] 2 rfl (λ_ h=>Mo NA rfl) ak (qL [5,11,13] 3 rfl (λ_ h=>Mk z5E rfl Uk rfl (LX.cells (n:=3) (h.LN ai) (news:=[_,_,_]) rfl) rfl) ak (qL [5,11,13] 4 rfl (λ_ h=>My rfl) ak (qL [7,8,9,10,11,13] 6 rfl (λ_ h=>My rfl) ak (qL [8,9,10,11,13] 7 rfl (λ_ h=>MS rfl) ak (qL [9,10,11,13] 8 rfl (λ_ h=>Mo NA rfl) ak (qL [10,11,13] 9 rfl (λ_ h=>Mo Sb rfl) ak (qL [11,13] 10 rfl (λ_ h=>LR U3 rfl rfl (h.LN ai) rfl) ak (Sv (i:=5) (j:=12) (by kernel_rfl) ?_ ?_)))))))))))
  ·refine O4 (i:=5) rfl rfl rfl (yc zaM rfl) (TS _ _ _ x e5 lY _) ?_;rintro _ w5 ⟨rfl,aT⟩;refine⟨ak.trans aT,?_⟩;have ak:=ak.trans aT
   try have bu:=aT.LN bu
   have bB:=Nat.le_trans bB aT.size;refine Sv (i:=11) (j:=12) (by kernel_rfl) ?_ ?_
   ·refine O4 (i:=11) rfl rfl rfl (yc zaL rfl) (VD (Ql width x) (512 / width) (by omega) (by omega) _) ?_;rintro _ w11 ⟨rfl,aQ⟩;refine⟨ak.trans aQ,?_⟩;have ak:=ak.trans aQ
    try have bu:=aQ.LN bu
    have bB:=Nat.le_trans bB aQ.size;refine Nw (i:=12) (by kernel_rfl) (MV (i:=12) rfl rfl rfl (O9 (cs:=[_]) YZ rfl) ?_);rintro _ w12 ⟨bf,rfl,DZ,aD,bu⟩;refine⟨ak.trans aD,?_⟩;have ak:=ak.trans aD;have nM:w1.heap.size<=bf:=by omega
    have bB:=Nat.le_trans bB aD.size;refine Pv [13] (qO 13 (Mx (i:=13) rfl rfl (NC YZ rfl rfl rfl bu (by simp)) ?_));rintro w13 ⟨ev,da⟩;refine⟨trivial,?_⟩;refine qE (Mn.qb (e:=[(0,_),(4,_),(6,_)]) ?_);exact(cu _ _ ⟨bf,rfl,ev,ak.LJ da (λj e=>by omega),nM⟩).qb
   ·refine MV (i:=12) rfl rfl rfl (O9 (cs:=[_]) YZ rfl) ?_;rintro _ w12 ⟨bf,rfl,DZ,aD,bu⟩;refine⟨ak.trans aD,?_⟩;have ak:=ak.trans aD;have nM:w1.heap.size<=bf:=by omega
    have bB:=Nat.le_trans bB aD.size;refine Nw (i:=11) (by kernel_rfl) (O4 (i:=11) rfl rfl rfl (yc zaL rfl) (VD (Ql width x) (512 / width) (by omega) (by omega) _) ?_);rintro _ w11 ⟨rfl,aQ⟩;refine⟨ak.trans aQ,?_⟩;have ak:=ak.trans aQ
    try have bu:=aQ.LN bu
    have bB:=Nat.le_trans bB aQ.size;refine Pv [13] (qO 13 (Mx (i:=13) rfl rfl (NC YZ rfl rfl rfl bu (by simp)) ?_));rintro w13 ⟨ev,da⟩;refine⟨trivial,?_⟩;refine qE (Mn.qb (e:=[(0,_),(4,_),(6,_)]) ?_);exact(cu _ _ ⟨bf,rfl,ev,ak.LJ da (λj e=>by omega),nM⟩).qb
  ·refine MV (i:=12) rfl rfl rfl (O9 (cs:=[_]) YZ rfl) ?_;rintro _ w12 ⟨bf,rfl,DZ,aD,bu⟩;refine⟨ak.trans aD,?_⟩;have ak:=ak.trans aD;have nM:w1.heap.size<=bf:=by omega
   have bB:=Nat.le_trans bB aD.size;refine Nw (i:=5) (by kernel_rfl) (O4 (i:=5) rfl rfl rfl (yc zaM rfl) (TS _ _ _ x e5 lY _) ?_);rintro _ w5 ⟨rfl,aT⟩;refine⟨ak.trans aT,?_⟩;have ak:=ak.trans aT
   try have bu:=aT.LN bu
   have bB:=Nat.le_trans bB aT.size;refine Nw (i:=11) (by kernel_rfl) (O4 (i:=11) rfl rfl rfl (yc zaL rfl) (VD (Ql width x) (512 / width) (by omega) (by omega) _) ?_);rintro _ w11 ⟨rfl,aQ⟩;refine⟨ak.trans aQ,?_⟩;have ak:=ak.trans aQ
   try have bu:=aQ.LN bu
   have bB:=Nat.le_trans bB aQ.size;refine Pv [13] (qO 13 (Mx (i:=13) rfl rfl (NC YZ rfl rfl rfl bu (by simp)) ?_));rintro w13 ⟨ev,da⟩;refine⟨trivial,?_⟩;refine qE (Mn.qb (e:=[(0,_),(4,_),(6,_)]) ?_);exact(cu _ _ ⟨bf,rfl,ev,ak.LJ da (λj e=>by omega),nM⟩).qb
end
theorem zaY (s:Bytes){a c:Nat}(h:a<=c):(s.drop (min a s.length)).take (min c s.length-min a s.length)=(s.drop a).take (c-a):=by
 by_cases ha:a<=s.length
 ·rw[Nat.min_eq_left ha];by_cases hc:c<=s.length
  ·rw[Nat.min_eq_left hc]
  ·rw[Nat.min_eq_right (by omega),List.take_of_length_le (by rw[List.length_drop];omega),List.take_of_length_le (by rw[List.length_drop];omega)]
 ·rw[Nat.min_eq_right (show s.length<=a by omega),Nat.min_eq_right (show s.length<=c by omega),Nat.sub_self,List.take_zero,List.drop_of_length_le (show s.length<=a by omega),List.take_nil]
section
variable {w w':World}{Q:NZ}{txt:Int->Bytes}{K:Nat}{X:Nat->Prop}{vb width st each n:Nat}{xs:List Nat}
theorem z1b {bt ba:Nat}{s:Bytes}(b:Nat)(hb:b<=1000000)(hs:s.length<=100000000)(hT:LX w bt [S s] 9)(hA:LX w ba [I 512] 3):Mm Tryz.prog 66 ([I (b:Int)]++[ptr bt 0,ptr ba 0]) w λv w2=>v=S ((s.drop (b*512)).take 512)/\Ext w w2:=by
 show Mm _ _ [I (b:Int),ptr bt 0,ptr ba 0] _ _
 have h:=zaY s (a:=b*512) (c:=(b+1)*512) (by omega)
 rw[show(b+1)*512-b*512=512 by omega] at h
 refine It (e:=[(0,_),(1,_),(2,_)]) Tryz.func66 rfl Tryz.ntmps66 rfl rfl (qN rfl (M6 rfl (qM rfl (qV ((by first|exact LR U9 rfl rfl hT rfl|exact LR U9 rfl rfl hA rfl)) ?_))))
 refine LM rfl (qV ((by first|exact LR U3 rfl rfl hT rfl|exact LR U3 rfl rfl hA rfl)) ?_)
 refine qV (SV rfl rfl (by omega)) (qV ((by first|exact LR U9 rfl rfl hT rfl|exact LR U9 rfl rfl hA rfl)) ?_)
 refine qV (Ra U9 rfl) (qV (ymi rfl rfl) (LM rfl (MK rfl rfl (qV ((by first|exact LR U3 rfl rfl hT rfl|exact LR U3 rfl rfl hA rfl)) ?_))))
 refine qV (SV rfl rfl (by omega)) (qV ((by first|exact LR U9 rfl rfl hT rfl|exact LR U9 rfl rfl hA rfl)) ?_)
 refine qV (Ra U9 rfl) (qV (ymi rfl rfl) ?_)
 rw[show min ((b:Int)*512) (s.length:Int)=((min (b*512) s.length:Nat):Int) by omega,show min (((b:Int)+1)*512) (s.length:Int)=((min ((b+1)*512) s.length:Nat):Int) by omega]
 refine qV (zea (m:=min (b*512) s.length) (n:=min ((b+1)*512) s.length) U9 rfl rfl rfl (by omega)) ?_
 rw[h]
 refine LU rfl (LP Tryz.func66 rfl ?_)
 exact⟨_,rfl,rfl,Ext.refl _⟩
theorem z2p (hP:Sp Q txt K X w)(hX:∀b,X b->b<w.heap.size)(hK:K<=900000000000)(hv:St Q txt vb width st xs w)(dc:X vb){s:Bytes}(hs:s.length=xs.length*width):
  Mm Tryz.prog 39 [ptr vb 0,S s] w λv w'=>v=I 0/\VcW Q txt (K+Q8 xs.length (512 / width)) X vb width st (Wf width xs.length s) w w':=by
 have dO:=hP.n
 have hB:=hv.cells
 have ju:=hv.n
 have bJ:=hv.fit
 obtain⟨e1,e2,e3,e4,e5⟩:=hv.e
 have Lo:s.length<=33554432:=by
  have:xs.length*width<=4194304*8:=Nat.mul_le_mul ju e5;omega
 have yh:(xs.length:Int)*(width:Int)=((s.length:Nat):Int):=by rw[hs,Int.natCast_mul]
 have gm:((512 / width:Nat):Int)*(width:Int)=512:=by rw[<-Int.natCast_mul,e3];rfl
 refine It (e:=[(0,_),(1,_)]) Tryz.func39 rfl Tryz.ntmps39 rfl rfl (qN rfl (LV rfl rfl (NN rfl (cs:=[S s]) rfl) ?_))
 rintro _ w1 ⟨bt,rfl,ox,ad,zY⟩
 have ai:=ad.LN hB
 have aG:=Ext.Ma w1
 refine LU rfl (run_seq (qN rfl (LM rfl (Mb z5y rfl (Pu (hv.ext ad)) ?_))))
 rintro _ w1 ⟨rfl,rfl⟩
 refine M6 rfl (qM rfl (LM rfl (MY rfl rfl (LO (An rfl (py (run_seq (run_seq (NF (λw'=>Ext w1 w') rfl (qT 0 rfl (λ_ h=>(by first|exact LR U9 rfl rfl (h.LN ai) rfl|exact LR U9 rfl rfl (h.LN zY) rfl)) aG ?_))))))))))
 refine LS 1 rfl (Ra U9 rfl) aG (M9 2 rfl rfl (aG) (LS 3 rfl (MS rfl) aG (LS 4 rfl (Mo NA rfl) aG (LS 5 rfl (Mo Ur rfl) aG (qT 6 rfl (λ_ h=>(by first|exact LR U3 rfl rfl (h.LN ai) rfl|exact LR U3 rfl rfl (h.LN zY) rfl)) aG ?_)))))
 refine M9 7 rfl rfl (aG) (LS 8 rfl (MS rfl) aG (LS 9 rfl (Mo NA rfl) aG (LS 10 rfl (Mo Qd rfl) aG (qT 11 rfl (λ_ h=>(by first|exact LR U3 rfl rfl (h.LN ai) rfl|exact LR U3 rfl rfl (h.LN zY) rfl)) aG ?_))))
 refine LS 12 rfl (SV rfl rfl (by rw[yh];omega)) aG ?_
 rw[yh]
 refine LS 13 rfl (yne rfl rfl) aG (QG (qE (An rfl (py (run_seq ?_)))))
 obtain⟨w2,kT⟩:∃w2,w1.drew=w2:=⟨_,rfl⟩
 rw[kT] at aG⊢
 have am:=aG.LN ai
 have aa:=Ext.Ma w2
 refine Me [12] (λw'=>Ext w2 w') (by kernel_rfl) rfl (qL [1,2,3,4,10,12] 0 rfl (λ_ h=>My rfl) aa (qL [2,3,4,10,12] 1 rfl (λ_ h=>MS rfl) aa (qL [3,4,10,12] 2 rfl (λ_ h=>Mo NA rfl) aa (qL [4,10,12] 3 rfl (λ_ h=>Mo Sb rfl) aa (qL [10,12] 4 rfl (λ_ h=>LR U3 rfl rfl (h.LN am) rfl) aa (qL [6,7,8,9,10,12] 5 rfl (λ_ h=>My rfl) aa (qL [7,8,9,10,12] 6 rfl (λ_ h=>MS rfl) aa (qL [8,9,10,12] 7 rfl (λ_ h=>Mo NA rfl) aa (qL [9,10,12] 8 rfl (λ_ h=>Mo Qd rfl) aa (qL [10,12] 9 rfl (λ_ h=>LR U3 rfl rfl (h.LN am) rfl) aa (qL [12] 10 rfl (λ_ h=>SV rfl rfl (by rw[gm];omega)) aa ?_)))))))))))
 rw[gm]
 refine Nw (i:=11) (by kernel_rfl) (MV (i:=11) rfl rfl rfl (O9 (cs:=[_]) MO rfl) ?_)
 rintro _ w3 ⟨ba,rfl,Lp,ah,Jy⟩
 refine⟨aa.trans ah,?_⟩
 have dy:=aa.trans ah
 refine Pv [12] (qO 12 (Mx (i:=12) rfl rfl (NC MO rfl rfl rfl Jy (by simp)) ?_))
 rintro w4 ⟨yi,ax⟩
 refine⟨trivial,?_⟩
 have cZ:Ext w2 w4:=dy.LJ ax (λj e=>by have:=aa.size;omega)
 have bF:=aG.trans cZ
 have cj:=ad.trans bF
 have z1:=ad.size
 have z2:=aG.size
 have z3:=aa.size
 have yj:=bF.LN zY
 have jK:Sp Q txt K (λb=>X b\/b=bt\/b=ba) w4:=hP.ext cj (λb e=>e.imp id λe=>by omega)
 have lbt:=yj.lt
 have lba:=yi.lt
 have hw:=W1 jK (λb hb=>by rcases hb with e|e|e;(have:=hX b e;have:=cj.size;omega);omega;omega) hK (hv.ext cj) (.inl dc) zfO [ptr bt 0,ptr ba 0] (λb=>(s.drop (b*512)).take 512) (λ_=>by rw[List.length_take];omega) (λb w3 hb ar=>z1b b (by omega) (by omega) (ar.LN yj (λe=>e (.inr (.inl rfl)))) (ar.LN yi (λe=>e (.inr (.inr rfl)))))
 refine qE (Mn.qb (e:=[(0,_),(3,_),(4,_),(6,_)]) ?_)
 refine qN rfl (LM rfl (qV (ZU (first:=[]) (caps:=[.tmp 3,.tmp 6]) rfl rfl) (Mb zdV rfl (hw) ?_)))
 rintro _ w5 ⟨rfl,txt5,gh,aj,zt,Jz⟩
 refine LU rfl (LP Tryz.func39 rfl ?_)
 have ck:Kp (λb=>¬X b) w w5:=cj.kp.trans (aj.LZ λb e e2=>e (.inl e2))
 have ge:=Za width xs.length s
 refine⟨_,rfl,rfl,txt5,gh.less (λb e=> .inl e),⟨?_,hv.wd,ZR.load hs (by omega) (λi hi=>?_),by rw[ge];exact ju,by rw[ge];exact hv.fit⟩,λy hy=>Jz y (by rw[ge] at hy;exact hy),ck⟩
 ·rw[ge];exact ck.LN hB (λe=>e dc)
 ·have pJ:=VI (each:=512 / width) (by omega) hi;rw[e3];exact⟨_,zt _ pJ⟩
theorem z1Z (hP:Sp Q txt K X w)(hX:∀b,X b->b<w.heap.size)(hK:K<1000000000000)(hv:St Q txt vb width st xs w)(dc:X vb):
  Mm Tryz.prog 36 [ptr vb 0] w λv w'=>v= .tuple #[S (Tr width xs),I 0]/\Sp Q txt K X w'/\Kp (λb=>¬X b) w w':=by
 have dO:=hP.n
 have hB:=hv.cells
 have ju:=hv.n
 have bJ:=hv.fit
 obtain⟨e1,e2,e3,e4,e5⟩:=hv.e
 have lvb:=hX vb dc
 have tD:=λ(b:Nat)=>hv.t.block (b:=b)
 have mq:=λ(l:List Nat)=>Rm width l
 have hN:∀b,b*(512 / width)<xs.length->b<Q8 xs.length (512 / width):=λb hb=>by
  have:=VI (each:=512 / width) (n:=xs.length) (by omega) hb;rw[Nat.mul_div_cancel _ (by omega)] at this;exact this
 generalize 512 / width=each at*
 refine It (e:=[(0,_)]) Tryz.func36 rfl Tryz.ntmps36 rfl rfl (qN rfl (M6 rfl (LU rfl (run_seq (qN rfl (LM rfl (Mb z5y rfl (Pu hv) ?_)))))))
 rintro _ w ⟨rfl,rfl⟩
 refine M6 rfl (qM rfl (LM rfl (MY rfl rfl (LO (An rfl (py (qN rfl (LV rfl rfl (O9 (cs:=[_,_]) z9X rfl) ?_))))))))
 rintro _ w1 ⟨bb,rfl,u7,ad,uo⟩
 have tA:=BdM.new uo
 have ai:=ad.LN hB
 have z1:=ad.size
 refine LO (run_seq (qN rfl (LM rfl (Mp rfl (M0 NA rfl (M0 Ur rfl (qV (LR U3 rfl rfl ai rfl) (M6 rfl (LU rfl (LK ?_))))))))))
 rw[show(xs.length:Int)=((xs.length-0*each:Nat):Int) by rw[Nat.zero_mul];rfl]
 refine Oe (α:=Nat×Value) ((0,Value.slice none 0 0)) (λy=>[(0,ptr vb 0),(5,ptr bb 0),(6,I ((xs.length-y.1*each:Nat):Int)),(7,I (y.1:Int))]) (λy w'=>y.1<=xs.length/\BdM w' bb (Tr width (xs.take (y.1*each))) y.2/\(y.1=0->y.2= .slice none 0 0)/\(0<y.1->0<xs.length)/\(∀g,y.2.ownBlock=some g->w.heap.size<=g)/\Sp Q txt K (λb=>X b\/b=bb\/y.2.ownBlock=some b) w'/\Kp (λb=>¬X b) w w') (λy=>xs.length-y.1*each) ?hI ?hround
 case hI=>
  refine⟨Nat.zero_le _,?_,λ_=>rfl,λe=>absurd e (by decide),λg hg=>(by cases hg),hP.ext ad (λb e=>e.imp id λe=>e.elim (λe=>by omega) (λe=>by cases e)),ad.kp⟩;show BdM w1 bb (Tr width (xs.take (0*each))) (.slice none 0 0);rw[Nat.zero_mul,List.take_zero];exact tA
 case hround=>
  rintro⟨b,v⟩ w2 ⟨eR,kk,qK,lR,eY,dI,ao⟩ ih;dsimp only at eR kk qK lR eY dI ih⊢;have am:=ao.LN hB (λe=>e dc);have hg:=Ext.Ma w2;have z2:=ao.size;have lbb:bb<w2.heap.size:=by obtain⟨⟨p,hp,hb⟩,-,-⟩:=kk;exact hb.lt
  have kZ:∀b,(X b\/b=bb\/v.ownBlock=some b)->b<w2.heap.size:=λb hb=>by
   rcases hb with e|e| e
   ·have:=hX b e;omega
   ·omega
   ·exact kk.2.1.lt e
  have Ia:=mq (xs.take (b*each))
  try dsimp only
  refine run_seq (qN rfl (LM rfl (Nc rfl rfl (LO (LY rfl (λh0=>?_) (λh0=>?_))))))
  ·have E0:b*each<xs.length:=by omega
   have Lq:=hN b E0;obtain⟨m,hm⟩:∃m,min (xs.length-b*each) each=m:=⟨_,rfl⟩;have de:=dI.VF (x:=((st+b:Nat):Int)) (by omega) (by omega);have zR:m*width<=each*width:=Nat.mul_le_mul_right _ (by omega);have jg:=tD b (by rw[de];omega) m (by omega) (by omega);have dQ:=(dI.ext' hg).read (λb hb=>by have:=kZ b hb;have:=hg.size;omega) hK (no:=((st+b:Nat):Int)) (by omega) (by omega);obtain⟨t,ht⟩:∃t,txt ((st+b:Nat):Int)=t:=⟨_,rfl⟩;rw[ht] at de jg dQ;refine py (run_seq (LK (run_seq (NF (λw'=>Kp (λj=>¬(X j\/j=bb\/v.ownBlock=some j)) w2 w') rfl (M9 0 rfl rfl (hg.kp) (LS 1 rfl (MS rfl) (hg.kp) (LS 2 rfl (Mo S4 rfl) (hg.kp) (qT 3 rfl (λ_ hS=>LR T7 rfl rfl (hS.LN am (λe=>e (.inl dc))) rfl) (hg.kp) (M9 4 rfl rfl (hg.kp) (LS 5 rfl (MS rfl) (hg.kp) (LS 6 rfl (Mo UY rfl) (hg.kp) (LS 7 rfl (Mo NR rfl) (hg.kp) (qT 8 rfl (λ_ hS=>LR U3 rfl rfl (hS.LN am (λe=>e (.inl dc))) rfl) (hg.kp) ?_)))))))))))));refine M9 9 rfl rfl (hg.kp) (LS 10 rfl (R9 rfl rfl (by omega)) (hg.kp) ?_);rw[show(st:Int)+(b:Int)=((st+b:Nat):Int) by omega];refine Pw 11 rfl z6r rfl (dQ) ?_;rintro _ w3 ⟨rfl,eX,ar⟩;refine⟨hg.kp.trans ar,?_⟩;have cL:=hg.kp.trans ar;have tB:=kk.kp cL (λe=>e (.inr (.inl rfl))) (λg hg e=>e (.inr (.inr hg)));have aq:=cL.LN am (λe=>e (.inl dc));refine M9 12 rfl rfl (hg.kp.trans ar) (LS 13 rfl (NO rfl rfl) (hg.kp.trans ar) (LS 14 rfl (NO rfl rfl) (hg.kp.trans ar) (LS 15 rfl (NK rfl) (hg.kp.trans ar) (LS 16 rfl (NK rfl) (hg.kp.trans ar) (qE (run_seq (qN rfl (LM rfl (MY rfl rfl (LO (An rfl (py (qN rfl ?_)))))))))))));refine M4 rfl rfl (Mp rfl (M0 NA rfl (M0 Sb rfl (qV (LR U3 rfl rfl aq rfl) (qV (ymi rfl rfl) ?_)))));rw[show min ((xs.length-b*each:Nat):Int) (each:Int)=(m:Int) by omega];refine M6 rfl (qM rfl (M4 rfl rfl (LM rfl (Mp rfl (M0 NA rfl (M0 Qd rfl (qV (LR U3 rfl rfl aq rfl) (qV (SV rfl rfl (by rw[<-Int.natCast_mul];omega)) ?_))))))));rw[<-Int.natCast_mul];refine qV (YI (m:=m*width) U9 rfl rfl (by omega)) ?_;rw[jg];have gu:=mq ((xs.drop (b*each)).take m);have E1:((xs.drop (b*each)).take m).length=m:=by rw[List.length_take,List.length_drop];omega
   have E2:(xs.take (b*each)).length*width<=4194304*8:=Nat.mul_le_mul (by rw[List.length_take];omega) e5;rw[E1] at gu;refine Mb zdu rfl (z1l tB (Tr width ((xs.drop (b*each)).take m)) (by omega)) ?_;rintro _ w4 ⟨v4,pT,ax,oH⟩;have z3:=cL.size;refine LO (LQ rfl (M4 rfl rfl (NP rfl rfl (LU rfl (LL (LQ rfl (LM rfl (MK rfl rfl (LU rfl ?_)))))))));rw[show((xs.length-b*each:Nat):Int)-(m:Int)=((xs.length-(b+1)*each:Nat):Int) by rw[Nat.add_mul];omega];refine(ih (b+1,v4) _ ⟨?_,?_,λe=>by dsimp only at e;omega,λ_=>by omega,λg hg=>(oH g hg).elim (eY g) (λe=>by omega),?_,?_⟩ ?_).qb
   ·show b+1<=xs.length;have:b*1<=b*each:=Nat.mul_le_mul_left _ (by omega);omega
   ·show BdM w4 bb (Tr width (xs.take ((b+1)*each))) v4
    have e:xs.take ((b+1)*each)=xs.take (b*each)++(xs.drop (b*each)).take m:=by
     rw[Nat.add_mul,Nat.one_mul,List.take_add]
     congr 1
     by_cases hc:xs.length-b*each<=each
     ·rw[List.take_of_length_le (by rw[List.length_drop];omega),List.take_of_length_le (by rw[List.length_drop];omega)]
     ·rw[show m=each by omega]
    rw[e];unfold Tr at pT⊢;rw[List.flatMap_append];exact pT
   ·exact eX.step ax (λj e=> .inr e) (λj e=>by
     rcases e with e|e| e
     ·exact .inl (.inl e)
     ·exact .inl (.inr (.inl e))
     ·exact(oH j e).imp (λe=> .inr (.inr e)) id)
   ·refine(ao.trans (cL.LZ λb e e2=>e (.inl e2))).LJ ax λb e=> .inl ?_;rcases e with e| e
    ·omega
    ·exact eY b e
   ·dsimp only;rw[Nat.add_mul];omega
  ·have gE:xs.take (b*each)=xs:=List.take_of_length_le (by omega);rw[gE] at kk;have JA:=mq xs;have E2:xs.length*width<=4194304*8:=Nat.mul_le_mul ju e5
   have qi:Tr width xs=[]->v= .slice none 0 0:=λe=>qK (by
    have e1:=congrArg List.length e;rw[JA,List.length_nil] at e1;have e2:xs.length=0:=(Nat.mul_eq_zero.1 e1).resolve_right (by omega)
    omega)
   refine LW rfl (qN rfl (Mb zda rfl (YM kk qi (by omega)) ?_));rintro _ w3 ⟨rfl,ar⟩;refine M6 rfl (LU rfl (LP Tryz.func36 rfl ?_));exact⟨_,rfl,rfl,dI.step ar (λb e=> .inr (.inr e)) (λb e=> .inl (.inl e)),ao.LJ ar (λb e=> .inl (eY b e))⟩
end
section
variable {w w':World}{Q:NZ}{txt:Int->Bytes}{K:Nat}{X:Nat->Prop}{vb width st each n:Nat}{xs:List Nat}
theorem z0D (hP:Sp Q txt K X w)(hX:∀b,X b->b<w.heap.size)(hv:St Q txt vb width st xs w)(dc:X vb)(cS:2<=st)(hc:∀i,st<=i->i<st+Q8 xs.length (512 / width)->Q.L[i]? =some true):
  Mm Tryz.prog 31 [ptr vb 0] w λv w'=>v=I 0/\∃txt',Sp (Q.Ni (NI Q.L st (Q8 xs.length (512 / width)) false)) txt' K X w'/\(∀y:Int,y<(st:Int)\/(st:Int)+(Q8 xs.length (512 / width):Int)<=y->txt' y=txt y)/\Kp (λb=>¬X b\/b=vb) w w':=by
 have hB:=hv.cells
 have bJ:=hv.fit
 have km:1<=Q8 xs.length (512 / width):=Nat.le_max_left _ _
 have hg:=Ext.Ma w
 have JB:=(hP.ext' hg).zf9 (λb hb=>by have:=hX b hb;have:=hg.size;omega) km cS bJ hc
 generalize Q8 xs.length (512 / width)=N at*
 refine It (e:=[(0,_)]) Tryz.func31 rfl Tryz.ntmps31 rfl rfl (qN rfl (LU rfl (run_seq (qN rfl (LM rfl (Mb z5y rfl (Pu hv) ?_))))))
 rintro _ w ⟨rfl,rfl⟩
 refine M6 rfl (qM rfl (LM rfl (MY rfl rfl (LO (An rfl (py (run_seq (run_seq (NF (λw'=>Kp (λb=>¬X b) w w') rfl (M9 0 rfl rfl (hg.kp) (LS 1 rfl (MS rfl) (hg.kp) (LS 2 rfl (Mo S4 rfl) (hg.kp) (qT 3 rfl (λ_ h=>LR T7 rfl rfl (h.LN hB (λe=>e dc)) rfl) (hg.kp) ?_)))))))))))))
 refine M9 4 rfl rfl (hg.kp) (LS 5 rfl (MS rfl) (hg.kp) (LS 6 rfl (Mo UY rfl) (hg.kp) (qT 7 rfl (λ_ hS=>Mk U97 rfl Ox rfl (LX.cells (n:=2) (hS.LN hB (λe=>e dc)) (news:=[_,_]) rfl) rfl) (hg.kp) (Pw 8 rfl zf1 rfl (JB) ?_))))
 rintro _ w1 ⟨rfl,txt1,jt,mG,aK⟩
 refine⟨hg.kp.trans aK,?_⟩
 have io:=hg.kp.trans aK
 have ai:=io.LN hB (λe=>e dc)
 refine LS 9 rfl (NK rfl) (hg.kp.trans aK) (qE (qN rfl (LM rfl (MY rfl rfl (LO (An rfl (py (qN rfl (LM rfl (Mp rfl (M0 z3p rfl (M1 rfl (NC RX rfl rfl rfl ai (by simp)) ?_))))))))))))
 rintro w2 ⟨am,ao⟩
 refine qM rfl (LU rfl (LP Tryz.func31 rfl ?_))
 exact⟨_,rfl,rfl,txt1,jt.own ao (λb e=>by rw[e];exact dc),mG,(io.LZ λb e=> .inl e).trans (ao.LZ λb e=> .inr e)⟩
theorem ZR.any {txt:Int->Bytes}{st width each n:Nat}(he:1<=each)(hw:each*width<=512)(h:∀i,i<n->(txt ((st+i / each:Nat):Int)).length=512):∃xs:List Nat,xs.length=n/\ZR txt st width each xs:=by
 refine⟨(List.range n).map λi=>valB (Md (((txt ((st+i / each:Nat):Int)).drop (i%each*width)).take width)),by simp,λi x hx=>?_⟩
 rw[List.getElem?_map] at hx
 by_cases hi:i<n
 ·rw[List.getElem?_range hi] at hx;cases hx;have hl:=h i hi;have hm:(i%each+1)*width<=each*width:=Nat.mul_le_mul_right _ (Nat.mod_lt _ he);rw[Nat.add_mul,Nat.one_mul] at hm
  have aB:(((txt ((st+i / each:Nat):Int)).drop (i%each*width)).take width).length=width:=by
   rw[List.length_take,List.length_drop,hl];omega
  refine⟨?_,?_⟩
  ·have hb:=z3W (((txt ((st+i / each:Nat):Int)).drop (i%each*width)).take width);rw[aB] at hb;exact hb.symm
  ·have h1:=Nu (Md (((txt ((st+i / each:Nat):Int)).drop (i%each*width)).take width));rw[bitsT_length,aB] at h1;exact h1
 ·rw[List.getElem?_eq_none (by simpa using hi)] at hx;cases hx
theorem z4v (hP:Sp Q txt K X w)(hX:∀b,X b->b<w.heap.size)(hK:K<=800000000000){a:Nat}(hp:Pre Q.L a)(n width:Nat)(hn:n<=4194304)(ov:width=1\/width=2\/width=4\/width=8)(bJ:a+Q8 n (512 / width)<=Q.L.length):
  Mm Tryz.prog 28 [ptr Q.s 0,I (n:Int),I (width:Int)] w λv w'=>∃vb txt',v= .tuple #[ptr vb 0,I 0]/\w.heap.size<=vb/\Sp (Q.Ni (NI Q.L a (Q8 n (512 / width)) true)) txt' (K+Q8 n (512 / width)) (λb=>X b\/b=vb) w'/\St (Q.Ni (NI Q.L a (Q8 n (512 / width)) true)) txt' vb width a (List.replicate n 0) w'/\(∀y:Int,y<(a:Int)\/(a:Int)+(Q8 n (512 / width):Int)<=y->txt' y=txt y)/\Kp (λb=>¬X b) w w':=by
 have km:1<=Q8 n (512 / width):=Nat.le_max_left _ _
 have dO:=hP.n
 obtain⟨e1,e2,e3,e4,e5⟩:64<=512 / width/\512 / width<=512/\512 / width*width=512/\1<=width/\width<=8:=by
  rcases ov with e|e|e|e<;>subst e<;>decide
 have eT:(NI Q.L a (Q8 n (512 / width)) true).length=Q.L.length:=Nv bJ
 refine It (e:=[(0,_),(1,_),(2,_)]) Tryz.func28 rfl Tryz.ntmps28 rfl rfl (qN rfl (M6 rfl (LU rfl (run_seq (LK (qN rfl (LM rfl (qV (MU T7 rfl rfl) (LU rfl (An rfl (run_seq (MA (λe' w'=>w'=w/\e'=[(0,ptr Q.s 0),(1,I (n:Int)),(2,I (width:Int)),(15,.bool false)]) ?av (λav=>?dr)))))))))))))
 case av=>
  rintro e' w' ⟨rfl,rfl⟩;refine An rfl (py (LL (qN rfl (M4 rfl rfl (LM rfl (Mb z0m rfl (hP.size) ?_))))));rintro _ w' ⟨rfl,rfl⟩;refine LM rfl (qV (Tg rfl rfl (by omega)) ?_);rw[show(512:Int) / (width:Int)=((512 / width:Nat):Int) from rfl];refine qV (OJ (cs:=[_,_,_]) Uk rfl zbM rfl rfl) (LM rfl (qV (OJ (cs:=[_,_,_,_,_,_,_]) zdq rfl zdJ rfl rfl) (LV rfl rfl (NN rfl (cs:=[I (n:Int),I (width:Int),I ((512 / width:Nat):Int),I 0,I 0,ptr Q.s 0,.bool false]) rfl) ?_)));rintro _ w1 ⟨vb,rfl,dc,ad,ai⟩;refine M6 rfl (qM rfl (M4 rfl rfl (Mp rfl (M0 NA rfl (qV (Mk z5E rfl Uk rfl (LX.cells (n:=3) ai (news:=[_,_,_]) rfl) rfl) (Mb zd5 rfl (UP n width (512 / width) ⟨by omega,e2⟩ hn _) ?_))))));rintro _ w2 ⟨rfl,af⟩;have aI:=ad.trans af;have am:=af.LN ai;have z1:=ad.size;have z2:=af.size;have l1:=ai.lt;have dI:Sp Q txt K (λb=>X b\/b=vb) w2:=hP.ext aI (λb e=>e.imp id λe=>by omega)
  have gj:∀b,(X b\/b=vb)->b<w2.heap.size:=λb hb=>by
   rcases hb with e| e
   ·have:=hX b e;have:=aI.size;omega
   ·omega
  obtain⟨N,hN⟩:∃N,Q8 n (512 / width)=N:=⟨_,rfl⟩;rw[hN] at km bJ eT⊢;refine Mb zcH rfl (dI.take gj hp km bJ) ?_;rintro _ w3 ⟨rfl,eX,ar⟩;have aq:=ar.LN am (λe=>e (.inr rfl));have z3:=ar.size;refine LM rfl (MW rfl rfl (MW rfl rfl (LV rfl rfl (O9 (cs:=[_,_]) Ox rfl) ?_)));rintro _ w4 ⟨b9,rfl,o8,aC,aM⟩;refine M1 rfl (MD (news:=[I (a:Int),I (N:Int)]) Ox rfl rfl rfl rfl aM (by simp)) ?_;rintro w5 ⟨aF,aj⟩;replace aF:LX w5 b9 [I (a:Int),I (N:Int)] 97:=aF;have cm:Ext w3 w5:=aC.LJ aj (λj e=>by omega);have bT:=cm.LN aq;have gh:=eX.ext' cm;refine LU rfl (Mn.qb (e:=[(0,_),(8,_),(9,_),(10,_)]) ?_);refine run_seq (qN rfl (LM rfl (MY rfl rfl (LO (An rfl (py (qN rfl (LM rfl (qV (Mk U97 rfl Ox rfl (LX.cells (n:=2) aF (news:=[_,_]) rfl) rfl) (Mp rfl (M0 UY rfl (M1 rfl (MD (news:=[I (a:Int),I (N:Int)]) Ox rfl rfl rfl rfl bT (by simp)) ?_))))))))))));rintro w6 ⟨aX,aR⟩;replace aX:LX w6 vb [I (n:Int),I (width:Int),I ((512 / width:Nat):Int),I (a:Int),I (N:Int),ptr Q.s 0,.bool false] 137:=aX;have pS:=gh.own aR (λb e=> .inr e);have aB:(Q.Ni (NI Q.L a N true)).L.length=Q.L.length:=eT
  obtain⟨xs,du,tC⟩:=ZR.any (txt:=txt) (st:=a) (width:=width) (each:=512 / width) (n:=n) (by omega) (by omega) (λi hi=>by
   have pJ:=VI (each:=512 / width) (by omega) hi;rw[hN] at pJ
   generalize i / (512 / width)=q at pJ⊢
   exact pS.VF (by omega) (by rw[aB];omega))
  have JC:St (Q.Ni (NI Q.L a N true)) txt vb width a xs w6:=⟨by rw[du,hN];exact aX,ov,tC,by omega,by rw[du,hN,aB];exact bJ⟩
  have nK:∀b,(X b\/b=vb)->b<w6.heap.size:=λb hb=>by
   have:=gj b hb;have:=cm.size;have:=aR.size;omega
  have ja:=XE pS nK (by omega) JC (.inr rfl) (x:=0) (Nat.two_pow_pos _);rw[du,hN] at ja;refine LO (run_seq (qN rfl (LM rfl (Mb zdj rfl (ja) ?_))));rintro _ w7 ⟨rfl,hW⟩;obtain⟨txt7,yb,zE,JD,aA⟩:=hW;refine M6 rfl (qM rfl (LM rfl (MY rfl rfl (LO (An rfl (py (qN rfl (LM rfl (M6 rfl (LU rfl (LP Tryz.func28 rfl ?_)))))))))));have ge:(List.replicate n 0).length=n:=List.length_replicate;refine⟨_,rfl,vb,txt7,rfl,by omega,yb,zE,λy hy=>JD y (by rw[ge,hN];exact hy),?_⟩;have cw:Kp (λb=>¬X b) w' w3:=aI.kp.trans (ar.LZ λb e e2=>e (.inl e2));exact((cw.trans cm.kp).LJ aR (λb e=> .inl (by omega))).trans (aA.LZ λb e e2=>e (.inl e2))
 case dr=>
  rcases ov with rfl|rfl|rfl|rfl
  ·refine LQ rfl (LM rfl (Nr rfl rfl (MC (M4 rfl rfl (Nc rfl rfl (MC (ME rfl rfl (M4 rfl rfl (MY rfl rfl (MC (LM rfl (qS (qS ?_)))))))))))));refine ME rfl rfl (LM rfl (qS (qS (ME rfl rfl (LM rfl (qS (qS (ME rfl rfl (ME rfl rfl (LU rfl (Mn.qb (e:=[(0,_),(1,_),(2,_),(6,_),(7,_),(15,_)]) ?_)))))))))));exact(av _ _ ⟨rfl,rfl⟩).qb
  ·refine LQ rfl (LM rfl (Nr rfl rfl (MC (M4 rfl rfl (Nc rfl rfl (MC (ME rfl rfl (M4 rfl rfl (MY rfl rfl (O8 (M4 rfl rfl (MY rfl rfl (MC ?_)))))))))))));refine NB rfl rfl (LM rfl (qS (qS (ME rfl rfl (LM rfl (qS (qS (ME rfl rfl (ME rfl rfl (LU rfl (Mn.qb (e:=[(0,_),(1,_),(2,_),(6,_),(7,_),(15,_)]) ?_)))))))))));exact(av _ _ ⟨rfl,rfl⟩).qb
  ·refine LQ rfl (LM rfl (Nr rfl rfl (MC (M4 rfl rfl (Nc rfl rfl (MC (ME rfl rfl (M4 rfl rfl (MY rfl rfl (O8 (M4 rfl rfl (MY rfl rfl (O8 ?_)))))))))))));refine NB rfl rfl (M4 rfl rfl (MY rfl rfl (MC (NB rfl rfl (LM rfl (qS (qS (ME rfl rfl (ME rfl rfl (LU rfl (Mn.qb (e:=[(0,_),(1,_),(2,_),(6,_),(7,_),(15,_)]) ?_)))))))))));exact(av _ _ ⟨rfl,rfl⟩).qb
  ·refine LQ rfl (LM rfl (Nr rfl rfl (MC (M4 rfl rfl (Nc rfl rfl (MC (ME rfl rfl (M4 rfl rfl (MY rfl rfl (O8 (M4 rfl rfl (MY rfl rfl (O8 ?_)))))))))))));refine NB rfl rfl (M4 rfl rfl (MY rfl rfl (O8 (NB rfl rfl (M4 rfl rfl (MY rfl rfl (MC (NB rfl rfl (ME rfl rfl (LU rfl (Mn.qb (e:=[(0,_),(1,_),(2,_),(6,_),(7,_),(15,_)]) ?_)))))))))));exact(av _ _ ⟨rfl,rfl⟩).qb
end
structure Gr where
 n:Nat
 succ:Nat->List Nat
 lt:∀v u,u∈succ v->u<n
inductive Way (G:Gr) (r:Nat):Nat->Nat->Prop
 |root:Way G r 0 r
 |step {k v u:Nat}:Way G r k v->u∈G.succ v->Way G r (k+1) u
def QV (G:Gr)(r k u:Nat):Prop:=Way G r k u/\∀j,j<k->¬Way G r j u
theorem QV.uniq {G:Gr}{r j k u:Nat}(h:QV G r j u)(h':QV G r k u):j=k:=by
 rcases Nat.lt_trichotomy j k with e|e| e
 ·exact absurd h.1 (h'.2 j e)
 ·exact e
 ·exact absurd h'.1 (h.2 k e)
theorem Way.zfW {G:Gr}{r:Nat}:∀{k u:Nat},Way G r k u->∃j,j<=k/\QV G r j u:=by
 intro k
 induction k using Nat.strongRecOn with
 | ind k ih =>
   intro u h;by_cases hm:∃j,j<k/\Way G r j u
   ·obtain⟨j,hj,hw⟩:=hm;obtain⟨i,hi,hd⟩:=ih j hj hw;exact⟨i,by omega,hd⟩
   ·exact⟨k,Nat.le_refl _,h,λj hj hw=>hm ⟨j,hj,hw⟩⟩
theorem QV.pred {G:Gr}{r k u:Nat}(h:QV G r (k+1) u):∃v,QV G r k v/\u∈G.succ v:=by
 obtain⟨h1,h2⟩:=h
 cases h1 with
 | step hv hu =>
   rename_i v
   refine⟨v,⟨hv,λj hj hw=>?_⟩,hu⟩;exact h2 (j+1) (by omega) (.step hw hu)
theorem QV.zfg {G:Gr}{r k v u:Nat}(h:QV G r k v)(hu:u∈G.succ v):∃j,j<=k+1/\QV G r j u:=(Way.step h.1 hu).zfW
theorem QV.root {G:Gr}{r:Nat}:QV G r 0 r:=⟨.root,λj hj=>by omega⟩
theorem QV.zero {G:Gr}{r u:Nat}(h:QV G r 0 u):u=r:=by
 cases h.1 with
 |root=>rfl
structure Lev (G:Gr)(r t:Nat)(d:Nat->Option Nat):Prop where
 has:∀u k,d u=some k->QV G r k u/\k<=t
 all:∀u k,QV G r k u->k<=t->d u=some k
theorem zfc (G:Gr)(r:Nat):Lev G r 0 (λu=>if u=r then some 0 else none):=by
 constructor
 ·intro u k h
  split at h
  ·rename_i e;cases h;subst e;exact⟨.root,Nat.le_refl _⟩
  ·cases h
 ·intro u k h hk;have:k=0:=by omega
  subst this;rw[h.zero];simp
structure SC (G:Gr)(r t:Nat)(d0 d:Nat->Option Nat)(A:Nat->Nat->Prop):Prop where
 old:∀u k,d0 u=some k->d u=some k
 new:∀u,d0 u=none->(d u=some (t+1)/\∃v,d0 v=some t/\A v u/\u∈G.succ v)\/(d u=none/\∀v,d0 v=some t->u∈G.succ v->¬A v u)
theorem SC.fin {G:Gr}{r t:Nat}{d0 d:Nat->Option Nat}(h0:Lev G r t d0)(h:SC G r t d0 d λ_ _=>True):Lev G r (t+1) d:=by
 constructor
 ·intro u k hk
  cases e:d0 u with
  | some j =>
    have:=h.old u j e;rw[hk] at this;cases this;have:=h0.has u k e
    exact⟨this.1,by omega⟩
  | none =>
    rcases h.new u e with⟨h1,v,hv,-,hu⟩|⟨h1,-⟩
    ·rw[hk] at h1;cases h1;obtain⟨j,hj,hd⟩:=(h0.has v t hv).1.zfg hu;have:¬j<=t:=λhjt=>by rw[h0.all u j hd hjt] at e;cases e
     have:j=t+1:=by omega
     subst this;exact⟨hd,Nat.le_refl _⟩
    ·rw[hk] at h1;cases h1
 ·intro u k hd hk;by_cases hkt:k<=t
  ·exact h.old u k (h0.all u k hd hkt)
  ·have:k=t+1:=by omega
   subst this
   have e:d0 u=none:=by
    cases e:d0 u with
    |none=>rfl
    |some j=>have:=h0.has u j e;have:=hd.uniq this.1;omega
   obtain⟨v,hv,hu⟩:=hd.pred;rcases h.new u e with⟨h1,-⟩|⟨-,h2⟩
   ·exact h1
   ·exact absurd trivial (h2 v (h0.all v t hv (Nat.le_refl _)) hu)
theorem RM {g:List (List Nat)}(h:Og g)(v u:Nat)(hu:u∈Mg g v):u<g.length:=by
 unfold Mg at hu
 cases e:g[v]? with
 |none=>rw[e] at hu;cases hu
 |some l=>rw[e] at hu;exact h.lt l (List.mem_of_getElem? e) u hu
def Zl {g:List (List Nat)}(h:Og g):Gr:=⟨g.length,Mg g,RM h⟩
abbrev Ds:=List (Option Nat)
def dF (d:Ds)(u:Nat):Option Nat:=(d[u]?).getD none
def Sc (t:Nat)(d:Ds)(u:Nat):Ds:=if d[u]? =some none then d.set u (some (t+1)) else d
def Yf (t:Nat)(g:List (List Nat))(d:Ds)(v:Nat):Ds:=if dF d v=some t then(Mg g v).foldl (Sc t) d else d
def lvl (t:Nat)(g:List (List Nat))(d:Ds):Ds:=(List.range g.length).foldl (Yf t g) d
theorem Up (t:Nat)(d:Ds)(u:Nat):(Sc t d u).length=d.length:=by
 unfold Sc
 split<;>simp
theorem Su (t:Nat):∀(l:List Nat) (d:Ds),(l.foldl (Sc t) d).length=d.length
 |[],d=>rfl
 |u::l,d=>by rw[List.foldl_cons,Su t l,Up]
theorem z1n (t:Nat)(g:List (List Nat))(d:Ds)(v:Nat):(Yf t g d v).length=d.length:=by
 unfold Yf
 split
 ·exact Su t _ d
 ·rfl
theorem SF (t:Nat)(g:List (List Nat)):∀(l:List Nat) (d:Ds),(l.foldl (Yf t g) d).length=d.length
 |[],d=>rfl
 |v::l,d=>by rw[List.foldl_cons,SF t g l,z1n]
theorem z1E (t:Nat)(g:List (List Nat))(d:Ds):(lvl t g d).length=d.length:=SF t g _ d
theorem z7E {t:Nat}{d:Ds}{u:Nat}(hu:u<d.length)(x:Nat):dF (Sc t d u) x=if x=u/\dF d u=none then some (t+1) else dF d x:=by
 unfold Sc dF
 have e:d[u]? =some d[u]:=List.getElem?_eq_getElem hu
 rw[e]
 by_cases h:d[u]=none
 ·rw[if_pos (by rw[h])];by_cases hx:x=u
  ·subst hx;rw[List.getElem?_set_self hu,if_pos ⟨rfl,h⟩];rfl
  ·rw[List.getElem?_set_ne (λe=>hx e.symm),if_neg (λe=>hx e.1)]
 ·rw[if_neg (λe=>h (Option.some.inj e)),if_neg (λe=>h e.2)]
section
variable {G:Gr}{r t:Nat}{d0 d:Nat->Option Nat}{A B:Nat->Nat->Prop}
theorem SC.step {v u:Nat}(h:SC G r t d0 d A)(hv:d0 v=some t)(hu:u∈G.succ v){d':Nat->Option Nat}(hd':∀x,d' x=if x=u/\d u=none then some (t+1) else d x):SC G r t d0 d' (λv' u'=>A v' u'\/(v'=v/\u'=u)):=by
 constructor
 ·intro x k hx;rw[hd',if_neg]
  ·exact h.old x k hx
  ·rintro⟨rfl,e⟩;rw[h.old _ _ hx] at e;cases e
 ·intro x hx;rw[hd'];rcases h.new x hx with⟨h1,w,h2,h3,h4⟩|⟨h1,h2⟩
  ·left
   rw[if_neg (by rintro⟨rfl,e⟩;rw[h1] at e;cases e)];exact⟨h1,w,h2,.inl h3,h4⟩
  ·by_cases e:x=u
   ·subst e;left;rw[if_pos ⟨rfl,h1⟩];exact⟨rfl,v,hv,.inr ⟨rfl,rfl⟩,hu⟩
   ·right
    rw[if_neg (λe2=>e e2.1)];refine⟨h1,λw hw hu'=>?_⟩;rintro(e2|⟨_,e2⟩)
    ·exact h2 w hw hu' e2
    ·exact e e2
theorem SC.TU (h:SC G r t d0 d A)(hAB:∀v u,d0 v=some t->u∈G.succ v->(A v u↔B v u)):SC G r t d0 d B:=by
 refine⟨h.old,λu hu=>?_⟩
 rcases h.new u hu with⟨h1,v,h2,h3,h4⟩|⟨h1,h2⟩
 ·exact .inl ⟨h1,v,h2,(hAB v u h2 h4).1 h3,h4⟩
 ·exact .inr ⟨h1,λv hv hu hB=>h2 v hv hu ((hAB v u hv hu).2 hB)⟩
theorem SC.zero (G:Gr)(r t:Nat)(d0:Nat->Option Nat):SC G r t d0 d0 λ_ _=>False:=⟨λ_ _ h=>h,λu h=> .inr ⟨h,λ_ _ _=>id⟩⟩
theorem SC.at_ (h:SC G r t d0 d A)(v:Nat):d v=some t↔d0 v=some t:=by
 constructor
 ·intro e
  cases e0:d0 v with
  |some k=>have:=h.old v k e0;rw[this] at e;exact e
  | none =>
    rcases h.new v e0 with⟨h1,-⟩|⟨h1,-⟩
    ·rw[h1] at e;have:=Option.some.inj e;omega
    ·rw[h1] at e;cases e
 ·exact λe=>h.old v t e
end
section
variable {g:List (List Nat)}{r t:Nat}
theorem VY (h:Og g){d0:Nat->Option Nat}{A:Nat->Nat->Prop}{v:Nat}(hv:d0 v=some t):∀(p l:List Nat) (d:Ds),p++l=Mg g v->d.length=g.length->SC (Zl h) r t d0 (dF d) (λv' u'=>A v' u'\/(v'=v/\u'∈p))->SC (Zl h) r t d0 (dF (l.foldl (Sc t) d)) (λv' u'=>A v' u'\/(v'=v/\u'∈Mg g v))
 |p,[],d,e,hd,hm=>by rw[<-e,List.append_nil];exact hm
 | p, u :: l, d, e, hd, hm => by
   have hu:u∈Mg g v:=by rw[<-e];simp
   have hul:u<d.length:=by rw[hd];exact RM h v u hu
   rw[List.foldl_cons];refine VY h hv (p++[u]) l _ (by rw[<-e];simp) (by rw[Up,hd]) ?_;refine(hm.step hv hu (z7E hul)).TU λv' u' _ _=>?_;rw[List.mem_append,List.mem_singleton];constructor
   ·rintro((a|⟨a,b⟩)|⟨a,b⟩)
    ·exact .inl a
    ·exact .inr ⟨a,.inl b⟩
    ·exact .inr ⟨a,.inr b⟩
   ·rintro(a|⟨a,b|b⟩)
    ·exact .inl (.inl a)
    ·exact .inl (.inr ⟨a,b⟩)
    ·exact .inr ⟨a,b⟩
theorem XA (h:Og g){d0:Nat->Option Nat}:∀(n:Nat) (d:Ds),d.length=g.length->dF d=d0->SC (Zl h) r t d0 (dF ((List.range n).foldl (Yf t g) d)) (λv' _=>v'<n)
 |0,d,hd,e=>by rw[<-e];exact(SC.zero _ _ _ _).TU λv u _ _=>by simp
 | n + 1, d, hd, e => by
   have ih:=XA h n d hd e;rw[List.range_succ,List.foldl_append,List.foldl_cons,List.foldl_nil];have hlen:=SF t g (List.range n) d
   generalize (List.range n).foldl (Yf t g) d=d1 at ih hlen
   unfold Yf;by_cases hn:dF d1 n=some t
   ·rw[if_pos hn];have hv:=(ih.at_ n).1 hn;refine(VY h (A:=λv' _=>v'<n) hv [] _ d1 rfl (by omega) (ih.TU λv' u' _ _=>by simp)).TU λv' u' _ hu'=>?_;constructor
    ·rintro(a|⟨a,b⟩)<;>omega
    ·intro a;by_cases e2:v'=n
     ·subst e2;exact .inr ⟨rfl,hu'⟩
     ·exact .inl (by omega)
   ·rw[if_neg hn];refine ih.TU λv' u' hv' hu'=>?_;have:v'≠n:=λe2=>hn (by rw[<-e2];exact(ih.at_ v').2 hv');omega
theorem z8t (h:Og g){d:Ds}(hd:d.length=g.length)(hL:Lev (Zl h) r t (dF d)):Lev (Zl h) r (t+1) (dF (lvl t g d)):=by
 refine SC.fin hL ((XA h g.length d hd rfl).TU λv u hv hu=>?_)
 constructor
 ·intro _;trivial
 ·intro _;by_cases hvg:v<g.length
  ·exact hvg
  ·have:dF d v=none:=by unfold dF;rw[List.getElem?_eq_none (by omega)];rfl
   rw[this] at hv;cases hv
end
/-! ### The same with a flag: whether there were some -/
def PD (t:Nat)(p:Ds×Bool)(u:Nat):Ds×Bool:=if p.1[u]? =some none then(p.1.set u (some (t+1)),true) else p
def RA (t:Nat)(g:List (List Nat))(p:Ds×Bool)(v:Nat):Ds×Bool:=if dF p.1 v=some t then(Mg g v).foldl (PD t) p else p
def XZ (t:Nat)(g:List (List Nat))(d:Ds):Ds×Bool:=(List.range g.length).foldl (RA t g) (d,false)
theorem z6F (t:Nat)(p:Ds×Bool)(u:Nat):(PD t p u).1=Sc t p.1 u:=by
 unfold PD Sc
 split<;>rfl
theorem YR (t:Nat):∀(l:List Nat) (p:Ds×Bool),(l.foldl (PD t) p).1=l.foldl (Sc t) p.1
 |[],p=>rfl
 |u::l,p=>by rw[List.foldl_cons,List.foldl_cons,YR t l,z6F]
theorem z9c (t:Nat)(g:List (List Nat))(p:Ds×Bool)(v:Nat):(RA t g p v).1=Yf t g p.1 v:=by
 unfold RA Yf
 split
 ·exact YR t _ p
 ·rfl
theorem z4j (t:Nat)(g:List (List Nat)):∀(l:List Nat) (p:Ds×Bool),(l.foldl (RA t g) p).1=l.foldl (Yf t g) p.1
 |[],p=>rfl
 |v::l,p=>by rw[List.foldl_cons,List.foldl_cons,z4j t g l,z9c]
theorem zav (t:Nat)(g:List (List Nat))(d:Ds):(XZ t g d).1=lvl t g d:=z4j t g _ _
def Flg (t:Nat)(d0:Ds)(p:Ds×Bool):Prop:=(p.2=false->p.1=d0)/\(p.2=true->∃u,dF p.1 u=some (t+1))
theorem Flg.Sc {t:Nat}{d0:Ds}{p:Ds×Bool}(h:Flg t d0 p)(u:Nat):Flg t d0 (PD t p u):=by
 unfold PD
 by_cases e:p.1[u]? =some none
 ·rw[if_pos e];refine⟨λe2=>(by cases e2),λ_=>⟨u,?_⟩⟩
  have hu:u<p.1.length:=by
   rcases Nat.lt_or_ge u p.1.length with h| h
   ·exact h
   ·rw[List.getElem?_eq_none h] at e;cases e
  unfold dF;rw[List.getElem?_set_self hu];rfl
 ·rw[if_neg e];exact h
theorem Flg.z6d {t:Nat}{d0:Ds}:∀(l:List Nat) {p:Ds×Bool},Flg t d0 p->Flg t d0 (l.foldl (PD t) p)
 |[],_,h=>h
 |u::l,_,h=>by rw[List.foldl_cons];exact Flg.z6d l (h.Sc u)
theorem Flg.zeh {t:Nat}{d0:Ds}{g:List (List Nat)}:∀(l:List Nat) {p:Ds×Bool},Flg t d0 p->Flg t d0 (l.foldl (RA t g) p)
 |[],_,h=>h
 | v :: l, p, h => by
   rw[List.foldl_cons];refine Flg.zeh l ?_;unfold RA;split
   ·exact Flg.z6d _ h
   ·exact h
theorem z7e (t:Nat)(g:List (List Nat))(d:Ds):Flg t d (XZ t g d):=Flg.zeh _ ⟨λ_=>rfl,λe=>by cases e⟩
/-! ### A run -/
structure S5 where
 t:Nat
 done:Bool
 d:Ds
def S5.new (n root:Nat):S5:=⟨0,false,(List.replicate n none).set root (some 0)⟩
def S5.step (g:List (List Nat))(s:S5):S5:=⟨s.t+1,!(XZ s.t g s.d).2,(XZ s.t g s.d).1⟩
structure BfI (g:List (List Nat))(h:Og g)(r:Nat)(s:S5):Prop where
 len:s.d.length=g.length
 lev:Lev (Zl h) r s.t (dF s.d)
 run:s.done=false->∃u,dF s.d u=some s.t
 fin:s.done=true->(∀u,dF s.d u≠some s.t)/\∃u k,dF s.d u=some k/\k+1=s.t
section
variable {g:List (List Nat)}{h:Og g}{r:Nat}{s:S5}
theorem BfI.new (h:Og g)(hr:r<g.length):BfI g h r (S5.new g.length r):=by
 have e:dF (S5.new g.length r).d=λu=>if u=r then some 0 else none:=by
  funext u
  unfold dF S5.new;dsimp only;by_cases hu:u=r
  ·subst hu;rw[List.getElem?_set_self (by simpa using hr),if_pos rfl];rfl
  ·rw[List.getElem?_set_ne (λe=>hu e.symm),if_neg hu,List.getElem?_replicate];split<;>rfl
 refine⟨by simp[S5.new],by rw[e];exact zfc _ r,λ_=>⟨r,by rw[e];simp[S5.new]⟩,λe=>by cases e⟩
theorem BfI.step (hI:BfI g h r s)(hd:s.done=false):BfI g h r (s.step g):=by
 have hF:=z7e s.t g s.d
 have h1:=zav s.t g s.d
 have hl:=z8t h hI.len hI.lev
 rw[<-h1] at hl
 refine⟨?_,hl,λe=>?_,λe=>?_⟩
 ·show(XZ s.t g s.d).1.length=_;rw[h1,z1E];exact hI.len
 ·have e2:(XZ s.t g s.d).2=true:=by simpa[S5.step] using e
  exact hF.2 e2
 ·have e2:(XZ s.t g s.d).2=false:=by simpa[S5.step] using e
  have e3:=hF.1 e2;refine⟨λu hu=>?_,?_⟩
  ·have hu':dF s.d u=some (s.t+1):=by rw[<-e3];exact hu
   have:=(hI.lev.has u _ hu').2;omega
  ·obtain⟨u,hu⟩:=hI.run hd;exact⟨u,s.t,by show dF (XZ s.t g s.d).1 u=_;rw[e3];exact hu,rfl⟩
theorem z1O:∀(n k:Nat) (f:Nat->Nat),(∀i,i<k->f i<n)->(∀i j,i<k->j<k->f i=f j->i=j)->k<=n
 | 0, k, f, h, _ => by
   by_cases e:k=0
   ·omega
   ·have:=h 0 (by omega);omega
 | n + 1, k, f, h, hi => by
   by_cases e:∃i,i<k/\f i=n
   ·obtain⟨i0,h0,e0⟩:=e;have:=z1O n (k-1) (λi=>if i<i0 then f i else f (i+1)) (λi hik=>?_) (λi j hik hjk e=>?_)
    ·omega
    ·try dsimp only
     split
     ·have h1:=h i (by omega);have:f i≠n:=λe=>by have:=hi i i0 (by omega) h0 (by rw[e,e0]);omega
      omega
     ·have h1:=h (i+1) (by omega);have:f (i+1)≠n:=λe=>by have:=hi (i+1) i0 (by omega) h0 (by rw[e,e0]);omega
      omega
    ·try dsimp only at e
     split at e<;>split at e
     ·exact hi i j (by omega) (by omega) e
     ·have:=hi i (j+1) (by omega) (by omega) e;omega
     ·have:=hi (i+1) j (by omega) (by omega) e;omega
     ·have:=hi (i+1) (j+1) (by omega) (by omega) e;omega
   ·have:=z1O n k f (λi hik=>by have h1:=h i hik;have:f i≠n:=λe2=>e ⟨i,hik,e2⟩;omega) hi;omega
theorem QV.below {G:Gr}{r:Nat}:∀{k u:Nat},QV G r k u->∀j,j<=k->∃v,QV G r j v
 |0,u,h,j,hj=>⟨u,by rw[show j=0 by omega];exact h⟩
 | k + 1, u, h, j, hj => by
   by_cases e:j=k+1
   ·rw[e];exact⟨u,h⟩
   ·obtain⟨v,hv,-⟩:=h.pred;exact hv.below j (by omega)
theorem QV.zd9 (h:Og g)(hr:r<g.length){k u:Nat}(hd:QV (Zl h) r k u):k<g.length:=by
 have hex:∀j,∃v,j<=k->QV (Zl h) r j v:=λj=>by
  by_cases hj:j<=k
  ·obtain⟨v,hv⟩:=hd.below j hj;exact⟨v,λ_=>hv⟩
  ·exact⟨0,λe=>absurd e hj⟩
 have hlt:∀{j v:Nat},QV (Zl h) r j v->v<g.length:=fun {j v} hv=>by
  cases hv.1 with
  |root=>exact hr
  |step _ hu=>exact RM h _ _ hu
 have:=z1O g.length (k+1) (λj=>Classical.choose (hex j)) (λi hi=>hlt (Classical.choose_spec (hex i) (by omega))) (λi j hi hj e=>by
  have h1:=Classical.choose_spec (hex i) (by omega);have h2:=Classical.choose_spec (hex j) (by omega)
  try dsimp only at e
  rw[e] at h1
  exact h1.uniq h2)
 omega
theorem BfI.z6j (hI:BfI g h r s)(hr:r<g.length)(hd:s.done=false):s.t<g.length:=by
 obtain⟨u,hu⟩:=hI.run hd
 exact(hI.lev.has u _ hu).1.zd9 h hr
end
theorem z3D {v:Nat}(h:v<=200000):Nat.log2 (v+1)<=17:=by
 have h1:=Nat.log2_self_le (n:=v+1) (by omega)
 have h3:2^Nat.log2 (v+1)<2^18:=by
  have:(2:Nat)^18=262144:=by decide
  omega
 have:=(Nat.pow_lt_pow_iff_right (by decide:1<2)).1 h3
 omega
theorem TH.z97 {k:Nat}{q:Cd×Nat}(h:TH k q)(hk:1<=k/\k<=3):(q.1.enc q.2).length<=40:=by
 rw[T3]
 rcases h with⟨e,h⟩|⟨e,h⟩|⟨e,h⟩
 ·rw[e];show q.2+1+0<=_;omega
 ·have:=z3D h;rw[e];show Nat.log2 (q.2+1)+1+Nat.log2 (q.2+1)<=_;omega
 ·have h3:=z3D h;have h4:Nat.log2 (q.2+1) / k<=Nat.log2 (q.2+1):=Nat.div_le_self _ _;have hm:Nat.log2 (q.2+1) / k*k<=Nat.log2 (q.2+1):=Nat.div_mul_le_self _ _
  have h5:(NY (q.2+1-2^(Nat.log2 (q.2+1) / k*k)) (2^(Nat.log2 (q.2+1) / k*k)*2^k-2^(Nat.log2 (q.2+1) / k*k))).2<=20:=by
   have h6:MF (2^(Nat.log2 (q.2+1) / k*k)*2^k-2^(Nat.log2 (q.2+1) / k*k)-1)<=20:=by
    refine Ny ?_;have h7:=Nat.pow_le_pow_right (show 0<2 by decide) (show Nat.log2 (q.2+1) / k*k+k<=20 by omega);rw[Nat.pow_add] at h7;have:=Nat.two_pow_pos (Nat.log2 (q.2+1) / k*k);omega
   unfold NY;dsimp only;split
   ·show MF _-1<=20;omega
   ·exact h6
  rw[e];show Nat.log2 (q.2+1) / k+1+(NY _ _).2<=_;omega
theorem z2E {p:Oq}(hp:p.N4)(hz:p.zeta<=3){x:Nat}(hx:x<65536){succ ref:List Nat}(hs:Mw succ)(hr:Mw ref){r:Nat}(iR:r<=p.Mh)(I1:succ.length<=40)(yW:ref.length<=40):(Mf (NW p x succ ref r)).length<=6600:=by
 have au:Mw (leftOf succ ref):=hs.sub List.filter_sublist
 have eT:(leftOf succ ref).length<=succ.length:=List.length_filter_le _ _
 have h1:=(Ps succ ref).WL
 rw[List.length_map] at h1
 have h2:=Yu p.interval au
 have h3:=(QS p.interval (leftOf succ ref)).length_le
 have aB:(NW p x succ ref r).length<=165:=by
  unfold NW;rw[List.length_cons];split
  ·simp
  rw[List.length_append,List.length_append];have e1:(if 0<p.Mh then [(Cd.unary,r)] else []).length<=1:=by split<;>simp
  have e2:(if 0<r then(Cd.gamma,(ND succ ref).length-1)::runNums 0 (ND succ ref).dropLast else []).length<=42:=by
   split
   ·rw[List.length_cons,Pp,List.length_dropLast];omega
   ·simp
  have e3:(if leftOf succ ref=[] then [] else(if 0<p.interval then(Cd.gamma,(rowsN p.interval (leftOf succ ref)).1.length)::longNums x p.interval none (rowsN p.interval (leftOf succ ref)).1 else [])++restNums x p.zeta none (rowsN p.interval (leftOf succ ref)).2).length<=121:=by
   split
   ·simp
   ·rw[List.length_append,Pz];split
    ·rw[List.length_cons,OL];omega
    ·simp;omega
  omega
 have:=YK (n:=40) (L:=NW p x succ ref r) (λq hq=>(Wn hp hx hs hr iR q hq).z97 ⟨hp.2.2.1,hz⟩)
 omega
section
variable {p:MZ}{g:List (List Nat)}{E:List (Nat×Nat)}
theorem zaJ (h:Pm p g E)(tE:g.length<=40)(hz:p.zeta<=3){i:Nat}(hi:i<g.length):(U8 p g E i).length<=6600:=by
 unfold U8
 have sH:g[i]? =some g[i]:=List.getElem?_eq_getElem hi
 have qA:i<E.length:=by have:=h.pk.el;omega
 have Gm:E[i]? =some E[i]:=List.getElem?_eq_getElem qA
 have gD:=h.pk.ok.ent i _ Gm
 rw[sH,Gm]
 rw[sH] at gD
 show(Mf (NW p.list i g[i] (Na g i E[i].1) E[i].1)).length<=6600
 have h2:Mw (Na g i E[i].1)/\(Na g i E[i].1).length<=40:=by
  rcases T0 g i E[i].1 with e| e
  ·rw[e];exact⟨⟨List.Pairwise.nil,λy h=>(by cases h)⟩,Nat.zero_le _⟩
  ·exact⟨h.gr.ok _ e,by have:=h.gr.len e;omega⟩
 have iR:E[i].1<=p.list.Mh:=by
  rcases gD with e|⟨-,h3,-⟩
  ·rw[e];exact Nat.zero_le _
  ·exact h3
 have hm:g[i]∈g:=List.getElem_mem hi
 exact z2E h.N4.1 hz (by omega) (h.gr.ok _ hm) h2.1 iR (by have:=h.gr.len hm;omega) h2.2
theorem z7b (h:Pm p g E)(tE:g.length<=40)(hz:p.zeta<=3):∀n,n<=g.length->(N6 p g E n).length<=n*6600
 |0,_=>by simp[N6]
 | n + 1, hn => by
   have:=z7b h tE hz n (by omega);have:=zaJ h tE hz (i:=n) (by omega);rw[Pq,List.length_append,Nat.add_mul];omega
theorem z8y {n u:Nat}(hn:1<=n):(Qj n u).bits<=3*n:=by
 show(u-1) / 2^Ua n u+n<=_
 have h:u<2*n*2^Ua n u:=by
  unfold Ua;split
  ·rename_i e
   have:=(Nat.div_eq_zero_iff).1 e;omega
  ·rename_i e
   have h1:=Td (v:=u / n);have h2:=(Nat.div_lt_iff_lt_mul (by omega)).1 h1;have h3:1<=MF (u / n):=by unfold MF;rw[if_neg e];omega
   rw[show MF (u / n)=MF (u / n)-1+1 by omega,Nat.pow_succ,Nat.mul_comm _ n,Nat.mul_comm _ 2,<-Nat.mul_assoc,Nat.mul_comm n 2] at h2;exact h2
 have h4:(u-1) / 2^Ua n u<2*n:=(Nat.div_lt_iff_lt_mul (Nat.two_pow_pos _)).2 (by omega)
 omega
theorem z83 (h:Pm p g E)(tE:g.length<=40)(hz:p.zeta<=3):(TL p g E).length<=36000:=by
 have h1:=z7b h tE hz g.length (Nat.le_refl _)
 have h2:g.length*6600<=40*6600:=Nat.mul_le_mul_right _ tE
 have h3:(Y3 p g E).size<=2900:=by
  have hw:Ua (g.length+1) ((N6 p g E g.length).length+1)<=30:=VA (by omega);have hb:=z8y (n:=g.length+1) (u:=(N6 p g E g.length).length+1) (by omega);have hm:(g.length+1)*Ua (g.length+1) ((N6 p g E g.length).length+1)<=41*30:=Nat.mul_le_mul (by omega) hw;show 12+((g.length+1)*Ua (g.length+1) ((N6 p g E g.length).length+1)+7) / 8+((Qj (g.length+1) ((N6 p g E g.length).length+1)).bits+7) / 8+4*((g.length+1+63) / 64)<=2900;omega
 rw[h.len]
 unfold Sn
 omega
end
structure WG where
 p:MZ
 g:List (List Nat)
 E:List (Nat×Nat)
 st:Nat
 len:Nat
 rb:Nat
 sum:Nat
 k:Nat
 x:Nat
def OB (G:WG)(Q:NZ)(txt:Int->Bytes)(K:Nat)(X:Nat->Prop)(w:World):Prop:=∃o:StO Q txt K G.st G.len (TL G.p G.g G.E),R7 (z5L o G.rb G.sum) G.k G.x X w
section
variable {G:WG}{w w':World}{Q Q':NZ}{txt txt':Int->Bytes}{K K':Nat}{X Y S':Nat->Prop}
theorem OB.sp (h:OB G Q txt K X w):Sp Q txt K (λb=>X b\/b=G.rb) w:=by obtain⟨o,h⟩:=h;exact h.inv.1
theorem OB.rbB (h:OB G Q txt K X w):LX w G.rb (srC Q.s G.st G.len (TL G.p G.g G.E).length G.sum) 179:=by obtain⟨o,h⟩:=h;exact h.inv.2.1
theorem OB.rbX (h:OB G Q txt K X w):¬X G.rb:=by obtain⟨o,h⟩:=h;exact h.inv.2.2
theorem OB.lt (h:OB G Q txt K X w):∀b,X b->b<w.heap.size:=by obtain⟨o,h⟩:=h;exact h.lt
theorem OB.lt1 (h:OB G Q txt K X w):∀b,(X b\/b=G.rb)->b<w.heap.size:=λb hb=>hb.elim (h.lt b) (λe=>by rw[e];exact h.rbB.lt)
theorem OB.z0T (h:OB G Q txt K X w):K<1000000000000:=by obtain⟨o,h⟩:=h;exact o.k
theorem OB.xk (h:OB G Q txt K X w):X G.k/\X G.x/\X 1/\X 2:=by obtain⟨o,h⟩:=h;exact⟨h.xk,h.xx,h.x1,h.x2⟩
theorem OB.ok (h:OB G Q txt K X w):Pm G.p G.g G.E:=by obtain⟨o,h⟩:=h;exact h.ok
theorem OB.Xe (h:OB G Q txt K X w)(hk:Kp S' w w')(hS:∀b,S' b->¬(X b\/b=G.rb)\/(X b/\b≠G.k/\b≠G.x/\b≠1/\b≠2))(hP:Sp Q' txt' K' (λb=>X b\/b=G.rb) w')(hs:Q'.s=Q.s)(hl:Q'.L.length=Q.L.length)(hK:K'<1000000000000)(ht:∀y:Int,(G.st:Int)<=y->y<(G.st:Int)+(G.len:Int)->txt' y=txt y):OB G Q' txt' K' X w':=by
 have tz:=h.rbX
 have zZ:=h.rbB
 obtain⟨o,h⟩:=h
 have aB:=o.len
 refine⟨⟨hK,by rw[hl];exact o.fit,o.laid.TU λk hk=>ht _ (by omega) (by omega),o.len⟩,h.re hk (λj hj=>?_) ⟨hP,?_,tz⟩⟩
 ·rcases hS j hj with e| e
  ·exact⟨λe2=>e (.inl (e2▸h.xk)),λe2=>e (.inl (e2▸h.xx)),λe2=>e (.inl (e2▸h.x1)),λe2=>e (.inl (e2▸h.x2))⟩
  ·exact e.2
 ·rw[hs];exact hk.LN zZ (λe=>(hS _ e).elim (λe=>e (.inr rfl)) (λe=>tz e.1))
theorem OB.zdM (h:OB G Q txt K X w)(hk:Kp S' w w')(hS:∀b,S' b->¬(X b\/b=G.rb))(bH:∀j,X j->Y j)(hY:∀j,Y j->X j\/(w.heap.size<=j/\j<w'.heap.size))(hP:Sp Q' txt' K' (λb=>Y b\/b=G.rb) w')(hs:Q'.s=Q.s)(hl:Q'.L.length=Q.L.length)(hK:K'<1000000000000)(ht:∀y:Int,(G.st:Int)<=y->y<(G.st:Int)+(G.len:Int)->txt' y=txt y):OB G Q' txt' K' Y w':=by
 have tz:=h.rbX
 have zZ:=h.rbB
 obtain⟨o,h⟩:=h
 have aB:=o.len
 have hI:(z5L (⟨hK,by rw[hl];exact o.fit,o.laid.TU λk hk=>ht _ (by omega) (by omega),o.len⟩:StO Q' txt' K' G.st G.len (TL G.p G.g G.E)) G.rb G.sum).inv Y w':=⟨hP,by rw[hs];exact hk.LN zZ (λe=>hS _ e (.inr rfl)),λe=>(hY _ e).elim tz (λe=>by have:=zZ.lt;omega)⟩
 refine⟨_,⟨h.ok,hk.LN h.LN (λe=>hS _ e (.inl h.xk)),hk.LN h.ix (λe=>hS _ e (.inl h.xx)),bH _ h.xk,bH _ h.xx,hI,λj hj=>?_,bH _ h.x1,bH _ h.x2,hk.LN h.gam (λe=>hS _ e (.inl h.x1)),hk.LN h.una (λe=>hS _ e (.inl h.x2))⟩⟩
 rcases hY j hj with e| e
 ·have:=h.lt j e;have:=hk.size;omega
 ·exact e.2
theorem OB.grow (h:OB G Q txt K X w)(hx:Ext w w')(hY:∀j,Y j->X j\/(w.heap.size<=j/\j<w'.heap.size))(bH:∀j,X j->Y j):OB G Q txt K Y w':=by
 obtain⟨o,h⟩:=h
 exact⟨o,h.grow hx hY bH⟩
theorem OB.ext (h:OB G Q txt K X w)(hx:Ext w w'):OB G Q txt K X w':=h.grow hx (λj hj=> .inl hj) λj hj=>hj
theorem OB.own (h:OB G Q txt K X w)(hk:Kp S' w w')(hS:∀j,S' j->X j/\j≠G.k/\j≠G.x/\j≠1/\j≠2):OB G Q txt K X w':=by
 obtain⟨o,h⟩:=h
 exact⟨o,h.own hk hS⟩
theorem OB.step (h:OB G Q txt K X w)(hk:Kp S' w w')(hS:∀j,S' j->X j/\j≠G.k/\j≠G.x/\j≠1/\j≠2)(hY:∀j,Y j->X j\/(w.heap.size<=j/\j<w'.heap.size))(bH:∀j,X j->Y j):OB G Q txt K Y w':=by
 obtain⟨o,h⟩:=h
 exact⟨o,h.step hk hS hY bH⟩
theorem OB.less (h:OB G Q txt K Y w)(bH:∀j,X j->Y j)(hx:X G.k/\X G.x/\X 1/\X 2):OB G Q txt K X w:=by
 obtain⟨o,h⟩:=h
 exact⟨o,h.less bH hx.1 hx.2.1 hx.2.2.1 hx.2.2.2⟩
theorem OB.more (h:OB G Q txt K X w)(hK:K<=K')(oB:K'<1000000000000):OB G Q txt K' X w:=h.Xe (S':=λ_=>False) (Kp.refl _ w) (λ_ e=>e.elim) (h.sp.more hK) rfl rfl oB λ_ _ _=>rfl
theorem Wy (h:OB G Q txt K X w):Mm Tryz.prog 27 [ptr G.k 0] w λv w'=>v=I (G.g.length:Int)/\w'=w:=by
 obtain⟨o,h⟩:=h
 exact z9g h
theorem z1S {l bk bi v:Nat}(iV:G.g.length<50)(hv:v<G.g.length)(h:OB G Q txt K X w)(gd:LX w bk [ptr G.k 0] 28)(uv:LX w bi [I (v:Int)] 3)(Z:Nat->Prop)(hZ:∀j,Z j->X j)(J:(Nat->Prop)->Nat->World->Prop)(F:World->Prop)
  (h0:∀(Y:Nat->Prop) (w':World),(∀j,X j->Y j)->(∀j,Y j->X j\/w.heap.size<=j)->OB G Q txt K Y w'->Kp (λj=>¬X j) w w'->J Y 0 w')
  (hround:∀(Y:Nat->Prop) (i s:Nat) (w':World),(∀j,X j->Y j)->(∀j,Y j->X j\/w.heap.size<=j)->(Mg G.g v)[i]? =some s->J Y i w'->Z8 Tryz.prog l [Ms s,I 0] w' λr w''=>(r= .bool true/\J Y (i+1) w''/\Kp (λj=>¬Y j\/Z j) w' w'')\/(r= .bool false/\F w'')):
  Mm Tryz.prog 93 [.func (.yield l) #[] #[],ptr bk 0,ptr bi 0] w λr w'=>r= .tuple #[]/\((∃Y,(∀j,X j->Y j)/\(∀j,Y j->X j\/w.heap.size<=j)/\J Y (Mg G.g v).length w')\/F w'):=by
 obtain⟨o,h⟩:=h
 exact z3c iV hv h gd uv Z hZ J F (λY w' h1 h2 h3 h4=>h0 Y w' h1 h2 ⟨o,h3⟩ h4) hround
end
def bfC (t:Nat)(dn:Bool)(k vb:Nat)(br:Bool):List Value:=[I (t:Int),.bool dn,ptr k 0,ptr vb 0,.bool br]
structure Qo (G:WG)(Q:NZ)(txt:Int->Bytes)(K:Nat)(X:Nat->Prop)(rr vb sv:Nat)(t:Nat)(dn:Bool)(xs:List Nat)(w:World):Prop where
 g:OB G Q txt K X w
 run:LX w rr (bfC t dn G.k vb false) 88
 vec:St Q txt vb 4 sv xs w
 xr:X rr/\X vb
 ne:rr≠vb/\rr≠G.k/\rr≠G.x/\rr≠1/\rr≠2/\vb≠G.k/\vb≠G.x/\vb≠1/\vb≠2
 RT:G.st+G.len<=sv
 len:xs.length=G.g.length
 n:G.g.length<=40
 t:t<=1000000
section
variable {G:WG}{w w':World}{Q Q':NZ}{txt txt':Int->Bytes}{K K':Nat}{X Y S':Nat->Prop}{rr vb sv t:Nat}{dn:Bool}{xs ys:List Nat}
theorem Qo.cells (h:Qo G Q txt K X rr vb sv t dn xs w):LX w rr [I (t:Int),.bool dn,ptr G.k 0,ptr vb 0,.bool false] 88:=h.run
theorem Qo.ext (h:Qo G Q txt K X rr vb sv t dn xs w)(hx:Ext w w'):Qo G Q txt K X rr vb sv t dn xs w':=⟨h.g.ext hx,hx.LN h.run,h.vec.ext hx,h.xr,h.ne,h.RT,h.len,h.n,h.t⟩
theorem Qo.grow (h:Qo G Q txt K X rr vb sv t dn xs w)(hx:Ext w w')(hY:∀j,Y j->X j\/(w.heap.size<=j/\j<w'.heap.size))(bH:∀j,X j->Y j):Qo G Q txt K Y rr vb sv t dn xs w':=⟨h.g.grow hx hY bH,hx.LN h.run,h.vec.ext hx,⟨bH _ h.xr.1,bH _ h.xr.2⟩,h.ne,h.RT,h.len,h.n,h.t⟩
theorem Qo.less (h:Qo G Q txt K Y rr vb sv t dn xs w)(bH:∀j,X j->Y j)(hx:X G.k/\X G.x/\X 1/\X 2)(hr:X rr/\X vb):Qo G Q txt K X rr vb sv t dn xs w:=⟨h.g.less bH hx,h.run,h.vec,hr,h.ne,h.RT,h.len,h.n,h.t⟩
theorem Qo.more (h:Qo G Q txt K X rr vb sv t dn xs w)(hK:K<=K')(oB:K'<1000000000000):Qo G Q txt K' X rr vb sv t dn xs w:=⟨h.g.more hK oB,h.run,h.vec,h.xr,h.ne,h.RT,h.len,h.n,h.t⟩
theorem Qo.own (h:Qo G Q txt K X rr vb sv t dn xs w)(hk:Kp S' w w')(hS:∀j,S' j->X j/\j≠G.k/\j≠G.x/\j≠1/\j≠2/\j≠rr/\j≠vb):Qo G Q txt K X rr vb sv t dn xs w':=
 ⟨h.g.own hk (λj e=>⟨(hS j e).1,(hS j e).2.1,(hS j e).2.2.1,(hS j e).2.2.2.1,(hS j e).2.2.2.2.1⟩),hk.LN h.run (λe=>(hS _ e).2.2.2.2.2.1 rfl),h.vec.kp hk (λe=>(hS _ e).2.2.2.2.2.2 rfl),h.xr,h.ne,h.RT,h.len,h.n,h.t⟩
theorem Qo.read (h:Qo G Q txt K X rr vb sv t dn xs w)(hk:Kp (λb=>¬(X b\/b=G.rb)) w w')(hP:Sp Q txt K (λb=>X b\/b=G.rb) w'):Qo G Q txt K X rr vb sv t dn xs w':=
 ⟨h.g.Xe hk (λb e=> .inl e) hP rfl rfl h.g.z0T (λ_ _ _=>rfl),hk.LN h.run (λe=>e (.inl h.xr.1)),h.vec.kp hk (λe=>e (.inl h.xr.2)),h.xr,h.ne,h.RT,h.len,h.n,h.t⟩
theorem Qo.wrote (h:Qo G Q txt K X rr vb sv t dn xs w)(hK:K'<1000000000000)(hl:ys.length=xs.length)(hW:VcW Q txt K' (λb=>X b\/b=G.rb) vb 4 sv ys w w'):∃txt',Qo G Q txt' K' X rr vb sv t dn ys w'/\(∀y:Int,y<(sv:Int)\/(sv:Int)+(Q8 xs.length 128:Int)<=y->txt' y=txt y)/\Kp (λb=>¬(X b\/b=G.rb)) w w':=by
 obtain⟨txt',hP,hv,ht,hk⟩:=hW
 have hd:=h.RT
 exact⟨txt',⟨h.g.Xe hk (λb e=> .inl e) hP rfl rfl hK (λy h1 h2=>ht y (.inl (by omega))),hk.LN h.run (λe=>e (.inl h.xr.1)),hv,h.xr,h.ne,h.RT,by rw[hl];exact h.len,h.n,h.t⟩,λy hy=>ht y (by rw[hl];exact hy),hk⟩
theorem z0h (n:Nat)(hn:n<4294967296)(w:World):Mm Tryz.prog 37 [Ms n] w λv w'=>v=S (Ql 4 n)/\Ext w w':=by
 have hb:(Ql 4 n).map Px=[Value.int .u8 ((n / 16777216%256:Nat):Int),Value.int .u8 ((n / 65536%256:Nat):Int),Value.int .u8 ((n / 256%256:Nat):Int),Value.int .u8 ((n%256:Nat):Int)]:=by
  simp[Ql,Px,List.range_succ]
 refine It (e:=[(0,_)]) Tryz.func37 rfl Tryz.ntmps37 rfl rfl (qN rfl (M6 rfl (qM rfl (LM rfl (qV (Qm 24 16777216 rfl rfl (by decide) rfl) (qV (z0G rfl N5 U5) (LM rfl (qV (Qm 16 65536 rfl rfl (by decide) rfl) (qV (z0G rfl N5 U5) (LM rfl (qV (Qm 8 256 rfl rfl (by decide) rfl) (qV (z0G rfl N5 U5) (LM rfl ?_)))))))))))))
 refine qV (z0G rfl N5 U5) (LV rfl rfl (Uu (cs:=[_,_,_,_]) (zs:=[Value.int .u8 0,Value.int .u8 0,Value.int .u8 0,Value.int .u8 0]) N1 TQ rfl (by kernel_rfl) rfl rfl rfl (by decide)) ?_)
 rintro _ w1 ⟨b1,rfl,⟨bR,ad,ai⟩,-⟩
 have fC:LX w1 b1 ((Ql 4 n).map Px) 5:=by
  rw[hb];exact ai
 refine qV (z2l (l:=Ql 4 n) N1 U5 U9 rfl fC (by rw[List.drop_zero];exact List.take_of_length_le (by rw[List.length_map,Mz];omega)) (Mz _ _)) ?_
 refine LU rfl (LP Tryz.func37 rfl ?_)
 exact⟨_,rfl,rfl,ad⟩
theorem Rn (h:Qo G Q txt K X rr vb sv t dn xs w):Mm Tryz.prog 32 [ptr rr 0] w λv w'=>v=I 0/\w'=w:=by
 have hB:=h.cells
 refine It (e:=[(0,_)]) Tryz.func32 rfl Tryz.ntmps32 rfl rfl (qN rfl (LU rfl (run_seq (LK (qN rfl (LM rfl (qV (MU U34 rfl rfl) (LU rfl (An rfl (qN rfl (LM rfl (Mp rfl (M0 z7v rfl ?_)))))))))))))
 refine qV (LR U4 rfl rfl hB rfl) (LU rfl (An rfl (py (LL (qN rfl (LU rfl (LP Tryz.func32 rfl ?_)))))))
 exact⟨_,rfl,rfl,rfl⟩
theorem z0C (h:Qo G Q txt K X rr vb sv t dn xs w):Mm Tryz.prog 15 [ptr rr 0] w λv w'=>v=I (t:Int)/\w'=w:=by
 have hB:=h.cells
 refine It (e:=[(0,_)]) Tryz.func15 rfl Tryz.ntmps15 rfl rfl (qN rfl (LU rfl (run_seq (qN rfl (LM rfl (qV (MU U34 rfl rfl) (LO (An rfl (py (qN rfl (LM rfl (Mp rfl (M0 Qn rfl ?_)))))))))))))
 refine M0 Vk rfl (qV (LR U3 rfl rfl hB rfl) (LU rfl (LP Tryz.func15 rfl ?_)))
 exact⟨_,rfl,rfl,rfl⟩
theorem Yw (h:Qo G Q txt K X rr vb sv t true xs w){i x:Nat}(hi:xs[i]? =some x):Mm Tryz.prog 12 [ptr rr 0,I (i:Int)] w λv w'=>v= .tuple #[M7 (if x=4294967295 then 18446744073709551615 else x),I 0]/\Qo G Q txt K X rr vb sv t true xs w'/\Kp (λb=>¬(X b\/b=G.rb)) w w':=by
 have hB:=h.cells
 have hx:=(h.vec.ze3 hi).2
 refine It (e:=[(0,_),(1,_)]) Tryz.func12 rfl Tryz.ntmps12 rfl rfl (qN rfl (M6 rfl (LU rfl (run_seq (qN rfl (LM rfl (Mb z9j rfl (Rn h) ?_)))))))
 rintro _ w ⟨rfl,rfl⟩
 refine M6 rfl (qM rfl (LM rfl (MY rfl rfl (LO (An rfl (py (run_seq (qN rfl (LM rfl (Mp rfl (M0 Qn rfl (M0 XH rfl (qV (LR U4 rfl rfl hB rfl) ?_)))))))))))))
 refine qV ((by first|exact ML rfl|exact Oh rfl)) ?_
 refine LO (An rfl (py (qN rfl (LM rfl (Mp rfl (M0 S1 rfl (qV (LR U80 rfl rfl hB rfl) (LM rfl (Mb zaV rfl (Vq h.g.sp h.g.lt1 h.g.z0T h.vec (.inl h.xr.2) hi) ?_)))))))))
 rintro _ w1 ⟨rfl,jt,aK⟩
 have h1:=h.read aK jt
 refine LM rfl (MW rfl rfl (MW rfl rfl (M6 rfl (LU rfl (Mn.qb (e:=[(4,_),(5,_),(7,_),(8,_)]) ?_)))))
 refine run_seq (qN rfl (LM rfl ?_))
 by_cases e:x=4294967295
 ·refine NS rfl rfl (O8 (LO (M3 rfl (qN rfl (LM rfl (M6 rfl (LU rfl (LP Tryz.func12 rfl ?_))))))));rw[if_pos e];exact⟨_,rfl,rfl,h1,aK⟩
 ·refine NS rfl rfl (MC (LO (An rfl (py (qN rfl (M4 rfl rfl (M6 rfl (LU rfl (LP Tryz.func12 rfl ?_)))))))));rw[if_neg e];exact⟨_,rfl,rfl,h1,aK⟩
end
theorem z4Y {P:Program}{f:FuncId}{R:Value->World->Prop}{n:Nat}{rd:Option Nat}{ms:List Dfr}{dk:Bool}{k:List Item}{e:Env}{w:World}{α:Type}{c:Code}(x0:α)(M:α->List Dfr)(hM:M x0=ms)(E:α->Env)(I:α->World->Prop)(μ:α->Nat)(hE:Sub (E x0) e)(hI:I x0 w)
  (round:∀x w,I x w->(∀y w',I y w'->μ y<μ x->Mn ⟨P,f,R,n,rd,M y,dk⟩ (.inLoop c::k) (E y) w')->Mn ⟨P,f,R,n,rd,M x,dk⟩ (.code c:: .inLoop c::k) (E x) w):Mn ⟨P,f,R,n,rd,ms,dk⟩ (.code (.loop c)::k) e w:=by
 have key:∀m x w,μ x=m->I x w->Mn ⟨P,f,R,n,rd,M x,dk⟩ (.code c:: .inLoop c::k) (E x) w:=by
  intro m
  induction m using Nat.strongRecOn with
  | _ m ih =>
    intro x w hm hx;exact round x w hx λy w' hy aP=>XG (ih (μ y) (hm▸aP) y w' rfl hy)
 subst hM
 exact λa ha=>Sr.step (λ_ _=>stepR_loop) (key _ x0 w rfl hI a (ha.sub hE))
theorem Ol.kp {ms:List Dfr}{w w':World}{S:Nat->Prop}(h:Ol ms w)(hk:Kp S w w')(hS:∀D,.mk D∈ms->¬S D):Ol ms w':=λd hd=>by
 obtain⟨D,rfl,hD⟩:=h d hd
 exact⟨D,rfl,hk.heap hD (hS D hd)⟩
theorem Ol.nil (w:World):Ol [] w:=λd hd=>by cases hd
theorem Ol.cons {ms:List Dfr}{w:World}{D:Nat}(h:Ol ms w)(hD:w.heap[D]? =some (.deferred (some []))):Ol (.mk D::ms) w:=λd hd=>by
 rcases List.mem_cons.1 hd with rfl| e
 ·exact⟨D,rfl,hD⟩
 ·exact h d e
theorem XL:∀(ms:List Dfr) (w:World),Kp (λk=> .mk k∈ms) w (PN ms w)
 |[],w=>Kp.refl _ w
 | .mk D::ms,w=>((Ng w D (.deferred none)).LZ λk e=>by rw[e];exact List.mem_cons_self).trans ((XL ms _).LZ λk e=>List.mem_cons_of_mem _ e)
 | .call f c a::ms,w=>(XL ms w).LZ λk e=>List.mem_cons_of_mem _ e
structure MkN (B:Nat)(ms:List Dfr)(w:World):Prop where
 nd:ms.Nodup
 m:Ol ms w
 lo:∀D,.mk D∈ms->B<=D
 hi:∀D,.mk D∈ms->D<w.heap.size
theorem MkN.nil (B:Nat)(w:World):MkN B [] w:=⟨List.nodup_nil,.nil w,λ_ h=>(by cases h),λ_ h=>(by cases h)⟩
theorem MkN.kp {B:Nat}{ms:List Dfr}{w w':World}{S:Nat->Prop}(h:MkN B ms w)(hk:Kp S w w')(hS:∀D,.mk D∈ms->¬S D):MkN B ms w':=⟨h.nd,h.m.kp hk hS,h.lo,λD hD=>by have:=h.hi D hD;have:=hk.size;omega⟩
theorem MkN.cons {B:Nat}{ms:List Dfr}{w w':World}(h:MkN B ms w)(hB:B<=w.heap.size)(h':MkN B ms w')(hD:w'.heap[w.heap.size]? =some (.deferred (some [])))(hz:w.heap.size<w'.heap.size):MkN B (.mk w.heap.size::ms) w':=
 ⟨List.nodup_cons.2 ⟨λe=>by have:=h.hi _ e;omega,h.nd⟩,h'.m.cons hD,λD e=>by
  rcases List.mem_cons.1 e with e| e
  ·cases e;exact hB
  ·exact h.lo D e,λD e=>by
  rcases List.mem_cons.1 e with e| e
  ·cases e;exact hz
  ·exact h'.hi D e⟩
abbrev nv:Nat:=4294967295
def OH (t:Nat)(p:List Nat×Bool)(u:Nat):List Nat×Bool:=if p.1[u]? =some nv then(p.1.set u (t+1),true) else p
def Rq (t:Nat)(g:List (List Nat))(p:List Nat×Bool)(v:Nat):List Nat×Bool:=if p.1[v]? =some t then(Mg g v).foldl (OH t) p else p
def Y0 (t:Nat)(g:List (List Nat))(xs:List Nat):List Nat×Bool:=(List.range g.length).foldl (Rq t g) (xs,false)
theorem z2j (t:Nat)(p:List Nat×Bool)(u:Nat):(OH t p u).1.length=p.1.length:=by
 unfold OH
 split<;>simp
theorem SH (t:Nat):∀(l:List Nat) (p:List Nat×Bool),(l.foldl (OH t) p).1.length=p.1.length
 |[],p=>rfl
 |u::l,p=>by rw[List.foldl_cons,SH t l,z2j]
theorem z4w (t:Nat)(g:List (List Nat))(p:List Nat×Bool)(v:Nat):(Rq t g p v).1.length=p.1.length:=by
 unfold Rq
 split
 ·exact SH t _ p
 ·rfl
def dN:Option Nat->Nat
 |none=>nv
 |some k=>k
def O2 (d:Ds):List Nat:=d.map dN
def UD (d:Ds):Prop:=∀(u k:Nat),d[u]? =some (some k)->k<nv
theorem Vx (d:Ds)(u:Nat):(O2 d)[u]? =(d[u]?).map dN:=List.getElem?_map ..
theorem z26 {d:Ds}(h:UD d)(u:Nat):(O2 d)[u]? =some nv↔d[u]? =some none:=by
 rw[Vx]
 cases e:d[u]? with
 |none=>simp
 | some o =>
   cases o with
   |none=>simp[dN]
   | some k =>
     have:=h u k e;simp[dN];omega
theorem z22 {t:Nat}(ht:t+1<nv){p:Ds×Bool}(h:UD p.1)(u:Nat):OH t (O2 p.1,p.2) u=(O2 (PD t p u).1,(PD t p u).2)/\UD (PD t p u).1:=by
 unfold OH PD
 have hn:=z26 h u
 by_cases e:p.1[u]? =some none
 ·rw [if_pos (hn.2 e), if_pos e]; refine ⟨?_, λx k hx => ?_⟩
  ·dsimp only;unfold O2;rw[List.map_set]
   rfl
  ·dsimp only at hx;by_cases Gn:u=x
   ·subst Gn
    have hu:u<p.1.length:=by
     rcases Nat.lt_or_ge u p.1.length with h| h
     ·exact h
     ·rw[List.getElem?_eq_none h] at e;cases e
    rw[List.getElem?_set_self hu] at hx;cases hx;exact ht
   ·rw[List.getElem?_set_ne Gn] at hx;exact h x k hx
 ·rw[if_neg (λe2=>e (hn.1 e2)),if_neg e];exact⟨rfl,h⟩
theorem VW {t:Nat}(ht:t+1<nv):∀(l:List Nat) {p:Ds×Bool},UD p.1->l.foldl (OH t) (O2 p.1,p.2)=(O2 (l.foldl (PD t) p).1,(l.foldl (PD t) p).2)/\UD (l.foldl (PD t) p).1
 |[],p,h=>⟨rfl,h⟩
 | u :: l, p, h => by
   obtain⟨h1,h2⟩:=z22 ht h u;rw[List.foldl_cons,List.foldl_cons,h1];exact VW ht l h2
theorem z63 {d:Ds}{t:Nat}(ht:t+1<nv)(v:Nat):(O2 d)[v]? =some t↔dF d v=some t:=by
 rw[Vx]
 unfold dF
 cases e:d[v]? with
 |none=>simp
 | some o =>
   cases o with
   |none=>simp[dN];omega
   |some k=>simp[dN]
theorem z11 {t:Nat}(ht:t+1<nv)(g:List (List Nat)):∀(l:List Nat) {p:Ds×Bool},UD p.1->l.foldl (Rq t g) (O2 p.1,p.2)=(O2 (l.foldl (RA t g) p).1,(l.foldl (RA t g) p).2)/\UD (l.foldl (RA t g) p).1
 |[],p,h=>⟨rfl,h⟩
 | v :: l, p, h => by
   have h3:=z63 (d:=p.1) ht v;have h4:=VW ht (Mg g v) h;rw[List.foldl_cons,List.foldl_cons]
   have e:Rq t g (O2 p.1,p.2) v=(O2 (RA t g p v).1,(RA t g p v).2)/\UD (RA t g p v).1:=by
    unfold Rq RA;by_cases e:dF p.1 v=some t
    ·rw[if_pos (h3.2 e),if_pos e];exact h4
    ·rw[if_neg (λe2=>e (h3.1 e2)),if_neg e];exact⟨rfl,h⟩
   rw[e.1];exact z11 ht g l e.2
section
variable {G:WG}{w w':World}{Q Q':NZ}{txt txt':Int->Bytes}{K K':Nat}{X Y S':Nat->Prop}{rr vb sv t:Nat}{dn:Bool}{xs ys:List Nat}
structure LvI (G:WG)(Q:NZ)(txt:Int->Bytes)(K:Nat)(X Y:Nat->Prop)(rr vb sv t:Nat)(dn:Bool)(n0:Nat)(br b2 b3:Nat)(w:World)(p:List Nat×Bool)(w':World):Prop where
 ex:∃txt',Qo G Q txt' K Y rr vb sv t dn p.1 w'/\∀y:Int,y<(sv:Int)\/(sv:Int)+(Q8 n0 128:Int)<=y->txt' y=txt y
 br:LX w' br [ptr rr 0] 34
 b2:LX w' b2 [.bool p.2] 4
 b3:LX w' b3 [I 0] 35
 k:Kp (λb=>¬X b) w w'
theorem Qo.list (h:Qo G Q txt K X rr vb sv t dn xs w)(hg:OB G Q txt K Y w')(hk:Kp (λj=>¬X j) w w')(bH:∀j,X j->Y j):Qo G Q txt K Y rr vb sv t dn xs w':=
 ⟨hg,hk.LN h.run (λe=>e h.xr.1),h.vec.kp hk (λe=>e h.xr.2),⟨bH _ h.xr.1,bH _ h.xr.2⟩,h.ne,h.RT,h.len,h.n,h.t⟩
theorem VcW.kp {vb width st:Nat}{ys:List Nat}(h:VcW Q txt K X vb width st ys w w'):Kp (λb=>¬X b) w w':=by
 obtain⟨txt',-,-,-,hk⟩:=h
 exact hk
theorem LvI.own {n0 br b2 b3:Nat}{p:List Nat×Bool}{w0:World}(h:LvI G Q txt K X Y rr vb sv t dn n0 br b2 b3 w0 p w)(hk:Kp S' w w')(hS:∀j,S' j->Y j/\j≠G.k/\j≠G.x/\j≠1/\j≠2/\j≠rr/\j≠vb/\j≠br/\j≠b2/\j≠b3/\w0.heap.size<=j):LvI G Q txt K X Y rr vb sv t dn n0 br b2 b3 w0 p w':=by
 obtain⟨⟨txt',h1,h2⟩,h3,h4,h5,h6⟩:=h
 refine⟨⟨txt',h1.own hk (λj e=>?_),h2⟩,hk.LN h3 (λe=>?_),hk.LN h4 (λe=>?_),hk.LN h5 (λe=>?_),h6.LJ hk λj e=> .inl ?_⟩
 ·obtain⟨a1,a2,a3,a4,a5,a6,a7,-⟩:=hS j e;exact⟨a1,a2,a3,a4,a5,a6,a7⟩
 ·exact(hS _ e).2.2.2.2.2.2.2.1 rfl
 ·exact(hS _ e).2.2.2.2.2.2.2.2.1 rfl
 ·exact(hS _ e).2.2.2.2.2.2.2.2.2.1 rfl
 ·exact(hS _ e).2.2.2.2.2.2.2.2.2.2
theorem LvI.more {n0 br b2 b3:Nat}{p:List Nat×Bool}{w0:World}(h:LvI G Q txt K X Y rr vb sv t dn n0 br b2 b3 w0 p w)(hK:K<=K')(oB:K'<1000000000000):LvI G Q txt K' X Y rr vb sv t dn n0 br b2 b3 w0 p w:=by
 obtain⟨⟨txt',h1,h2⟩,h3,h4,h5,h6⟩:=h
 exact⟨⟨txt',h1.more hK oB,h2⟩,h3,by assumption,by assumption,by assumption⟩
theorem z0q (h : Qo G Q txt K X rr vb sv t dn xs w)(hK : K <= 800000000000)(cK : 1 <= G.g.length) : Mm Tryz.prog 33 [ptr rr 0] w λv w' => v = .tuple #[.bool (Y0 t G.g xs).2, I 0] /\ ∃ txt', Qo G Q txt' (K + 3200) X rr vb sv t dn (Y0 t G.g xs).1 w' /\ (∀ y : Int, y < (sv : Int) \/ (sv : Int) + (Q8 xs.length 128 : Int) <= y -> txt' y = txt y) /\ Kp (λb => ¬ X b) w w' := by
 have pU:=h.n
 have rY:=h.t
 have yk:=h.g.ok.gr
 have aP:=h.g.lt1
 refine It (e:=[(0,_)]) Tryz.func33 rfl Tryz.ntmps33 rfl rfl (qN rfl (LV rfl rfl (NN rfl (cs:=[ptr rr 0]) rfl) ?_))
 rintro _ w1 ⟨br,rfl,BV,ad,ai⟩
 refine LV rfl rfl (O9 (cs:=[_]) RX rfl) ?_
 rintro _ w2 ⟨b2,rfl,bY,af,am⟩
 refine LV rfl rfl (O9 (cs:=[_]) z4Z rfl) ?_
 rintro _ w3 ⟨b3,rfl,en,ah,aq⟩
 have cI:=(ad.trans af).trans ah
 have z1:=ad.size
 have z2:=af.size
 have z3:=ah.size
 have tF:=(af.trans ah).LN ai
 have cA:=ah.LN am
 have l1:=ai.lt
 have l2:=am.lt
 have l3:=aq.lt
 obtain⟨X0,yl⟩:∃X0:Nat->Prop,(λj=>X j\/j=br\/j=b2\/j=b3)=X0:=⟨_,rfl⟩
 have gH:∀j,X j->X0 j:=λj hj=>by rw[<-yl];exact .inl hj
 have JE:∀j,X0 j->X j\/w.heap.size<=j:=λj hj=>by rw[<-yl] at hj;exact hj.imp id λe=>by omega
 have aY:X0 br/\X0 b2/\X0 b3:=by rw[<-yl];exact⟨.inr (.inl rfl),.inr (.inr (.inl rfl)),.inr (.inr (.inr rfl))⟩
 have h3:Qo G Q txt K X0 rr vb sv t dn xs w3:=h.grow cI (λj hj=>by rw[<-yl] at hj;exact hj.imp id λe=>by omega) gH
 have Lr:=aP rr (.inl h.xr.1)
 have EX:=aP vb (.inl h.xr.2)
 have ym:=aP _ (.inl h.g.xk.1)
 have Ls:=aP _ (.inl h.g.xk.2.1)
 have A0:=aP _ (.inl h.g.xk.2.2.1)
 have Lt:=aP _ (.inl h.g.xk.2.2.2)
 have B7:=aP _ (.inr rfl)
 have yn:=h3.cells
 refine LO (run_seq (qN rfl (qV ((by first|exact LR U34 rfl rfl tF rfl|exact LR U34 rfl rfl yn rfl)) ?_)))
 refine Mp rfl (M0 z2d rfl (qV ((by first|exact LR YS rfl rfl tF rfl|exact LR YS rfl rfl yn rfl)) ?_))
 refine Mb z8X rfl (Wy h3.g) ?_
 rintro _ w3 ⟨rfl,rfl⟩
 refine LM rfl (LO (LK (z4Y (α:=Nat×(List Nat×Bool)×List Dfr) ((0,(xs,false),[])) (λy=>y.2.2) rfl (λy=>[(1,ptr br 0),(2,ptr b2 0),(3,ptr b3 0),(16,I (G.g.length:Int)),(17,I (y.1:Int))]) (λy w'=>y.1<=G.g.length/\y.2.1=(List.range y.1).foldl (Rq t G.g) (xs,false)/\y.2.1.1.length=xs.length/\LvI G Q txt (K+64*y.1) X (λj=>X0 j\/ .mk j∈y.2.2) rr vb sv t dn xs.length br b2 b3 w y.2.1 w'/\MkN w3.heap.size y.2.2 w'/\w3.heap.size<=w'.heap.size) (λy=>G.g.length-y.1) (by repeat (first|exact Sub.nil|refine Sub.cons rfl ?_)) ?hI ?hround)))
 case hI=>exact⟨Nat.zero_le _,rfl,rfl,⟨⟨txt,h3.less (λj hj=>hj.elim id (λe=>by cases e)) ⟨.inl h3.g.xk.1,.inl h3.g.xk.2.1,.inl h3.g.xk.2.2.1,.inl h3.g.xk.2.2.2⟩ ⟨.inl h3.xr.1,.inl h3.xr.2⟩,λy _=>rfl⟩,tF,cA,aq,cI.kp⟩,MkN.nil _ _,Nat.le_refl _⟩
 case hround =>
  rintro⟨v,p,ms⟩ w4 ⟨hv,hp,dZ,kd,jr,zL⟩ ih;dsimp only at hv hp dZ kd jr zL ih⊢;obtain⟨⟨txt4,h4,yo⟩,tG,ep,cG,ax⟩:=id kd;have yp:=h4.cells
  have E3:∀D,.mk D∈ms->¬X0 D:=λD hD e=>by
   have:=jr.lo D hD;rw[<-yl] at e;rcases e with e| e
   ·have:=aP D (.inl e);omega
   ·omega
  try dsimp only
  refine qN rfl (Nr rfl rfl (LO (run_seq (LY rfl (λhq=>?_) (λhq=>?_)))))
  ·have eY : v < G.g.length := by omega
   obtain⟨x,hx⟩:∃x,p.1[v]? =some x:=⟨_,List.getElem?_eq_getElem (by rw[dZ,h.len];exact eY)⟩;have JF:=(h4.vec.t v x hx).2;refine py (run_seq (LK (qN rfl (LM rfl (M6 rfl (qM rfl (qV ((by first|exact LR U34 rfl rfl tG rfl|exact LR U34 rfl rfl yp rfl)) ?_)))))));refine Mp rfl (M0 S1 rfl (qV ((by first|exact LR U80 rfl rfl tG rfl|exact LR U80 rfl rfl yp rfl)) ?_));refine LM rfl (Mb zaV rfl (Vq h4.g.sp h4.g.lt1 h4.g.z0T h4.vec (.inl h4.xr.2) hx) ?_);rintro _ w5 ⟨rfl,gh,aj⟩;have h5:=h4.read aj gh;have lZ:=aj.LN tG (λe=>e (.inl (.inl aY.1)));have cF:=aj.LN ep (λe=>e (.inl (.inl aY.2.1)));have bT:=aj.LN cG (λe=>e (.inl (.inl aY.2.2)));have ny:=jr.kp aj (λD hD e=>e (.inl (.inr hD)));have pV:=h5.cells;have z5:=aj.size;have ck:Kp (λb=>¬X b) w w5:=ax.trans (aj.LZ λb e e2=>e (.inl (.inl (gH b e2))));have jL:LvI G Q txt (K+64*v) X (λj=>X0 j\/ .mk j∈ms) rr vb sv t dn xs.length br b2 b3 w p w5:=⟨⟨txt4,h5,yo⟩,lZ,cF,bT,ck⟩;have iM:(List.range (v+1)).foldl (Rq t G.g) (xs,false)=Rq t G.g p v:=by rw[List.range_succ,List.foldl_append,<-hp];rfl
   refine LM rfl (MW rfl rfl (MW rfl rfl (M6 rfl (LU rfl (run_seq (qN rfl (LM rfl (MY rfl rfl (LO (An rfl (py (run_seq (qN rfl ?_)))))))))))));refine LM rfl (qV ((by first|exact LR U34 rfl rfl lZ rfl|exact LR U34 rfl rfl pV rfl)) ?_);refine Mp rfl (M0 Qn rfl (M0 Vk rfl (qV ((by first|exact LR U3 rfl rfl lZ rfl|exact LR U3 rfl rfl pV rfl)) ?_)));refine qV ((by first|exact MH rfl U3 Ns (by omega)|exact Oc rfl U3 Ns)) ?_;by_cases tC:x=t
   ·have fK : (Mg G.g v).length <= G.g.length := by
     unfold Mg;rw[List.getElem?_eq_getElem eY];exact yk.len (List.getElem_mem eY)
    have mq:Rq t G.g p v=(Mg G.g v).foldl (OH t) p:=by
     unfold Rq;rw[if_pos (by rw[hx,tC])]
    refine MY rfl rfl (MC (LO (An rfl (py (qN rfl (qV ((by first|exact LR U34 rfl rfl lZ rfl|exact LR U34 rfl rfl pV rfl)) ?_))))));refine Mp rfl (M0 z2d rfl (qV ((by first|exact LR YS rfl rfl lZ rfl|exact LR YS rfl rfl pV rfl)) ?_));refine LM rfl (Mb zfh rfl (z1F G.k v _) ?_);rintro _ w6 ⟨bk,bi,rfl,uh,DX,gd,uv,aN⟩;have z6:=aN.size;refine LO (LK (Qb (ps:=[46,47]) (p:=[]) (q:=[_,_]) rfl zfL ?_));rintro l wl du eT cz hD Rc dj eO;have zl:=du.size;have sN:=aN.trans du;obtain⟨X1,kR⟩:∃X1:Nat->Prop,(λj=>(X0 j\/ .mk j∈ms)\/j=w6.heap.size\/j=l)=X1:=⟨_,rfl⟩;have kU:∀j,(X0 j\/ .mk j∈ms)->X1 j:=λj hj=>by rw[<-kR];exact .inl hj
    have jZ:X1 l/\X1 w6.heap.size:=by rw[<-kR];exact⟨.inr (.inr rfl),.inr (.inl rfl)⟩
    have Gp:Qo G Q txt4 (K+64*v) X1 rr vb sv t dn p.1 wl:=h5.grow sN (λj hj=>by rw[<-kR] at hj;exact hj.imp id λe=>by omega) kU;have pW:∀j,j=l\/j=w6.heap.size->j≠G.k/\j≠G.x/\j≠1/\j≠2/\j≠rr/\j≠vb/\j≠br/\j≠b2/\j≠b3/\w.heap.size<=j:=λj hj=>by omega
    have pX:∀D,.mk D∈ms->D≠l:=λD hD=>by have:=ny.hi D hD;omega
    have f9:b2≠l/\b2≠w6.heap.size:=by omega
    refine Mm.mono (z1S (by omega) eY Gp.g (du.LN uh) (du.LN DX) (λj=>j=b2\/j=l) (λj hj=>by rcases hj with e|e;exact kU _ (.inl (e▸aY.2.1));exact e▸jZ.1)
     (λY i w'=>Rc .ready none w'/\LvI G Q txt (K+64*v+i) X Y rr vb sv t dn xs.length br b2 b3 w (((Mg G.g v).take i).foldl (OH t) p) w'/\MkN w3.heap.size ms w'/\w'.heap[w6.heap.size]? =some (.deferred (some [])))
     (λ_=>False) ?_ ?_) ?_
    ·intro Y w7 bH uw tH aA;have iw:Kp (λj=>¬X1 j) w5 w7:=sN.kp.trans aA;refine⟨aA.rc dj eO (λe=>e jZ.1),⟨⟨txt4,?_,yo⟩,iw.LN lZ (λe=>e (kU _ (.inl aY.1))),iw.LN cF (λe=>e (kU _ (.inl aY.2.1))),iw.LN bT (λe=>e (kU _ (.inl aY.2.2))),ck.trans (iw.LZ λb e e2=>e (kU _ (.inl (gH b e2))))⟩,ny.kp iw (λD hD e=>e (kU _ (.inr hD))),aA.heap hD (λe=>e jZ.2)⟩;exact Gp.list tH aA bH
    ·rintro Y i s w7 bH uw hs ⟨Gq,jm,Dm,JG⟩;have i8:s<G.g.length:=RM yk v s (List.mem_of_getElem? hs)
     have cR:i<(Mg G.g v).length:=by
      rcases Nat.lt_or_ge i (Mg G.g v).length with h| h
      ·exact h
      ·rw[List.getElem?_eq_none h] at hs;cases hs
     have pY:=SH t ((Mg G.g v).take i) p
     have fB:((Mg G.g v).take (i+1)).foldl (OH t) p=OH t (((Mg G.g v).take i).foldl (OH t) p) s:=by
      rw[MG hs,List.foldl_append];rfl
     obtain⟨q,hq⟩:∃q,((Mg G.g v).take i).foldl (OH t) p=q:=⟨_,rfl⟩;rw[hq] at jm pY fB;rw[fB];obtain⟨x7,bQ⟩:∃x7,q.1[s]? =some x7:=⟨_,List.getElem?_eq_getElem (by rw[pY,dZ,h.len];exact i8)⟩;have fY:Y br/\Y b2/\Y b3:=⟨bH _ (kU _ (.inl aY.1)),bH _ (kU _ (.inl aY.2.1)),bH _ (kU _ (.inl aY.2.2))⟩;have tI:Y l/\Y w6.heap.size:=⟨bH _ jZ.1,bH _ jZ.2⟩;have Gs:∀D,.mk D∈ms->Y D:=λD hD=>bH _ (kU _ (.inr hD));have yr:∀j,X j->Y j:=λj hj=>bH _ (kU _ (.inl (gH j hj)));refine Rj dj Gq rfl rfl (qN rfl (LU rfl (Mn.qb (e:=[(1,_),(2,_),(3,_),(7,_),(47,_)]) ?_)));refine LQ rfl (LU rfl (run_beginRound rfl dj Gq ?_));rintro w8 Da bj;obtain⟨⟨txt8,h8,yt⟩,tJ,vW,mD,mE⟩:=jm.own bj (λj e=>⟨e▸tI.1,pW j (.inl e)⟩);have JH:=Dm.kp bj (λD hD e=>pX D hD e);have JI:=bj.heap JG (by omega);have yu:=h8.cells;have Gt:=(h8.vec.t s x7 bQ).2;refine LK (run_seq (qN rfl (LM rfl (MY rfl rfl (LO (An rfl (py (qN rfl (qV ((by first|exact LR U34 rfl rfl tJ rfl|exact LR U34 rfl rfl yu rfl)) ?_)))))))));refine Mp rfl (M0 S1 rfl (qV ((by first|exact LR U80 rfl rfl tJ rfl|exact LR U80 rfl rfl yu rfl)) ?_));refine LM rfl (qV (MB rfl N5 U3 (by omega)) (Mb zaV rfl (Vq h8.g.sp h8.g.lt1 h8.g.z0T h8.vec (.inl h8.xr.2) bQ) ?_));rintro _ w9 ⟨rfl,rg,aL⟩;have h9:=h8.read aL rg;have m4:=aL.LN tJ (λe=>e (.inl fY.1));have kh:=aL.LN vW (λe=>e (.inl fY.2.1));have lV:=aL.LN mD (λe=>e (.inl fY.2.2));have mn:=JH.kp aL (λD hD e=>e (.inl (Gs D hD)));have Gu:=aL.heap JI (λe=>e (.inl tI.2));have Gv:=aL.rc dj Da (λe=>e (.inl tI.1));have m5:Kp (λb=>¬X b) w w9:=mE.trans (aL.LZ λb e e2=>e (.inl (yr b e2)));have yv:Kp (λj=>¬Y j\/j=b2\/j=l) w7 w9:=(bj.LZ λj e=> .inr (.inr e)).trans (aL.LZ λj e=> .inl λe2=>e (.inl e2));have pZ:=h9.cells;refine LM rfl (MW rfl rfl (MW rfl rfl (M6 rfl (LU rfl (run_seq (qN rfl (LM rfl (MY rfl rfl (LO (An rfl (py (run_seq (qN rfl ?_)))))))))))));refine LM rfl ?_;by_cases hn:x7=4294967295
     ·have tK:OH t q s=(q.1.set s (t+1),true):=by
       unfold OH;rw[if_pos (by rw[bQ,hn])]
      rw[tK];have cU:=Ext.Ma w9;refine MY rfl rfl (MC (LO (An rfl (py (run_seq (run_seq (NF (λw'=>Kp (λj=>¬(Y j\/j=G.rb)) w9 w') rfl (qT 0 rfl (λ_ hS=>(by first|exact LR U34 rfl rfl (hS.LN m4 (λe=>e (.inl fY.1))) rfl|exact LR U34 rfl rfl (hS.LN pZ (λe=>e (.inl h9.xr.1))) rfl)) (cU.kp) ?_))))))));refine LS 1 rfl (MS rfl) (cU.kp) (LS 2 rfl (Mo S1 rfl) (cU.kp) (qT 3 rfl (λ_ hS=>(by first|exact LR U80 rfl rfl (hS.LN m4 (λe=>e (.inl fY.1))) rfl|exact LR U80 rfl rfl (hS.LN pZ (λe=>e (.inl h9.xr.1))) rfl)) (cU.kp) ?_));refine M9 4 rfl rfl (cU.kp) (LS 5 rfl (MB rfl N5 U3 (by omega)) (cU.kp) (qT 6 rfl (λ_ hS=>(by first|exact LR U34 rfl rfl (hS.LN m4 (λe=>e (.inl fY.1))) rfl|exact LR U34 rfl rfl (hS.LN pZ (λe=>e (.inl h9.xr.1))) rfl)) (cU.kp) ?_));refine LS 7 rfl (MS rfl) (cU.kp) (LS 8 rfl (Mo Qn rfl) (cU.kp) (LS 9 rfl (Mo Vk rfl) (cU.kp) (qT 10 rfl (λ_ hS=>(by first|exact LR U3 rfl rfl (hS.LN m4 (λe=>e (.inl fY.1))) rfl|exact LR U3 rfl rfl (hS.LN pZ (λe=>e (.inl h9.xr.1))) rfl)) (cU.kp) ?_)));refine LS 11 rfl ((by first|exact MH rfl U3 Ns (by omega)|exact Oc rfl U3 Ns)) (cU.kp) ?_;refine LS 12 rfl (QL rfl rfl) (cU.kp) ?_;rw[Nat.mod_eq_of_lt (show t+1<18446744073709551616 by omega)];refine Pw 13 rfl zbC rfl (YL ((h9.ext cU).g.sp) (h9.ext cU).g.lt1 (h9.ext cU).g.z0T (h9.ext cU).vec (.inl h9.xr.2) (i:=s) (x:=t+1) (by rw[pY,dZ,h.len];exact i8) (by omega)) ?_;rintro _ w10 ⟨rfl,hW⟩;refine⟨cU.kp.trans hW.kp,?_⟩;obtain⟨txt10,eK,q9,aw⟩:=(h9.ext cU).wrote (K':=K+64*v+i+1) (by omega) (by simp) hW;have eZ:=cU.kp.trans aw;have yw:=eZ.LN m4 (λe=>e (.inl fY.1));have nu:=eZ.LN kh (λe=>e (.inl fY.2.1));have yx:=eZ.LN lV (λe=>e (.inl fY.2.2));have E4:=mn.kp eZ (λD hD e=>e (.inl (Gs D hD)));have E5:=eZ.heap Gu (λe=>e (.inl tI.2));have E6:=eZ.rc dj Gv (λe=>e (.inl tI.1));refine LS 14 rfl (NK rfl) (cU.kp.trans hW.kp) (qE (Mn.qb (e:=[(2,_),(3,_),(11,_)]) ?_));refine qN rfl (LM rfl (MY rfl rfl (LO (An rfl (py (LQ rfl (M1 rfl (NC RX rfl rfl rfl nu (by simp)) ?_)))))));rintro w11 ⟨nq,aU⟩;have E7:∀D,.mk D∈ms->D≠b2:=λD hD e=>E3 D hD (e▸aY.2.1);have mA:=eK.own aU (λj e=>by rw[e];exact⟨fY.2.1,by omega,by omega,by omega,by omega,by omega,by omega⟩);have E8:=aU.rc dj E6 (by omega);refine LO (LL (Qu dj E8 ?_));intro w12 tL aV;refine .inl ⟨rfl,⟨tL,LvI.own ⟨⟨txt10,mA,λy hy=>?_⟩,aU.LN yw (by omega),nq,aU.LN yx (by omega),?_⟩ aV (λj e=>⟨e▸tI.1,pW j (.inl e)⟩),(E4.kp aU (λD hD e=>E7 D hD e)).kp aV (λD hD e=>pX D hD e),aV.heap (aU.heap E5 (by omega)) (by omega)⟩,?_⟩
      ·rw[q9 y (by rw[pY,dZ];exact hy)];exact yt y hy
      ·exact(m5.trans (eZ.LZ λb e e2=>e (.inl (yr b e2)))).LJ aU λb e=> .inl (by omega)
      ·exact((yv.trans (eZ.LZ λj e=> .inl λe2=>e (.inl e2))).trans (aU.LZ λj e=> .inr (.inl e))).trans (aV.LZ λj e=> .inr (.inr e))
     ·have tK:OH t q s=q:=by
       unfold OH;rw[if_neg (λe=>hn (by rw[bQ] at e;exact NV e))]
      rw[tK];refine MY rfl rfl (O8 (LO (M3 rfl (LW rfl (Qu dj Gv ?_)))));intro w12 tL aV;exact .inl ⟨rfl,⟨tL,(LvI.own ⟨⟨txt8,h9,yt⟩,m4,kh,lV,m5⟩ aV (λj e=>⟨e▸tI.1,pW j (.inl e)⟩)).more (by omega) (by omega),mn.kp aV (λD hD e=>pX D hD e),aV.heap Gu (by omega)⟩,yv.trans (aV.LZ λj e=> .inr (.inr e))⟩
    ·rintro v' wz ⟨rfl,⟨Y,bH,uw,JJ,E9,JK,JL⟩|hF⟩
     ·refine⟨_,_,JJ,by simp,λwy iF=>?_⟩;have ux:=E9.own iF (λj e=>⟨e▸bH _ jZ.1,pW j (.inl e)⟩);have JM:=JK.kp iF (λD hD e=>pX D hD e);have xE:=iF.heap JL (by omega);have zy:w6.heap.size<wy.heap.size:=by have:=E9.k.size;have:=iF.size;have rh:=E9.ex.choose_spec.1.g.lt _ (bH _ jZ.2);omega
      rw[List.take_length,<-mq,<-iM] at ux;refine LL (LL (LQ rfl (MK rfl rfl (LM rfl (LO ((ih (v+1,(List.range (v+1)).foldl (Rq t G.g) (xs,false),.mk w6.heap.size::ms) wy ⟨by omega,rfl,?_,⟨?_,ux.br,ux.b2,ux.b3,ux.k⟩,(ny.kp (aN.kp (S:=λ_=>False)) (λ_ _=>id)).cons (by omega) JM xE zy,by omega⟩ (by omega)).qb))))))
      ·rw[iM,z4w];exact dZ
      ·obtain⟨txty,hy,zW⟩:=ux.ex
       have A1:∀j,(X0 j\/ .mk j∈(.mk w6.heap.size::ms))->Y j:=λj hj=>by
        rcases hj with e| e
        ·exact bH _ (kU _ (.inl e))
        ·rcases List.mem_cons.1 e with e| e
         ·cases e;exact bH _ jZ.2
         ·exact bH _ (kU _ (.inr e))
       exact⟨txty,(hy.less A1 ⟨.inl h3.g.xk.1,.inl h3.g.xk.2.1,.inl h3.g.xk.2.2.1,.inl h3.g.xk.2.2.2⟩ ⟨.inl h3.xr.1,.inl h3.xr.2⟩).more (by omega) (by omega),zW⟩
     ·exact hF.elim
   ·have mq:Rq t G.g p v=p:=by
     unfold Rq;rw[if_neg (λe=>tC (by rw[hx] at e;exact NV e))]
    refine MY rfl rfl (O8 (LO (M3 rfl (LW rfl (LQ rfl (MK rfl rfl (LM rfl (LO ((ih (v+1,p,ms) w5 ⟨by omega,by rw[iM,mq],dZ,jL.more (by omega) (by omega),ny,by omega⟩ (by omega)).qb)))))))))
  ·have eY:v=G.g.length:=by omega
   subst eY;refine LW rfl (qN rfl (qV ((by first|exact LR U4 rfl rfl ep rfl|exact LR U4 rfl rfl cG rfl)) ?_));refine M1 rfl (NC RX rfl rfl rfl ep (by simp)) ?_;rintro w5 ⟨cF,aj⟩;have bT:=aj.LN cG (by omega);refine M1 rfl (NC z4Z rfl rfl rfl bT (by simp)) ?_;rintro w6 ⟨gZ,aR⟩;have bK:=aR.LN cF (by omega);have A3:∀D,.mk D∈ms->D≠b2/\D≠b3:=λD hD=>⟨λe=>E3 D hD (e▸aY.2.1),λe=>E3 D hD (e▸aY.2.2)⟩;have uu:=(jr.kp aj (λD hD e=>(A3 D hD).1 e)).kp aR (λD hD e=>(A3 D hD).2 e);have eC:=XL ms w6;have Ea:=eC.LN bK (λe=>(A3 _ e).1 rfl);have iK:=eC.LN gZ (λe=>(A3 _ e).2 rfl);have h6:=(h4.own aj (λj e=>by rw[e];exact⟨.inl aY.2.1,by omega,by omega,by omega,by omega,by omega,by omega⟩)).own aR (λj e=>by rw[e];exact⟨.inl aY.2.2,by omega,by omega,by omega,by omega,by omega,by omega⟩);have h7:=h6.own eC (λj e=>⟨.inr e,by have:=jr.lo j e;omega,by have:=jr.lo j e;omega,by have:=jr.lo j e;omega,by have:=jr.lo j e;omega,by have:=jr.lo j e;omega,by have:=jr.lo j e;omega⟩);refine LO (Ti uu.nd uu.m Tryz.func33 (.cell1 U4 rfl rfl ((Ea).cell _) (.cell1 U35 rfl rfl ((iK).cell _) .nil)) ?_);subst hp;refine⟨_,rfl,rfl,txt4,(h7.less (λj hj=> .inl (gH j hj)) h.g.xk h.xr).more (by omega) (by omega),yo,?_⟩;exact((ax.LJ aj λb e=> .inl (by omega)).LJ aR λb e=> .inl (by omega)).LJ eC λb e=> .inl (by have:=jr.lo b e;omega)
end
end Go.Proofs.YtpldpcjdjcgicaaGreatDoor
