/- Merged by program. -/
import Derived.Test.YtfgjaafcgghnoaaGreatDoorCNp5
set_option linter.all false
set_option maxRecDepth 1000000
set_option maxHeartbeats 16000000
namespace Go.Proofs.YtfgjaafcgghnoaaGreatDoor
open Go Go.RowKit
section
variable {w w':World}{m gi a:Nat}{L:List Bool}{S:Nat->Prop}
theorem z4b (h:SY w m gi L)(s n:Nat)(cT:1<=n)(cW:2<=s)(iC:s+n<=L.length):LP Tryz.prog 141 [ptr m 0,.agg #[I (s:Int),I (n:Int)]] w λv w'=>v= .bool true/\Ext w w':=by
 have hn:=h.n
 refine Lb (e:=[(0,_),(1,_)]) Tryz.func141 O Tryz.ntmps141 O O$ qN O$ Lm O O (Nc O (cs:=[I (s:Int),I (n:Int)]) O) ?_
 rintro _ w1 ⟨b3,rfl,eB,ad,aq⟩
 have hg:=Ext.LC w1
 have iZ:=(h.ext ad).Lg
 refine Lk O$ run_seq$ N7 (λw'=>Ext w1 w') O$ Ll 0 O (LV N2 O) hg$ qT 1 O (λ_ h=>(by first|exact Lj U3 O O (h.Lg aq) O|exact Lj U3 O O (h.Lg iZ) O)) hg ?_
 refine Ll 2 O (yge O O) hg$ Pu$ LA 3 O O (hg)$ Ll 4 O (LV MV O) hg$ qT 5 O (λ_ h=>(by first|exact Lj U3 O O (h.Lg aq) O|exact Lj U3 O O (h.Lg iZ) O)) hg ?_
 refine LA 6 O O (hg)$ Ll 7 O (Mo O) hg$ Ll 8 O (LV z2Y O) hg$ qT 9 O (λ_ h=>(by first|exact Lj U3 O O (h.Lg aq) O|exact Lj U3 O O (h.Lg iZ) O)) hg ?_
 refine Ll 10 O (yge O O) hg$ Pu$ Ll 11 O (Qy O O) hg$ LA 12 O O (hg)$ Ll 13 O (LV MV O) hg$ qT 14 O (λ_ h=>(by first|exact Lj U3 O O (h.Lg aq) O|exact Lj U3 O O (h.Lg iZ) O)) hg ?_
 refine LA 15 O O (hg)$ Ll 16 O (Mo O) hg$ Ll 17 O (LV QF O) hg$ qT 18 O (λ_ h=>(by first|exact Lj Pm O O (h.Lg aq) O|exact Lj Pm O O (h.Lg iZ) O)) hg ?_
 refine Ll 19 O (Ol Pm O) hg$ Ll 20 O (Wr O O) hg$ Pu$ Ll 21 O (Qy O O) hg$ LA 22 O O (hg)$ Ll 23 O (LV N2 O) hg$ qT 24 O (λ_ h=>(by first|exact Lj U3 O O (h.Lg aq) O|exact Lj U3 O O (h.Lg iZ) O)) hg ?_
 refine LA 25 O O (hg)$ Ll 26 O (Mo O) hg$ Ll 27 O (LV QF O) hg$ qT 28 O (λ_ h=>(by first|exact Lj Pm O O (h.Lg aq) O|exact Lj Pm O O (h.Lg iZ) O)) hg ?_
 refine Ll 29 O (Ol Pm O) hg$ Ll 30 O (LV MV O) hg$ qT 31 O (λ_ h=>(by first|exact Lj U3 O O (h.Lg aq) O|exact Lj U3 O O (h.Lg iZ) O)) hg ?_
 refine Ll 32 O (SR O O (by omega)) hg$ Ll 33 O (Up O O) hg$ Pu$ Ll 34 O (Qy O O) hg$ Ll 35 O (Ni O) hg$ qE$ LS.qb (e:=[(4,_)]) ?_
 refine Lh Tryz.func141 O ?_
 exact⟨_,rfl,rfl,ad.trans hg⟩
theorem z2e {b5:Nat}(c d:Bool)(hB:Lq w b5 [stV d] 174)(A0:c=d):LP Tryz.prog 179 [stV c,ptr b5 0] w λv w'=>v= .bool false/\w'=w:=by
 subst A0
 cases c with
 | true =>
   replace hB:Lq w b5 [.int .u8 1] 174:=hB;show LP Tryz.prog 179 [.int .u8 1,ptr b5 0] w _;refine Lb (e:=[(0,_),(1,_)]) Tryz.func179 O Tryz.ntmps179 O O$ qN O$ Lw O$ qM O$ Le O$ qV (Lj z5H O O hB O)$ Mu O O$ M5$ Lk O$ Lh Tryz.func179 O ?_
   exact⟨_,rfl,rfl,rfl⟩
 | false =>
   replace hB:Lq w b5 [.int .u8 0] 174:=hB;show LP Tryz.prog 179 [.int .u8 0,ptr b5 0] w _;refine Lb (e:=[(0,_),(1,_)]) Tryz.func179 O Tryz.ntmps179 O O$ qN O$ Lw O$ qM O$ Le O$ qV (Lj z5H O O hB O)$ Mu O O$ M5$ Lk O$ Lh Tryz.func179 O ?_;exact⟨_,rfl,rfl,rfl⟩
theorem z42 {b5 b o n cap:Nat}(hn:n<=4096)(c:Bool)(hB:Lq w b5 [stV c] 174)(hR:Rd w (.slice (some ⟨b,o,none⟩) n cap) 1 n (List.replicate n (stV c))):
  LP Tryz.prog 210 [.slice (some ⟨b,o,none⟩) n cap,.func (.func 179) #[] #[ptr b5 0]] w λv w'=>v=I (-1)/\w'=w:=by
 refine Lb (e:=[(0,_),(1,_)]) Tryz.func210 O Tryz.ntmps210 O O$ qN O$ Lk O$ run_seq$ qN O$ Le O$ Nd Pm O$ Le O$ Lf$ Lc$ Nj (α:=Nat) (0) (λi=>[(0,.slice (some ⟨b,o,none⟩) n cap),(1,.func (.func 179) #[] #[ptr b5 0]),(7,I (n:Int)),(8,I (i:Int))]) (λi w'=>w'=w/\i<=n) (λi=>n-i) ?hI ?hround
 case hI=>exact⟨rfl,Nat.zero_le _⟩
 case hround=>
  rintro i w1 ⟨rfl,hi⟩ ih
  try dsimp only
  refine qN O$ Mw O O$ Lf$ run_seq$ Lp O (λh0=>?_)$ λh0=>?_
  ·refine py$ run_seq$ Lc$ qN O$ Le O$ Lw O$ qM O$ Lu O O$ Le O$ qV (M9 Pm XO O O (by omega))$ qV (LN (v:=stV c) z5H O O (Mn hR (by rw[List.getElem?_replicate,if_pos (by omega)]))) ?_;refine MK O O (NW ze8 O O) (z2e c c hB O) ?_;rintro _ w1 ⟨rfl,rfl⟩;refine Lf$ An O$ py$ Ld$ Li O$ Mb O O$ Le O$ Lf ?_;exact(ih (i+1) _ ⟨rfl,by omega⟩ (by omega)).qb
  ·refine Ln O$ qN O$ Lk O$ Lh Tryz.func210 O ?_;exact⟨_,rfl,rfl,rfl⟩
theorem z4N {b5 b o n cap:Nat}(hn:n<=4096)(c:Bool)(hB:Lq w b5 [stV c] 174)(hR:Rd w (.slice (some ⟨b,o,none⟩) n cap) 1 n (List.replicate n (stV c))):
  LP Tryz.prog 178 [.slice (some ⟨b,o,none⟩) n cap,.func (.func 179) #[] #[ptr b5 0]] w λv w'=>v= .bool false/\w'=w:=by
 refine Lb (e:=[(0,_),(1,_)]) Tryz.func178 O Tryz.ntmps178 O O$ qN O$ Lw O$ qM O$ Lu O O$ LD zcF O (z42 hn c hB hR) ?_
 rintro _ w ⟨rfl,rfl⟩
 refine Pa O O$ M5$ Lk O$ Lh Tryz.func178 O ?_
 exact⟨_,rfl,rfl,rfl⟩
theorem z3L (h:SY w m gi L)(s n:Nat)(c:Bool)(cT:1<=n)(iC:s+n<=L.length)(hc:∀i,s<=i->i<s+n->L[i]? =some c):LP Tryz.prog 142 [ptr m 0,.agg #[I (s:Int),I (n:Int)],stV c] w λv w'=>v= .bool true/\Ext w w':=by
 have hn:=h.n
 refine Lb (e:=[(0,_),(1,_),(2,_)]) Tryz.func142 O Tryz.ntmps142 O O$ qN O$ Lm O O (Nc O (cs:=[I (s:Int),I (n:Int)]) O) ?_
 rintro _ w1 ⟨b4,rfl,gn,ad,aF⟩
 refine Lm O O (Nc O (cs:=[stV c]) (by cases c<;>rfl)) ?_
 rintro _ w2 ⟨b5,rfl,gQ,ag,aI⟩
 have hg:=Ext.LC w2
 have aG:=ad.trans ag
 have iZ:=(h.ext aG).Lg
 have bD:=ag.Lg aF
 have en:=(h.ext aG).ext hg
 refine Lk O$ run_seq$ N7 (λw'=>Ext w2 w') O$ LA 0 O O (hg)$ Ll 1 O (Mo O) hg$ Ll 2 O (LV QF O) hg$ qT 3 O (λ_ h=>(by first|exact Lj Pm O O (h.Lg bD) O|exact Lj Pm O O (h.Lg iZ) O)) hg ?_
 refine Ll 4 O (LV MV O) hg$ qT 5 O (λ_ h=>(by first|exact Lj U3 O O (h.Lg bD) O|exact Lj U3 O O (h.Lg iZ) O)) hg ?_
 refine Ll 6 O (LV MV O) hg$ qT 7 O (λ_ h=>(by first|exact Lj U3 O O (h.Lg bD) O|exact Lj U3 O O (h.Lg iZ) O)) hg ?_
 refine Ll 8 O (LV N2 O) hg$ qT 9 O (λ_ h=>(by first|exact Lj U3 O O (h.Lg bD) O|exact Lj U3 O O (h.Lg iZ) O)) hg ?_
 refine Ll 10 O (Qu O O (by omega)) hg$ Ll 12 O (Z9 (first:=[]) (caps:=[.tmp 5]) O O) hg ?_
 rw[show(s:Int)+(n:Int)=((s+n:Nat):Int) by omega]
 refine Ll 11 O (zaN (i:=s) (j:=s+n) Pm XO O O O (by omega) (by omega)) hg ?_
 rw[show s+n-s=n by omega]
 have hR:Rd w2.drew (.slice (some ⟨gi,0+s*1,none⟩) n (L.length-s)) 1 n (List.replicate n (stV c)):=by
  have h1:=P6 (Of en.sl.rd (i:=s) (by omega) (Nat.le_refl _)) (i:=n) (by omega);rw[if_neg (by omega)] at h1
  have e:((L.map stV).drop s).take n=List.replicate n (stV c):=by
   apply List.ext_getElem?;intro i;rw[List.getElem?_take,List.getElem?_drop,List.getElem?_map,List.getElem?_replicate];by_cases hi:i<n
   ·rw[if_pos hi,if_pos hi,hc (s+i) (by omega) (by omega)];rfl
   ·rw[if_neg hi,if_neg hi]
  rw[e] at h1
  have e2:(some (⟨gi,0,none⟩:Addr)).map (λx=>x.add (s*1))=some ⟨gi,0+s*1,none⟩:=by
   show some (Addr.add _ _)=_;unfold Addr.add;split
   ·rename_i h0;rw[h0]
   ·rfl
  rw[e2] at h1;exact h1
 refine OA 13 O zbE O (z4N (by omega) c ((hg.Lg aI)) hR) ?_
 rintro _ w3 ⟨rfl,rfl⟩
 refine⟨hg,?_⟩
 refine Ll 14 O ((by first|exact Mh O|exact NL O)) hg ?_
 refine Ll 15 O (Ni O) hg$ qE$ Lh Tryz.func142 O ?_
 exact⟨_,rfl,rfl,aG.trans hg⟩
theorem z1v (h:SY w m gi L)(s n:Nat)(cT:1<=n)(cW:2<=s)(iC:s+n<=L.length)(hc:∀i,s<=i->i<s+n->L[i]? =some true):LP Tryz.prog 104 [ptr m 0,.agg #[I (s:Int),I (n:Int)]] w λv w'=>v=I 0/\SY w' m gi (MZ L s n false)/\Kp (λk=>k=gi) w w':=by
 refine Lb (e:=[(0,_),(1,_)]) Tryz.func104 O Tryz.ntmps104 O O$ qN O$ Lm O O (Nc O (cs:=[I (s:Int),I (n:Int)]) O) ?_
 rintro _ w1 ⟨b3,rfl,eB,ad,aq⟩
 have h1:=h.ext ad
 have l3:=aq.lt
 have lg:=h.ltg
 refine Lk O$ run_seq$ Lc$ qN O$ Le O$ qV (Ml Xj O O)$ Lk O$ An O$ qN O$ Le O$ qV (LM (news:=[I (s:Int),I (n:Int)]) S2 O MX O (Lq.cells (n:=2) aq O) O)$ LD zee O (z4b h1 s n cT cW iC) ?_
 rintro _ w2 ⟨rfl,ag⟩
 have h2:=h1.ext ag
 have cU:=ag.Lg aq
 refine qV ((by first|exact Mh O|exact NL O)) ?_
 refine Lu O O$ qV (LM (news:=[I (s:Int),I (n:Int)]) S2 O MX O (Lq.cells (n:=2) cU O) O)$ LD zdo O (z3L h2 s n true cT iC hc) ?_
 rintro _ w3 ⟨rfl,ah⟩
 have h3:=h2.ext ah
 have dl:=ah.Lg cU
 have iZ:=h3.Lg
 refine qV ((by first|exact Mh O|exact NL O)) ?_
 refine M8 O O$ Lk O$ An O$ qN O$ Le O$ LU O$ Lt z7J O$ qV (Lj U4 O O iZ O)$ Lk O$ An O ?_
 have dl:=ah.Lg cU
 refine Li O$ Le O$ qV (LM (news:=[I (s:Int),I (n:Int)]) S2 O MX O (Lq.cells (n:=2) dl O) O)$ LD z9N O (Y7 h3 s n false iC) ?_
 rintro _ w4 ⟨rfl,h4,av⟩
 refine Lf$ LS.qb (e:=[(4,_)]) ?_
 refine Ld$ qN O$ Lk O$ Lh Tryz.func104 O ?_
 exact⟨_,rfl,rfl,h4,((ad.trans ag).trans ah).kp.trans av⟩
end
structure Dev where
 due:Int
 Oi:List Int
 z8L:Int
 mask:UInt8
 B:Nat
 N:Nat
 sf:Int->Option Bytes
 cache:List (Int×Bytes)
 down:Bool
 calls:Int
 reads:Int
def zeros (n:Nat):Bytes:=List.replicate n 0
def Dev.kept (D:Dev)(n:Int):Bytes:=(D.sf n).getD (zeros (512*D.N))
def S4 (l:List (Int×Bytes))(n:Int):Option Bytes:=(l.reverse.find? λx=>x.1==n).map (·.2)
def Dev.now (D:Dev)(n:Int):Bytes:=(S4 D.cache n).getD (D.kept n)
def Dev.has (D:Dev)(n:Int):Bool:=decide (0<=n/\n<(D.B:Int))
def Dev.count (D:Dev):Dev:={D with calls:=D.calls+1,due:=if D.due=0 then 0 else D.due-1}
structure Dev.Ok (D:Dev):Prop where
 hB:16<=D.B/\D.B<=4096
 hN:1<=D.N/\D.N<=8
 due:0<=D.due/\D.due<=9223372036854775807
 sf:∀n s,D.sf n=some s->0<=n/\n<(D.B:Int)/\s.length=512*D.N
 cache:∀x∈D.cache,0<=x.1/\x.1<(D.B:Int)/\x.2.length=512*D.N
 len:0<=D.calls
 reads:True
def Dev.Bd (D:Dev):Prop:=D.calls<1000000000000/\D.cache.length<1000000000000/\True
def wr (x:Int×Bytes):List Value:=[I x.1,S x.2]
def wrs (l:List (Int×Bytes)):List Value:=l.flatMap wr
@[simp] theorem wrs_length (l:List (Int×Bytes)):(wrs l).length=l.length*2:=by
 induction l with
 |nil=>rfl
 |cons x r ih=>simp[wrs,wr,List.flatMap_cons] at ih⊢;omega
def TD (kp ca:Value)(m:Nat)(D:Dev):List Value:=[I D.due,kp,I D.z8L,P9 D.mask,I (D.B:Int),I (D.N:Int),.map (some m),ca,.bool D.down,I D.calls,I D.reads]
@[simp] theorem devCs_length (kp ca:Value) (m:Nat) (D:Dev):(TD kp ca m D).length=11:=rfl
abbrev KI:Int->Value:=λz=> .int .i64 z
structure NN (w:World)(p m:Nat)(kp ca:Value)(D:Dev):Prop where
 Lg:Lq w p (TD kp ca m D) 123
 map:∃kv,SK KI w m kv/\∀n,getL kv n=(D.sf n).map S
 cache:Sl w ca 334 2 D.cache.length (wrs D.cache)
 Oi:Sl w kp 3 1 D.Oi.length (D.Oi.map I)
 ok:D.Ok
def fpD (p m:Nat)(kp ca:Value):Nat->Prop:=λk=>k=p\/k=m\/ca.ownBlock=some k\/kp.ownBlock=some k
def RI (w:World)(p:Nat)(D:Dev)(F:Nat->Prop):Prop:=∃m kp ca,NN w p m kp ca D/\∀k,F k↔fpD p m kp ca k
def Upd (F F':Nat->Prop)(w w':World):Prop:=Kp F w w'/\∀k,F' k->F k\/w.heap.size<=k
theorem Upd.trans {F F' F'':Nat->Prop}{a b c:World}(h:Upd F F' a b)(k:Upd F' F'' b c):Upd F F'' a c:=
 ⟨h.1.It k.1 λi hi=>(h.2 i hi).symm,λi hi=>by
  rcases k.2 i hi with h'|h'
  ·exact h.2 i h'
  ·exact .inr (Nat.le_trans h.1.size h')⟩
theorem Ext.Xk {F:Nat->Prop}{w w':World}(h:Ext w w'):Upd F F w w':=⟨h.kp,λ_ h=> .inl h⟩
theorem NN.pm {w:World}{p m:Nat}{kp ca:Value}{D:Dev}(h:NN w p m kp ca D):¬p=m:=λe=>by
 obtain⟨kv,⟨⟨es,c,hh,-⟩,-⟩,-⟩:=h.map
 obtain⟨fz,hb,-⟩:=h.Lg
 rw[e] at hb;rw[hb] at hh;cases hh
theorem P7 {w:World}{v:Value}{e size n:Nat}{cs:List Value}{b:Nat}(h:Sl w v e size n cs)(hb:v.ownBlock=some b):∃xs fz,w.heap[b]? =some (.cells xs e fz):=by
 rcases h.2 with⟨hz,-⟩|⟨g,cap,cur,hv,-,hg,-⟩
 ·rw[hz] at hb;cases hb
 ·rw[hv] at hb;cases hb;exact⟨_,_,hg⟩
theorem NN.kp {S:Nat->Prop}{w w':World}{p m:Nat}{kp ca:Value}{D:Dev}(h:NN w p m kp ca D)(k:Kp S w w')(hn:∀i,fpD p m kp ca i->¬S i):NN w' p m kp ca D:=
 ⟨k.Lg h.Lg (hn p (.inl O)),let ⟨kv,h1,h2⟩:=h.map;⟨kv,k.map h1 (hn m (.inr (.inl O))),h2⟩,h.cache.kp k λg hg=>hn g (.inr (.inr (.inl hg))),h.Oi.kp k λg hg=>hn g (.inr (.inr (.inr hg))),h.ok⟩
theorem NN.ext {w w':World}{p m:Nat}{kp ca:Value}{D:Dev}(h:NN w p m kp ca D)(k:Ext w w'):NN w' p m kp ca D:=h.kp k λ_ _=>id
theorem Dev.Ok.count {D:Dev}(h:D.Ok):D.count.Ok:=by
 have:=h.due
 have:=h.len
 refine⟨h.hB,h.hN,?_,h.sf,h.cache,?_,h.reads⟩
 ·simp only[Dev.count];split<;>omega
 ·simp only[Dev.count];omega
theorem NN.turn {w w':World}{p m:Nat}{kp ca:Value}{D D':Dev}(h:NN w p m kp ca D)(hb:Lq w' p (TD kp ca m D') 123)(k:Kp (λi=>i=p) w w')(h1:D'.sf=D.sf)(h2:D'.cache=D.cache)(h3:D'.Oi=D.Oi)(h4:D'.N=D.N)(aw:D'.Ok):NN w' p m kp ca D':=by
 obtain⟨fz,hp,-⟩:=h.Lg
 refine⟨hb,let ⟨kv,hm,hs⟩:=h.map;⟨kv,k.map hm λe=>h.pm e.symm,by rw[h1];exact hs⟩,?_,?_,aw⟩
 ·rw[h2];refine h.cache.kp k λg hg pI=>?_;obtain⟨xs,fz',hx⟩:=P7 h.cache hg;rw[pI,hp] at hx;cases hx
 ·rw[h3];refine h.Oi.kp k λg hg pI=>?_;obtain⟨xs,fz',hx⟩:=P7 h.Oi hg;rw[pI,hp] at hx;cases hx
def Xk (f:Int->Option Bytes)(n:Int)(s:Bytes):Int->Option Bytes:=λx=>if x=n then some s else f x
def z4p (c:Bytes)(i:Nat)(x:Bytes):Bytes:=c.take i++x++c.drop (i+x.length)
def mixN (mask:UInt8)(a b:Bytes):Nat->Bytes
 |0=>a
 |s+1=>if mask.toNat / 2^s%2=1 then z4p (mixN mask a b s) (512*s) ((b.drop (512*s)).take 512) else mixN mask a b s
theorem ZI (c x:Bytes)(i:Nat)(h:i+x.length<=c.length):(z4p c i x).length=c.length:=by
 simp[z4p];omega
theorem RQ (mask:UInt8)(a b:Bytes)(N:Nat)(ha:a.length=512*N)(hb:b.length=512*N):∀s,s<=N->(mixN mask a b s).length=512*N
 |0,_=>ha
 | s + 1, h => by
   have ih:=RQ mask a b N ha hb s (by omega);simp only[mixN];split
   ·rw[ZI _ _ _ (by simp[ih];omega),ih]
   ·exact ih
def Dev.fallTo (D:Dev)(l:List Int)(tn:Int)(mk:UInt8):Nat->(Int->Option Bytes)
 |0=>D.sf
 | i + 1 => match D.cache[i]? with
   |none=>D.fallTo l tn mk i
   | some x => if (i : Int) = tn then Xk (D.fallTo l tn mk i) x.1 (mixN mk (((D.fallTo l tn mk i) x.1).getD (zeros (512 * D.N))) x.2 D.N)
     else if(i:Int)∈l then Xk (D.fallTo l tn mk i) x.1 x.2 else D.fallTo l tn mk i
def Dev.z6c (D:Dev)(l:List Int)(tn:Int)(mk:UInt8):Dev:=
 {D with sf:=D.fallTo l tn mk D.cache.length,cache:=[],due:=0,Oi:=[],z8L:=0,mask:=0,down:=true}
theorem Dev.Ok.put {D:Dev}(h:D.Ok){n:Int}{s:Bytes}(hn:0<=n/\n<(D.B:Int))(hs:s.length=512*D.N):Dev.Ok {D with sf:=Xk D.sf n s}:=
 ⟨h.hB,h.hN,h.due,λx t hx=>by
  simp only[Xk] at hx;split at hx
  ·rename_i e
   cases hx;exact⟨by omega,by rw[e];exact hn.2,hs⟩
  ·exact h.sf x t hx,h.cache,h.len,h.reads⟩
theorem Dev.Ok.kept {D:Dev}(h:D.Ok)(n:Int):(D.kept n).length=512*D.N:=by
 unfold Dev.kept
 cases hs:D.sf n with
 |none=>simp[zeros]
 |some s=>exact(h.sf n s hs).2.2
theorem NN.put {w w':World}{p m:Nat}{kp ca:Value}{D:Dev}{kv:List (Int×Value)}{n:Int}{s:Bytes}(h:NN w p m kp ca D)(hs:∀n,getL kv n=(D.sf n).map S)(hm:SK KI w' m (putL kv n (S s)))(k:Kp (λi=>i=m) w w')
  (aw:Dev.Ok {D with sf:=Xk D.sf n s}):NN w' p m kp ca {D with sf:=Xk D.sf n s}:=by
 obtain⟨kv0,⟨⟨es,c,hh,-⟩,-⟩,-⟩:=h.map
 refine⟨k.Lg h.Lg h.pm,⟨_,hm,λx=>?_⟩,?_,?_,aw⟩
 ·rw[z6S,hs x];simp only[Xk];split<;>rfl
 ·refine h.cache.kp k λg hg pI=>?_;obtain⟨xs,fz',hx⟩:=P7 h.cache hg;rw[pI,hh] at hx;cases hx
 ·refine h.Oi.kp k λg hg pI=>?_;obtain⟨xs,fz',hx⟩:=P7 h.Oi hg;rw[pI,hh] at hx;cases hx
theorem Rd.kpm {w w':World}{v:Value}{size n m:Nat}{cs:List Value}{kv:List (Int×Value)}(h:Rd w v size n cs)(hm:SK KI w m kv)(k:Kp (λi=>i=m) w w'):Rd w' v size n cs:=by
 obtain⟨h1,h2⟩:=h
 refine⟨h1,h2.imp id λ⟨b,off,cap,hv,hc⟩=>⟨b,off,cap,hv,λj u hj=>?_⟩⟩
 have zD:=hc j u hj
 obtain⟨⟨es,c,hh,-⟩,-⟩:=hm
 have bN:¬b=m:=λe=>by
  rw[e] at zD;simp[World.cell?,hh] at zD
 have aV:b<w.heap.size:=by
  rcases Nat.lt_or_ge b w.heap.size with h'|h'
  ·exact h'
  ·simp[World.cell?,Array.getElem?_eq_none h'] at zD
 rw[<-zD]
 simp only[World.cell?,k.block b aV bN]
theorem NN.zdw {w:World}{p m:Nat}{kp ca:Value}{D:Dev}(h:NN w p m kp ca D){g:Nat}(hg:ca.ownBlock=some g):¬g=p/\¬g=m/\¬kp.ownBlock=some g:=by
 obtain⟨xs,fz',hx⟩:=P7 h.cache hg
 refine⟨λe=>?_,λe=>?_,λe=>?_⟩
 ·obtain⟨fz,hb,-⟩:=h.Lg;rw[e,hb] at hx;cases hx
 ·obtain⟨kv,⟨⟨es,c,hh,-⟩,-⟩,-⟩:=h.map;rw[e,hh] at hx;cases hx
 ·obtain⟨ys,fy,hy⟩:=P7 h.Oi e;rw[hx] at hy;cases hy
theorem NN.zdL {w:World}{p m:Nat}{kp ca:Value}{D:Dev}(h:NN w p m kp ca D){g:Nat}(hg:kp.ownBlock=some g):¬g=p/\¬g=m/\¬ca.ownBlock=some g:=by
 obtain⟨xs,fz',hx⟩:=P7 h.Oi hg
 refine⟨λe=>?_,λe=>?_,λe=>?_⟩
 ·obtain⟨fz,hb,-⟩:=h.Lg;rw[e,hb] at hx;cases hx
 ·obtain⟨kv,⟨⟨es,c,hh,-⟩,-⟩,-⟩:=h.map;rw[e,hh] at hx;cases hx
 ·obtain⟨ys,fy,hy⟩:=P7 h.cache e;rw[hx] at hy;cases hy
theorem NN.lt {w:World}{p m:Nat}{kp ca:Value}{D:Dev}(h:NN w p m kp ca D):∀k,fpD p m kp ca k->k<w.heap.size:=by
 intro k hk
 rcases hk with rfl|rfl|hc|hc
 ·exact h.Lg.lt
 ·obtain⟨kv,hm,-⟩:=h.map;exact hm.lt
 ·exact h.cache.lt hc
 ·exact h.Oi.lt hc
theorem RI.kp {S F:Nat->Prop}{w w':World}{p:Nat}{D:Dev}(h:RI w p D F)(k:Kp S w w')(hn:∀i,F i->¬S i):RI w' p D F:=by
 obtain⟨m,kp,ca,h1,h2⟩:=h
 exact⟨m,kp,ca,h1.kp k λi hi=>hn i ((h2 i).2 hi),h2⟩
theorem RI.ext {F:Nat->Prop}{w w':World}{p:Nat}{D:Dev}(h:RI w p D F)(k:Ext w w'):RI w' p D F:=h.kp k λ_ _=>id
theorem RI.lt {F:Nat->Prop}{w:World}{p:Nat}{D:Dev}(h:RI w p D F):∀k,F k->k<w.heap.size:=by
 obtain⟨m,kp,ca,h1,h2⟩:=h
 intro k hk
 rcases (h2 k).1 hk with rfl|rfl|hc|hc
 ·exact h1.Lg.lt
 ·obtain⟨kv,hm,-⟩:=h1.map;exact hm.lt
 ·exact h1.cache.lt hc
 ·exact h1.Oi.lt hc
theorem Vu (n:Nat):((List.replicate n (Value.int .u8 0)).drop 0).take n=(zeros n).map P9:=by
 simp[zeros,P9]
section
variable {w:World}{p m:Nat}{kp ca:Value}{D:Dev}
theorem z1i (h:NN w p m kp ca D):LP Tryz.prog 130 [ptr p 0] w λv w'=>v=I (D.B:Int)/\w'=w:=by
 have hM:=h.Lg
 refine Lb (e:=[(0,_)]) Tryz.func130 O Tryz.ntmps130 O O$ qN O$ Lk O$ run_seq$ qN O$ Le O$ qV (Ml U27 O O)$ Lf$ An O$ py$ qN O$ Le O$ LU O$ Lt VI O ?_
 refine Lt UD O$ qV (Lj U3 O O hM O)$ Lk O$ Lh Tryz.func130 O ?_
 exact⟨_,rfl,rfl,rfl⟩
theorem Wv (h:NN w p m kp ca D):LP Tryz.prog 89 [ptr p 0] w λv w'=>v=I ((512*D.N:Nat):Int)/\w'=w:=by
 have hM:=h.Lg
 have hN:=h.ok.hN
 refine Lb (e:=[(0,_)]) Tryz.func89 O Tryz.ntmps89 O O$ qN O$ Lk O$ run_seq$ qN O$ Le O$ qV (Ml U27 O O)$ Lf$ An O$ py$ qN O$ Le O$ LU O$ Lt VI O ?_
 refine Lt V7 O$ qV (Lj U3 O O hM O)$ qV (T6 O O (by omega))$ Lk O$ Lh Tryz.func89 O (⟨_,rfl,?_,rfl⟩)
 show I _=I _
 congr 1;omega
theorem XG (h:NN w p m kp ca D):LP Tryz.prog 193 [ptr p 0] w λv w'=>v=I (if D.down then 8 else 0)/\w'=w:=by
 have hM:=h.Lg
 refine Lb (e:=[(0,_)]) Tryz.func193 O Tryz.ntmps193 O O$ qN O$ Lk O$ run_seq$ Lc$ qN O$ Le O$ qV (Ml U27 O O)$ Lk O$ An O$ qN O$ Le O$ LU O$ Lt YL O ?_
 refine qV (Lj U4 O O hM O)$ Lk O$ Mg O (λhd=>?_)$ λhd=>?_
 ·refine qN O$ Lk O$ Lh Tryz.func193 O ?_;exact⟨_,rfl,by simp[hd,resVal],rfl⟩
 ·refine py$ Ld$ qN O$ Lk O$ Lh Tryz.func193 O ?_;exact⟨_,rfl,by simp[hd,resVal],rfl⟩
theorem z2X (n:Int)(h:NN w p m kp ca D):LP Tryz.prog 194 [ptr p 0,I n] w λv w'=>v= .bool (D.has n)/\w'=w:=by
 have hM:=h.Lg
 refine Lb (e:=[(0,_),(1,_)]) Tryz.func194 O Tryz.ntmps194 O O$ qN O$ Lw O$ qM O$ Le O$ Pa O O$ Oh (λh1=>?_)$ λh1=>?_
 ·refine Lu O O$ Le O$ LU O$ Lt VI O$ Lt UD O$ qV (Lj U3 O O hM O)$ Mw O O$ MU O O$ Lk O$ Lh Tryz.func194 O (⟨_,rfl,?_,rfl⟩);simp[Dev.has,h1,resVal]
 ·refine Le O$ qS$ qS$ qS$ qS$ qS$ qS$ qS$ M8 O O$ Lk O$ Lh Tryz.func194 O (⟨_,rfl,?_,rfl⟩);simp[Dev.has,h1,resVal]
theorem z0p (n:Int)(h:NN w p m kp ca D):LP Tryz.prog 222 [ptr p 0,I n] w λv w'=>v=S (D.kept n)/\Ext w w':=by
 have hM:=h.Lg
 have hN:=h.ok.hN
 have ev:maxLen=9223372036854775807:=rfl
 obtain⟨kv,ns,mD⟩:=h.map
 refine Lb (e:=[(0,_),(1,_)]) Tryz.func222 O Tryz.ntmps222 O O$ qN O$ Lk O$ run_seq$ qN O$ Le O$ LU O$ Lt YG O$ qV (Lj ZJ O O hM O)$ Le O$ qV (zeQ (k:=n) (K:=KI) ZJ (NX U3) XB O O ns) ?_
 rw[mD n]
 cases hs:D.sf n with
 | some s =>
   refine Le O$ Mp O O$ Mp O O$ Lw O$ Lw O$ qM O$ Le O$ Lf$ Lr O$ qN O$ Le O$ Lk O$ Lh Tryz.func222 O ?_
   exact⟨_,rfl,by simp[Dev.kept,hs,resVal],Ext.refl w⟩
 | none =>
   refine Le O$ Mp O O$ Mp O O$ Lw O$ Lw O$ qM O$ Le O$ Lf$ An O$ py$ qN O$ Le O$ LD za3 O (Wv h) ?_;rintro _ w1 ⟨rfl,rfl⟩;refine Lm O O (pmk (c:=512*D.N) (n:=512*D.N) Mz Tq O O O (by omega) (by omega) (by omega)) ?_;rintro _ w1 ⟨b1,rfl,⟨bR,ad,ai⟩,-⟩;refine qV (z3I (l:=zeros (512*D.N)) Mz U5 U9 O ai (Vu _) (by simp[zeros])) ?_;refine Lk O$ Lh Tryz.func222 O ?_;exact⟨_,rfl,by simp[Dev.kept,hs,resVal],ad⟩
theorem z0d (h:NN w p m kp ca D)(hc:D.calls<1000000000000):LP Tryz.prog 219 [ptr p 0] w λv w'=>v= .bool (decide (D.due=1))/\NN w' p m kp ca D.count/\Kp (λk=>k=p) w w':=by
 have hM:=h.Lg
 have pJ:=h.ok.due
 have aD:=h.ok.len
 refine Lb (e:=[(0,_)]) Tryz.func219 O Tryz.ntmps219 O O$ qN O$ Lw O$ qM O$ Le O$ LU O$ Lt z3v O$ qV (Lj U3 O O hM O)$ Mb O O$ LU O$ Lt z3v O$ Ls O (MY Md O O O hM (by simp)) ?_
 rintro w1 ⟨dJ,aN⟩
 refine Lf$ run_seq$ qN O$ Le O$ LU O$ Lt St O$ Lt VH O$ qV (Lj U3 O O dJ O)$ Nb O O$ Lf$ Lp O (λh0=>?_)$ λh0=>?_
 ·refine qN O$ Lk O$ Lh Tryz.func219 O ?_;have e0:(TD kp ca m D).set (0+9) (I (D.calls+1))=TD kp ca m D.count:=by simp[TD,Dev.count,h0]
  rw[e0] at dJ;exact⟨_,rfl,by simp[resVal];omega,h.turn dJ aN O O O O h.ok.count,aN⟩
 ·refine py$ qN O$ Le O$ LU O$ Lt St O$ Lt VH O$ qV (Lj U3 O O dJ O)$ Np O O$ LU O$ Lt St O$ Lt VH O$ Ls O (MY Md O O O dJ (by simp)) ?_;rintro w2 ⟨mf,ao⟩;refine qM O$ Le O$ LU O$ Lt St O$ Lt VH O$ qV (Lj U3 O O mf O)$ Nb O O$ Lk O$ LS.qb (e:=[(2,_)]) ?_;refine Lh Tryz.func219 O ?_;have e0:((TD kp ca m D).set (0+9) (I (D.calls+1))).set (0+0+0) (I (D.due-1))=TD kp ca m D.count:=by simp[TD,Dev.count,h0]
  rw[e0] at mf;exact⟨_,rfl,by simp[resVal];omega,h.turn mf (aN.trans ao) O O O O h.ok.count,aN.trans ao⟩
end
theorem z2F (xs:List (Int×Bytes))(j:Nat)(h:j<xs.length):((wrs xs).drop (j*2)).take 2=wr xs[j]:=by
 induction xs generalizing j with
 |nil=>simp at h
 | cons x r ih =>
   cases j with
   |zero=>simp[wrs,wr,List.flatMap_cons]
   | succ j =>
     have e:(wrs (x::r))=I x.1::S x.2::wrs r:=by simp[wrs,wr,List.flatMap_cons]
     rw[e,show(j+1)*2=(j*2)+1+1 by omega]
     simpa using ih j (by simpa using h)
theorem WN (a:Option Addr)(n cap:Nat)(w:World):LP Tryz.prog 221 [.slice a n cap] w λv w'=>∃b,v= .func (.func 235) #[] #[ptr b 0]/\VF w b [.slice a n cap] 121 w':=by
 refine Lb (e:=[(0,_)]) Tryz.func221 O Tryz.ntmps221 O O$ qN O$ Lm O O (Nc O O) ?_
 rintro _ w1 ⟨b1,rfl,hN⟩
 refine Lw O$ qM O$ qV (Z9 (first:=[]) (caps:=[.tmp 1]) O O)$ Lk O$ Lh Tryz.func221 O ?_
 exact⟨_,rfl,_,rfl,hN⟩
theorem YT (l bx:Nat)(ca:Value)(xs:List (Int×Bytes))(J:Nat->World->Prop)(Jx:World->Prop)(w:World)(hn:xs.length<4611686018427387904)
  (hJ:∀i w,J i w->(∃T,Lq w bx [ca] T)/\Sl w ca 334 2 xs.length (wrs xs))
  (hround:∀i w x,xs.reverse[i]? =some x->J i w->Z6 Tryz.prog l [I ((xs.length:Int)-1-i),.agg (wr x).toArray] w λv w'=>(v= .bool true/\J (i+1) w')\/(v= .bool false/\Jx w')) (h0:J 0 w):
  LP Tryz.prog 235 [.func (.yield l) #[] #[],ptr bx 0] w λv w'=>v= .tuple #[]/\(J xs.length w'\/Jx w'):=by
 obtain⟨⟨T,hM⟩,hS⟩:=hJ 0 w h0
 obtain⟨a,cap,rfl,ha⟩:=hS.rd.shape
 refine Lb (e:=[(0,_),(1,_)]) Tryz.func235 O Tryz.ntmps235 O O$ qN O$ qV (Lj WW O O hM O)$ Nd WW O$ Np O O$ Lk O$ Lc ?_
 rw[show(xs.length:Int)-1=(xs.length:Int)-1-((0:Nat):Int) by omega]
 refine Nj (α:=Nat) (0) (λi=>[(0,.func (.yield l) #[] #[]),(1,ptr bx 0),(3,I ((xs.length:Int)-1-i))]) (λi w=>i<=xs.length/\J i w) (λi=>xs.length-i) ?hI ?hround
 case hI=>exact⟨by omega,h0⟩
 case hround=>
  rintro i w1 ⟨hi,hj⟩ ih
  try dsimp only
  obtain⟨⟨T1,dJ⟩,iE⟩:=hJ i w1 hj;refine run_seq$ qN O$ Le O$ Pa O O$ Lf$ Lp O (λiH=>?_)$ λiH=>?_
  ·have aV:i<xs.length:=by omega
   have zx:=iE.shape;rcases zx with⟨-,h⟩|⟨gb,cap',kZ,jt⟩
   ·omega
   cases kZ;obtain⟨x,hx⟩:∃x,xs.reverse[i]? =some x:=⟨_,List.getElem?_eq_getElem (by simpa using aV)⟩
   have fB:((wrs xs).drop ((xs.length-1-i)*2)).take 2=wr x:=by
    rw[z2F xs _ (by omega)]
    congr 1
    rw[List.getElem?_reverse aV,List.getElem?_eq_getElem (by omega)] at hx;exact ML hx
   have hz:((xs.length:Int)-1-i)=((xs.length-1-i:Nat):Int):=by omega
   have hy:=hround i w1 x hx hj;rw[hz] at hy⊢;refine py$ run_seq$ Lc$ qN O$ Lu O O$ qV (Lj WW O O dJ O)$ Le O$ qV (M9 WW S3 O O (by omega))$ qV (LM ze9 O S3 O (iE.part fB) O)$ z1j O O (yy O O) (hy) ?_;rintro v w2 hv;rcases hv with⟨rfl,ky⟩|⟨rfl,ag⟩
   ·refine qV ((by first|exact Mh O|exact NL O)) ?_;refine Lf$ An O$ py$ Ld$ Li O$ Le O$ Np O O$ Lk O ?_;rw[show((xs.length-1-i:Nat):Int)-1=(xs.length:Int)-1-((i+1:Nat):Int) by omega];exact(ih (i+1) w2 ⟨by omega,ky⟩ (by omega)).qb
   ·refine qV ((by first|exact Mh O|exact NL O)) ?_;refine Lf$ Lr O$ Lh Tryz.func235 O ?_;exact⟨_,rfl,rfl,.inr ag⟩
  ·refine Ln O$ ME Tryz.func235 O ?_;have:i=xs.length:=by omega
   subst this;exact⟨_,rfl,rfl,.inl hj⟩
theorem z2t (xs:List (Int×Bytes))(n:Int)(i:Nat):(∀j x,j<i->xs.reverse[j]? =some x->x.1≠n)->∀x,xs.reverse[i]? =some x->x.1=n->S4 xs n=some x.2:=by
 intro g7 x hx he
 have aV:i<xs.reverse.length:=by
  rcases Nat.lt_or_ge i xs.reverse.length with h| h
  ·exact h
  ·rw[List.getElem?_eq_none h] at hx;cases hx
 have:xs.reverse.find? (λx=>x.1==n)=some x:=by
  rw[List.find?_eq_some_iff_getElem];refine⟨by simp[he],i,aV,?_,λj hj=>?_⟩
  ·rw[List.getElem?_eq_getElem aV] at hx;exact ML hx
  ·have:=g7 j _ hj (List.getElem?_eq_getElem (by omega))
   simpa using this
 simp[S4,this]
theorem z2z (xs:List (Int×Bytes))(n:Int):(∀j x,j<xs.length->xs.reverse[j]? =some x->x.1≠n)->S4 xs n=none:=by
 intro g7
 have:xs.reverse.find? (λx=>x.1==n)=none:=by
  rw[List.find?_eq_none];intro x hx;obtain⟨j,hj,rfl⟩:=List.getElem_of_mem hx;have:=g7 j _ (by simpa using hj) (List.getElem?_eq_getElem hj)
  simpa using this
 simp[S4,this]
theorem z7O {w:World}{p m:Nat}{kp ca:Value}{D:Dev}(n:Int)(h:NN w p m kp ca D)(hc:D.cache.length<1000000000000):
  LP Tryz.prog 195 [ptr p 0,I n] w λv w'=>v=S (D.now n)/\Ext w w':=by
 have hM:=h.Lg
 have aD:=h.ok.len
 have dM:=hc
 obtain⟨a,cap,rfl,ha⟩:=h.cache.rd.shape
 refine Lb (e:=[(0,_),(1,_)]) Tryz.func195 O Tryz.ntmps195 O O$ qN O$ Lm O O (Nc O O) ?_
 rintro _ w1 ⟨b3,rfl,eB,ad,aq⟩
 refine Lm O O (NJ (cs:=[_]) XB O) ?_
 rintro _ w2 ⟨b4,rfl,gn,ag,aF⟩
 replace h:=(h.ext ad).ext ag
 have mf:=h.Lg
 refine Lf$ run_seq$ qN O$ Le O$ LU O$ Lt TE O$ qV (Lj WW O O mf O)$ LD zcX O (WN a D.cache.length cap _) ?_
 rintro _ w3 ⟨bx,rfl,ft,ah,gt⟩
 replace h:=h.ext ah
 replace aq:=ah.Lg (ag.Lg aq)
 replace aF:=ah.Lg aF
 refine Lf$ Lc$ Px (ps:=[12,13]) (p:=[]) (q:=[_]) O zdC ?_
 rintro l w4 ay hl cF hD Rc dL eV
 have Fy:=z5Y dL eV
 have h3:=h
 replace h:=h.ext ay
 replace aq:=ay.Lg aq
 replace aF:=ay.Lg aF
 have CT:=gt.lt
 have jZ:=aq.lt
 have dU:=ad.size
 have cW:=ag.size
 have ob:=ah.size
 have Iq:bx<w3.heap.size:=gt.lt
 replace gt:=ay.Lg gt
 refine LP.mono (YT l bx (.slice a D.cache.length cap) D.cache
  (λi w'=>Rc .ready none w'/\Kp (λk=>k=l) w4 w'/\∀j x,j<i->D.cache.reverse[j]? =some x->x.1≠n)
  (λw'=>Rc .done (some .ret) w'/\Kp (λk=>k=l\/k=b4) w4 w'/\Lq w' b4 [S (D.now n)] 9) w4 (by omega) ?_ ?_ ⟨eV,Kp.refl _ _,by omega⟩) ?_
 ·rintro i w' ⟨h1,h2,-⟩;refine⟨⟨_,h2.Lg gt (by omega)⟩,h.cache.kp h2 λg hg dS=>?_⟩;have:=h3.cache.lt hg;omega
 ·rintro i w' x hx ⟨h1,h2,g7⟩;refine QO dL h1 O O ?_;have wc:=h2.size;refine Li O$ Lm O O (NJ (cs:=[_,_]) S3 O) ?_;rintro _ w5 ⟨b6,rfl,m7,aX,aR⟩;refine Ls O (M7 S3 O O O O aR (by simp)) ?_;rintro w6 ⟨mu,aU⟩;have aK:=aX.It aU (λi hi=>by omega);replace h1:=aK.rc dL h1 id;replace h2:=h2.trans aK.kp;have CU:=aX.size;have Ir:=mu.lt;refine Lf$ run_beginRound O dL h1 ?_;rintro w7 h7 aC;have bJ:=aC.Lg mu (by omega);have kd:=(h2.trans aC).Lg aq (by omega);refine Lc$ qN O$ Lt VS O$ qV ((by first|exact Lj U3 O O bJ O|exact Lj U3 O O kd O)) ?_;refine qV ((by first|exact Lj U3 O O bJ O|exact Lj U3 O O kd O)) ?_;refine Nb O O$ Lf$ Lp O (λdK=>?_)$ λdK=>?_
  ·have er:=(h2.trans aC).Lg aF (by omega);refine qN O$ Lt YX O$ qV ((by first|exact Lj U9 O O bJ O|exact Lj U9 O O kd O)) ?_;refine Ls O (MY XB O O O er (by simp)) ?_;rintro w8 ⟨cu,bB⟩;refine Lf$ TA dL (bB.rc dL h7 (by omega)) ?_;intro w9 h9 aP;refine .inr ⟨rfl,h9,((h2.trans aC).Lv λ_ h=> .inl h).trans ((bB.Lv λ_ h=> .inr h).trans (aP.Lv λ_ h=> .inl h)),?_⟩
   have CV:D.now n=x.2:=by
    unfold Dev.now;rw[z2t D.cache n i g7 x hx dK]
    rfl
   rw[CV];exact aP.Lg cu (by omega)
  ·refine py$ Ld$ Rk dL h7 ?_;intro w9 h9 aP;refine .inl ⟨rfl,h9,(h2.trans aC).trans aP,λj y hj hy=>?_⟩;rcases Nat.lt_or_ge j i with qw|qw
   ·exact g7 j y qw hy
   ·have:j=i:=by omega
    subst this;rw[hx] at hy;cases hy;exact dK
 ·rintro v w' ⟨rfl,⟨h1,h2,g7⟩|⟨h1,h2,hB⟩⟩
  ·refine⟨_,_,h1,by simp,λw5 h5=>?_⟩;have ak:=h2.trans h5;have aX:Ext w3 w5:=ay.It ak (λi hi=>by omega);replace h3:=h3.ext aX;have kd:=ak.Lg aq (by omega);have er:=ak.Lg aF (by omega);have sN:=ak.heap hD (by omega);refine Ld$ qN O$ Le O$ qV (Lj U3 O O kd O)$ LD z9H O (z0p n h3) ?_;rintro _ w6 ⟨rfl,aK⟩;replace er:=aK.Lg er;replace sN:=aK.heap sN id;refine Ls O (MY XB O O O er (by simp)) ?_;rintro w7 ⟨bJ,aC⟩;replace sN:=aC.heap sN (by omega);have cu:=(MM w7 w3.heap.size (.deferred none)).Lg bJ (by omega);refine Lf$ Sk (by simp) (Ud sN) Tryz.func195 (.cell1 U9 O O ((cu).cell _) .nil) ?_;refine⟨_,rfl,?_,?_⟩
   ·simp[Dev.now,z2z D.cache n g7,resVal]
   ·exact((((ad.trans (ag.trans ah)).trans aX).trans aK).It aC (λi hi=>by omega)).It (MM w7 w3.heap.size (.deferred none)) (λi hi=>by omega)
  ·refine⟨_,_,h1,by simp,λw5 h5=>?_⟩;have sN:=(h2.trans (h5.Lv λ_ h=> .inl h)).heap hD (by omega);have aI:=h5.Lg hB (by omega);have cu:=(MM w5 w3.heap.size (.deferred none)).Lg aI (by omega);refine Sk (by simp) (Ud sN) Tryz.func195 (.cell1 U9 O O ((cu).cell _) .nil) ?_;refine⟨_,rfl,rfl,?_⟩;exact(((ad.trans (ag.trans (ah.trans ay))).It h2 (λi hi=>by omega)).It h5 (λi hi=>by omega)).It (MM w5 w3.heap.size (.deferred none)) (λi hi=>by omega)
section
variable {w:World}{p m:Nat}{kp ca:Value}{D:Dev}
theorem z6I (h:NN w p m kp ca D):LP Tryz.prog 148 [ptr p 0] w λv w'=>v= .bool D.down/\w'=w:=by
 have hM:=h.Lg
 refine Lb (e:=[(0,_)]) Tryz.func148 O Tryz.ntmps148 O O$ qN O$ Lw O$ qM O$ Le O$ qV (Ml U27 O O)$ Lu O O$ LU O$ Lt YL O$ qV (Lj U4 O O hM O)$ M8 O O$ Lk O$ Lh Tryz.func148 O ?_
 exact⟨_,rfl,rfl,rfl⟩
end
theorem z57 (v:Value)(l:List Int)(x:Int)(w:World)(hl:l.length<=17592186044416)(hr:Rd w v 1 l.length (l.map I)):
  LP Tryz.prog 208 [v,I x] w λu w'=>(∃k,u=I k/\(0<=k↔x∈l))/\w'=w:=by
 obtain⟨a,cap,rfl,ha⟩:=hr.shape
 refine Lb (e:=[(0,_),(1,_)]) Tryz.func208 O Tryz.ntmps208 O O$ qN O$ Lk O$ run_seq$ qN O$ Le O$ Nd N3 O$ Le O$ Lf$ Lc$ Nj (α:=Nat) (0) (λi=>[(0,.slice a l.length cap),(1,I x),(7,I (l.length:Int)),(8,I (i:Int))]) (λi w'=>w'=w/\i<=l.length/\∀j,j<i->l[j]?≠some x) (λi=>l.length-i) ?hI ?hround
 case hI=>exact⟨rfl,by omega,by omega⟩
 case hround =>
  rintro i _ ⟨rfl,hi,g7⟩ ih
  try dsimp only
  refine qN O$ Mw O O$ Lf$ run_seq$ Lp O (λaV=>?_)$ λaV=>?_
  ·have fH:i<l.length:=by omega
   rcases hr.2 with⟨c,-,h⟩|⟨b,off,cap',kZ,aZ⟩
   ·omega
   cases kZ;refine py$ run_seq$ Lc$ qN O$ Le O$ Lw O$ qM O$ Lu O O$ Le O$ qV (M9 N3 Md O O (by omega))$ qV (LN U3 O O (aZ (i*1) (I l[i]) (by simp[fH]))) ?_;refine Nb O O$ Lf$ Lp O (λdK=>?_)$ λdK=>?_
   ·refine qN O$ Le O$ Lk O$ Lh Tryz.func208 O (⟨_,rfl,⟨(i:Int),rfl,?_⟩,rfl⟩);constructor
    ·intro _;rw[dK];exact List.getElem_mem fH
    ·intro _;omega
   ·refine py$ Ld$ Li O$ Mb O O$ Le O$ Lf ?_
    exact(ih (i+1) _ ⟨rfl,by omega,λj hj=>by
     rcases Nat.lt_or_ge j i with h| h
     ·exact g7 j h
     ·have:j=i:=by omega
      subst this;rw[List.getElem?_eq_getElem fH]
      exact λh=>dK (ML h).symm⟩ (by omega)).qb
  ·refine Ln O$ qN O$ Lk O$ Lh Tryz.func208 O (⟨_,rfl,⟨-1,rfl,?_⟩,rfl⟩);constructor
   ·intro h;omega
   ·intro h;obtain⟨j,hj,e⟩:=List.getElem_of_mem h;exact absurd (by rw[List.getElem?_eq_getElem hj,e]) (g7 j (by omega))
theorem YC (v:Value)(l:List Int)(x:Int)(w:World)(hl:l.length<=17592186044416)(hr:Rd w v 1 l.length (l.map I)):
  LP Tryz.prog 234 [v,I x] w λu w'=>u= .bool (decide (x∈l))/\w'=w:=by
 refine Lb (e:=[(0,_),(1,_)]) Tryz.func234 O Tryz.ntmps234 O O$ qN O$ Lw O$ qM O$ Lu O O$ LD z9n O (z57 v l x w hl hr) ?_
 rintro _ w1 ⟨⟨k,rfl,hk⟩,rfl⟩
 refine Pa O O$ Lk O$ Lh Tryz.func234 O (⟨_,rfl,?_,rfl⟩)
 simp only[resVal,hk]
theorem z19 (c x:Bytes)(rest:List Value)(i:Nat)(h:i+x.length<=c.length):MN (c.map P9++rest) i (x.map P9)=(z4p c i x).map P9++rest:=by
 unfold MN z4p
 rw[List.take_append_of_le_length (by simp;omega),List.drop_append_of_le_length (by simp;omega)]
 simp
theorem Uy {D:Dev}{l:List Int}{tn:Int}{mk:UInt8}{i:Nat}{x:Int×Bytes}(hx:D.cache[i]? =some x):D.fallTo l tn mk (i+1)=
  if(i:Int)=tn then Xk (D.fallTo l tn mk i) x.1 (mixN mk (((D.fallTo l tn mk i) x.1).getD (zeros (512*D.N))) x.2 D.N)
   else if(i:Int)∈l then Xk (D.fallTo l tn mk i) x.1 x.2 else D.fallTo l tn mk i:=by
 simp only[Dev.fallTo,hx]
theorem z6d {w : World}{p m : Nat}{kp ca cv : Value}{D : Dev}(h : NN w p m kp ca D)(l : List Int)(tn : Int)(mk : UInt8)(hl : l.length <= 17592186044416)(hr : Rd w cv 1 l.length (l.map I))(dM : D.cache.length < 2000000000000) :
  LP Tryz.prog 220 [ptr p 0,.agg #[cv,I tn,P9 mk]] w λv w'=>v= .tuple #[]/\NN w' p m (.slice none 0 0) (.slice none 0 0) (D.z6c l tn mk)/\Kp (λk=>k=p\/k=m) w w':=by
 have aD:=h.ok.len
 have hN:=h.ok.hN
 have CW:=mk.toNat_lt
 have Is:=h.pm
 have CX:=h.lt m (.inr (.inl O))
 have Fz:∀{w':World},Ext w w'->w.heap.size<=w'.heap.size:=λh=>h.size
 obtain⟨a,cap,rfl,ha⟩:=h.cache.rd.shape
 obtain⟨ac,capc,rfl,KQ⟩:=hr.shape
 refine Lb (e:=[(0,_),(1,_)]) Tryz.func220 O Tryz.ntmps220 O O$ qN O$ Lm O O (Nc O O) ?_
 rintro _ w1 ⟨b3,rfl,eB,ad,aq⟩
 have h0:=h.ext ad
 have dU:=ad.size
 replace hr:=hr.ext ad
 have CT:=aq.lt
 have hM:=h0.Lg
 refine Lf$ run_seq$ qN O$ Le O$ LU O$ Lt TE O$ qV (Lj WW O O hM O)$ Nd WW O$ Le O$ Lf$ Lc$ Nj (α:=Nat) (0) (λi=>[(0,ptr p 0),(3,ptr b3 0),(11,.slice a D.cache.length cap),(12,I (D.cache.length:Int)),(13,I (i:Int))]) (λi wi=>i<=D.cache.length/\NN wi p m kp (.slice a D.cache.length cap) {D with sf:=D.fallTo l tn mk i}/\Rd wi (.slice ac l.length capc) 1 l.length (l.map I)/\Lq wi b3 [.slice ac l.length capc,I tn,P9 mk] 118/\Kp (λk=>k=m) w1 wi) (λi=>D.cache.length-i) ?hI ?hround
 case hI=>exact⟨by omega,h0,hr,aq,Kp.refl _ _⟩
 case hround =>
  rintro i wi ⟨hi,hd,lM,fu,ru⟩ ih
  try dsimp only
  have Iu:=ru.size;refine qN O$ Mw O O$ Lf$ run_seq$ Lp O (λaV=>?_)$ λaV=>?_
  ·have fH : i < D.cache.length := by omega
   have nt:=hd.cache;rcases nt.shape with⟨-,h⟩|⟨gb,cap',kZ,jt⟩
   ·exact absurd h (by show ¬D.cache.length=0;omega)
   cases kZ;obtain⟨x,hx⟩:∃x,D.cache[i]? =some x:=⟨_,List.getElem?_eq_getElem fH⟩;have Ex:D.cache[i]=x:=by rw[List.getElem?_eq_getElem fH] at hx;exact ML hx
   have fB:((wrs D.cache).drop (i*2)).take 2=wr x:=by rw[z2F _ _ fH,Ex]
   have iq:=hd.ok.cache x (List.mem_of_getElem? hx);simp only at iq;have kH:=nt.part fB;refine py$ run_seq$ Lc$ qN O$ Le O$ qV (M9 WW S3 O O (by omega))$ qV (LM ze9 O S3 O kH O)$ Lm O O (NJ (cs:=[_,_]) S3 O) ?_;rintro _ w2 ⟨b5,rfl,gQ,ag,aI⟩;refine Lw O$ Ls O (M7 S3 O O O O aI (by simp)) ?_;rintro w3 ⟨dA,ax⟩;replace dA:Lq w3 b5 [I x.1,S x.2] 334:=dA;have ah:Ext wi w3:=ag.It ax (λj hj=>by omega);have gK:=dA.lt;replace hd:=hd.ext ah;have lz:=hd.lt;replace lM:=lM.ext ah;have pK:=lM;replace fu:=ah.Lg fu;have jZ:=fu.lt;have cA:Kp (λk=>k=m) w1 w3:=ru.trans ah.kp;have Iv:=ah.size;have FA:¬b3=b5:=by have:=ag.size;have:=fu;omega
   refine Lf$ Lc$ qN O$ Le O$ Lt z84 O$ qV ((by first|exact Lj U3 O O fu O|exact Lj U3 O O dA O)) ?_;refine Nb O O$ Lk O$ Lp O (λzE=>?_)$ λzE=>?_
   ·refine qN O$ Le O$ Lt VS O$ qV ((by first|exact Lj U3 O O fu O|exact Lj U3 O O dA O)) ?_;refine LD z9H O (z0p x.1 hd) ?_;rintro _ w4 ⟨rfl,ay⟩;obtain⟨k0,gN⟩:∃k0,Dev.kept {D with sf:=D.fallTo l tn mk i} x.1=k0:=⟨_,rfl⟩;have xI:k0.length=512*D.N:=by rw[<-gN];exact hd.ok.kept x.1
    rw[gN];refine Lm O O (z5X U9 Mz U5 O) ?_;rintro _ w5 ⟨bb,capb,rest,rfl,⟨uA,aX,zF⟩,FB⟩;have dr:=ay.trans aX;replace hd:=hd.ext dr;replace lM:=lM.ext dr;replace fu:=dr.Lg fu;replace dA:=dr.Lg dA;have Iw:=zF.lt;have u9:=hd.Lg;have FC:=dr.size;have Ix:=ay.size;have Iy:=hd.Lg.lt;refine Lk O$ run_seq$ qN O$ Le O$ LU O$ Lt VI O$ Lt V7 O$ qV (Lj U3 O O u9 O)$ Le O$ Lf$ Lc$ Nj (α:=Nat) (0) (λs=>[(0,ptr p 0),(3,ptr b3 0),(5,ptr b5 0),(6,.slice (some ⟨bb,0,none⟩) k0.length capb),(11,.slice (some ⟨gb,0,none⟩) D.cache.length cap),(12,I (D.cache.length:Int)),(13,I (i:Int)),(32,I (D.N:Int)),(33,I (s:Int))]) (λs ws=>s<=D.N/\Lq ws bb ((mixN mk k0 x.2 s).map P9++rest) 5/\Kp (λk=>k=bb) w5 ws) (λs=>D.N-s) ?hI ?hround
    case hI=>exact⟨by omega,zF,Kp.refl _ _⟩
    case hround=>
     rintro s ws ⟨hs,jl,fw⟩ ihs
     try dsimp only
     have pL:=fw.Lg fu (by omega);have sO:=fw.Lg dA (by omega);have ev:=RQ mk k0 x.2 D.N xI iq.2.2 s hs;refine qN O$ Mw O O$ Lf$ run_seq$ Lp O (λgR=>?_)$ λgR=>?_
     ·have Iz:s<D.N:=by omega
      obtain⟨q,hq⟩:∃q,mk.toNat / 2^s=q:=⟨_,rfl⟩;have KR:q<256:=by rw[<-hq];exact Nat.lt_of_le_of_lt (Nat.div_le_self _ _) CW
      refine py$ run_seq$ Lc$ qN O$ Le O$ Lw O$ qM O$ Lt z8n O$ qV (Lj U5 O O pL O)$ Le O$ qV (Qg s (2^s) O O (by simp only[IntKind.bits];omega) O) ?_;rw[hq];refine qV (zfD O O (by omega) (by omega)) ?_;rw[Nat.and_one_is_mod];refine Nb O O$ Lf$ Lp O (λmZ=>?_)$ λmZ=>?_
      ·have nu:q%2=1:=by omega
       refine N7 (λw'=>Kp (λk=>k=bb) ws w') O$ LA 0 O O ((Kp.refl _ ws).drew)$ LA 1 O O ((Kp.refl _ ws).drew)$ Ll 2 O (T6 O O (by omega)) ((Kp.refl _ ws).drew)$ LA 3 O O ((Kp.refl _ ws).drew)$ Ll 4 O (Qu O O (by omega)) ((Kp.refl _ ws).drew)$ Ll 5 O (T6 O O (by omega)) ((Kp.refl _ ws).drew)$ Ll 7 O (LV YX O) ((Kp.refl _ ws).drew)$ qT 8 O (λ_ h=>Lj U9 O O (h.Lg sO (by omega)) O) ((Kp.refl _ ws).drew)$ LA 9 O O ((Kp.refl _ ws).drew)$ Ll 10 O (T6 O O (by omega)) ((Kp.refl _ ws).drew)$ Ll 11 O (Xg U9 O O (by omega)) ((Kp.refl _ ws).drew)$ Ll 6 O (zaN (i:=s*512) (j:=(s+1)*512) Mz Tq O O O (by omega) (by omega)) ((Kp.refl _ ws).drew)$ qO 12 ?_;refine NY (i:=12) O O O (zfw Mz Tq O O ((Ext.LC ws).Lg jl) (by simp[ev];omega)) ?_;rintro _ w6 ⟨rfl,aR,aU⟩;refine⟨(Kp.refl _ ws).drew.trans aU,?_⟩
       have e6:((x.2.drop (s*512)).take ((s+1)*512-s*512)).map P9=((x.2.drop (512*s)).take 512).map P9:=by
        rw[show(s+1)*512-s*512=512 by omega,Nat.mul_comm]
       rw[e6,show 0+s*512*1=512*s by omega,z19 _ _ _ _ (by simp[ev,iq.2.2];omega)] at aR
       have em:mixN mk k0 x.2 (s+1)=z4p (mixN mk k0 x.2 s) (512*s) ((x.2.drop (512*s)).take 512):=by
        simp only[mixN,hq,nu,if_true]
       rw[<-em] at aR;refine qE$ Ld$ Li O$ Mb O O$ Le O$ Lf ?_;exact(ihs (s+1) w6 ⟨by omega,aR,fw.trans ((Kp.refl _ ws).drew.trans aU)⟩ (by omega)).qb
      ·have nu:¬q%2=1:=by omega
       have em:mixN mk k0 x.2 (s+1)=mixN mk k0 x.2 s:=by simp only[mixN,hq,nu,if_false]
       rw[<-em] at jl;refine py$ Ld$ Li O$ Mb O O$ Le O$ Lf ?_;exact(ihs (s+1) ws ⟨by omega,jl,fw⟩ (by omega)).qb
     ·have Bi:s=D.N:=by omega
      subst Bi;have ub:=hd.kp fw λk hk e8=>by have:=lz k hk;omega
      obtain⟨kv,ns,mD⟩:=ub.map;have FD:=ub.Lg;have xJ:Ext w3 ws:=dr.It fw (λj hj=>by omega);have sP:=pK.ext xJ;refine Ln O$ N7 (λw'=>Kp (λk=>k=m) ws w') O$ LA 0 O O ((Kp.refl _ ws).drew)$ Ll 1 O (Mo O) ((Kp.refl _ ws).drew)$ Ll 2 O (LV YG O) ((Kp.refl _ ws).drew)$ qT 3 O (λ_ hS=>(by first|exact Lj ZJ O O (hS.Lg FD ub.pm) O|exact Lj ZJ O O (hS.Lg sO (by omega)) O)) ((Kp.refl _ ws).drew) ?_;refine Ll 4 O (LV VS O) ((Kp.refl _ ws).drew)$ qT 5 O (λ_ hS=>(by first|exact Lj U3 O O (hS.Lg FD ub.pm) O|exact Lj U3 O O (hS.Lg sO (by omega)) O)) ((Kp.refl _ ws).drew) ?_;refine LA 6 O O ((Kp.refl _ ws).drew)$ qT 7 O (λ_ h=>z3I (l:=mixN mk k0 x.2 D.N) Mz U5 U9 O (h.Lg jl (by omega)) (z0E _ _ _ (by omega)) (by omega)) ((Kp.refl _ ws).drew)$ qO 8$ M1 (i:=8) O O (zmu (k:=x.1) (K:=KI) ZJ (NX U3) O O O (Ext.map (Ext.LC ws) ns)) ?_;rintro w7 ⟨g8,aC⟩;refine⟨(Kp.refl _ ws).drew.trans aC,?_⟩;have ir:=(Kp.refl (λi=>i=m) ws).drew.trans aC;have qC:=ub.put mD g8 ir (ub.ok.put ⟨iq.1,iq.2.1⟩ (RQ mk k0 x.2 D.N xI iq.2.2 D.N (Nat.le_refl _)))
      have ef:Xk (D.fallTo l tn mk i) x.1 (mixN mk k0 x.2 D.N)=D.fallTo l tn mk (i+1):=by
       rw[Uy hx,if_pos zE,<-gN];rfl
      simp only[ef] at qC;refine qE$ Ld$ Ld$ Li O$ Mb O O$ Le O$ Lf ?_;exact(ih (i+1) w7 ⟨by omega,qC,sP.kpm ns ir,ir.Lg pL (by omega),cA.trans (xJ.kp.trans ir)⟩ (by omega)).qb
   ·have xK:=hd.Lg;refine qN O$ Lt z8t O$ qV ((by first|exact Lj N3 O O fu O|exact Lj N3 O O dA O)) ?_;refine Le O$ LD zbQ O (YC (.slice ac l.length capc) l (i:Int) w3 hl pK) ?_;rintro _ w4 ⟨rfl,rfl⟩;refine Lk O$ Lp O (λaT=>?_)$ λaT=>?_
    ·obtain⟨kv,ns,mD⟩:=hd.map;refine N7 (λw'=>Kp (λk=>k=m) w4 w') O$ LA 0 O O ((Kp.refl _ w4).drew)$ Ll 1 O (Mo O) ((Kp.refl _ w4).drew)$ Ll 2 O (LV YG O) ((Kp.refl _ w4).drew)$ qT 3 O (λ_ hS=>(by first|exact Lj ZJ O O (hS.Lg xK hd.pm) O|exact Lj ZJ O O (hS.Lg dA (by omega)) O)) ((Kp.refl _ w4).drew) ?_;refine Ll 4 O (LV VS O) ((Kp.refl _ w4).drew)$ qT 5 O (λ_ hS=>(by first|exact Lj U3 O O (hS.Lg xK hd.pm) O|exact Lj U3 O O (hS.Lg dA (by omega)) O)) ((Kp.refl _ w4).drew) ?_;refine Ll 6 O (LV YX O) ((Kp.refl _ w4).drew)$ qT 7 O (λ_ hS=>(by first|exact Lj U9 O O (hS.Lg xK hd.pm) O|exact Lj U9 O O (hS.Lg dA (by omega)) O)) ((Kp.refl _ w4).drew) ?_;refine qO 8$ M1 (i:=8) O O (zmu (k:=x.1) (K:=KI) ZJ (NX U3) O O O (Ext.map (Ext.LC w4) ns)) ?_;rintro w7 ⟨g8,aC⟩;refine⟨(Kp.refl _ w4).drew.trans aC,?_⟩;have ir:=(Kp.refl (λi=>i=m) w4).drew.trans aC;have qC:=hd.put mD g8 ir (hd.ok.put ⟨iq.1,iq.2.1⟩ iq.2.2)
     have ef:Xk (D.fallTo l tn mk i) x.1 x.2=D.fallTo l tn mk (i+1):=by
      rw[Uy hx,if_neg zE,if_pos aT]
     simp only[ef] at qC;refine qE$ Ld$ Ld$ Li O$ Mb O O$ Le O$ Lf ?_;exact(ih (i+1) w7 ⟨by omega,qC,pK.kpm ns ir,ir.Lg fu (by omega),cA.trans ir⟩ (by omega)).qb
    ·have ef:D.fallTo l tn mk i=D.fallTo l tn mk (i+1):=by
      rw[Uy hx,if_neg zE,if_neg aT]
     rw[ef] at hd;refine py$ Ld$ Ld$ Li O$ Mb O O$ Le O$ Lf ?_;exact(ih (i+1) w4 ⟨by omega,hd,pK,fu,cA⟩ (by omega)).qb
  ·have aT:i=D.cache.length:=by omega
   subst aT;have xK:=hd.Lg;refine Ln O$ qN O$ Le O$ LU O$ Lt TE O$ Ls O (MY z3q O O O xK (by simp)) ?_;rintro w5 ⟨aI,ak⟩;refine qM O$ Le O$ qV (O6 (cs:=[_,_,_,_]) z2Z O zcx O O)$ LU O$ Lt St O$ Ls O (M7 z2Z O O O O aI (by simp)) ?_;rintro w6 ⟨aR,aU⟩;replace aR:Lq w6 p [I 0,.slice none 0 0,I 0,P9 0,I (D.B:Int),I (D.N:Int),.map (some m),.slice none 0 0,.bool D.down,I D.calls,I D.reads] 123:=aR;refine Lf$ Li O$ Le O$ LU O$ Lt YL O$ Ls O (MY Rz O O O aR (by simp)) ?_;rintro w7 ⟨bJ,aC⟩;refine Lf$ ME Tryz.func220 O ?_;have ke:=(ak.trans aU).trans aC;obtain⟨kv,ns,mD⟩:=hd.map;refine⟨_,rfl,rfl,⟨bJ,⟨kv,ke.map ns λe=>hd.pm e.symm,mD⟩,Sl.nil w7 _ _,Sl.nil w7 _ _,?_⟩,?_⟩
   ·exact⟨hd.ok.hB,hd.ok.hN,by simp[Dev.z6c],hd.ok.sf,λx hx=>by simp[Dev.z6c] at hx,by have:=aD;simp[Dev.z6c];omega,hd.ok.reads⟩
   ·exact((Ext.kp ad).trans (ru.Lv λ_ h=> .inr h)).trans (ke.Lv λ_ h=> .inl h)
def Dev.push (D:Dev)(n:Int)(s:Bytes):Dev:={D with cache:=D.cache++[(n,s)]}
theorem z6D {P:Program}{e:Env}{d:Option Nat}{ty t t':TypeId}{pos:String}{aft:Array Edge}{g:Option (Nat×Bool)}{x y:Operand}{w:World}{a b:Int}(hx:look e x=some (I a))(hy:look e y=some (I b)):Y P e ⟨d,.binOp .add t x y t',ty,pos,aft,g⟩ (I (IntKind.i64.wrap (a+b))) w w:=fun ρ hρ=>by simp[execOp,go_sem,hρ _ _ hx,hρ _ _ hy]
def Dev.z8Z (D:Dev):Dev:=D.z6c D.Oi D.z8L D.mask
def Dev.write (D:Dev)(n:Int)(s:Bytes):Dev×Int:=
 if D.down then(D,8)
 else if D.has n=false\/s.length≠512*D.N then(D,1)
 else if D.due=1 then(((D.push n s).count).z8Z,8) else((D.push n s).count,0)
def Dev.read (D:Dev)(n:Int):Dev×Bytes×Int:=
 if D.down then(D,[],8) else if D.has n=false then(D,[],1) else({D with reads:=IntKind.i64.wrap (D.reads+1)},D.now n,0)
def Wb (w:World)(p m:Nat)(kp ca:Value)(D':Dev)(w':World):Prop:=∃kp' ca',NN w' p m kp' ca' D'/\Upd (fpD p m kp ca) (fpD p m kp' ca') w w'
theorem Wb.same {w w':World}{p m:Nat}{kp ca:Value}{D:Dev}(h:NN w' p m kp ca D)(k:Ext w w'):Wb w p m kp ca D w':=⟨kp,ca,h,k.Xk⟩
theorem z6v {w w':World}{p m:Nat}{kp ca:Value}(k:Kp (λi=>i=p\/i=m) w w'):Upd (fpD p m kp ca) (fpD p m (.slice none 0 0) (.slice none 0 0)) w w':=
 ⟨k.Lv λi hi=>hi.elim .inl λh=> .inr (.inl h),λi hi=>by
  rcases hi with h|h|h| h
  ·exact .inl (.inl h)
  ·exact .inl (.inr (.inl h))
  ·cases h
  ·cases h⟩
section
variable {w:World}{p m:Nat}{kp ca:Value}{D:Dev}
theorem z7h (n:Int)(h:NN w p m kp ca D)(hc:D.Bd):
  LP Tryz.prog 152 [ptr p 0,I n] w λv w'=>v= .tuple #[S (D.read n).2.1,I (D.read n).2.2]/\Wb w p m kp ca (D.read n).1 w':=by
 refine Lb (e:=[(0,_),(1,_)]) Tryz.func152 O Tryz.ntmps152 O O$ qN O$ Lw O$ Lk O$ run_seq$ qN O$ Le O$ LD z9u O (XG h) ?_
 rintro _ w1 ⟨rfl,rfl⟩
 cases hd:D.down with
 | true =>
   refine Lw O$ qM O$ Le O$ Mu O O$ Lf$ Lp O (λhz=>?_)$ λhz=>?_
   ·refine qN O$ Le O$ Lw O$ Lk O$ Lh Tryz.func152 O ?_;have e:D.read n=(D,[],8):=by simp[Dev.read,hd]
    rw[e];exact⟨_,rfl,rfl,Wb.same h (Ext.refl _)⟩
   ·exact absurd (by decide) hz
 | false =>
   refine Lw O$ qM O$ Le O$ Mu O O$ Lf$ Lp O (λhz=>?_)$ λhz=>?_
   ·exact absurd hz (by decide)
   ·refine py$ run_seq$ qN O$ Lu O O$ LD z9o O (z2X n h) ?_;rintro _ w2 ⟨rfl,rfl⟩
    cases hh:D.has n with
    | false =>
      refine qV ((by first|exact Mh O|exact NL O)) ?_;refine Lf$ Lr O$ qN O$ Lw O$ Lk O$ Lh Tryz.func152 O ?_;have e:D.read n=(D,[],1):=by simp[Dev.read,hd,hh]
      rw[e]
      exact⟨_,rfl,rfl,Wb.same h (Ext.refl _)⟩
    | true =>
      refine qV ((by first|exact Mh O|exact NL O)) ?_;refine Lf$ An O ?_;have hM:=h.Lg;refine py$ qN O$ Le O$ LU O$ Lt z3y O$ qV (Lj U3 O O hM O)$ qV (z6D O O)$ LU O$ Lt z3y O$ Ls O (MY Md O O O hM (by simp)) ?_;rintro w3 ⟨CY,ax⟩;have h3:=h.turn (D':={D with reads:=IntKind.i64.wrap (D.reads+1)}) CY ax O O O O ⟨h.ok.hB,h.ok.hN,h.ok.due,h.ok.sf,h.ok.cache,h.ok.len,trivial⟩;refine qM O$ Lu O O$ LD zeh O (z7O n h3 hc.2.1) ?_;rintro _ w4 ⟨rfl,ay⟩;refine Lw O$ Lk O$ Lh Tryz.func152 O ?_;have e:D.read n=({D with reads:=IntKind.i64.wrap (D.reads+1)},D.now n,0):=by simp[Dev.read,hd,hh]
      rw[e];exact⟨_,rfl,rfl,kp,ca,h3.ext ay,(ax.Lv λ_ h=> .inl h).trans ay.kp,λ_ h=> .inl h⟩
theorem z52 (n : Int)(s : Bytes)(h : NN w p m kp ca D)(hc : D.Bd)(hk : D.Oi.length <= 17592186044416) :
  LP Tryz.prog 192 [ptr p 0,I n,S s] w λv w'=>v=I (D.write n s).2/\Wb w p m kp ca (D.write n s).1 w':=by
 have ev:maxLen=9223372036854775807:=rfl
 obtain⟨dv,dM,lH⟩:=hc
 have IA:=h.ok.len
 refine Lb (e:=[(0,_),(1,_),(2,_)]) Tryz.func192 O Tryz.ntmps192 O O$ qN O$ Lk O$ run_seq$ qN O$ Le O$ LD z9u O (XG h) ?_
 rintro _ w1 ⟨rfl,rfl⟩
 cases hd:D.down with
 | true =>
   refine Lw O$ qM O$ Le O$ Mu O O$ Lf$ Lp O (λhz=>?_)$ λhz=>?_
   ·refine qN O$ Le O$ Lk O$ Lh Tryz.func192 O ?_;have e:D.write n s=(D,8):=by simp[Dev.write,hd]
    rw[e];exact⟨_,rfl,rfl,Wb.same h (Ext.refl _)⟩
   ·exact absurd (by decide) hz
 | false =>
   refine Lw O$ qM O$ Le O$ Mu O O$ Lf$ Lp O (λhz=>?_)$ λhz=>?_
   ·exact absurd hz (by decide)
   ·refine py$ run_seq$ qN O$ Lu O O$ LD z9o O (z2X n h) ?_;rintro _ w2 ⟨rfl,rfl⟩
    cases hh:D.has n with
    | false =>
      refine qV ((by first|exact Mh O|exact NL O)) ?_;refine Le O$ qS$ qS$ qS$ qS$ qS$ MU O O$ Lf$ Lr O$ qN O$ Lk O$ Lh Tryz.func192 O ?_;have e:D.write n s=(D,1):=by simp[Dev.write,hd,hh]
      rw[e]
      exact⟨_,rfl,rfl,Wb.same h (Ext.refl _)⟩
    | true =>
      have hn:0<=n/\n<(D.B:Int):=by simpa[Dev.has] using hh
      refine qV ((by first|exact Mh O|exact NL O)) ?_;refine Lu O O$ qV (RK U9 O)$ Le O$ LD za3 O (Wv h) ?_;rintro _ w3 ⟨rfl,rfl⟩;refine Mu O O$ M8 O O$ Lf$ Lp O (λcF=>?_)$ λcF=>?_
      ·refine qN O$ Lk O$ Lh Tryz.func192 O ?_
       have e:D.write n s=(D,1):=by
        have:s.length≠512*D.N:=by omega
        simp[Dev.write,hd,hh,this]
       rw[e];exact⟨_,rfl,rfl,Wb.same h (Ext.refl _)⟩
      ·have fm:s.length=512*D.N:=by omega
       obtain⟨a,cap,rfl,ha⟩:=h.cache.rd.shape;have hM:=h.Lg;refine py$ qN O$ Lu O O$ LU O$ Lt TE O$ qV (Lj WW O O hM O)$ Lu O O$ qV (O6 (cs:=[_,_]) S3 O zcv O O)$ Lm O O (RN (cs:=[_,_]) (zs:=[Value.int .i64 0,Value.string ⟨#[]⟩]) WW S3 O (by kernel_rfl) O O O (by decide)) ?_;rintro _ w4 ⟨b4,rfl,⟨gn,ay,aF⟩,dT⟩;have nv:=h.cache.ext ay;refine Lm O O (pap WW S3 O (by decide) O O nv dT.rd (by intro c hc;simp at hc;rcases hc with rfl|rfl<;>rfl) (by omega) (by omega)) ?_;rintro v' w5 ⟨fD,ak,qD,-⟩;have CB:oneV v'=true:=by rcases fD.shape with⟨rfl,-⟩|⟨g,cap,rfl,-⟩<;>rfl
       have h4:=h.ext ay
       have kV:∀g,(Value.slice a D.cache.length cap).ownBlock=some g->¬g=p:=λg hg pI=>by
        obtain⟨xs,fz',hx⟩:=P7 h4.cache hg;obtain⟨fz,hb,-⟩:=h4.Lg;rw[pI,hb] at hx;cases hx
       have u9:=ak.Lg h4.Lg (λhg=>kV p hg O);refine LU O$ Lt TE O$ Ls O (MY z3q O O CB u9 (by simp)) ?_;rintro w6 ⟨aR,aU⟩;have eQ:=h.Lg.lt
       have h6:NN w6 p m kp v' (D.push n s):=by
        refine⟨aR,?_,?_,?_,?_⟩
        ·obtain⟨kv,ns,mD⟩:=h4.map;exact⟨kv,aU.map (ak.map ns λhg=>(h4.zdw hg).2.1 O) λe=>h4.pm e.symm,mD⟩
        ·have e:wrs (D.push n s).cache=wrs D.cache++[I n,S s]:=by simp[Dev.push,wrs,wr]
         have e2:(D.push n s).cache.length=D.cache.length+1:=by simp[Dev.push]
         rw[e,e2];refine fD.kp aU λg hg=>?_;rcases qD g hg with h'|h'
         ·exact(h4.zdw h').1
         ·have:=ay.size;omega
        ·refine(h4.Oi.kp ak λg hg hc=>(h4.zdL hg).2.2 hc).kp aU λg hg=>(h4.zdL hg).1
        ·refine⟨h.ok.hB,h.ok.hN,h.ok.due,h.ok.sf,λx hx=>?_,h.ok.len,h.ok.reads⟩;simp only[Dev.push,List.mem_append,List.mem_singleton] at hx;rcases hx with hx|rfl
         ·exact h.ok.cache x hx
         ·exact⟨hn.1,hn.2,fm⟩
       refine Lf$ LS.qb (e:=[(0,_),(6,_)]) ?_;refine run_seq$ qN O$ Le O$ LD zcu O (z0d h6 dv) ?_;rintro _ w7 ⟨rfl,h7,aC⟩
       have hu:Upd (fpD p m kp (.slice a D.cache.length cap)) (fpD p m kp v') w3 w7:=by
        refine⟨(ay.kp.trans (ak.Lv λi hi=> .inr (.inr (.inl hi)))).trans ((aU.Lv λi hi=> .inl hi).trans (aC.Lv λi hi=> .inl hi)),λi hi=>?_⟩;rcases hi with h'|h'|h'|h'
        ·exact .inl (.inl h')
        ·exact .inl (.inr (.inl h'))
        ·rcases qD i h' with FE|FE
         ·exact .inl (.inr (.inr (.inl FE)))
         ·have:=ay.size;exact .inr (by omega)
        ·exact .inl (.inr (.inr (.inr h')))
       refine Lf$ Lp O (λpJ=>?_)$ λpJ=>?_
       ·have IB:=h7.Lg;refine qN O$ Lu O O$ LU O$ Lt St O$ Lt z8V O$ qV (LM zew O z6J O (Lq.cells (n:=3) IB (news:=[_,_,_]) O) O)$ LD zdm O (z6d h7 D.Oi D.z8L D.mask hk (h7.Oi.rd) (by show(D.cache++[(n,s)]).length<2000000000000;simp;omega)) ?_;rintro _ w8 ⟨rfl,h8,bB⟩;refine qM O$ Lk O$ Lh Tryz.func192 O ?_
        have e:D.write n s=(((D.push n s).count).z8Z,8):=by
         have nw:D.due=1:=pJ;simp[Dev.write,hd,hh,fm,nw]
        rw[e];exact⟨_,rfl,rfl,_,_,h8,hu.trans (z6v bB)⟩
       ·refine py$ qN O$ Lk O$ Lh Tryz.func192 O ?_
        have e:D.write n s=((D.push n s).count,0):=by
         have nw:¬D.due=1:=pJ;simp[Dev.write,hd,hh,fm,nw]
        rw[e];exact⟨_,rfl,rfl,_,_,h7,hu⟩
end
section
variable {w:World}{p m:Nat}{kp ca:Value}{D:Dev}
def Dev.z3s (D:Dev)(n:Nat):List Bytes:=(List.range n).map λj:Nat=>D.now (j:Int)
@[simp] theorem imageTo_length (D:Dev) (n:Nat):(D.z3s n).length=n:=by simp[Dev.z3s]
theorem z7v {w:World}{v:Value}{e size n:Nat}{cs:List Value}(h:Sl w v e size n cs):oneV v=true:=by
 rcases h.shape with⟨rfl,-⟩|⟨g,cap,rfl,-⟩<;>rfl
end
def Vm (b n:Int):Prop:=16<=b/\b<=4096/\1<=n/\n<=8
instance (b n:Int):Decidable (Vm b n):=by unfold Vm;infer_instance
def Dev.fresh (B N:Nat):Dev:=⟨0,[],0,0,B,N,λ_=>none,[],false,0,0⟩
theorem z4K (b n:Int)(w:World):LP Tryz.prog 52 [.agg #[I b,I n]] w λv w'=>v=I (if Vm b n then 0 else 1)/\Ext w w':=by
 refine Lb (e:=[(0,_)]) Tryz.func52 O Tryz.ntmps52 O O$ qN O$ Lm O O (Nc O O) ?_
 rintro _ w1 ⟨b1,rfl,bR,ad,ai⟩
 by_cases hg:Vm b n
 ·obtain⟨g1,g2,g3,g4⟩:=hg;refine Lk O$ run_seq$ qN O$ Lt UD O$ qV (Lj U3 O O ai O)$ Mw O O$ M5$ Le O$ Lt UD O$ qV (Lj U3 O O ai O)$ MH O O$ M5$ M8 O O$ Le O ?_;refine Lt V7 O$ qV (Lj U3 O O ai O)$ Mw O O$ M5$ M8 O O$ Le O$ Lt V7 O$ qV (Lj U3 O O ai O)$ MH O O$ M5$ M8 O O$ Lf$ An O$ py ?_;refine qN O$ Lk O$ Lh Tryz.func52 O ?_;exact⟨_,rfl,by rw[if_pos ⟨g1,g2,g3,g4⟩];rfl,ad⟩
 ·refine Lk O$ run_seq$ qN O$ Lt UD O$ qV (Lj U3 O O ai O)$ Mw O O$ Oh (λh1=>?_)$ λh1=>?_
  ·refine Le O$ qS$ qS$ qS$ MU O O$ Le O$ qS$ qS$ qS$ MU O O$ Le O$ qS$ qS$ qS ?_;refine MU O O$ Lf$ Lr O$ qN O$ Lk O$ Lh Tryz.func52 O ?_;exact⟨_,rfl,by rw[if_neg hg];rfl,ad⟩
  ·refine Le O$ Lt UD O$ qV (Lj U3 O O ai O)$ MH O O$ M8 O O$ Oh (λh2=>?_)$ λh2=>?_
   ·refine Le O$ qS$ qS$ qS$ MU O O$ Le O$ qS$ qS$ qS$ MU O O$ Lf$ Lr O$ qN O$ Lk O ?_;refine Lh Tryz.func52 O ?_;exact⟨_,rfl,by rw[if_neg hg];rfl,ad⟩
   ·refine Le O$ Lt V7 O$ qV (Lj U3 O O ai O)$ Mw O O$ M8 O O$ Oh (λh3=>?_)$ λh3=>?_
    ·refine Le O$ qS$ qS$ qS$ MU O O$ Lf$ Lr O$ qN O$ Lk O$ Lh Tryz.func52 O ?_;exact⟨_,rfl,by rw[if_neg hg];rfl,ad⟩
    ·have:8<n:=by unfold Vm at hg;omega
     refine Le O$ Lt V7 O$ qV (Lj U3 O O ai O)$ MH O O$ Ns$ M8 O O$ Lf$ Lr O$ qN O$ Lk O$ Lh Tryz.func52 O ?_;exact⟨_,rfl,by rw[if_neg hg];rfl,ad⟩
theorem zaJ (B N:Nat)(w:World)(hg:Vm B N):LP Tryz.prog 27 [.agg #[I (B:Int),I (N:Int)]] w λv w'=>∃p m,v= .tuple #[ptr p 0,I 0]/\NN w' p m (.slice none 0 0) (.slice none 0 0) (Dev.fresh B N)/\Ext w w'/\w.heap.size<=p/\w.heap.size<=m:=by
 obtain⟨g1,g2,g3,g4⟩:=hg
 refine Lb (e:=[(0,_)]) Tryz.func27 O Tryz.ntmps27 O O$ qN O$ Lm O O (Nc O O) ?_
 rintro _ w1 ⟨b1,rfl,bR,ad,ai⟩
 refine Lw O$ Lk O$ run_seq$ qN O$ qV (LM U80 O z7B O (Lq.cells (n:=2) ai (news:=[_,_]) O) O)$ LD zfN O (z4K B N _) ?_
 rintro _ w2 ⟨rfl,ag⟩
 rw[if_pos ⟨g1,g2,g3,g4⟩]
 replace ai:=ag.Lg ai
 refine Lw O$ qM O$ Le O$ Mu O O$ Lf$ Lp O (λhz=>?_)$ λhz=>?_
 ·exact absurd hz (by decide)
 ·refine py$ qN O$ qV (LM U80 O z7B O (Lq.cells (n:=2) ai (news:=[_,_]) O) O)$ Lm O O (pmm) ?_;rintro _ w3 ⟨m,rfl,hm,ah,CY⟩;refine qV (O6 (cs:=[_,_,_,_,_,_,_,_,_,_,_]) zd5 O zeo O O)$ Lm O O (Nc O O) ?_;rintro _ w4 ⟨p,rfl,hp,ay,aF⟩;refine Lw O$ Lk O$ Lh Tryz.func27 O ?_;have dU:=ad.size;have cW:=ag.size;have ob:=ah.size;have IC:SK KI w4 m []:=⟨⟨#[],0,ay.heap CY id,rfl⟩,by simp⟩;refine⟨_,rfl,p,m,rfl,⟨aF,⟨[],IC,λn=>rfl⟩,Sl.nil w4 _ _,Sl.nil w4 _ _,?_⟩,((ad.trans ag).trans ah).trans ay,by omega,by omega⟩;exact⟨⟨by show 16<=B;omega,by show B<=4096;omega⟩,⟨by show 1<=N;omega,by show N<=8;omega⟩,(by simp[Dev.fresh]),(λn s h=>by cases h),(λx hx=>by cases hx),(by simp[Dev.fresh]),(by simp[Dev.fresh])⟩
def over (s:Bytes)(at':Nat)(d:Bytes):Bytes:=s.take at'++d++s.drop (at'+d.length)
def Dev.z9I (D:Dev)(n at':Int)(d:Bytes):Prop:=D.has n=true/\0<=at'/\at'+(d.length:Int)<=((512*D.N:Nat):Int)
instance (D:Dev) (n at':Int) (d:Bytes):Decidable (D.z9I n at' d):=by unfold Dev.z9I;infer_instance
def zft (n:Int)(a:Nat)(d:Bytes)(x:Int×Bytes):Int×Bytes:=if x.1=n then(x.1,over x.2 a d) else x
def z9y (n:Int)(a:Nat)(d:Bytes)(l:List (Int×Bytes))(i:Nat):List (Int×Bytes):=(l.take i).map (zft n a d)++l.drop i
@[simp] theorem corTo_length (n:Int) (a:Nat) (d:Bytes) (l:List (Int×Bytes)) (i:Nat):(z9y n a d l i).length=l.length:=by simp[z9y];omega
theorem z2i (l:List (Int×Bytes))(x:Int×Bytes)(n:Int):S4 (l++[x]) n=if x.1=n then some x.2 else S4 l n:=by
 unfold S4
 rw[List.reverse_append,List.reverse_singleton,List.singleton_append,List.find?_cons]
 by_cases h:x.1=n
 ·simp[h]
 ·have hb:(x.1==n)=false:=by simpa using h
  simp[hb,h]
/-! ### Bounds -/
def Dev.Small (D:Dev)(k:Nat):Prop:=D.calls<=k/\D.cache.length<=k/\True/\D.Oi.length<=17592186044416
theorem Dev.Small.bd {D:Dev}{k:Nat}(h:D.Small k)(hk:k<1000000000000):D.Bd:=⟨by have:=h.1;omega,by have:=h.2.1;omega,trivial⟩
/-! ### By footprints -/
def z5t (w:World)(p:Nat)(F:Nat->Prop)(D':Dev)(w':World):Prop:=∃F',RI w' p D' F'/\Upd F F' w w'
theorem Wb.toA {w w':World}{p m:Nat}{kp ca:Value}{D':Dev}{F:Nat->Prop}(hF:∀k,F k↔fpD p m kp ca k)(h:Wb w p m kp ca D' w'):z5t w p F D' w':=by
 have e:F=fpD p m kp ca:=funext λk=>propext (hF k)
 subst e
 obtain⟨kp',ca',h1,h2⟩:=h
 exact⟨_,⟨m,kp',ca',h1,λk=>Iff.rfl⟩,h2⟩
section
variable {w:World}{p:Nat}{D:Dev}{F:Nat->Prop}
theorem z4f (h:RI w p D F):LP Tryz.prog 148 [ptr p 0] w λv w'=>v= .bool D.down/\w'=w:=by
 obtain⟨m,kp,ca,h1,hF⟩:=h;exact z6I h1
theorem z5g (h:RI w p D F):LP Tryz.prog 89 [ptr p 0] w λv w'=>v=I ((512*D.N:Nat):Int)/\w'=w:=by
 obtain⟨m,kp,ca,h1,hF⟩:=h;exact Wv h1
theorem S9 (h:RI w p D F):LP Tryz.prog 130 [ptr p 0] w λv w'=>v=I (D.B:Int)/\w'=w:=by
 obtain⟨m,kp,ca,h1,hF⟩:=h;exact z1i h1
theorem z2j (n:Int)(s:Bytes)(h:RI w p D F){k:Nat}(hs:D.Small k)(hk:k<1000000000000):
  LP Tryz.prog 192 [ptr p 0,I n,S s] w λv w'=>v=I (D.write n s).2/\z5t w p F (D.write n s).1 w':=by
 obtain⟨m,kp,ca,h1,hF⟩:=h
 exact(z52 n s h1 (hs.bd hk) hs.2.2.2).mono λv w' ⟨e,h2⟩=>⟨e,h2.toA hF⟩
theorem z3R (n:Int)(h:RI w p D F){k:Nat}(hs:D.Small k)(hk:k<1000000000000):
  LP Tryz.prog 152 [ptr p 0,I n] w λv w'=>v= .tuple #[S (D.read n).2.1,I (D.read n).2.2]/\z5t w p F (D.read n).1 w':=by
 obtain⟨m,kp,ca,h1,hF⟩:=h
 exact(z7h n h1 (hs.bd hk)).mono λv w' ⟨e,h2⟩=>⟨e,h2.toA hF⟩
theorem z8f (B N:Nat)(w:World)(hg:Vm B N):LP Tryz.prog 27 [.agg #[I (B:Int),I (N:Int)]] w λv w'=>∃p F,v= .tuple #[ptr p 0,I 0]/\RI w' p (Dev.fresh B N) F/\Ext w w'/\∀i,F i->w.heap.size<=i:=
 (zaJ B N w hg).mono λv w' ⟨p,m,e,h,hx,h1,h2⟩=>⟨p,_,e,⟨m,_,_,h,λk=>Iff.rfl⟩,hx,λi hi=>by
  rcases hi with h|h|h| h
  ·omega
  ·omega
  ·cases h
  ·cases h⟩
end
theorem z5t.kpF {w w':World}{p:Nat}{F:Nat->Prop}{D':Dev}(h:z5t w p F D' w'):Kp F w w':=by
 obtain⟨F',-,hu⟩:=h
 exact hu.1
def nrm (z b:Int):Int:=(z.tmod b+b).tmod b
theorem Ro (z b:Int)(hb:0<b): -b<z.tmod b/\z.tmod b<b:=by
 have h2:=Int.tmod_lt_of_pos z hb
 refine⟨?_,h2⟩
 have h3:=Int.tmod_lt_of_pos (-z) hb
 rw[Int.neg_tmod] at h3
 omega
theorem UL (z b:Int)(hb:0<b):0<=nrm z b/\nrm z b<b:=by
 obtain⟨h1,h2⟩:=Ro z b hb
 unfold nrm
 exact⟨Int.tmod_nonneg _ (by omega),Int.tmod_lt_of_pos _ hb⟩
theorem z7l {D:Dev}{n:Int}{s:Bytes}(hd:D.down=false)(h0:D.due=0)(hn:0<=n/\n<(D.B:Int))(hs:s.length=512*D.N):D.write n s=((D.push n s).count,0):=by
 have hh:D.has n=true:=by simp[Dev.has];omega
 unfold Dev.write
 rw[if_neg (by simp[hd]),if_neg (by simp[hh,hs]),if_neg (by omega)]
def grow:Nat->Bytes->Nat->Bytes
 |0,s,_=>s
 |f+1,s,n=>if s.length<n then grow f (s++s) n else s
def fill (s:Bytes)(n:Nat):Bytes:=(grow (n+1) (if s=[] then [0] else s) n).take n
section
variable {κ:Type}[DecidableEq κ]{K:κ->Value}{P:Program}{e:Env}{d:Option Nat}{ty t kt el:TypeId}{pos:String}{aft:Array Edge}{g:Option (Nat×Bool)}{x y u:Operand}{w:World}{m:Nat}{z:Value}{size bytes:Nat}{k:κ}
theorem zeS (ht:P.underlying t=some (.map kt el))(hK:Ky P kt K)(hz:TI P el z size bytes)(hx:look e x=some (.map none))(hy:look e y=some (K k)):
  Y P e ⟨d,.lookup t x y false,ty,pos,aft,g⟩ z w w:=fun ρ hρ=>by
 have zn:=hz.zero (w:=w)
 have qZ:=λb=>hK.same.choose_spec.2.2 w b 9999 k
 have hu:=hK.same.choose_spec.1
 simp[execOp,hρ _ _ hx,hρ _ _ hy,Instr.lookup,run_underlying ht,qZ,zn,Instr.findKey,run_underlying hu,Instr.findNow]
end
structure QM (w:World)(ks mp:Value)(l:List Int):Prop where
 sl:Sl w ks 3 1 l.length (l.map I)
 mp:(mp= .map none/\l=[])\/∃b,mp= .map (some b)/\Oo KI w b (l.map λk=>(k,I 1))
 n:l.length<=8192
def Fq (ks mp:Value)(b:Nat):Prop:=ks.ownBlock=some b\/mp= .map (some b)
section
variable {w w':World}{ks mp:Value}{l:List Int}{S:Nat->Prop}{c o:Nat}{cs:List Value}{k:Int}
theorem QM.kp (h:QM w ks mp l)(hk:Kp S w w')(hn:∀b,Fq ks mp b->¬S b):QM w' ks mp l:=
 ⟨h.sl.kp hk λg e=>hn g (.inl e),by
  rcases h.mp with e|⟨b,e,hm⟩
  ·exact .inl e
  ·exact .inr ⟨b,e,hm.kp hk (hn b (.inr e))⟩,h.n⟩
theorem QM.lt (h:QM w ks mp l){b:Nat}(hb:Fq ks mp b):b<w.heap.size:=by
 rcases hb with e| e
 ·exact h.sl.lt e
 ·rcases h.mp with⟨e',-⟩|⟨b',e',hm⟩
  ·rw[e'] at e;cases e
  ·rw[e'] at e;cases e;exact hm.lt
theorem QM.ne (h:QM w ks mp l){b:Nat}(hb:ks.ownBlock=some b):mp≠ .map (some b):=λe=>by
 obtain⟨cur,h1⟩:=h.sl.typed hb
 rcases h.mp with⟨e',-⟩|⟨b',e',hm⟩
 ·rw[e'] at e;cases e
 ·rw[e'] at e;cases e;obtain⟨⟨es,cl,h2,-⟩,-⟩:=hm;rw[h1] at h2;cases h2
theorem QM.nd (h:QM w ks mp l):l.Nodup:=by
 rcases h.mp with⟨-,e⟩|⟨b',e',hm⟩
 ·rw[e];exact List.nodup_nil
 ·have:=hm.nd;rw[List.map_map] at this;have e:((λp:Int×Value=>p.1) ∘ λk:Int=>(k,I 1))=id:=rfl;rw[e,List.map_id] at this;exact this
theorem z0n (l:List Int)(k:Int):getL (l.map λk=>(k,I 1)) k=if k∈l then some (I 1) else none:=by
 induction l with
 |nil=>rfl
 | cons a l ih =>
   show(if k=a then some (I 1) else getL (l.map λk=>(k,I 1)) k)=_;rw[ih];by_cases h:k=a
   ·simp[h]
   ·simp[h]
theorem z6Q (l:List Int)(k:Int):delL (l.map λk=>(k,I 1)) k=(l.erase k).map λk=>(k,I 1):=by
 induction l with
 |nil=>rfl
 | cons a l ih =>
   show(if k=a then l.map (λk=>(k,I 1)) else(a,I 1)::delL (l.map λk=>(k,I 1)) k)=_;rw[ih,List.erase_cons];by_cases h:k=a
   ·subst h;simp
   ·rw[if_neg h,if_neg (by simpa using λe=>h e.symm)];rfl
theorem yqk {P:Program}{e:Env}{d:Option Nat}{ty t kt el:TypeId}{pos:String}{aft:Array Edge}{g:Option (Nat×Bool)}{x y:Operand}{bytes:Nat}(ht:P.underlying t=some (.map kt el))(hK:P.underlying kt=some (.int .i64))(hz:TI P el (I 0) 1 bytes)(hx:look e x=some mp)(hy:look e y=some (I k))(hq:QM w ks mp l):
  Y P e ⟨d,.lookup t x y false,ty,pos,aft,g⟩ (I (if k∈l then 1 else 0)) w w:=by
 rcases hq.mp with⟨rfl,rfl⟩|⟨b,rfl,hm⟩
 ·rw[if_neg (by simp)];exact zeS (k:=k) (K:=KI) ht (NX hK) hz hx hy
 ·have h:=ylk (k:=k) (K:=KI) (d:=d) (ty:=ty) (pos:=pos) (aft:=aft) (g:=g) ht (NX hK) hz hx hy hm.l;rw[z0n] at h;by_cases hk:k∈l
  ·rw[if_pos hk] at h⊢;exact h
  ·rw[if_neg hk] at h⊢;exact h
theorem z68 (hB:Lq w c cs 191)(h1:cs[o+1]? =some mp)(hq:QM w ks mp l):LP Tryz.prog 176 [ptr c o,I k] w λv w'=>v= .bool (decide (k∈l))/\w'=w:=by
 refine Lb (e:=[(0,_),(1,_)]) Tryz.func176 O Tryz.ntmps176 O O$ qN O$ Lw O$ qM O$ Le O$ LU O$ Lt U8 O$ qV (Lj SH O O hB h1)$ Le O$ qV (yqk (k:=k) SH U3 Md O O hq)$ MH O O$ Lk O$ Lh Tryz.func176 O (⟨_,rfl,?_,rfl⟩)
 by_cases hk:k∈l
 ·simp[hk,resVal]
 ·simp[hk,resVal]
theorem z2y {lv:Value}(x:Int)(hR:Rd w lv 1 l.length (l.map I))(hl:l.length<=4294967296):
  LP Tryz.prog 208 [lv,I x] w λv w'=>w'=w/\((x∉l/\v=I (-1))\/∃i:Nat,v=I (i:Int)/\l[i]? =some x/\x∉l.take i):=by
 obtain⟨a,cap,rfl,-⟩:=hR.shape
 refine Lb (e:=[(0,_),(1,_)]) Tryz.func208 O Tryz.ntmps208 O O$ qN O$ Lk O$ run_seq$ qN O$ Le O$ Nd N3 O$ Le O$ Lf$ Lc$ Nj (α:=Nat) (0) (λi=>[(0,.slice a l.length cap),(1,I x),(7,I (l.length:Int)),(8,I (i:Int))]) (λi w'=>w'=w/\i<=l.length/\x∉l.take i) (λi=>l.length-i) ?hI ?hround
 case hI=>exact⟨rfl,Nat.zero_le _,by simp⟩
 case hround=>
  rintro i wi ⟨rfl,hi,g7⟩ ih
  try dsimp only
  refine qN O$ Mw O O$ Lf$ run_seq$ Lp O (λaV=>?_)$ λaV=>?_
  ·have sQ:i<l.length:=by omega
   obtain⟨s,nx⟩:∃s,l[i]? =some s:=⟨_,List.getElem?_eq_getElem sQ⟩
   obtain⟨lb,lo,lc,e5⟩:∃b o c',Value.slice a l.length cap= .slice (some ⟨b,o,none⟩) l.length c':=by
    rcases hR.2 with⟨c,hc,h0⟩|⟨b,off,c',hc,-⟩
    ·omega
    ·exact⟨b,off,c',hc⟩
   cases e5;refine py$ run_seq$ Lc$ qN O$ Le O$ Lw O$ qM O$ Lu O O$ Le O$ qV (M9 N3 Md O O (by omega))$ qV (LN U3 O O (Mn hR (show(l.map I)[i]? =some (I s) by rw[List.getElem?_map,nx];rfl))) ?_;refine Nb O O$ Lf$ Lp O (λhe=>?_)$ λhe=>?_
   ·refine qN O$ Le O$ Lk O$ Lh Tryz.func208 O ?_;exact⟨_,rfl,rfl,.inr ⟨i,rfl,by rw[he];exact nx,g7⟩⟩
   ·refine py$ Ld$ Li O$ Mb O O$ Le O$ Lf ((ih (i+1) _ ⟨rfl,sQ,λhh=>?_⟩ (by omega)).qb);rw[M4 nx,List.mem_append,List.mem_singleton] at hh;rcases hh with h| h
    ·exact g7 h
    ·exact he h
  ·have:i=l.length:=by omega
   subst this;rw[List.take_length] at g7;refine Ln O$ qN O$ Lk O$ Lh Tryz.func208 O ?_;exact⟨_,rfl,rfl,.inl ⟨g7,rfl⟩⟩
theorem z5L {i:Nat}{x:Int}(h:l[i]? =some x)(hn:x∉l.take i):l.take i++l.drop (i+1)=l.erase x:=by
 obtain⟨hi,e⟩:=List.getElem?_eq_some_iff.1 h
 conv=>rhs;rw[<-List.take_append_drop i l]
 rw[List.erase_append_right _ hn,List.drop_eq_getElem_cons hi,e,List.erase_cons_head]
theorem z0A {α:Type}{l:List α}{i:Nat}{a:α}(h:l[i]? =some a):l.set i a=l:=by
 obtain⟨hi,e⟩:=List.getElem?_eq_some_iff.1 h
 rw[<-e,List.set_getElem_self]
theorem z4s (hB:Lq w c cs 191)(h0:cs[o]? =some ks)(h1:cs[o+1]? =some mp)(hq:QM w ks mp l)(nc:¬Fq ks mp c):LP Tryz.prog 177 [ptr c o,I k] w λv w'=>∃ks',v= .tuple #[]/\Lq w' c (cs.set o ks') 191/\QM w' ks' mp (l.erase k)/\(∀b,Fq ks' mp b->Fq ks mp b)/\Kp (λb=>b=c\/Fq ks mp b) w w':=by
 have hn:=hq.n
 have fA:=hq.nd
 refine Lb (e:=[(0,_),(1,_)]) Tryz.func177 O Tryz.ntmps177 O O$ qN O$ Le O$ LU O$ Lt Mj O$ qV (Lj N3 O O hB h0)$ Le O$ LD z9n O (z2y k hq.sl.rd (by omega)) ?_
 rintro _ w ⟨rfl,hv⟩
 rcases hv with⟨hk,rfl⟩|⟨i,rfl,hi,u7⟩
 ·refine Lw O$ qM O$ Le O$ Pa O O$ M5$ Lf$ An O$ py$ ME Tryz.func177 O (⟨_,rfl,ks,rfl,?_,?_,λb hb=>hb,Kp.refl _ _⟩)
  ·rw[z0A h0];exact hB
  ·rw[List.erase_of_not_mem hk];exact hq
 ·have CZ:k∈l:=List.mem_of_getElem? hi;have cE:=(List.getElem?_eq_some_iff.1 hi).1;refine Lw O$ qM O$ Le O$ Pa O O$ Ns$ Lf$ Lr O$ qN O$ Lu O O$ LU O$ Lt Mj O$ qV (Lj N3 O O hB h0)$ Lu O O$ Mb O O ?_;refine LD zct O (z5C hq.sl (λc hc=>by obtain⟨z,-,rfl⟩:=List.mem_map.1 hc;rfl) cE (by omega)) ?_;rintro ks2 w2 ⟨cG,ao,pM⟩
  have e2:(l.map I).take i++(l.map I).drop (i+1)=(l.erase k).map I:=by
   rw[<-List.map_take,<-List.map_drop,<-List.map_append,z5L hi u7]
  rw[e2] at cG;have gA:(l.erase k).length=l.length-1:=List.length_erase_of_mem CZ;rw[<-gA] at cG;have j8:¬ks.ownBlock=some c:=λe=>nc (.inl e);have am:=ao.Lg hB j8;refine LU O$ Lt Mj O$ Ls O (MY z1f O O (z7v cG) am (by have:=(List.getElem?_eq_some_iff.1 h0).1;omega)) ?_;rintro w3 ⟨aq,ax⟩
  obtain⟨b,rfl,hm⟩:∃b,mp= .map (some b)/\Oo KI w b (l.map λk=>(k,I 1)):=by
   rcases hq.mp with⟨-,e⟩| h
   ·rw[e] at CZ;cases CZ
   ·exact h
  have FF:c≠b:=λe=>nc (.inr (by rw[e]));have yX:ks.ownBlock≠some b:=λe=>hq.ne e O;have xL:o+1<cs.length:=(List.getElem?_eq_some_iff.1 h1).1;have kM:=(hm.kp ao yX).kp ax (λe=>FF e.symm);have sM:(cs.set (o+0) ks2)[o+1]? =some (Value.map (some b)):=by rw[List.getElem?_set_ne (by omega)];exact h1
  refine Lf$ Li O$ Le O$ LU O$ Lt U8 O$ qV (Lj SH O O aq sM)$ Le O$ z5D O (zaU (k:=k) (K:=KI) SH (NX U3) O O kM O) ?_;rintro _ w4 ⟨zH,av⟩;rw[z6Q] at zH;refine Lf$ LS.qb (e:=[]) ?_;refine ME Tryz.func177 O ?_;have jX:Kp (λj=>j=c\/Fq ks (.map (some b)) j) w w4:=((ao.Lv λj e=> .inr (.inl e)).trans (ax.Lv λj e=> .inl e)).trans (av.Lv λj e=> .inr (.inr (by rw[e])));exact⟨_,rfl,ks2,rfl,av.Lg aq FF,⟨(cG.kp ax λg e e'=>nc (.inl (e'▸pM g e))).kp av λg e e'=>yX (e'▸pM g e),.inr ⟨b,rfl,zH⟩,by omega⟩,λj hj=>hj.imp (pM j) id,jX⟩
theorem z6F (hB:Lq w c cs 191)(h0:cs[o]? =some ks)(h1:cs[o+1]? =some mp)(hq:QM w ks mp l)(nc:¬Fq ks mp c)(hk:k∉l)(hl:l.length<=8191):LP Tryz.prog 187 [ptr c o,I k] w λv w'=>∃ks' mp',v= .tuple #[]/\Lq w' c ((cs.set (o+1) mp').set o ks') 191/\QM w' ks' mp' (l++[k])/\(∀b,Fq ks' mp' b->Fq ks mp b\/w.heap.size<=b)/\Kp (λb=>b=c\/Fq ks mp b) w w':=by
 have hn:=hq.n
 have fA:=hq.nd
 have lc:=hB.lt
 have xL:o+1<cs.length:=(List.getElem?_eq_some_iff.1 h1).1
 obtain⟨mo,rfl,ID⟩:∃mo,mp= .map mo/\((mo=none/\l=[])\/∃b,mo=some b/\Oo KI w b (l.map λk=>(k,I 1))):=by
  rcases hq.mp with⟨e,e2⟩|⟨b,e,e2⟩
  ·exact⟨_,e,.inl ⟨rfl,e2⟩⟩
  ·exact⟨_,e,.inr ⟨b,rfl,e2⟩⟩
 refine Lb (e:=[(0,_),(1,_)]) Tryz.func187 O Tryz.ntmps187 O O$ run_seq$ qN O$ Le O$ LU O$ Lt U8 O$ qV (Lj SH O O hB h1)$ qV (zco SH O O)$ Lf$ M6 (λe' w'=>∃b,e'=[(0,ptr c o),(1,I k)]/\Lq w' c (cs.set (o+1) (.map (some b))) 191/\Oo KI w' b (l.map λk=>(k,I 1))/\Sl w' ks 3 1 l.length (l.map I)/\(mo=some b\/w.heap.size<=b)/\Kp (λj=>j=c) w w'/\b≠c/\ks.ownBlock≠some b) ?cD$ λcD=>?cQ
 case cD=>
  rintro e' w1 ⟨b,rfl,ai,dJ,iE,hb,aN,FG,gp⟩;have ko:(cs.set (o+1) (Value.map (some b)))[o+1]? =some (.map (some b)):=List.getElem?_set_self xL;have dj:(cs.set (o+1) (Value.map (some b)))[o]? =some ks:=by rw[List.getElem?_set_ne (by omega)];exact h0
  have z1:=aN.size;refine qN O$ Le O$ LU O$ Lt U8 O$ qV (Lj SH O O ai ko)$ Le O$ Ls O (zao (k:=k) (K:=KI) SH (NX U3) O O O dJ) ?_;rintro w2 ⟨mf,ao⟩;rw[Qo _ _ _ (by rw[z0n,if_neg hk])] at mf;have am:=ao.Lg ai (λe=>FG e.symm);have cG:=iE.kp ao (λg e e'=>gp (e'▸e));refine Lf$ Li O$ Lu O O$ LU O$ Lt Mj O$ qV (Lj N3 O O am dj)$ Le O$ Lm O O (RN (cs:=[_]) (zs:=[Value.int .i64 0]) N3 Md O (by kernel_rfl) O O O (by decide)) ?_;rintro _ w3 ⟨b24,rfl,⟨IE,ah,gz⟩,D2⟩;have lb:=mf.lt;have z2:=ao.size;refine Lm O O (pap N3 Md O (by decide) O O (cG.ext ah) D2.rd (by intro c hc;simp at hc;subst hc;rfl) (by omega) (by simp only[maxLen];omega)) ?_;rintro ks4 w4 ⟨dT,av,FH,-⟩;have z3:=ah.size;have z4:=av.size;have j8:ks.ownBlock≠some c:=λe=>nc (.inl e);have aF:=av.Lg (ah.Lg am) j8;have zH:=(mf.ext ah).kp av gp;refine LU O$ Lt Mj O$ Ls O (MY z1f O O (z7v dT) aF (by rw[List.length_set];omega)) ?_;rintro w5 ⟨aI,ak⟩;refine Lf$ ME Tryz.func187 O ?_
  have lk4:∀g,ks4.ownBlock=some g->g≠c:=λg e e'=>by
   rcases FH g e with h| h
   ·exact j8 (e'▸h)
   ·omega
  have aD:(l++[k]).length=l.length+1:=by simp
  refine⟨_,rfl,ks4,.map (some b),rfl,aI,⟨?_,.inr ⟨b,rfl,?_⟩,by omega⟩,λj hj=>?_,?_⟩
  ·rw[List.map_append,aD];exact dT.kp ak λg e e'=>lk4 g e e'
  ·rw[List.map_append];exact zH.kp ak FG
  ·rcases hj with hj|hj
   ·rcases FH j hj with h| h
    ·exact .inl (.inl h)
    ·exact .inr (by omega)
   ·cases hj;rcases hb with h| h
    ·exact .inl (.inr (by rw[h]))
    ·exact .inr h
  ·have D3:Kp (λj=>j=c\/Fq ks (.map mo) j) w w2:=by
    rcases hb with h| h
    ·exact(aN.Lv λj e=> .inl e).trans (ao.Lv λj e=> .inr (.inr (by rw[h,e])))
    ·exact(aN.Lv λj e=> .inl e).It ao (λj e=>by omega)
   exact((D3.trans ah.kp).trans (av.Lv λj e=> .inr (.inl e))).trans (ak.Lv λj e=> .inl e)
 case cQ=>
  rcases ID with⟨rfl,rfl⟩|⟨b,rfl,hm⟩
  ·refine Lr O$ Li O$ Le O$ Lm O O (pmm) ?_;rintro _ w1 ⟨b,rfl,hb,ad,cK⟩;have dJ:Oo KI w1 b []:=Oo.new cK;have ai:=ad.Lg hB;refine LU O$ Lt U8 O$ Ls O (MY z3E O O O ai xL) ?_;rintro w2 ⟨am,ao⟩;refine Lf ?_;have lb:=dJ.lt;exact(cD _ _ ⟨b,rfl,am,dJ.kp ao (by omega),(hq.sl.ext ad).kp ao (λg e e'=>nc (.inl (e'▸e))),.inr (by omega),ad.kp.trans ao,by omega,λe=>by have:=hq.sl.lt e;omega⟩).qb
  ·refine An O$ py ?_;exact(cD _ _ ⟨b,rfl,by rw[z0A h1];exact hB,hm,hq.sl,.inl O,Kp.refl _ _,λe=>nc (.inr (by rw[e])),λe=>hq.ne e O⟩).qb
end
def Arc.li (A:Arc):Nat->List Int
 |0=>A.once
 |1=>A.often
 |2=>A.LB
 |_=>A.Lx
def Arc.MD (A:Arc):Nat->List Int->Arc
 |0,l=>{A with once:=l}
 |1,l=>{A with often:=l}
 |2,l=>{A with LB:=l}
 |_,l=>{A with Lx:=l}
theorem Arc.zan (A:Arc){j:Nat}(hj:j<4)(l:List Int)(i:Nat)(hi:i<4):(A.MD j l).li i=if i=j then l else A.li i:=by
 match j,hj,i,hi with
 |0,_,0,_|0,_,1,_|0,_,2,_|0,_,3,_|1,_,0,_|1,_,1,_|1,_,2,_|1,_,3,_|2,_,0,_|2,_,1,_|2,_,2,_|2,_,3,_|3,_,0,_|3,_,1,_|3,_,2,_|3,_,3,_=>rfl
def z5m (V:Nat->Value×Value)(j:Nat)(q:Value×Value)(i:Nat):Value×Value:=if i=j then q else V i
def acC (S:Nat)(T:Int)(V:Nat->Value×Value)(p:Nat):List Value:=[I (S:Int),(V 0).1,(V 0).2,(V 1).1,(V 1).2,(V 2).1,(V 2).2,(V 3).1,(V 3).2,I T,.map (some p)]
abbrev FV (V:Nat->Value×Value)(j b:Nat):Prop:=Fq (V j).1 (V j).2 b
structure Ot (w:World)(c:Nat)(A:Arc)(V:Nat->Value×Value)(p:Nat):Prop where
 Lg:Lq w c (acC A.size A.target V p) 191
 q:∀j,j<4->QM w (V j).1 (V j).2 (A.li j)
 pins:SK KI w p []
 Rf:∀i j,i<4->j<4->i≠j->∀b,FV V i b->¬FV V j b
 nc:∀j,j<4->¬FV V j c
 np:∀j,j<4->¬FV V j p
 cp:c≠p
def On (c:Nat)(V:Nat->Value×Value)(p b:Nat):Prop:=b=c\/b=p\/∃j,j<4/\FV V j b
section
variable {w w' w2:World}{c p:Nat}{A A' A2:Arc}{V V' V2:Nat->Value×Value}{S:Nat->Prop}{k:Int}
theorem Ot.kp (h:Ot w c A V p)(hk:Kp S w w')(hn:∀b,On c V p b->¬S b):Ot w' c A V p:=
 ⟨hk.Lg h.Lg (hn _ (.inl O)),λj hj=>(h.q j hj).kp hk λb hb=>hn b (.inr (.inr ⟨j,hj,hb⟩)),hk.map h.pins (hn _ (.inr (.inl O))),h.Rf,h.nc,h.np,h.cp⟩
theorem Ot.ext (h:Ot w c A V p)(hx:Ext w w'):Ot w' c A V p:=h.kp (S:=λ_=>False) hx λ_ _=>id
theorem Ot.lt (h:Ot w c A V p){b:Nat}(hb:On c V p b):b<w.heap.size:=by
 rcases hb with e|e|⟨j,hj,hb⟩
 ·rw[e];exact h.Lg.lt
 ·rw[e];exact h.pins.lt
 ·exact(h.q j hj).lt hb
structure RG (w:World)(c:Nat)(V:Nat->Value×Value)(p:Nat)(w':World)(A':Arc)(V':Nat->Value×Value):Prop where
 m:Ot w' c A' V' p
 fp:∀b,On c V' p b->On c V p b\/w.heap.size<=b
 k:Kp (On c V p) w w'
theorem RG.trans (h:RG w c V p w' A' V')(h2:RG w' c V' p w2 A2 V2):RG w c V p w2 A2 V2:=
 ⟨h2.m,λb hb=>by
  rcases h2.fp b hb with e| e
  ·exact h.fp b e
  ·exact .inr (by have:=h.k.size;omega),h.k.It h2.k λb hb=>(h.fp b hb).symm⟩
theorem Ot.r (h:Ot w c A V p)(hx:Ext w w'):RG w c V p w' A V:=⟨h.ext hx,λb hb=> .inl hb,hx.kp⟩
theorem Ot.Xk {j:Nat}(hj:j<4)(h:Ot w c A V p){ks mp:Value}{l:List Int}(hB:Lq w' c (acC A.size A.target (z5m V j (ks,mp)) p) 191)(hs:(A.MD j l).size=A.size/\(A.MD j l).target=A.target)(hq:QM w' ks mp l)(hf:∀b,Fq ks mp b->FV V j b\/w.heap.size<=b)(hk:Kp (λb=>b=c\/FV V j b) w w'):RG w c V p w' (A.MD j l) (z5m V j (ks,mp)):=by
 have aV:∀{b:Nat},On c V p b->b<w.heap.size:=h.lt
 have aT:∀i,i<4->i≠j->∀b,FV V i b->¬(b=c\/FV V j b):=λi hi gW b hb e=>by
  rcases e with e| e
  ·exact h.nc i hi (e▸hb)
  ·exact h.Rf i j hi hj gW b hb e
 have dU:∀i,i≠j->z5m V j (ks,mp) i=V i:=λi e=>if_neg e
 have cW:z5m V j (ks,mp) j=(ks,mp):=if_pos O
 refine⟨⟨by rw[hs.1,hs.2];exact hB,λi hi=>?_,hk.map h.pins (λe=>?_),λi i2 hi dB bN b hb c6=>?_,λi hi hb=>?_,λi hi hb=>?_,h.cp⟩,λb hb=>?_,hk.Lv λb hb=>?_⟩
 ·rw[Arc.zan A hj l i hi];by_cases e:i=j
  ·rw[if_pos e,e,cW];exact hq
  ·rw[if_neg e,dU i e];exact(h.q i hi).kp hk λb hb=>aT i hi e b hb
 ·rcases e with e| e
  ·exact h.cp e.symm
  ·exact h.np j hj e
 ·by_cases e:i=j
  ·have e2:i2≠j:=λe2=>bN (e.trans e2.symm);unfold FV at hb c6;rw[e,cW] at hb;rw[dU i2 e2] at c6;rcases hf b hb with h1|h1
   ·exact h.Rf j i2 hj dB (λe3=>e2 e3.symm) b h1 c6
   ·have:=aV (.inr (.inr ⟨i2,dB,c6⟩));omega
  ·unfold FV at hb c6;rw[dU i e] at hb;by_cases e2:i2=j
   ·rw[e2,cW] at c6;rcases hf b c6 with h1|h1
    ·exact h.Rf i j hi hj e b hb h1
    ·have:=aV (.inr (.inr ⟨i,hi,hb⟩));omega
   ·rw[dU i2 e2] at c6;exact h.Rf i i2 hi dB bN b hb c6
 ·by_cases e:i=j
  ·unfold FV at hb;rw[e,cW] at hb;rcases hf c hb with h1|h1
   ·exact h.nc j hj h1
   ·have:=h.Lg.lt;omega
  ·unfold FV at hb;rw[dU i e] at hb;exact h.nc i hi hb
 ·by_cases e:i=j
  ·unfold FV at hb;rw[e,cW] at hb;rcases hf p hb with h1|h1
   ·exact h.np j hj h1
   ·have:=h.pins.lt;omega
  ·unfold FV at hb;rw[dU i e] at hb;exact h.np i hi hb
 ·rcases hb with e|e|⟨i,hi,hb⟩
  ·exact .inl (.inl e)
  ·exact .inl (.inr (.inl e))
  ·by_cases e:i=j
   ·unfold FV at hb;rw[e,cW] at hb;rcases hf b hb with h1|h1
    ·exact .inl (.inr (.inr ⟨j,hj,h1⟩))
    ·exact .inr h1
   ·unfold FV at hb;rw[dU i e] at hb;exact .inl (.inr (.inr ⟨i,hi,hb⟩))
 ·rcases hb with e| e
  ·exact .inl e
  ·exact .inr (.inr ⟨j,hj,e⟩)
theorem So (S:Nat)(T:Int)(V:Nat->Value×Value)(p:Nat){j:Nat}(hj:j<4):(acC S T V p)[1+2*j]? =some (V j).1/\(acC S T V p)[1+2*j+1]? =some (V j).2:=by
 match j,hj with
 |0,_|1,_|2,_|3,_=>exact⟨rfl,rfl⟩
theorem z8K (S:Nat)(T:Int)(V:Nat->Value×Value)(p:Nat){j:Nat}(hj:j<4)(ks mp:Value):((acC S T V p).set (1+2*j+1) mp).set (1+2*j) ks=acC S T (z5m V j (ks,mp)) p:=by
 match j,hj with
 |0,_|1,_|2,_|3,_=>rfl
theorem z6z (S:Nat)(T:Int)(V:Nat->Value×Value)(p:Nat){j:Nat}(hj:j<4)(ks:Value):(acC S T V p).set (1+2*j) ks=acC S T (z5m V j (ks,(V j).2)) p:=by
 match j,hj with
 |0,_|1,_|2,_|3,_=>rfl
theorem VV (A:Arc){j:Nat}(hj:j<4)(l:List Int):(A.MD j l).size=A.size/\(A.MD j l).target=A.target:=by
 match j,hj with
 |0,_|1,_|2,_|3,_=>exact⟨rfl,rfl⟩
theorem R4 (h:Ot w c A V p){j:Nat}(hj:j<4):LP Tryz.prog 176 [ptr c (1+2*j),I k] w λv w'=>v= .bool (decide (k∈A.li j))/\w'=w:=
 z68 h.Lg (So _ _ _ _ hj).2 (h.q j hj)
theorem Mm (h:Ot w c A V p){j:Nat}(hj:j<4):LP Tryz.prog 177 [ptr c (1+2*j),I k] w λv w'=>v= .tuple #[]/\∃V',RG w c V p w' (A.MD j ((A.li j).erase k)) V':=by
 refine(z4s h.Lg (So _ _ _ _ hj).1 (So _ _ _ _ hj).2 (h.q j hj) (h.nc j hj) (k:=k)).mono λv w' hv=>?_
 obtain⟨ks',rfl,hB,hq,hf,hk⟩:=hv
 rw[z6z _ _ _ _ hj] at hB
 exact⟨rfl,_,h.Xk hj hB (VV A hj _) hq (λb hb=> .inl (hf b hb)) hk⟩
theorem MS (h:Ot w c A V p){j:Nat}(hj:j<4)(hk:k∉A.li j)(hl:(A.li j).length<=8191):LP Tryz.prog 187 [ptr c (1+2*j),I k] w λv w'=>v= .tuple #[]/\∃V',RG w c V p w' (A.MD j (A.li j++[k])) V':=by
 refine(z6F h.Lg (So _ _ _ _ hj).1 (So _ _ _ _ hj).2 (h.q j hj) (h.nc j hj) hk hl).mono λv w' hv=>?_
 obtain⟨ks',mp',rfl,hB,hq,hf,hk⟩:=hv
 rw[z8K _ _ _ _ hj] at hB
 exact⟨rfl,_,h.Xk hj hB (VV A hj _) hq hf hk⟩
def z2v (n:Nat):Arc:=⟨n,[],[],[],[],0⟩
theorem z81 {n:Nat}(h:1<=n):(z2v n).Ok:=⟨h,List.nodup_nil,Nat.zero_le _,Nat.zero_le _,Nat.zero_le _,⟨Int.le_refl _,by show(0:Int)<=(n:Int);omega⟩⟩
theorem z6h (n:Nat)(h1:1<=n)(h2:n<=4096)(w:World):LP Tryz.prog 53 [I (n:Int)] w λv w'=>∃c V p,v= .tuple #[ptr c 0,I 0]/\Ot w' c (z2v n) V p/\(∀b,On c V p b->w.heap.size<=b)/\Ext w w':=by
 refine Lb (e:=[(0,_)]) Tryz.func53 O Tryz.ntmps53 O O$ qN O$ Lw O$ Lk O$ run_seq$ qN O$ Le O$ Mw O O$ M5$ Lu O O$ MH O O$ M5$ M8 O O$ Lf ?_
 refine An O$ py$ qN O$ Le O$ Lm O O (pmm) ?_
 rintro _ w1 ⟨p,rfl,hp,ad,cK⟩
 refine qV (O6 (cs:=[_,_,_,_,_,_,_,_,_,_,_]) zck O zbI O O)$ Lm O O (Nc O (cs:=acC n 0 (λ_=>(.slice none 0 0,.map none)) p) O) ?_
 rintro _ w2 ⟨c,rfl,hc,ag,am⟩
 refine Lw O$ Lk O$ Lh Tryz.func53 O ?_
 have dJ:Oo KI w1 p []:=Oo.new cK
 have lp:=dJ.lt
 have g7:∀b,¬Fq (.slice none 0 0) (.map none) b:=λb e=>by rcases e with e|e<;>cases e
 refine⟨_,rfl,c,_,p,rfl,⟨am,λj hj=>⟨?_,?_,?_⟩,ag.map dJ.l,λi j hi hj bN b hb=>absurd hb (g7 b),λj hj=>g7 c,λj hj=>g7 p,by omega⟩,λb hb=>?_,ad.trans ag⟩
 ·have e:(z2v n).li j=[]:=by match j,hj with|0,_|1,_|2,_|3,_=>rfl
  rw[e];exact Sl.nil _ _ _
 ·left
  refine⟨rfl,?_⟩
  match j,hj with|0,_|1,_|2,_|3,_=>rfl
 ·have e:(z2v n).li j=[]:=by match j,hj with|0,_|1,_|2,_|3,_=>rfl
  rw[e];exact Nat.zero_le _
 ·rcases hb with e|e|⟨j,hj,hb⟩
  ·have:=ad.size;omega
  ·omega
  ·exact absurd hb (g7 b)
end
section
variable {w w' w2:World}{c p:Nat}{A A' A2:Arc}{V V' V2:Nat->Value×Value}{S:Nat->Prop}{k:Int}
theorem Ot.cells (h:Ot w c A V p):Lq w c [I (A.size:Int),(V 0).1,(V 0).2,(V 1).1,(V 1).2,(V 2).1,(V 2).2,(V 3).1,(V 3).2,I A.target,.map (some p)] 191:=h.Lg
theorem XR (h:Ot w c A V p):LP Tryz.prog 175 [ptr c 0,I k] w λv w'=>v= .bool (decide (k∈A.once\/k∈A.often))/\w'=w:=by
 have h0:=R4 h (j:=0) (k:=k) (by decide)
 have h1:=R4 h (j:=1) (k:=k) (by decide)
 rw[show A.li 0=A.once from rfl] at h0
 rw[show A.li 1=A.often from rfl] at h1
 refine Lb (e:=[(0,_),(1,_)]) Tryz.func175 O Tryz.ntmps175 O O$ qN O$ Lw O$ qM O$ Le O$ qV (ZV z3Z O O)$ Lu O O$ LU O$ Lt MF O$ Le O$ LD SN O (h0) ?_
 rintro _ w ⟨rfl,rfl⟩
 by_cases gN:k∈A.once
 ·rw[decide_eq_true gN];refine Le O$ qS$ qS$ qS$ qS$ qS$ MU O O$ MU O O$ Lk O$ Lh Tryz.func175 O ?_;exact⟨_,rfl,by rw[decide_eq_true (Or.inl gN)];rfl,rfl⟩
 ·rw[decide_eq_false gN];refine Lu O O$ LU O$ Lt Nf O$ Le O$ LD SN O (h1) ?_;rintro _ w ⟨rfl,rfl⟩;refine M8 O O$ MU O O$ Lk O$ Lh Tryz.func175 O (⟨_,rfl,?_,rfl⟩);by_cases aN:k∈A.often
  ·simp[gN,aN,resVal]
  ·simp[gN,aN,resVal]
def SU:List Int->Value
 |[]=> .tuple #[I 0,.bool false]
 |a::_=> .tuple #[I a,.bool true]
theorem R0 (h:Ot w c A V p){j:Nat}(hj:j<4):LP Tryz.prog 188 [ptr c 0,ptr c (1+2*j)] w λv w'=>v=SU (A.li j)/\w'=w:=by
 have hB:=h.cells
 have hg:=(So A.size A.target V p hj).1
 have hq:=h.q j hj
 obtain⟨ka,kc,fw,ud⟩:∃a c,(V j).1= .slice a (A.li j).length c/\(a=none->(A.li j).length=0):=hq.sl.rd.shape
 rw[fw] at hg
 have hR:=hq.sl.rd
 have hn:=hq.n
 rw[fw] at hR
 refine Lb (e:=[(0,_),(1,_)]) Tryz.func188 O Tryz.ntmps188 O O$ qN O$ Lw O$ Lk O$ run_seq$ qN O$ Le O$ LU O$ Lt Mj O$ qV (Lj N3 O O h.Lg hg)$ Nd N3 O$ Le O$ Lf$ Lc ?_
 cases hl:A.li j with
 | nil =>
   rw[hl] at hR;refine Nj (α:=Unit) (()) (λ_=>[(0,ptr c 0),(12,.slice ka 0 kc),(13,I 0),(14,I 0)]) (λ_ w'=>w'=w) (λ_=>0) ?hI ?hround
   case hI=>rfl
   case hround=>
    rintro i w2 rfl ih
    try dsimp only
    refine qN O$ Mw O O$ M5$ Lf$ run_seq$ An O$ Ln O$ qN O$ Lw O$ qM O$ Le O$ Lw O$ Lk O$ Lh Tryz.func188 O ?_
    exact⟨_,rfl,rfl,rfl⟩
 | cons x r =>
   rw[hl] at hR ud hn
   obtain⟨kb,rfl⟩:∃b,ka=some b:=by
    cases ka with
    |none=>have:=ud O;simp at this
    |some b=>exact⟨b,rfl⟩
   obtain⟨lb,lo,lc,e5⟩:∃b o c',Value.slice (some kb) (x::r).length kc= .slice (some ⟨b,o,none⟩) (x::r).length c':=by
    rcases hR.2 with⟨c,hc,h0⟩|⟨b,off,c',hc,-⟩
    ·simp at h0
    ·exact⟨b,off,c',hc⟩
   cases e5;have hC:0<(x::r).length:=by simp
   refine Nj (α:=Unit) (()) (λ_=>[(0,ptr c 0),(12,.slice (some ⟨lb,lo,none⟩) (x::r).length kc),(13,I ((x::r).length:Int)),(14,I ((0:Nat):Int))]) (λ_ w'=>w'=w) (λ_=>0) ?hI ?hround
   case hI=>rfl
   case hround=>
    rintro i w2 rfl ih
    try dsimp only
    refine qN O$ Mw O O$ Ns$ Lf$ run_seq$ Lr O$ py$ run_seq$ Lc$ qN O$ qV (M9 N3 Md O O (by omega))$ qV (LN U3 O O (Mn hR (i:=0) (show((x::r).map I)[0]? =some (I x) from rfl)))$ Lw O$ qM O ?_;refine Le O$ LU O$ Lt VM O$ qV (Lj SH O O hB O)$ Le O$ qV (ylk (k:=x) (K:=KI) SH (NX U3) Md O O h.pins)$ Nb O O$ Ns$ Lf$ Lr O$ qN O$ Le O$ Lw O$ Lk O ?_;refine Lh Tryz.func188 O ?_;exact⟨_,rfl,rfl,rfl⟩
theorem XE (h:Ot w c A V p)(hA:A.Ok)(cF:A.size<=1000):LP Tryz.prog 189 [ptr c 0] w λv w'=>v= .bool (decide (A.once.length+A.often.length=A.size))/\Ext w w':=by
 have hB:=h.cells
 have hh:=hA.held
 obtain⟨a0,c0,e0,-⟩:∃a c,(V 0).1= .slice a A.once.length c/\_:=(h.q 0 (by decide)).sl.rd.shape
 obtain⟨a1,c1,e1,-⟩:∃a c,(V 1).1= .slice a A.often.length c/\_:=(h.q 1 (by decide)).sl.rd.shape
 rw[e0,e1] at hB
 have hg:=Ext.LC w
 refine Lb (e:=[(0,_)]) Tryz.func189 O Tryz.ntmps189 O O$ qN O$ Lk O$ run_seq$ N7 (λw'=>Ext w w') O$ LA 0 O O (hg)$ Ll 1 O (Mo O) hg$ Ll 2 O (LV MF O) hg$ Ll 3 O (LV Mj O) hg$ qT 4 O (λ_ h=>Lj N3 O O (h.Lg hB) O) hg$ Ll 5 O (Ol N3 O) hg$ LA 6 O O (hg)$ Ll 7 O (Mo O) hg$ Ll 8 O (LV Nf O) hg ?_
 refine Ll 9 O (LV Mj O) hg$ qT 10 O (λ_ h=>Lj N3 O O (h.Lg hB) O) hg$ Ll 11 O (Ol N3 O) hg$ Ll 12 O (Qu O O (by omega)) hg$ LA 13 O O (hg)$ Ll 14 O (Mo O) hg$ Ll 15 O (LV Oe O) hg$ qT 16 O (λ_ h=>Lj U3 O O (h.Lg hB) O) hg$ Ll 17 O (Xu O O) hg$ Ll 18 O (Ni O) hg$ qE$ Lh Tryz.func189 O (⟨_,rfl,?_,hg⟩)
 show Value.bool _=Value.bool _
 congr 1
 exact decide_eq_decide.2 (by omega)
end
def Nv (UG:Bool)(g:Option Int):List Value:=[.bool UG,.bool g.isSome,I (g.getD 0)]
abbrev z8E (UG:Bool)(g:Option Int):Value:= .agg (Nv UG g).toArray
section
variable {w w' w2:World}{c p:Nat}{A A' A2:Arc}{V V' V2:Nat->Value×Value}{S:Nat->Prop}{k:Int}
theorem Arc.Ok.lens (h:A.Ok)(cF:A.size<=1000)(j:Nat):(A.li j).length<=2000:=by
 have h1:=h.held
 have h2:=h.first
 have h3:=h.total
 have h4:=A.MR
 unfold Arc.li
 split<;>omega
theorem Pl (h : Ot w c A V p)(hA : A.Ok)(cF : A.size <= 1000)(bo : Bool) : LP Tryz.prog 190 [ptr c 0, .bool bo] w λv w' => v = z8E false (A.room bo).2 /\ ∃ V', RG w c V p w' (A.room bo).1 V' := by
 have gy:=hA.lens cF 2
 have jZ:=hA.lens cF 3
 have IF:=hA.tg
 have hC:=hA.pos
 have fA:=hA.nd
 unfold Arc.all at fA
 rw[List.nodup_append] at fA
 obtain⟨nd1,nd2,nd3⟩:=fA
 rw[List.nodup_append] at nd2
 obtain⟨nd4,nd5,nd6⟩:=nd2
 rw[List.nodup_append] at nd5
 obtain⟨nd7,nd8,nd9⟩:=nd5
 have aV:∀{b:Nat},On c V p b->b<w.heap.size:=h.lt
 refine Lb (e:=[(0,_),(1,_)]) Tryz.func190 O Tryz.ntmps190 O O$ qN O$ Lm O O (NJ (cs:=[_,_,_]) LW O) ?_
 rintro _ w1 ⟨b4,rfl,gn,ad,aF⟩
 have oq:=h.ext ad
 have n4:∀b,On c V p b->b≠b4:=λb hb e=>by have:=aV hb;omega
 refine Lf$ run_seq$ qN O$ Le O$ LD z9P O (XE oq hA cF) ?_
 rintro _ w2 ⟨rfl,ag⟩
 have bD:=ag.Lg aF
 have aG:=ad.trans ag
 have en:=h.ext aG
 by_cases bZ:¬A.once.length+A.often.length=A.size
 ·rw[decide_eq_false bZ];have jm:A.room bo=(A,none):=by unfold Arc.room;rw[if_neg bZ]
  refine qV ((by first|exact Mh O|exact NL O)) ?_;refine Lf$ Lr O$ qN O$ qV (LM (news:=Nv false none) Oj O LW O (Lq.cells (n:=3) bD O) O)$ Ls O (M7 (news:=Nv false none) LW O O O O bD (by simp)) ?_;rintro w3 ⟨dQ,ax⟩;replace dQ:Lq w3 b4 [.bool false,.bool false,I 0] 265:=dQ;refine Lf$ LL Tryz.func190 (.cell Oj O LW O (Lq.cells (n:=3) dQ (news:=[_,_,_]) O) O .nil) ?_;rw[jm];exact⟨_,rfl,rfl,V,en.kp ax (λb hb=>n4 b hb),λb hb=> .inl hb,(aG.It ax (λj e=>by omega)).kp⟩
 ·have bZ := Classical.not_not.1 bZ; rw [decide_eq_true bZ]; refine qV ((by first | exact Mh O | exact NL O)) ?_; refine Lf (An O ?_); have am := en.cells; obtain ⟨a0, c0, e0, -⟩ : ∃ a c, (V 0).1 = .slice a A.once.length c /\ _ := (h.q 0 (by decide)).sl.rd.shape; rw [e0] at am; have f0 := R0 en (j := 0) (by decide); have f1 := R0 en (j := 1) (by decide); rw [show A.li 0 = A.once from rfl] at f0; rw [show A.li 1 = A.often from rfl] at f1
  cases ho:A.once with
  | nil =>
    cases hf:A.often with
    | nil =>
      exfalso;rw[ho,hf] at bZ;simp at bZ
      omega
    | cons x1 r1 =>
      have jm:A.room bo=({A with often:=r1,Lx:=A.Lx++[x1]},some x1):=by unfold Arc.room;rw[if_pos bZ,ho,hf]
      have IG:A.once.length=0:=by rw[ho];rfl
      have g0:SU A.once= .tuple #[I 0,.bool false]:=by rw[ho];rfl
      have g1:SU A.often= .tuple #[I x1,.bool true]:=by rw[hf];rfl
      rw[g0] at f0;rw[g1] at f1;refine py$ qN O$ Lu O O$ LU O$ Lt MF O$ LD Ul O (f0) ?_;rintro _ w2 ⟨rfl,rfl⟩;refine Le O$ qV (Nq (v:=I 0) O O)$ qV (Nq (v:= .bool false) O O)$ Lw O$ Lw O$ qM O$ Lu O O$ LU O$ Lt Nf O$ LD Ul O (f1) ?_;rintro _ w2 ⟨rfl,rfl⟩;refine Le O$ qV (Nq (v:=I x1) O O)$ qV (Nq (v:= .bool true) O O)$ Lw O$ Lk O$ LS.qb (e:=[(0,_),(1,_),(4,_),(5,_),(6,_),(7,_),(8,_)]) ?_;refine qN O$ Le O$ LU O$ Lt MF O$ Lt Mj O$ qV (Lj N3 O O am O)$ Nd N3 O$ Lw O$ qM O$ Le O$ Pa O O$ M5$ Le O$ qS ?_;refine qS$ qS$ qS$ qS$ qS$ qS$ qS$ qS$ qS$ qS$ qS$ qS$ qS$ qS ?_;refine qS$ qS$ M8 O O$ Lk O$ LS.qb (e:=[(0,_),(4,_),(5,_),(6,_),(7,_),(8,_),(10,_)]) ?_;refine run_seq$ qN O$ Lu O O$ qS$ M8 O O$ Lu O O$ qV ((by first|exact Mh O|exact NL O)) ?_;refine Lu O O$ qV ((by first|exact Mh O|exact NL O)) ?_;refine MU O O$ M8 O O$ Lf$ An O$ py$ qN O$ Le O$ LU O$ Lt Nf O$ Le O$ LD Ou O (Mm en (j:=1) (k:=x1) (by decide)) ?_;rintro _ w3 ⟨rfl,V3,cd⟩;have iu:(A.li 1).erase x1=r1:=by show A.often.erase x1=r1;rw[hf];simp
      rw[iu] at cd
      have dD:x1∉(A.MD 1 r1).li 3:=by
       show x1∉A.Lx;intro e;exact nd6 x1 (by rw[hf];simp) x1 (by simp[e]) O
      refine qM O$ Le O$ LU O$ Lt N9 O$ Le O$ LD OV O (MS cd.m (j:=3) (k:=x1) (by decide) dD (by show A.Lx.length<=_;exact Nat.le_trans jZ (by decide))) ?_;rintro _ w4 ⟨rfl,V4,bH⟩;have hr:=(en.r (Ext.refl w2)).trans (cd.trans bH);have cw:=hr.k.Lg bD (λe=>n4 _ e O);refine Lf$ LS.qb (e:=[(4,_),(7,_)]) ?_;refine qN O$ Le O$ qV (O6 (cs:=[_,_,_]) LW O RD O O)$ Ls O (M7 (news:=Nv false (some x1)) LW O O O O cw (by simp)) ?_;rintro w5 ⟨aM,ak⟩;replace aM:Lq w5 b4 [.bool false,.bool true,I x1] 265:=aM;refine Lf$ LL Tryz.func190 (.cell Oj O LW O (Lq.cells (n:=3) aM (news:=[_,_,_]) O) O .nil) ?_
      have eu:∀b,On c V4 p b->b≠b4:=λb hb e=>by
       rcases hr.fp b hb with h5|h5
       ·exact n4 b h5 e
       ·have:=bD.lt;omega
      rw[jm]
      exact⟨_,rfl,rfl,V4,hr.m.kp ak eu,λb hb=>(hr.fp b hb).imp id (λe=>by have:=aG.size;omega),(aG.kp.trans hr.k).It ak (λj e=> .inl (by omega))⟩
  | cons x0 r0 =>
    have IG:1<=A.once.length:=by rw[ho];simp
    cases hf:A.often with
    | nil =>
      have jm:A.room bo=({A with once:=r0,LB:=A.LB++[x0]},some x0):=by unfold Arc.room;rw[if_pos bZ,ho,hf]
      have g0:SU A.once= .tuple #[I x0,.bool true]:=by rw[ho];rfl
      have g1:SU A.often= .tuple #[I 0,.bool false]:=by rw[hf];rfl
      rw[g0] at f0;rw[g1] at f1;refine py$ qN O$ Lu O O$ LU O$ Lt MF O$ LD Ul O (f0) ?_;rintro _ w2 ⟨rfl,rfl⟩;refine Le O$ qV (Nq (v:=I x0) O O)$ qV (Nq (v:= .bool true) O O)$ Lw O$ Lw O$ qM O$ Lu O O$ LU O$ Lt Nf O$ LD Ul O (f1) ?_;rintro _ w2 ⟨rfl,rfl⟩;refine Le O$ qV (Nq (v:=I 0) O O)$ qV (Nq (v:= .bool false) O O)$ Lw O$ Lk O$ LS.qb (e:=[(0,_),(1,_),(4,_),(5,_),(6,_),(7,_),(8,_)]) ?_;refine qN O$ Le O$ LU O$ Lt MF O$ Lt Mj O$ qV (Lj N3 O O am O)$ Nd N3 O$ Lw O$ qM O$ Le O$ Pa O O$ Ns$ Le O ?_
      by_cases h1:(A.once.length:Int)>A.target
      ·skip
       refine Lu O O$ LU O$ Lt N8 O$ qV (Lj U3 O O am O)$ MH O O$ Ns$ Le O$ qS$ qS$ qS$ qS$ qS$ qS$ qS ?_;refine qS$ qS$ MU O O$ MU O O$ Lk O$ LS.qb (e:=[(0,_),(4,_),(5,_),(6,_),(7,_),(8,_),(10,_)]) ?_;refine run_seq$ qN O$ Lu O O$ Le O$ MU O O$ Le O$ qS$ qS$ qS$ qS$ qS$ qS$ MU O O$ Lf ?_;refine Lr O$ qN O$ Le O$ LU O$ Lt MF O$ Le O$ LD Ou O (Mm en (j:=0) (k:=x0) (by decide)) ?_;rintro _ w3 ⟨rfl,V3,cd⟩;have iu:(A.li 0).erase x0=r0:=by show A.once.erase x0=r0;rw[ho];simp
       rw[iu] at cd
       have dD:x0∉(A.MD 0 r0).li 2:=by
        show x0∉A.LB;intro e;exact nd3 x0 (by rw[ho];simp) x0 (by simp[e]) O
       refine qM O$ Le O$ LU O$ Lt MT O$ Le O$ LD OV O (MS cd.m (j:=2) (k:=x0) (by decide) dD (by show A.LB.length<=_;exact Nat.le_trans gy (by decide))) ?_;rintro _ w4 ⟨rfl,V4,bH⟩;have hr:=(en.r (Ext.refl w2)).trans (cd.trans bH);have cw:=hr.k.Lg bD (λe=>n4 _ e O);refine Lf$ LS.qb (e:=[(0,_),(4,_),(5,_),(7,_)]) ?_;refine qN O$ Le O$ qV (O6 (cs:=[_,_,_]) LW O RD O O)$ Ls O (M7 (news:=Nv false (some x0)) LW O O O O cw (by simp)) ?_;rintro w5 ⟨aM,ak⟩;replace aM:Lq w5 b4 [.bool false,.bool true,I x0] 265:=aM;refine Lf$ LL Tryz.func190 (.cell Oj O LW O (Lq.cells (n:=3) aM (news:=[_,_,_]) O) O .nil) ?_
       have eu:∀b,On c V4 p b->b≠b4:=λb hb e=>by
        rcases hr.fp b hb with h5|h5
        ·exact n4 b h5 e
        ·have:=bD.lt;omega
       rw[jm];exact⟨_,rfl,rfl,V4,hr.m.kp ak eu,λb hb=>(hr.fp b hb).imp id (λe=>by have:=aG.size;omega),(aG.kp.trans hr.k).It ak (λj e=> .inl (by omega))⟩
      ·refine Lu O O$ LU O$ Lt N8 O$ qV (Lj U3 O O am O)$ MH O O$ M5$ Le O ?_;by_cases h2:(A.once.length:Int)=A.target
       ·refine Lu O O$ LU O$ Lt N8 O$ qV (Lj U3 O O am O)$ Nb O O$ Ns$ Le O ?_
        cases bo with
        | true =>
          refine Le O ?_
          skip
          refine MU O O$ M8 O O$ MU O O$ Lk O$ LS.qb (e:=[(0,_),(4,_),(5,_),(6,_),(7,_),(8,_),(10,_)]) ?_;refine run_seq$ qN O$ Lu O O$ Le O$ MU O O$ Le O$ qS$ qS$ qS$ qS$ qS$ qS$ MU O O$ Lf ?_;refine Lr O$ qN O$ Le O$ LU O$ Lt MF O$ Le O$ LD Ou O (Mm en (j:=0) (k:=x0) (by decide)) ?_;rintro _ w3 ⟨rfl,V3,cd⟩;have iu:(A.li 0).erase x0=r0:=by show A.once.erase x0=r0;rw[ho];simp
          rw[iu] at cd
          have dD:x0∉(A.MD 0 r0).li 2:=by
           show x0∉A.LB;intro e;exact nd3 x0 (by rw[ho];simp) x0 (by simp[e]) O
          refine qM O$ Le O$ LU O$ Lt MT O$ Le O$ LD OV O (MS cd.m (j:=2) (k:=x0) (by decide) dD (by show A.LB.length<=_;exact Nat.le_trans gy (by decide))) ?_;rintro _ w4 ⟨rfl,V4,bH⟩;have hr:=(en.r (Ext.refl w2)).trans (cd.trans bH);have cw:=hr.k.Lg bD (λe=>n4 _ e O);refine Lf$ LS.qb (e:=[(0,_),(4,_),(5,_),(7,_)]) ?_;refine qN O$ Le O$ qV (O6 (cs:=[_,_,_]) LW O RD O O)$ Ls O (M7 (news:=Nv false (some x0)) LW O O O O cw (by simp)) ?_;rintro w5 ⟨aM,ak⟩;replace aM:Lq w5 b4 [.bool false,.bool true,I x0] 265:=aM;refine Lf$ LL Tryz.func190 (.cell Oj O LW O (Lq.cells (n:=3) aM (news:=[_,_,_]) O) O .nil) ?_
          have eu:∀b,On c V4 p b->b≠b4:=λb hb e=>by
           rcases hr.fp b hb with h5|h5
           ·exact n4 b h5 e
           ·have:=bD.lt;omega
          rw[jm]
          exact⟨_,rfl,rfl,V4,hr.m.kp ak eu,λb hb=>(hr.fp b hb).imp id (λe=>by have:=aG.size;omega),(aG.kp.trans hr.k).It ak (λj e=> .inl (by omega))⟩
        | false =>
          refine Le O ?_
          skip
          refine MU O O$ M8 O O$ MU O O$ Lk O$ LS.qb (e:=[(0,_),(4,_),(5,_),(6,_),(7,_),(8,_),(10,_)]) ?_;refine run_seq$ qN O$ Lu O O$ qS$ M8 O O$ Lu O O$ qV ((by first|exact Mh O|exact NL O)) ?_;refine Lu O O$ qV ((by first|exact Mh O|exact NL O)) ?_;refine MU O O$ M8 O O$ Lf$ Lr O$ qN O$ Le O$ LU O$ Lt MF O$ Le O$ LD Ou O (Mm en (j:=0) (k:=x0) (by decide)) ?_;rintro _ w3 ⟨rfl,V3,cd⟩;have iu:(A.li 0).erase x0=r0:=by show A.once.erase x0=r0;rw[ho];simp
          rw[iu] at cd
          have dD:x0∉(A.MD 0 r0).li 2:=by
           show x0∉A.LB;intro e;exact nd3 x0 (by rw[ho];simp) x0 (by simp[e]) O
          refine qM O$ Le O$ LU O$ Lt MT O$ Le O$ LD OV O (MS cd.m (j:=2) (k:=x0) (by decide) dD (by show A.LB.length<=_;exact Nat.le_trans gy (by decide))) ?_;rintro _ w4 ⟨rfl,V4,bH⟩;have hr:=(en.r (Ext.refl w2)).trans (cd.trans bH);have cw:=hr.k.Lg bD (λe=>n4 _ e O);refine Lf$ LS.qb (e:=[(0,_),(4,_),(5,_),(7,_)]) ?_;refine qN O$ Le O$ qV (O6 (cs:=[_,_,_]) LW O RD O O)$ Ls O (M7 (news:=Nv false (some x0)) LW O O O O cw (by simp)) ?_;rintro w5 ⟨aM,ak⟩;replace aM:Lq w5 b4 [.bool false,.bool true,I x0] 265:=aM;refine Lf$ LL Tryz.func190 (.cell Oj O LW O (Lq.cells (n:=3) aM (news:=[_,_,_]) O) O .nil) ?_
          have eu:∀b,On c V4 p b->b≠b4:=λb hb e=>by
           rcases hr.fp b hb with h5|h5
           ·exact n4 b h5 e
           ·have:=bD.lt;omega
          rw[jm];exact⟨_,rfl,rfl,V4,hr.m.kp ak eu,λb hb=>(hr.fp b hb).imp id (λe=>by have:=aG.size;omega),(aG.kp.trans hr.k).It ak (λj e=> .inl (by omega))⟩
       ·refine Lu O O$ LU O$ Lt N8 O$ qV (Lj U3 O O am O)$ Nb O O$ M5$ Le O ?_
        skip
        refine qS$ M8 O O$ M8 O O$ MU O O$ Lk O$ LS.qb (e:=[(0,_),(4,_),(5,_),(6,_),(7,_),(8,_),(10,_)]) ?_;refine run_seq$ qN O$ Lu O O$ qS$ M8 O O$ Lu O O$ qV ((by first|exact Mh O|exact NL O)) ?_;refine Lu O O$ qV ((by first|exact Mh O|exact NL O)) ?_;refine MU O O$ M8 O O$ Lf$ Lr O$ qN O$ Le O$ LU O$ Lt MF O$ Le O$ LD Ou O (Mm en (j:=0) (k:=x0) (by decide)) ?_;rintro _ w3 ⟨rfl,V3,cd⟩;have iu:(A.li 0).erase x0=r0:=by show A.once.erase x0=r0;rw[ho];simp
        rw[iu] at cd
        have dD:x0∉(A.MD 0 r0).li 2:=by
         show x0∉A.LB;intro e;exact nd3 x0 (by rw[ho];simp) x0 (by simp[e]) O
        refine qM O$ Le O$ LU O$ Lt MT O$ Le O$ LD OV O (MS cd.m (j:=2) (k:=x0) (by decide) dD (by show A.LB.length<=_;exact Nat.le_trans gy (by decide))) ?_;rintro _ w4 ⟨rfl,V4,bH⟩;have hr:=(en.r (Ext.refl w2)).trans (cd.trans bH);have cw:=hr.k.Lg bD (λe=>n4 _ e O);refine Lf$ LS.qb (e:=[(0,_),(4,_),(5,_),(7,_)]) ?_;refine qN O$ Le O$ qV (O6 (cs:=[_,_,_]) LW O RD O O)$ Ls O (M7 (news:=Nv false (some x0)) LW O O O O cw (by simp)) ?_;rintro w5 ⟨aM,ak⟩;replace aM:Lq w5 b4 [.bool false,.bool true,I x0] 265:=aM;refine Lf$ LL Tryz.func190 (.cell Oj O LW O (Lq.cells (n:=3) aM (news:=[_,_,_]) O) O .nil) ?_
        have eu:∀b,On c V4 p b->b≠b4:=λb hb e=>by
         rcases hr.fp b hb with h5|h5
         ·exact n4 b h5 e
         ·have:=bD.lt;omega
        rw[jm]
        exact⟨_,rfl,rfl,V4,hr.m.kp ak eu,λb hb=>(hr.fp b hb).imp id (λe=>by have:=aG.size;omega),(aG.kp.trans hr.k).It ak (λj e=> .inl (by omega))⟩
    | cons x1 r1 =>
      have g0:SU A.once= .tuple #[I x0,.bool true]:=by rw[ho];rfl
      have g1:SU A.often= .tuple #[I x1,.bool true]:=by rw[hf];rfl
      rw[g0] at f0;rw[g1] at f1;refine py$ qN O$ Lu O O$ LU O$ Lt MF O$ LD Ul O (f0) ?_;rintro _ w2 ⟨rfl,rfl⟩;refine Le O$ qV (Nq (v:=I x0) O O)$ qV (Nq (v:= .bool true) O O)$ Lw O$ Lw O$ qM O$ Lu O O$ LU O$ Lt Nf O$ LD Ul O (f1) ?_;rintro _ w2 ⟨rfl,rfl⟩;refine Le O$ qV (Nq (v:=I x1) O O)$ qV (Nq (v:= .bool true) O O)$ Lw O$ Lk O$ LS.qb (e:=[(0,_),(1,_),(4,_),(5,_),(6,_),(7,_),(8,_)]) ?_;refine qN O$ Le O$ LU O$ Lt MF O$ Lt Mj O$ qV (Lj N3 O O am O)$ Nd N3 O$ Lw O$ qM O$ Le O$ Pa O O$ Ns$ Le O ?_
      by_cases h1:(A.once.length:Int)>A.target
      ·have jm:A.room bo=({A with once:=r0,LB:=A.LB++[x0]},some x0):=by unfold Arc.room;rw[if_pos bZ,ho,hf];exact if_pos (by rw[<-ho];exact .inl h1)
       refine Lu O O$ LU O$ Lt N8 O$ qV (Lj U3 O O am O)$ MH O O$ Ns$ Le O$ qS$ qS$ qS$ qS$ qS$ qS$ qS ?_;refine qS$ qS$ MU O O$ MU O O$ Lk O$ LS.qb (e:=[(0,_),(4,_),(5,_),(6,_),(7,_),(8,_),(10,_)]) ?_;refine run_seq$ qN O$ Lu O O$ Le O$ MU O O$ Le O$ qS$ qS$ qS$ qS$ qS$ qS$ MU O O$ Lf ?_;refine Lr O$ qN O$ Le O$ LU O$ Lt MF O$ Le O$ LD Ou O (Mm en (j:=0) (k:=x0) (by decide)) ?_;rintro _ w3 ⟨rfl,V3,cd⟩;have iu:(A.li 0).erase x0=r0:=by show A.once.erase x0=r0;rw[ho];simp
       rw[iu] at cd
       have dD:x0∉(A.MD 0 r0).li 2:=by
        show x0∉A.LB;intro e;exact nd3 x0 (by rw[ho];simp) x0 (by simp[e]) O
       refine qM O$ Le O$ LU O$ Lt MT O$ Le O$ LD OV O (MS cd.m (j:=2) (k:=x0) (by decide) dD (by show A.LB.length<=_;exact Nat.le_trans gy (by decide))) ?_;rintro _ w4 ⟨rfl,V4,bH⟩;have hr:=(en.r (Ext.refl w2)).trans (cd.trans bH);have cw:=hr.k.Lg bD (λe=>n4 _ e O);refine Lf$ LS.qb (e:=[(0,_),(4,_),(5,_),(7,_)]) ?_;refine qN O$ Le O$ qV (O6 (cs:=[_,_,_]) LW O RD O O)$ Ls O (M7 (news:=Nv false (some x0)) LW O O O O cw (by simp)) ?_;rintro w5 ⟨aM,ak⟩;replace aM:Lq w5 b4 [.bool false,.bool true,I x0] 265:=aM;refine Lf$ LL Tryz.func190 (.cell Oj O LW O (Lq.cells (n:=3) aM (news:=[_,_,_]) O) O .nil) ?_
       have eu:∀b,On c V4 p b->b≠b4:=λb hb e=>by
        rcases hr.fp b hb with h5|h5
        ·exact n4 b h5 e
        ·have:=bD.lt;omega
       rw[jm];exact⟨_,rfl,rfl,V4,hr.m.kp ak eu,λb hb=>(hr.fp b hb).imp id (λe=>by have:=aG.size;omega),(aG.kp.trans hr.k).It ak (λj e=> .inl (by omega))⟩
      ·refine Lu O O$ LU O$ Lt N8 O$ qV (Lj U3 O O am O)$ MH O O$ M5$ Le O ?_;by_cases h2:(A.once.length:Int)=A.target
       ·refine Lu O O$ LU O$ Lt N8 O$ qV (Lj U3 O O am O)$ Nb O O$ Ns$ Le O ?_
        cases bo with
        | true =>
          refine Le O ?_;have jm:A.room true=({A with once:=r0,LB:=A.LB++[x0]},some x0):=by unfold Arc.room;rw[if_pos bZ,ho,hf];exact if_pos (by rw[<-ho];exact .inr ⟨h2,rfl⟩)
          refine MU O O$ M8 O O$ MU O O$ Lk O$ LS.qb (e:=[(0,_),(4,_),(5,_),(6,_),(7,_),(8,_),(10,_)]) ?_;refine run_seq$ qN O$ Lu O O$ Le O$ MU O O$ Le O$ qS$ qS$ qS$ qS$ qS$ qS$ MU O O$ Lf ?_;refine Lr O$ qN O$ Le O$ LU O$ Lt MF O$ Le O$ LD Ou O (Mm en (j:=0) (k:=x0) (by decide)) ?_;rintro _ w3 ⟨rfl,V3,cd⟩;have iu:(A.li 0).erase x0=r0:=by show A.once.erase x0=r0;rw[ho];simp
          rw[iu] at cd
          have dD:x0∉(A.MD 0 r0).li 2:=by
           show x0∉A.LB;intro e;exact nd3 x0 (by rw[ho];simp) x0 (by simp[e]) O
          refine qM O$ Le O$ LU O$ Lt MT O$ Le O$ LD OV O (MS cd.m (j:=2) (k:=x0) (by decide) dD (by show A.LB.length<=_;exact Nat.le_trans gy (by decide))) ?_;rintro _ w4 ⟨rfl,V4,bH⟩;have hr:=(en.r (Ext.refl w2)).trans (cd.trans bH);have cw:=hr.k.Lg bD (λe=>n4 _ e O);refine Lf$ LS.qb (e:=[(0,_),(4,_),(5,_),(7,_)]) ?_;refine qN O$ Le O$ qV (O6 (cs:=[_,_,_]) LW O RD O O)$ Ls O (M7 (news:=Nv false (some x0)) LW O O O O cw (by simp)) ?_;rintro w5 ⟨aM,ak⟩;replace aM:Lq w5 b4 [.bool false,.bool true,I x0] 265:=aM;refine Lf$ LL Tryz.func190 (.cell Oj O LW O (Lq.cells (n:=3) aM (news:=[_,_,_]) O) O .nil) ?_
          have eu:∀b,On c V4 p b->b≠b4:=λb hb e=>by
           rcases hr.fp b hb with h5|h5
           ·exact n4 b h5 e
           ·have:=bD.lt;omega
          rw[jm]
          exact⟨_,rfl,rfl,V4,hr.m.kp ak eu,λb hb=>(hr.fp b hb).imp id (λe=>by have:=aG.size;omega),(aG.kp.trans hr.k).It ak (λj e=> .inl (by omega))⟩
        | false =>
          refine Le O ?_;have jm:A.room false=({A with often:=r1,Lx:=A.Lx++[x1]},some x1):=by unfold Arc.room;rw[if_pos bZ,ho,hf];exact if_neg (by rw[<-ho];rintro(e|⟨e,e2⟩);exact h1 e;cases e2)
          refine MU O O$ M8 O O$ MU O O$ Lk O$ LS.qb (e:=[(0,_),(4,_),(5,_),(6,_),(7,_),(8,_),(10,_)]) ?_;refine run_seq$ qN O$ Lu O O$ qS$ M8 O O$ Lu O O$ qV ((by first|exact Mh O|exact NL O)) ?_;refine Lu O O$ qV ((by first|exact Mh O|exact NL O)) ?_;refine MU O O$ M8 O O$ Lf$ An O$ py$ qN O$ Le O$ LU O$ Lt Nf O$ Le O$ LD Ou O (Mm en (j:=1) (k:=x1) (by decide)) ?_;rintro _ w3 ⟨rfl,V3,cd⟩;have iu:(A.li 1).erase x1=r1:=by show A.often.erase x1=r1;rw[hf];simp
          rw[iu] at cd
          have dD:x1∉(A.MD 1 r1).li 3:=by
           show x1∉A.Lx;intro e;exact nd6 x1 (by rw[hf];simp) x1 (by simp[e]) O
          refine qM O$ Le O$ LU O$ Lt N9 O$ Le O$ LD OV O (MS cd.m (j:=3) (k:=x1) (by decide) dD (by show A.Lx.length<=_;exact Nat.le_trans jZ (by decide))) ?_;rintro _ w4 ⟨rfl,V4,bH⟩;have hr:=(en.r (Ext.refl w2)).trans (cd.trans bH);have cw:=hr.k.Lg bD (λe=>n4 _ e O);refine Lf$ LS.qb (e:=[(4,_),(7,_)]) ?_;refine qN O$ Le O$ qV (O6 (cs:=[_,_,_]) LW O RD O O)$ Ls O (M7 (news:=Nv false (some x1)) LW O O O O cw (by simp)) ?_;rintro w5 ⟨aM,ak⟩;replace aM:Lq w5 b4 [.bool false,.bool true,I x1] 265:=aM;refine Lf$ LL Tryz.func190 (.cell Oj O LW O (Lq.cells (n:=3) aM (news:=[_,_,_]) O) O .nil) ?_
          have eu:∀b,On c V4 p b->b≠b4:=λb hb e=>by
           rcases hr.fp b hb with h5|h5
           ·exact n4 b h5 e
           ·have:=bD.lt;omega
          rw[jm];exact⟨_,rfl,rfl,V4,hr.m.kp ak eu,λb hb=>(hr.fp b hb).imp id (λe=>by have:=aG.size;omega),(aG.kp.trans hr.k).It ak (λj e=> .inl (by omega))⟩
       ·refine Lu O O$ LU O$ Lt N8 O$ qV (Lj U3 O O am O)$ Nb O O$ M5$ Le O ?_;have jm:A.room bo=({A with often:=r1,Lx:=A.Lx++[x1]},some x1):=by unfold Arc.room;rw[if_pos bZ,ho,hf];exact if_neg (by rw[<-ho];rintro(e|⟨e,e2⟩);exact h1 e;exact h2 e)
        refine qS$ M8 O O$ M8 O O$ MU O O$ Lk O$ LS.qb (e:=[(0,_),(4,_),(5,_),(6,_),(7,_),(8,_),(10,_)]) ?_;refine run_seq$ qN O$ Lu O O$ qS$ M8 O O$ Lu O O$ qV ((by first|exact Mh O|exact NL O)) ?_;refine Lu O O$ qV ((by first|exact Mh O|exact NL O)) ?_;refine MU O O$ M8 O O$ Lf$ An O$ py$ qN O$ Le O$ LU O$ Lt Nf O$ Le O$ LD Ou O (Mm en (j:=1) (k:=x1) (by decide)) ?_;rintro _ w3 ⟨rfl,V3,cd⟩;have iu:(A.li 1).erase x1=r1:=by show A.often.erase x1=r1;rw[hf];simp
        rw[iu] at cd
        have dD:x1∉(A.MD 1 r1).li 3:=by
         show x1∉A.Lx;intro e;exact nd6 x1 (by rw[hf];simp) x1 (by simp[e]) O
        refine qM O$ Le O$ LU O$ Lt N9 O$ Le O$ LD OV O (MS cd.m (j:=3) (k:=x1) (by decide) dD (by show A.Lx.length<=_;exact Nat.le_trans jZ (by decide))) ?_;rintro _ w4 ⟨rfl,V4,bH⟩;have hr:=(en.r (Ext.refl w2)).trans (cd.trans bH);have cw:=hr.k.Lg bD (λe=>n4 _ e O);refine Lf$ LS.qb (e:=[(4,_),(7,_)]) ?_;refine qN O$ Le O$ qV (O6 (cs:=[_,_,_]) LW O RD O O)$ Ls O (M7 (news:=Nv false (some x1)) LW O O O O cw (by simp)) ?_;rintro w5 ⟨aM,ak⟩;replace aM:Lq w5 b4 [.bool false,.bool true,I x1] 265:=aM;refine Lf$ LL Tryz.func190 (.cell Oj O LW O (Lq.cells (n:=3) aM (news:=[_,_,_]) O) O .nil) ?_
        have eu:∀b,On c V4 p b->b≠b4:=λb hb e=>by
         rcases hr.fp b hb with h5|h5
         ·exact n4 b h5 e
         ·have:=bD.lt;omega
        rw[jm];exact⟨_,rfl,rfl,V4,hr.m.kp ak eu,λb hb=>(hr.fp b hb).imp id (λe=>by have:=aG.size;omega),(aG.kp.trans hr.k).It ak (λj e=> .inl (by omega))⟩
end
theorem Arc.Ok.zd0 {A:Arc}(h:A.Ok):(A.MD 2 (A.LB.drop 1)).Ok:=by
 have hs:(A.MD 2 (A.LB.drop 1)).all.Sublist A.all:=(((List.drop_sublist 1 A.LB).append_right A.Lx).append_left A.often).append_left A.once
 have:=h.first
 have h2:=hs.length_le
 have h3:=h.total
 exact⟨h.pos,h.nd.sublist hs,h.held,by show A.once.length+(A.LB.drop 1).length<=A.size;rw[List.length_drop];omega,Nat.le_trans h2 h3,h.tg⟩
theorem Arc.Ok.ze0 {A:Arc}(h:A.Ok):(A.MD 3 (A.Lx.drop 1)).Ok:=by
 have hs:(A.MD 3 (A.Lx.drop 1)).all.Sublist A.all:=(((List.drop_sublist 1 A.Lx).append_left A.LB).append_left A.often).append_left A.once
 exact⟨h.pos,h.nd.sublist hs,h.held,h.first,Nat.le_trans hs.length_le h.total,h.tg⟩
section
variable {w w' w2:World}{c p:Nat}{A A' A2:Arc}{V V' V2:Nat->Value×Value}{S:Nat->Prop}{k:Int}
theorem Ot.head (h:Ot w c A V p){j:Nat}(hj:j<4){x:Int}{r:List Int}(hl:A.li j=x::r):∃b o cp,(V j).1= .slice (some ⟨b,o,none⟩) (A.li j).length cp/\w.cell? ⟨b,o+0*1,none⟩=some (I x):=by
 have hR:=(h.q j hj).sl.rd
 rcases hR.2 with⟨c,hc,h0⟩|⟨b,off,c',hc,-⟩
 ·rw[hl] at h0;simp at h0
 ·rw[hc] at hR;exact⟨b,off,c',hc,Mn hR (i:=0) (by rw[hl];rfl)⟩
theorem Wk (h:Ot w c A V p)(hA:A.Ok)(cF:A.size<=1000):LP Tryz.prog 191 [ptr c 0] w λv w'=>v=z8E false A.add.2/\∃V',RG w c V p w' A.add.1 V':=by
 have rL:=hA.lens cF 0
 have kN:=hA.lens cF 1
 have gy:=hA.lens cF 2
 have jZ:=hA.lens cF 3
 have hC:=hA.pos
 have iU:=A.MR
 have ue:=hA.held
 have KS:=hA.first
 have eM:=hA.total
 have aV:∀{b:Nat},On c V p b->b<w.heap.size:=h.lt
 rw[show A.li 0=A.once from rfl] at rL
 rw[show A.li 1=A.often from rfl] at kN
 rw[show A.li 2=A.LB from rfl] at gy
 rw[show A.li 3=A.Lx from rfl] at jZ
 have hB:=h.cells
 obtain⟨a0,c0,e0,-⟩:∃a c,(V 0).1= .slice a A.once.length c/\_:=(h.q 0 (by decide)).sl.rd.shape
 obtain⟨a1,c1,e1,-⟩:∃a c,(V 1).1= .slice a A.often.length c/\_:=(h.q 1 (by decide)).sl.rd.shape
 obtain⟨a2,c2,e2,-⟩:∃a c,(V 2).1= .slice a A.LB.length c/\_:=(h.q 2 (by decide)).sl.rd.shape
 obtain⟨a3,c3,e3,-⟩:∃a c,(V 3).1= .slice a A.Lx.length c/\_:=(h.q 3 (by decide)).sl.rd.shape
 rw[e0,e1,e2,e3] at hB
 refine Lb (e:=[(0,_)]) Tryz.func191 O Tryz.ntmps191 O O$ qN O$ Lm O O (NJ (cs:=[_,_,_]) LW O) ?_
 rintro _ w1 ⟨b2,rfl,c6,ad,am⟩
 replace am:Lq w1 b2 [.bool false,.bool false,I 0] 265:=am
 have n2:∀b,On c V p b->b≠b2:=λb hb e=>by have:=aV hb;omega
 have ai:=ad.Lg hB
 have aJ:=Ext.LC w1
 refine Lf$ run_seq$ N7 (λw'=>Ext w1 w') O$ LA 0 O O (aJ)$ Ll 1 O (Mo O) aJ$ Ll 2 O (LV MF O) aJ$ Ll 3 O (LV Mj O) aJ$ qT 4 O (λ_ h=>Lj N3 O O (h.Lg ai) O) aJ$ Ll 5 O (Ol N3 O) aJ$ LA 6 O O (aJ)$ Ll 7 O (Mo O) aJ$ Ll 8 O (LV MT O) aJ$ Ll 9 O (LV Mj O) aJ$ qT 10 O (λ_ h=>Lj N3 O O (h.Lg ai) O) aJ ?_
 refine Ll 11 O (Ol N3 O) aJ$ Ll 12 O (Qu O O (by omega)) aJ$ Ll 13 O (Ni O) aJ$ qE$ run_seq ?_
 rw[show(A.once.length:Int)+(A.LB.length:Int)=((A.once.length+A.LB.length:Nat):Int) by omega]
 have aa:=Ext.LC w1.drew
 have qF:=aJ.Lg ai
 refine N7 (λw'=>Ext w1.drew w') O$ LA 0 O O (aa)$ LA 1 O O (aa)$ Ll 2 O (Mo O) aa$ Ll 3 O (LV Nf O) aa$ Ll 4 O (LV Mj O) aa$ qT 5 O (λ_ h=>Lj N3 O O (h.Lg qF) O) aa$ Ll 6 O (Ol N3 O) aa$ Ll 7 O (Qu O O (by omega)) aa$ LA 8 O O (aa)$ Ll 9 O (Mo O) aa$ Ll 10 O (LV N9 O) aa$ Ll 11 O (LV Mj O) aa$ qT 12 O (λ_ h=>Lj N3 O O (h.Lg qF) O) aa ?_
 refine Ll 13 O (Ol N3 O) aa$ Ll 14 O (Qu O O (by omega)) aa$ Ll 15 O (Ni O) aa ?_
 rw[show((A.once.length+A.LB.length:Nat):Int)+(A.often.length:Int)+(A.Lx.length:Int)=(A.all.length:Int) by omega]
 have ag:=(ad.trans aJ).trans aa
 obtain⟨w2,mg⟩:∃w2,w1.drew.drew=w2:=⟨_,rfl⟩
 rw[mg] at ag
 have aA:=aJ.trans aa
 rw[mg] at aA⊢
 have h2:=h.ext ag
 have jn:=h2.cells
 rw[e0,e1,e2,e3] at jn
 have i8:=aA.Lg am
 have ae:=Ext.LC w2
 refine qE$ LS.qb (e:=[(0,_),(2,_),(3,_),(4,_)]) ?_
 refine run_seq$ M6 (λe' w'=>e'=[(0,ptr c 0),(2,ptr b2 0)]/\∃A' V',A'.Ok/\A'.size=A.size/\RG w2 c V p w' A' V'/\Lq w' b2 [.bool false,.bool false,I 0] 265/\A.add=A'.room false/\w2.heap.size<=w'.heap.size) ?et$ λet=>?iv
 case et=>
  rintro e' w3 ⟨rfl,A',V',IH,xM,cd,aq,dE,z3⟩;refine qN O$ Le O$ LD Xf O (Pl cd.m IH (by omega) false) ?_;rintro _ w4 ⟨rfl,V4,bH⟩;have hr:=cd.trans bH
  have n3:∀b,On c V' p b->b≠b2:=λb hb e=>by
   rcases cd.fp b hb with h5|h5
   ·exact n2 b h5 e
   ·have:=i8.lt;omega
  have n4:∀b,On c V4 p b->b≠b2:=λb hb e=>by
   rcases hr.fp b hb with h5|h5
   ·exact n2 b h5 e
   ·have:=i8.lt;omega
  have gz:=bH.k.Lg aq (λe=>n3 _ e O);obtain⟨g,hg⟩:∃g,(A'.room false).2=g:=⟨_,rfl⟩;rw[hg];refine Ls O (M7 (news:=Nv false g) LW O O O O gz (by simp)) ?_;rintro w5 ⟨dq,ak⟩;replace dq:Lq w5 b2 [.bool false,.bool g.isSome,I (g.getD 0)] 265:=dq;refine Lf$ LL Tryz.func191 (.cell Oj O LW O (Lq.cells (n:=3) dq (news:=[_,_,_]) O) O .nil) ?_;rw[dE,hg];have z1:=ad.size;have z2:=ag.size;exact⟨_,rfl,rfl,V4,hr.m.kp ak n4,λb hb=>(hr.fp b hb).imp id (λe=>by omega),(ag.kp.trans hr.k).It ak (λj e=> .inl (by omega))⟩
 case iv =>
  have e13:(A.all.length:Int)=(A.all.length:Int):=rfl;have h3:=h2.ext ae;have pN:=ae.Lg jn;have cS:=ae.Lg i8;have z1:=ad.size;have z2:=ag.size;by_cases hf:A.once.length+A.LB.length=A.size
  ·by_cases ho:A.once.length<A.size
   ·refine Lc$ run_seq$ N7 (λw'=>Ext w2 w') O$ LA 0 O O (ae)$ LA 1 O O (ae)$ Ll 2 O (Mo O) ae$ Ll 3 O (LV Oe O) ae$ qT 4 O (λ_ h=>Lj U3 O O (h.Lg jn) O) ae$ Ll 5 O (Xu O O) ae$ Pu$ LA 6 O O (ae)$ LA 7 O O (ae)$ Ll 8 O (Mo O) ae$ Ll 9 O (LV MF O) ae ?_;refine Ll 10 O (LV Mj O) ae$ qT 11 O (λ_ h=>Lj N3 O O (h.Lg jn) O) ae$ Ll 12 O (Ol N3 O) ae$ LA 13 O O (ae)$ Ll 14 O (Mo O) ae$ Ll 15 O (LV Oe O) ae$ qT 16 O (λ_ h=>Lj U3 O O (h.Lg jn) O) ae$ Ll 17 O (Wr O O) ae$ Pu$ Ll 18 O (Qy O O) ae$ Ll 19 O (Ni O) ae$ qE$ Lr O ?_
    obtain⟨x,r,hw⟩:∃x r,A.LB=x::r:=by
     cases hx:A.LB with
     |nil=>rw[hx] at hf;simp at hf;omega
     |cons x r=>exact⟨x,r,rfl⟩
    obtain⟨lb,lo,lc,xN,-⟩:=h2.head (j:=2) (by decide) hw;rw[e2] at xN;cases xN;have cH:=(h3.q 2 (by decide)).sl.rd;rw[e2] at cH;have qG:0<A.LB.length:=by rw[hw];simp
    have jk:((A.li 2).map I)[0]? =some (I x):=by show(A.LB.map I)[0]? =_;rw[hw];rfl
    have af:=Ext.LC w2.drew;refine LH [10] (λw'=>Ext w2.drew w') (by kernel_rfl) O$ qL [1,2,10] 0 O (λ_ h=>M0 O) af$ qL [2,10] 1 O (λ_ h=>Mo O) af$ qL [10] 2 O (λ_ h=>LV MT O) af$ qL [4,5,6,7,8,9,10] 3 O (λ_ h=>M0 O) af$ qL [5,6,7,8,9,10] 4 O (λ_ h=>Mo O) af$ qL [6,7,8,9,10] 5 O (λ_ h=>LV MT O) af$ qL [7,8,9,10] 6 O (λ_ h=>LV Mj O) af$ qL [8,9,10] 7 O (λ_ h=>Lj N3 O O (h.Lg (ae.Lg jn)) O) af$ qL [9,10] 8 O (λ_ h=>M9 N3 Md O O (by omega)) af$ qL [10] 9 O (λ_ h=>LN U3 O O (Mn (cH.ext h) (i:=0) jk)) af$ OY [10]$ OA 10 O Ou O (Mm (h3.ext af) (j:=2) (k:=x) (by decide)) ?_;rintro _ w5 ⟨rfl,V5,cb⟩;refine⟨trivial,?_⟩;have xO:(A.li 2).erase x=A.LB.drop 1:=by show A.LB.erase x=A.LB.drop 1;rw[hw];simp
    rw[xO] at cb;have eY:=(h2.r (ae.trans af)).trans cb;have dq:=eY.k.Lg i8 (λe=>n2 _ e O);refine qE$ LS.qb (e:=[(0,_),(2,_)]) ?_;refine Ld ?_;exact(et _ _ ⟨rfl,_,V5,hA.zd0,(VV A (j:=2) (by decide) _).1,eY,dq,by unfold Arc.add;rw[if_pos hf,if_pos ho];rfl,eY.k.size⟩).qb
   ·refine Lc$ run_seq$ N7 (λw'=>Ext w2 w') O$ LA 0 O O (ae)$ LA 1 O O (ae)$ Ll 2 O (Mo O) ae$ Ll 3 O (LV Oe O) ae$ qT 4 O (λ_ h=>Lj U3 O O (h.Lg jn) O) ae$ Ll 5 O (Xu O O) ae$ Pu$ LA 6 O O (ae)$ LA 7 O O (ae)$ Ll 8 O (Mo O) ae$ Ll 9 O (LV MF O) ae ?_;refine Ll 10 O (LV Mj O) ae$ qT 11 O (λ_ h=>Lj N3 O O (h.Lg jn) O) ae$ Ll 12 O (Ol N3 O) ae$ LA 13 O O (ae)$ Ll 14 O (Mo O) ae$ Ll 15 O (LV Oe O) ae$ qT 16 O (λ_ h=>Lj U3 O O (h.Lg jn) O) ae$ Ll 17 O (Wr O O) ae$ PU$ Ll 18 O (Qy O O) ae$ Ll 19 O (Ni O) ae$ qE$ An O$ qN O ?_;refine Lu O O$ LU O$ Lt Oe O$ qV (Lj U3 O O pN O)$ Nb O O$ Ns$ Lk O$ LS.qb (e:=[(0,_),(2,_),(4,_),(66,_)]) ?_;refine Lr O$ qN O$ Lu O O$ LU O$ Lt MF O ?_
    obtain⟨x,r,hw⟩:∃x r,A.once=x::r:=by
     cases hx:A.once with
     |nil=>rw[hx] at ho;simp at ho;omega
     |cons x r=>exact⟨x,r,rfl⟩
    have f0:=R0 h3 (j:=0) (by decide);rw[show A.li 0=A.once from rfl,show SU A.once= .tuple #[I x,.bool true] by rw[hw];rfl] at f0;obtain⟨w3,pO⟩:∃w3,w2.drew=w3:=⟨_,rfl⟩;rw[pO] at f0 h3 cS ae⊢;refine LD Ul O (f0) ?_;rintro _ w3 ⟨rfl,rfl⟩;refine Le O$ qV (Nq (v:=I x) O O)$ qV (Nq (v:= .bool true) O O)$ Lw O$ Lw O$ qM O$ Le O$ LU O$ Lt MF O$ Le O$ LD Ou O (Mm h3 (j:=0) (k:=x) (by decide)) ?_;rintro _ w5 ⟨rfl,V5,cb⟩;have xO:(A.li 0).erase x=A.once.drop 1:=by show A.once.erase x=A.once.drop 1;rw[hw];simp
    rw[xO] at cb;have eY:=(h2.r ae).trans cb;have dq:=eY.k.Lg i8 (λe=>n2 _ e O);refine qM O$ Le O$ qV (O6 (cs:=[_,_,_]) LW O RD O O)$ Ls O (M7 (news:=Nv false (some x)) LW O O O O dq (by simp)) ?_;rintro w6 ⟨gX,aU⟩;replace gX:Lq w6 b2 [.bool false,.bool true,I x] 265:=gX;refine Lf$ LL Tryz.func191 (.cell Oj O LW O (Lq.cells (n:=3) gX (news:=[_,_,_]) O) O .nil) ?_
    have n5:∀b,On c V5 p b->b≠b2:=λb hb e=>by
     rcases eY.fp b hb with h5|h5
     ·exact n2 b h5 e
     ·have:=i8.lt;omega
    have dE:A.add=(A.MD 0 (A.once.drop 1),some x):=by unfold Arc.add;rw[if_pos hf,if_neg ho,hw];rfl
    rw[dE];exact⟨_,rfl,rfl,V5,eY.m.kp aU n5,λb hb=>(eY.fp b hb).imp id (λe=>by omega),(ag.kp.trans eY.k).It aU (λj e=> .inl (by omega))⟩
  ·refine Lc$ run_seq$ N7 (λw'=>Ext w2 w') O$ LA 0 O O (ae)$ LA 1 O O (ae)$ Ll 2 O (Mo O) ae$ Ll 3 O (LV Oe O) ae$ qT 4 O (λ_ h=>Lj U3 O O (h.Lg jn) O) ae$ Ll 5 O (Xu O O) ae$ PU$ LA 6 O O (ae)$ qJ 7 O (ae)$ qJ 8 O (ae)$ qJ 9 O (ae) ?_;refine qJ 10 O (ae)$ qJ 11 O (ae)$ qJ 12 O (ae)$ qJ 13 O (ae)$ qJ 14 O (ae)$ qJ 15 O (ae)$ qJ 16 O (ae)$ qJ 17 O (ae)$ Ll 18 O (Qt O O) ae$ Ll 19 O (Ni O) ae$ qE$ An O$ qN O$ Lu O O ?_;refine LU O$ Lt Oe O$ qV (Lj U3 O O pN O)$ Nb O O$ M5$ Lk O$ LS.qb (e:=[(0,_),(2,_),(4,_),(66,_)]) ?_;refine An O$ qN O$ Lu O O$ LU O$ Lt Oe O$ qV (Lj U3 O O pN O) ?_;by_cases h4:A.all.length<A.size
   ·refine Mw O O$ Ns$ Lk O$ Lr O$ qN O$ qV (O6 (cs:=[_,_,_]) LW O RD O O)$ Ls O (M7 (news:=Nv false none) LW O O O O cS (by simp)) ?_;rintro w5 ⟨dq,ak⟩;replace dq:Lq w5 b2 [.bool false,.bool false,I 0] 265:=dq;refine Lf$ LL Tryz.func191 (.cell Oj O LW O (Lq.cells (n:=3) dq (news:=[_,_,_]) O) O .nil) ?_;have dE:A.add=(A,none):=by unfold Arc.add;rw[if_neg hf,if_pos h4]
    rw[dE];exact⟨_,rfl,rfl,V,h3.kp ak n2,λb hb=> .inl hb,((ag.trans ae).It ak (λj e=>by omega)).kp⟩
   ·refine Mw O O$ M5$ Lk O$ An O$ qN O$ Lu O O$ LU O$ Lt Oe O$ qV (Lj U3 O O pN O)$ qV (T6 O O (by omega)) ?_;by_cases h5:A.all.length=2*A.size
    ·refine Nb O O$ Ns$ Lk O$ Lr O ?_
     obtain⟨x,r,hw⟩:∃x r,A.Lx=x::r:=by
      cases hx:A.Lx with
      |nil=>rw[hx] at iU;simp at iU;omega
      |cons x r=>exact⟨x,r,rfl⟩
     obtain⟨lb,lo,lc,xN,-⟩:=h2.head (j:=3) (by decide) hw;rw[e3] at xN;cases xN;have cH:=(h3.q 3 (by decide)).sl.rd;rw[e3] at cH;have qG:0<A.Lx.length:=by rw[hw];simp
     have jk:((A.li 3).map I)[0]? =some (I x):=by show(A.Lx.map I)[0]? =_;rw[hw];rfl
     have af:=Ext.LC w2.drew;refine LH [10] (λw'=>Ext w2.drew w') (by kernel_rfl) O$ qL [1,2,10] 0 O (λ_ h=>M0 O) af$ qL [2,10] 1 O (λ_ h=>Mo O) af$ qL [10] 2 O (λ_ h=>LV N9 O) af$ qL [4,5,6,7,8,9,10] 3 O (λ_ h=>M0 O) af$ qL [5,6,7,8,9,10] 4 O (λ_ h=>Mo O) af$ qL [6,7,8,9,10] 5 O (λ_ h=>LV N9 O) af$ qL [7,8,9,10] 6 O (λ_ h=>LV Mj O) af$ qL [8,9,10] 7 O (λ_ h=>Lj N3 O O (h.Lg (ae.Lg jn)) O) af$ qL [9,10] 8 O (λ_ h=>M9 N3 Md O O (by omega)) af$ qL [10] 9 O (λ_ h=>LN U3 O O (Mn (cH.ext h) (i:=0) jk)) af$ OY [10]$ OA 10 O Ou O (Mm (h3.ext af) (j:=3) (k:=x) (by decide)) ?_;rintro _ w5 ⟨rfl,V5,cb⟩;refine⟨trivial,?_⟩;have xO:(A.li 3).erase x=A.Lx.drop 1:=by show A.Lx.erase x=A.Lx.drop 1;rw[hw];simp
     rw[xO] at cb;have eY:=(h2.r (ae.trans af)).trans cb;have dq:=eY.k.Lg i8 (λe=>n2 _ e O);refine qE$ LS.qb (e:=[(0,_),(2,_)]) ?_;refine Ld ?_;exact(et _ _ ⟨rfl,_,V5,hA.ze0,(VV A (j:=3) (by decide) _).1,eY,dq,by unfold Arc.add;rw[if_neg hf,if_neg h4,if_pos h5];rfl,eY.k.size⟩).qb
    ·refine Nb O O$ M5$ Lk O$ An O$ py$ Ld ?_;exact(et _ _ ⟨rfl,A,V,hA,rfl,h2.r ae,cS,by unfold Arc.add;rw[if_neg hf,if_neg h4,if_neg h5],ae.size⟩).qb
end
section
variable {w w' w2:World}{c p:Nat}{A A' A2:Arc}{V V' V2:Nat->Value×Value}{S:Nat->Prop}{k:Int}
theorem Ot.UR (h:Ot w c A V p){T:Int}(hB:Lq w' c (acC A.size T V p) 191)(hk:Kp (λb=>b=c) w w'):RG w c V p w' {A with target:=T} V:=
 ⟨⟨hB,λj hj=>by
  have e:({A with target:=T}:Arc).li j=A.li j:=by match j,hj with|0,_|1,_|2,_|3,_=>rfl
  rw[e]
  exact(h.q j hj).kp hk λb hb e=>h.nc j hj (e▸hb),hk.map h.pins (λe=>h.cp e.symm),h.Rf,h.nc,h.np,h.cp⟩,λb hb=> .inl hb,hk.Lv λb e=> .inl e⟩
theorem Arc.Ok.UR (h:A.Ok){T:Int}(hT:0<=T/\T<=A.size):({A with target:=T}:Arc).Ok:=⟨h.pos,h.nd,h.held,h.first,h.total,hT⟩
theorem RG.mono (h:RG w c V p w' A' V'){b:Nat}(hb:∀j,On c V p j->j≠b)(hw:b<w.heap.size):∀j,On c V' p j->j≠b:=λj hj e=>by
 rcases h.fp j hj with h5|h5
 ·exact hb j h5 e
 ·omega
theorem z2o (h : Ot w c A V p)(hA : A.Ok)(cF : A.size <= 1000) : LP Tryz.prog 150 [ptr c 0, I k] w λv w' => v = .tuple #[z8E (A.Nk k).2.1 (A.Nk k).2.2, I 0] /\ ∃ V', RG w c V p w' (A.Nk k).1 V' := by
 have kN:=hA.lens cF 1
 have gy:=hA.lens cF 2
 have jZ:=hA.lens cF 3
 have IF:=hA.tg
 have hC:=hA.pos
 have iU:=A.MR
 have eM:=hA.total
 have fA:=hA.nd
 unfold Arc.all at fA
 rw[List.nodup_append] at fA
 obtain⟨nd1,nd2,nd3⟩:=fA
 rw[List.nodup_append] at nd2
 obtain⟨nd4,nd5,nd6⟩:=nd2
 have aV:∀{b:Nat},On c V p b->b<w.heap.size:=h.lt
 rw[show A.li 1=A.often from rfl] at kN
 rw[show A.li 2=A.LB from rfl] at gy
 rw[show A.li 3=A.Lx from rfl] at jZ
 refine Lb (e:=[(0,_),(1,_)]) Tryz.func150 O Tryz.ntmps150 O O$ qN O$ Lm O O (NJ (cs:=[_,_,_]) LW O) ?_
 rintro _ w1 ⟨b4,rfl,gn,ad,aF⟩
 replace aF:Lq w1 b4 [.bool false,.bool false,I 0] 265:=aF
 have n4:∀b,On c V p b->b≠b4:=λb hb e=>by have:=aV hb;omega
 have l4:=aF.lt
 have h1:=h.ext ad
 have z1:=ad.size
 refine Lk O$ run_seq$ qN O$ Le O$ qV (Ml z3Z O O)$ Lf$ An O$ py$ run_seq$ qN O$ Lu O O$ LD z8Y O (XR h1 (k:=k)) ?_
 rintro _ w1 ⟨rfl,rfl⟩
 by_cases bE:k∈A.once\/k∈A.often
 ·rw[decide_eq_true bE];refine Lf$ Lr O$ qN O$ Le O$ LU O$ Lt MF O$ Le O$ LD Ou O (Mm h1 (j:=0) (k:=k) (by decide)) ?_;rintro _ w2 ⟨rfl,V2,dP⟩;refine qM O$ Le O$ LU O$ Lt Nf O$ Le O$ LD Ou O (Mm dP.m (j:=1) (k:=k) (by decide)) ?_;rintro _ w3 ⟨rfl,V3,cd⟩;refine qM O$ Le O$ LU O$ Lt Nf O$ Le O ?_
  have u7:k∉((A.MD 0 ((A.li 0).erase k)).MD 1 (((A.MD 0 ((A.li 0).erase k)).li 1).erase k)).li 1:=by
   show k∉A.often.erase k;exact nd4.not_mem_erase
  have gA:(((A.MD 0 ((A.li 0).erase k)).MD 1 (((A.MD 0 ((A.li 0).erase k)).li 1).erase k)).li 1).length<=8191:=by
   show(A.often.erase k).length<=_;have:=(List.length_erase_le:(A.often.erase k).length<=A.often.length);omega
  refine LD OV O (MS cd.m (j:=1) (k:=k) (by decide) u7 gA) ?_;rintro _ w4 ⟨rfl,V4,bH⟩;have hr:=(dP.trans cd).trans bH;have cw:=hr.k.Lg aF (λe=>n4 _ e O);refine qM O$ qV (O6 (cs:=[_,_,_]) LW O RD O O)$ Ls O (M7 (news:=Nv true none) LW O O O O cw (by simp)) ?_;rintro w5 ⟨aM,ak⟩;replace aM:Lq w5 b4 [.bool true,.bool false,I 0] 265:=aM;refine Lk O$ LS.qb (e:=[(0,_),(1,_),(4,_),(5,_)]) ?_;refine LL Tryz.func150 (.cell Oj O LW O (Lq.cells (n:=3) aM (news:=[_,_,_]) O) O (.tmp O .nil)) ?_;have eM:A.Nk k=({A with once:=A.once.erase k,often:=A.often.erase k++[k]},true,none):=by unfold Arc.Nk;rw[if_pos bE]
  rw[eM];exact⟨_,rfl,rfl,V4,hr.m.kp ak (hr.mono n4 l4),λb hb=>(hr.fp b hb).imp id (λe=>by omega),(ad.kp.trans hr.k).It ak (λj e=> .inl (by omega))⟩
 ·rw [decide_eq_false bE]; have gN : k ∉ A.once := λe => bE (.inl e); have aN : k ∉ A.often := λe => bE (.inr e); have lG : ¬ A.held k := bE; refine Lf (An O ?_); have f0 := R0 h1 (j := 0) (by decide); have f1 := R0 h1 (j := 1) (by decide); rw [show A.li 0 = A.once from rfl] at f0; rw [show A.li 1 = A.often from rfl] at f1
  obtain⟨v0,o0,e0,q0⟩:∃x o,SU A.once= .tuple #[I x,.bool o]/\(o=true↔A.once≠[]):=by
   cases A.once with
   |nil=>exact⟨_,_,rfl,by simp⟩
   |cons x r=>exact⟨_,_,rfl,by simp⟩
  obtain⟨v1,o1,e1,q1⟩:∃x o,SU A.often= .tuple #[I x,.bool o]/\(o=true↔A.often≠[]):=by
   cases A.often with
   |nil=>exact⟨_,_,rfl,by simp⟩
   |cons x r=>exact⟨_,_,rfl,by simp⟩
  rw[e0] at f0;rw[e1] at f1;refine py$ qN O$ Lu O O$ LU O$ Lt MF O$ LD Ul O (f0) ?_;rintro _ w1 ⟨rfl,rfl⟩;refine Le O$ qV (Nq (v:=I v0) O O)$ qV (Nq (v:= .bool o0) O O)$ Lw O$ Lw O$ qM O$ Lu O O$ LU O$ Lt Nf O$ LD Ul O (f1) ?_;rintro _ w1 ⟨rfl,rfl⟩;refine Le O$ qV (Nq (v:=I v1) O O)$ qV (Nq (v:= .bool o1) O O)$ Lw O$ Lk O$ LS.qb (e:=[(0,_),(1,_),(4,_),(5,_),(7,_),(9,_)]) ?_;refine run_seq$ qN O$ Le O$ LD z9P O (XE h1 hA cF) ?_;rintro _ w2 ⟨rfl,ag⟩;have h2:=h1.ext ag;have bD:=ag.Lg aF;have aG:=ad.trans ag;have z2:=ag.size;have eN:=h2.cells;have aa:=Ext.LC w2;obtain⟨a2,c2,e2,-⟩:∃a c,(V 2).1= .slice a A.LB.length c/\_:=(h.q 2 (by decide)).sl.rd.shape;obtain⟨a3,c3,e3,-⟩:∃a c,(V 3).1= .slice a A.Lx.length c/\_:=(h.q 3 (by decide)).sl.rd.shape;rw[e2,e3] at eN;have mg:=R4 h2 (j:=2) (k:=k) (by decide);have pO:=R4 h2 (j:=3) (k:=k) (by decide);rw[show A.li 2=A.LB from rfl] at mg;rw[show A.li 3=A.Lx from rfl] at pO;have n4':∀b,On c V p b->b≠b4:=n4;have l42:b4<w2.heap.size:=by omega
  by_cases bZ:A.once.length+A.often.length=A.size
  ·rw [decide_eq_true bZ]
   cases FI:o0 with
   | true =>
     subst FI;refine Lu O O$ qV ((by first|exact Mh O|exact NL O)) ?_;refine MU O O$ Le O$ qS$ qS$ M8 O O$ Lf$ An O$ py$ run_seq$ Lc$ qN O$ Le O$ LU O$ Lt MT O ?_;refine Le O$ LD SN O (mg) ?_;rintro _ w2 ⟨rfl,rfl⟩;by_cases hg:k∈A.LB
     ·rw[decide_eq_true hg];refine Lk O$ Lr O$ run_seq ?_;have qG:0<A.LB.length:=List.length_pos_of_mem hg;obtain⟨q,hq⟩:∃q,A.Lx.length / A.LB.length=q:=⟨_,rfl⟩;have eC:q<=2000:=by rw[<-hq];exact Nat.le_trans (Nat.div_le_self _ _) jZ
      have mh:(A.Lx.length:Int) / (A.LB.length:Int)=(q:Int):=by rw[<-hq];exact(Int.natCast_ediv _ _).symm
      refine LH [27] (λw'=>Ext w2 w') (by kernel_rfl) O$ qL [25,26,27] 0 O (λ_ h=>M0 O) aa$ qL [2,3,4,24,25,26,27] 1 O (λ_ h=>M0 O) aa$ qL [3,4,24,25,26,27] 2 O (λ_ h=>Mo O) aa$ qL [4,24,25,26,27] 3 O (λ_ h=>LV Oe O) aa$ qL [24,25,26,27] 4 O (λ_ h=>Lj U3 O O (h.Lg eN) O) aa$ qL [6,7,8,23,24,25,26,27] 5 O (λ_ h=>M0 O) aa$ qL [7,8,23,24,25,26,27] 6 O (λ_ h=>Mo O) aa$ qL [8,23,24,25,26,27] 7 O (λ_ h=>LV N8 O) aa$ qL [23,24,25,26,27] 8 O (λ_ h=>Lj U3 O O (h.Lg eN) O) aa$ qL [10,11,12,13,14,21,22,23,24,25,26,27] 9 O (λ_ h=>M0 O) aa$ qL [11,12,13,14,21,22,23,24,25,26,27] 10 O (λ_ h=>Mo O) aa$ qL [12,13,14,21,22,23,24,25,26,27] 11 O (λ_ h=>LV N9 O) aa$ qL [13,14,21,22,23,24,25,26,27] 12 O (λ_ h=>LV Mj O) aa ?_;refine qL [14,21,22,23,24,25,26,27] 13 O (λ_ h=>Lj N3 O O (h.Lg eN) O) aa$ qL [21,22,23,24,25,26,27] 14 O (λ_ h=>Ol N3 O) aa$ qL [16,17,18,19,20,21,22,23,24,25,26,27] 15 O (λ_ h=>M0 O) aa$ qL [17,18,19,20,21,22,23,24,25,26,27] 16 O (λ_ h=>Mo O) aa$ qL [18,19,20,21,22,23,24,25,26,27] 17 O (λ_ h=>LV MT O) aa$ qL [19,20,21,22,23,24,25,26,27] 18 O (λ_ h=>LV Mj O) aa$ qL [20,21,22,23,24,25,26,27] 19 O (λ_ h=>Lj N3 O O (h.Lg eN) O) aa$ qL [21,22,23,24,25,26,27] 20 O (λ_ h=>Ol N3 O) aa$ qL [22,23,24,25,26,27] 21 O (λ_ h=>SC O O ⟨by omega,by omega,by omega⟩) aa ?_;rw[mh];refine qL [23,24,25,26,27] 22 O (λ_ h=>yma O O) aa$ qL [24,25,26,27] 23 O (λ_ h=>Qu O O (by omega)) aa$ qL [25,26,27] 24 O (λ_ h=>ymi O O) aa$ qL [26,27] 25 O (λ_ h=>Mo O) aa$ qL [27] 26 O (λ_ h=>LV N8 O) aa$ OY [27]$ qO 27$ M1 (i:=27) O O (MY Md O O O (aa.Lg eN) (by simp)) ?_;rintro w5 ⟨aI,ak⟩;refine⟨trivial,?_⟩;obtain⟨T,hT⟩:∃T:Int,min (A.size:Int) (A.target+max 1 (q:Int))=T:=⟨_,rfl⟩;have ny:0<=T/\T<=A.size:=by omega
      rw[hT] at aI
      replace aI:Lq w5 c (acC A.size T V p) 191:=by
       show Lq w5 c [I (A.size:Int),(V 0).1,(V 0).2,(V 1).1,(V 1).2,(V 2).1,(V 2).2,(V 3).1,(V 3).2,I T,.map (some p)] _;rw[e2,e3];exact aI
      have cb:=(h2.ext aa).UR aI ak;have aW:=hA.UR ny;obtain⟨A5,bF⟩:∃A5:Arc,{A with target:=T}=A5:=⟨_,rfl⟩;have o5:A5.size=A.size:=by rw[<-bF]
      have nz:¬A5.held k:=by rw[<-bF];exact lG
      have qB:k∈A5.LB:=by rw[<-bF];exact hg
      rw[bF] at cb aW;refine qE$ LS.qb (e:=[(0,_),(1,_),(4,_),(5,_)]) ?_;refine qN O$ Le O$ LD Xf O (Pl cb.m aW (by omega) false) ?_;rintro _ w6 ⟨rfl,V6,cB⟩;have aw:=Arc.P8 aW false;obtain⟨r6,cn⟩:∃r,A5.room false=r:=⟨_,rfl⟩;rw[cn] at cB aw⊢;obtain⟨A6,g6⟩:=r6;dsimp only at cB aw⊢;have eQ:=aw.perm.length_eq;have j0:=A6.MR;have nA:=A5.MR;have nB:=aW.total;have aB:=((h2.r aa).trans cb).trans cB;have bQ:=aB.k.Lg bD (λe=>n4' _ e O);refine Ls O (M7 (news:=Nv false g6) LW O O O O bQ (by simp)) ?_;rintro w7 ⟨bj,aC⟩;replace bj:Lq w7 b4 [.bool false,.bool g6.isSome,I (g6.getD 0)] 265:=bj;have n46:=aB.mono n4' l42;have g8:=aB.m.kp aC n46;refine qM O$ Le O$ LU O$ Lt MT O$ Le O$ LD Ou O (Mm g8 (j:=2) (k:=k) (by decide)) ?_;rintro _ w8 ⟨rfl,V8,fx⟩
      have dG:k∉(A6.MD 2 ((A6.li 2).erase k)).li 1:=by
       show k∉A6.often;exact λe=>nz ((aw.gone k).1 (.inr e)).1
      refine Lf$ Li O$ Le O$ LU O$ Lt Nf O$ Le O$ LD OV O (MS fx.m (j:=1) (k:=k) (by decide) dG (by show A6.often.length<=_;omega)) ?_;rintro _ w9 ⟨rfl,V9,gL⟩;have bc:=fx.trans gL;have bP:=bc.k.Lg bj (λe=>n46 _ e O);have eO:=bP
      have cq:∀b,On c V9 p b->On c V p b\/w2.heap.size<=b:=λb hb=>by
       rcases bc.fp b hb with h5|h5
       ·exact aB.fp b h5
       ·have:=aB.k.size;have:=aC.size;exact .inr (by omega)
      have aP:Kp (λj=>On c V p j\/j=b4) w2 w9:=((aB.k.Lv λj e=> .inl e).trans (aC.Lv λj e=> .inr e)).It bc.k (λj e=>by
       rcases aB.fp j e with h5|h5
       ·exact .inr (.inl h5)
       ·exact .inl h5)
      refine Lf$ Ld$ qN O$ qV (LM (news:=Nv false g6) Oj O LW O (Lq.cells (n:=3) eO O) O)$ Ls O (M7 (news:=Nv false g6) LW O O O O eO (by simp)) ?_;rintro we ⟨da,dm⟩;replace da:Lq we b4 [.bool false,.bool g6.isSome,I (g6.getD 0)] 265:=da;refine Lk O$ LL Tryz.func150 (.cell Oj O LW O (Lq.cells (n:=3) da (news:=[_,_,_]) O) O (.tmp O .nil)) ?_
      have n49:∀b,On c V9 p b->b≠b4:=λb hb e=>by
       rcases cq b hb with h5|h5
       ·exact n4' b h5 e
       ·omega
      have eM:A.Nk k=({A6 with LB:=A6.LB.erase k,often:=A6.often++[k]},false,g6):=by
       unfold Arc.Nk;rw[if_neg bE,if_pos hg];dsimp only;rw[hq,hT,bF,cn]
      rw[eM]
      exact⟨_,rfl,rfl,V9,bc.m.kp dm n49,λb hb=>(cq b hb).imp id (λe=>by omega),(aG.kp.It aP (λj e=>by
       rcases e with e| e
       ·exact .inr e
       ·exact .inl (by omega))).It dm (λj e=> .inl (by omega))⟩
     ·have qH:=hg;rw[decide_eq_false hg];refine Lk O$ An O$ qN O$ Le O$ LU O$ Lt N9 O$ Le O$ LD SN O (pO) ?_;rintro _ w2 ⟨rfl,rfl⟩;by_cases hg:k∈A.Lx
      ·rw[decide_eq_true hg];refine Lk O$ LS.qb (e:=[(0,_),(1,_),(4,_),(5,_),(111,_)]) ?_;refine Lr O$ run_seq ?_;have qG:0<A.Lx.length:=List.length_pos_of_mem hg;obtain⟨q,hq⟩:∃q,A.LB.length / A.Lx.length=q:=⟨_,rfl⟩;have eC:q<=2000:=by rw[<-hq];exact Nat.le_trans (Nat.div_le_self _ _) gy
       have mh:(A.LB.length:Int) / (A.Lx.length:Int)=(q:Int):=by rw[<-hq];exact(Int.natCast_ediv _ _).symm
       refine LH [23] (λw'=>Ext w2 w') (by kernel_rfl) O$ qL [21,22,23] 0 O (λ_ h=>M0 O) aa$ qL [2,3,4,19,20,21,22,23] 1 O (λ_ h=>M0 O) aa$ qL [3,4,19,20,21,22,23] 2 O (λ_ h=>Mo O) aa$ qL [4,19,20,21,22,23] 3 O (λ_ h=>LV N8 O) aa$ qL [19,20,21,22,23] 4 O (λ_ h=>Lj U3 O O (h.Lg eN) O) aa$ qL [6,7,8,9,10,17,18,19,20,21,22,23] 5 O (λ_ h=>M0 O) aa$ qL [7,8,9,10,17,18,19,20,21,22,23] 6 O (λ_ h=>Mo O) aa$ qL [8,9,10,17,18,19,20,21,22,23] 7 O (λ_ h=>LV MT O) aa$ qL [9,10,17,18,19,20,21,22,23] 8 O (λ_ h=>LV Mj O) aa$ qL [10,17,18,19,20,21,22,23] 9 O (λ_ h=>Lj N3 O O (h.Lg eN) O) aa$ qL [17,18,19,20,21,22,23] 10 O (λ_ h=>Ol N3 O) aa$ qL [12,13,14,15,16,17,18,19,20,21,22,23] 11 O (λ_ h=>M0 O) aa$ qL [13,14,15,16,17,18,19,20,21,22,23] 12 O (λ_ h=>Mo O) aa ?_;refine qL [14,15,16,17,18,19,20,21,22,23] 13 O (λ_ h=>LV N9 O) aa$ qL [15,16,17,18,19,20,21,22,23] 14 O (λ_ h=>LV Mj O) aa$ qL [16,17,18,19,20,21,22,23] 15 O (λ_ h=>Lj N3 O O (h.Lg eN) O) aa$ qL [17,18,19,20,21,22,23] 16 O (λ_ h=>Ol N3 O) aa$ qL [18,19,20,21,22,23] 17 O (λ_ h=>SC O O ⟨by omega,by omega,by omega⟩) aa ?_;rw[mh];refine qL [19,20,21,22,23] 18 O (λ_ h=>yma O O) aa$ qL [20,21,22,23] 19 O (λ_ h=>SR O O (by omega)) aa$ qL [21,22,23] 20 O (λ_ h=>yma O O) aa$ qL [22,23] 21 O (λ_ h=>Mo O) aa$ qL [23] 22 O (λ_ h=>LV N8 O) aa$ OY [23]$ qO 23$ M1 (i:=23) O O (MY Md O O O (aa.Lg eN) (by simp)) ?_;rintro w5 ⟨aI,ak⟩;refine⟨trivial,?_⟩;obtain⟨T,hT⟩:∃T:Int,max 0 (A.target-max 1 (q:Int))=T:=⟨_,rfl⟩;have ny:0<=T/\T<=A.size:=by omega
       rw[hT] at aI
       replace aI:Lq w5 c (acC A.size T V p) 191:=by
        show Lq w5 c [I (A.size:Int),(V 0).1,(V 0).2,(V 1).1,(V 1).2,(V 2).1,(V 2).2,(V 3).1,(V 3).2,I T,.map (some p)] _;rw[e2,e3];exact aI
       have cb:=(h2.ext aa).UR aI ak;have aW:=hA.UR ny;obtain⟨A5,bF⟩:∃A5:Arc,{A with target:=T}=A5:=⟨_,rfl⟩;have o5:A5.size=A.size:=by rw[<-bF]
       have nz:¬A5.held k:=by rw[<-bF];exact lG
       have qB:k∈A5.Lx:=by rw[<-bF];exact hg
       rw[bF] at cb aW;refine qE$ LS.qb (e:=[(0,_),(1,_),(4,_),(5,_)]) ?_;refine qN O$ Le O$ LD Xf O (Pl cb.m aW (by omega) true) ?_;rintro _ w6 ⟨rfl,V6,cB⟩;have aw:=Arc.P8 aW true;obtain⟨r6,cn⟩:∃r,A5.room true=r:=⟨_,rfl⟩;rw[cn] at cB aw⊢;obtain⟨A6,g6⟩:=r6;dsimp only at cB aw⊢;have eQ:=aw.perm.length_eq;have j0:=A6.MR;have nA:=A5.MR;have nB:=aW.total;have aB:=((h2.r aa).trans cb).trans cB;have bQ:=aB.k.Lg bD (λe=>n4' _ e O);refine Ls O (M7 (news:=Nv false g6) LW O O O O bQ (by simp)) ?_;rintro w7 ⟨bj,aC⟩;replace bj:Lq w7 b4 [.bool false,.bool g6.isSome,I (g6.getD 0)] 265:=bj;have n46:=aB.mono n4' l42;have g8:=aB.m.kp aC n46;refine qM O$ Le O$ LU O$ Lt N9 O$ Le O$ LD Ou O (Mm g8 (j:=3) (k:=k) (by decide)) ?_;rintro _ w8 ⟨rfl,V8,fx⟩
       have dG:k∉(A6.MD 3 ((A6.li 3).erase k)).li 1:=by
        show k∉A6.often;exact λe=>nz ((aw.gone k).1 (.inr e)).1
       refine Lf$ Li O$ Le O$ LU O$ Lt Nf O$ Le O$ LD OV O (MS fx.m (j:=1) (k:=k) (by decide) dG (by show A6.often.length<=_;omega)) ?_;rintro _ w9 ⟨rfl,V9,gL⟩;have bc:=fx.trans gL;have bP:=bc.k.Lg bj (λe=>n46 _ e O);have eO:=bP
       have cq:∀b,On c V9 p b->On c V p b\/w2.heap.size<=b:=λb hb=>by
        rcases bc.fp b hb with h5|h5
        ·exact aB.fp b h5
        ·have:=aB.k.size;have:=aC.size;exact .inr (by omega)
       have aP:Kp (λj=>On c V p j\/j=b4) w2 w9:=((aB.k.Lv λj e=> .inl e).trans (aC.Lv λj e=> .inr e)).It bc.k (λj e=>by
        rcases aB.fp j e with h5|h5
        ·exact .inr (.inl h5)
        ·exact .inl h5)
       refine Lf$ Ld$ qN O$ qV (LM (news:=Nv false g6) Oj O LW O (Lq.cells (n:=3) eO O) O)$ Ls O (M7 (news:=Nv false g6) LW O O O O eO (by simp)) ?_;rintro we ⟨da,dm⟩;replace da:Lq we b4 [.bool false,.bool g6.isSome,I (g6.getD 0)] 265:=da;refine Lk O$ LL Tryz.func150 (.cell Oj O LW O (Lq.cells (n:=3) da (news:=[_,_,_]) O) O (.tmp O .nil)) ?_
       have n49:∀b,On c V9 p b->b≠b4:=λb hb e=>by
        rcases cq b hb with h5|h5
        ·exact n4' b h5 e
        ·omega
       have eM:A.Nk k=({A6 with Lx:=A6.Lx.erase k,often:=A6.often++[k]},false,g6):=by
        unfold Arc.Nk;rw[if_neg bE,if_neg qH,if_pos hg];dsimp only;rw[hq,hT,bF,cn]
       rw[eM]
       exact⟨_,rfl,rfl,V9,bc.m.kp dm n49,λb hb=>(cq b hb).imp id (λe=>by omega),(aG.kp.It aP (λj e=>by
        rcases e with e| e
        ·exact .inr e
        ·exact .inl (by omega))).It dm (λj e=> .inl (by omega))⟩
      ·rw[decide_eq_false hg];refine Lk O$ LS.qb (e:=[(0,_),(1,_),(4,_),(5,_),(111,_)]) ?_;refine An O$ qN O$ Le O$ LD z5B O (Wk h2 hA cF) ?_;rintro _ w6 ⟨rfl,V6,cB⟩;have dE:=Arc.Z5 hA;obtain⟨r6,cn⟩:∃r,A.add=r:=⟨_,rfl⟩;rw[cn] at cB dE⊢;obtain⟨A6,g6⟩:=r6;dsimp only at cB dE⊢;obtain⟨fg,-,-⟩:=dE;have j0:=A6.MR;have aB:=cB;have bQ:=aB.k.Lg bD (λe=>n4' _ e O);refine Ls O (M7 (news:=Nv false g6) LW O O O O bQ (by simp)) ?_;rintro w7 ⟨bj,aC⟩;replace bj:Lq w7 b4 [.bool false,.bool g6.isSome,I (g6.getD 0)] 265:=bj;have n46:=aB.mono n4' l42;have g8:=aB.m.kp aC n46
       have dG:k∉A6.li 0:=by
        show k∉A6.once;exact λe=>lG ((fg.gone k).1 (.inl e)).1
       have oo:=fg.TH;refine Lf$ Li O$ Le O$ LU O$ Lt MF O$ Le O$ LD OV O (MS g8 (j:=0) (k:=k) (by decide) dG (by show A6.once.length<=_;omega)) ?_;rintro _ w9 ⟨rfl,V9,gL⟩;have bc:=gL;have bP:=bc.k.Lg bj (λe=>n46 _ e O);have eO:=bP
       have cq:∀b,On c V9 p b->On c V p b\/w2.heap.size<=b:=λb hb=>by
        rcases bc.fp b hb with h5|h5
        ·exact aB.fp b h5
        ·have:=aB.k.size;have:=aC.size;exact .inr (by omega)
       have aP:Kp (λj=>On c V p j\/j=b4) w2 w9:=((aB.k.Lv λj e=> .inl e).trans (aC.Lv λj e=> .inr e)).It bc.k (λj e=>by
        rcases aB.fp j e with h5|h5
        ·exact .inr (.inl h5)
        ·exact .inl h5)
       refine Lf$ Ld$ qN O$ qV (LM (news:=Nv false g6) Oj O LW O (Lq.cells (n:=3) eO O) O)$ Ls O (M7 (news:=Nv false g6) LW O O O O eO (by simp)) ?_;rintro we ⟨da,dm⟩;replace da:Lq we b4 [.bool false,.bool g6.isSome,I (g6.getD 0)] 265:=da;refine Lk O$ LL Tryz.func150 (.cell Oj O LW O (Lq.cells (n:=3) da (news:=[_,_,_]) O) O (.tmp O .nil)) ?_
       have n49:∀b,On c V9 p b->b≠b4:=λb hb e=>by
        rcases cq b hb with h5|h5
        ·exact n4' b h5 e
        ·omega
       have eM:A.Nk k=({A6 with once:=A6.once++[k]},false,g6):=by
        unfold Arc.Nk;rw[if_neg bE,if_neg qH,if_neg hg];dsimp only;rw[cn]
       rw[eM]
       exact⟨_,rfl,rfl,V9,bc.m.kp dm n49,λb hb=>(cq b hb).imp id (λe=>by omega),(aG.kp.It aP (λj e=>by
        rcases e with e| e
        ·exact .inr e
        ·exact .inl (by omega))).It dm (λj e=> .inl (by omega))⟩
   | false =>
     subst FI
     have xL:o1=true:=by
      have e:A.once=[]:=Classical.not_not.1 λe=>by have:=q0.2 e;cases this
      rw[e] at bZ;exact q1.2 λe=>by rw[e] at bZ;simp at bZ;omega
     subst xL;refine Lu O O$ qV ((by first|exact Mh O|exact NL O)) ?_;refine MU O O$ Lu O O$ qV ((by first|exact Mh O|exact NL O)) ?_;refine MU O O$ Lf$ An O$ py$ run_seq$ Lc$ qN O$ Le O$ LU O$ Lt MT O$ Le O$ LD SN O (mg) ?_;rintro _ w2 ⟨rfl,rfl⟩;by_cases hg:k∈A.LB
     ·rw[decide_eq_true hg];refine Lk O$ Lr O$ run_seq ?_;have qG:0<A.LB.length:=List.length_pos_of_mem hg;obtain⟨q,hq⟩:∃q,A.Lx.length / A.LB.length=q:=⟨_,rfl⟩;have eC:q<=2000:=by rw[<-hq];exact Nat.le_trans (Nat.div_le_self _ _) jZ
      have mh:(A.Lx.length:Int) / (A.LB.length:Int)=(q:Int):=by rw[<-hq];exact(Int.natCast_ediv _ _).symm
      refine LH [27] (λw'=>Ext w2 w') (by kernel_rfl) O$ qL [25,26,27] 0 O (λ_ h=>M0 O) aa$ qL [2,3,4,24,25,26,27] 1 O (λ_ h=>M0 O) aa$ qL [3,4,24,25,26,27] 2 O (λ_ h=>Mo O) aa$ qL [4,24,25,26,27] 3 O (λ_ h=>LV Oe O) aa$ qL [24,25,26,27] 4 O (λ_ h=>Lj U3 O O (h.Lg eN) O) aa$ qL [6,7,8,23,24,25,26,27] 5 O (λ_ h=>M0 O) aa$ qL [7,8,23,24,25,26,27] 6 O (λ_ h=>Mo O) aa$ qL [8,23,24,25,26,27] 7 O (λ_ h=>LV N8 O) aa$ qL [23,24,25,26,27] 8 O (λ_ h=>Lj U3 O O (h.Lg eN) O) aa$ qL [10,11,12,13,14,21,22,23,24,25,26,27] 9 O (λ_ h=>M0 O) aa$ qL [11,12,13,14,21,22,23,24,25,26,27] 10 O (λ_ h=>Mo O) aa$ qL [12,13,14,21,22,23,24,25,26,27] 11 O (λ_ h=>LV N9 O) aa$ qL [13,14,21,22,23,24,25,26,27] 12 O (λ_ h=>LV Mj O) aa ?_;refine qL [14,21,22,23,24,25,26,27] 13 O (λ_ h=>Lj N3 O O (h.Lg eN) O) aa$ qL [21,22,23,24,25,26,27] 14 O (λ_ h=>Ol N3 O) aa$ qL [16,17,18,19,20,21,22,23,24,25,26,27] 15 O (λ_ h=>M0 O) aa$ qL [17,18,19,20,21,22,23,24,25,26,27] 16 O (λ_ h=>Mo O) aa$ qL [18,19,20,21,22,23,24,25,26,27] 17 O (λ_ h=>LV MT O) aa$ qL [19,20,21,22,23,24,25,26,27] 18 O (λ_ h=>LV Mj O) aa$ qL [20,21,22,23,24,25,26,27] 19 O (λ_ h=>Lj N3 O O (h.Lg eN) O) aa$ qL [21,22,23,24,25,26,27] 20 O (λ_ h=>Ol N3 O) aa$ qL [22,23,24,25,26,27] 21 O (λ_ h=>SC O O ⟨by omega,by omega,by omega⟩) aa ?_;rw[mh];refine qL [23,24,25,26,27] 22 O (λ_ h=>yma O O) aa$ qL [24,25,26,27] 23 O (λ_ h=>Qu O O (by omega)) aa$ qL [25,26,27] 24 O (λ_ h=>ymi O O) aa$ qL [26,27] 25 O (λ_ h=>Mo O) aa$ qL [27] 26 O (λ_ h=>LV N8 O) aa$ OY [27]$ qO 27$ M1 (i:=27) O O (MY Md O O O (aa.Lg eN) (by simp)) ?_;rintro w5 ⟨aI,ak⟩;refine⟨trivial,?_⟩;obtain⟨T,hT⟩:∃T:Int,min (A.size:Int) (A.target+max 1 (q:Int))=T:=⟨_,rfl⟩;have ny:0<=T/\T<=A.size:=by omega
      rw[hT] at aI
      replace aI:Lq w5 c (acC A.size T V p) 191:=by
       show Lq w5 c [I (A.size:Int),(V 0).1,(V 0).2,(V 1).1,(V 1).2,(V 2).1,(V 2).2,(V 3).1,(V 3).2,I T,.map (some p)] _;rw[e2,e3];exact aI
      have cb:=(h2.ext aa).UR aI ak;have aW:=hA.UR ny;obtain⟨A5,bF⟩:∃A5:Arc,{A with target:=T}=A5:=⟨_,rfl⟩;have o5:A5.size=A.size:=by rw[<-bF]
      have nz:¬A5.held k:=by rw[<-bF];exact lG
      have qB:k∈A5.LB:=by rw[<-bF];exact hg
      rw[bF] at cb aW;refine qE$ LS.qb (e:=[(0,_),(1,_),(4,_),(5,_)]) ?_;refine qN O$ Le O$ LD Xf O (Pl cb.m aW (by omega) false) ?_;rintro _ w6 ⟨rfl,V6,cB⟩;have aw:=Arc.P8 aW false;obtain⟨r6,cn⟩:∃r,A5.room false=r:=⟨_,rfl⟩;rw[cn] at cB aw⊢;obtain⟨A6,g6⟩:=r6;dsimp only at cB aw⊢;have eQ:=aw.perm.length_eq;have j0:=A6.MR;have nA:=A5.MR;have nB:=aW.total;have aB:=((h2.r aa).trans cb).trans cB;have bQ:=aB.k.Lg bD (λe=>n4' _ e O);refine Ls O (M7 (news:=Nv false g6) LW O O O O bQ (by simp)) ?_;rintro w7 ⟨bj,aC⟩;replace bj:Lq w7 b4 [.bool false,.bool g6.isSome,I (g6.getD 0)] 265:=bj;have n46:=aB.mono n4' l42;have g8:=aB.m.kp aC n46;refine qM O$ Le O$ LU O$ Lt MT O$ Le O$ LD Ou O (Mm g8 (j:=2) (k:=k) (by decide)) ?_;rintro _ w8 ⟨rfl,V8,fx⟩
      have dG:k∉(A6.MD 2 ((A6.li 2).erase k)).li 1:=by
       show k∉A6.often;exact λe=>nz ((aw.gone k).1 (.inr e)).1
      refine Lf$ Li O$ Le O$ LU O$ Lt Nf O$ Le O$ LD OV O (MS fx.m (j:=1) (k:=k) (by decide) dG (by show A6.often.length<=_;omega)) ?_;rintro _ w9 ⟨rfl,V9,gL⟩;have bc:=fx.trans gL;have bP:=bc.k.Lg bj (λe=>n46 _ e O);have eO:=bP
      have cq:∀b,On c V9 p b->On c V p b\/w2.heap.size<=b:=λb hb=>by
       rcases bc.fp b hb with h5|h5
       ·exact aB.fp b h5
       ·have:=aB.k.size;have:=aC.size;exact .inr (by omega)
      have aP:Kp (λj=>On c V p j\/j=b4) w2 w9:=((aB.k.Lv λj e=> .inl e).trans (aC.Lv λj e=> .inr e)).It bc.k (λj e=>by
       rcases aB.fp j e with h5|h5
       ·exact .inr (.inl h5)
       ·exact .inl h5)
      refine Lf$ Ld$ qN O$ qV (LM (news:=Nv false g6) Oj O LW O (Lq.cells (n:=3) eO O) O)$ Ls O (M7 (news:=Nv false g6) LW O O O O eO (by simp)) ?_;rintro we ⟨da,dm⟩;replace da:Lq we b4 [.bool false,.bool g6.isSome,I (g6.getD 0)] 265:=da;refine Lk O$ LL Tryz.func150 (.cell Oj O LW O (Lq.cells (n:=3) da (news:=[_,_,_]) O) O (.tmp O .nil)) ?_
      have n49:∀b,On c V9 p b->b≠b4:=λb hb e=>by
       rcases cq b hb with h5|h5
       ·exact n4' b h5 e
       ·omega
      have eM:A.Nk k=({A6 with LB:=A6.LB.erase k,often:=A6.often++[k]},false,g6):=by
       unfold Arc.Nk;rw[if_neg bE,if_pos hg];dsimp only;rw[hq,hT,bF,cn]
      rw[eM]
      exact⟨_,rfl,rfl,V9,bc.m.kp dm n49,λb hb=>(cq b hb).imp id (λe=>by omega),(aG.kp.It aP (λj e=>by
       rcases e with e| e
       ·exact .inr e
       ·exact .inl (by omega))).It dm (λj e=> .inl (by omega))⟩
     ·have qH:=hg;rw[decide_eq_false hg];refine Lk O$ An O$ qN O$ Le O$ LU O$ Lt N9 O$ Le O$ LD SN O (pO) ?_;rintro _ w2 ⟨rfl,rfl⟩;by_cases hg:k∈A.Lx
      ·rw[decide_eq_true hg];refine Lk O$ LS.qb (e:=[(0,_),(1,_),(4,_),(5,_),(111,_)]) ?_;refine Lr O$ run_seq ?_;have qG:0<A.Lx.length:=List.length_pos_of_mem hg;obtain⟨q,hq⟩:∃q,A.LB.length / A.Lx.length=q:=⟨_,rfl⟩;have eC:q<=2000:=by rw[<-hq];exact Nat.le_trans (Nat.div_le_self _ _) gy
       have mh:(A.LB.length:Int) / (A.Lx.length:Int)=(q:Int):=by rw[<-hq];exact(Int.natCast_ediv _ _).symm
       refine LH [23] (λw'=>Ext w2 w') (by kernel_rfl) O$ qL [21,22,23] 0 O (λ_ h=>M0 O) aa$ qL [2,3,4,19,20,21,22,23] 1 O (λ_ h=>M0 O) aa$ qL [3,4,19,20,21,22,23] 2 O (λ_ h=>Mo O) aa$ qL [4,19,20,21,22,23] 3 O (λ_ h=>LV N8 O) aa$ qL [19,20,21,22,23] 4 O (λ_ h=>Lj U3 O O (h.Lg eN) O) aa$ qL [6,7,8,9,10,17,18,19,20,21,22,23] 5 O (λ_ h=>M0 O) aa$ qL [7,8,9,10,17,18,19,20,21,22,23] 6 O (λ_ h=>Mo O) aa$ qL [8,9,10,17,18,19,20,21,22,23] 7 O (λ_ h=>LV MT O) aa$ qL [9,10,17,18,19,20,21,22,23] 8 O (λ_ h=>LV Mj O) aa$ qL [10,17,18,19,20,21,22,23] 9 O (λ_ h=>Lj N3 O O (h.Lg eN) O) aa$ qL [17,18,19,20,21,22,23] 10 O (λ_ h=>Ol N3 O) aa$ qL [12,13,14,15,16,17,18,19,20,21,22,23] 11 O (λ_ h=>M0 O) aa$ qL [13,14,15,16,17,18,19,20,21,22,23] 12 O (λ_ h=>Mo O) aa ?_;refine qL [14,15,16,17,18,19,20,21,22,23] 13 O (λ_ h=>LV N9 O) aa$ qL [15,16,17,18,19,20,21,22,23] 14 O (λ_ h=>LV Mj O) aa$ qL [16,17,18,19,20,21,22,23] 15 O (λ_ h=>Lj N3 O O (h.Lg eN) O) aa$ qL [17,18,19,20,21,22,23] 16 O (λ_ h=>Ol N3 O) aa$ qL [18,19,20,21,22,23] 17 O (λ_ h=>SC O O ⟨by omega,by omega,by omega⟩) aa ?_;rw[mh];refine qL [19,20,21,22,23] 18 O (λ_ h=>yma O O) aa$ qL [20,21,22,23] 19 O (λ_ h=>SR O O (by omega)) aa$ qL [21,22,23] 20 O (λ_ h=>yma O O) aa$ qL [22,23] 21 O (λ_ h=>Mo O) aa$ qL [23] 22 O (λ_ h=>LV N8 O) aa$ OY [23]$ qO 23$ M1 (i:=23) O O (MY Md O O O (aa.Lg eN) (by simp)) ?_;rintro w5 ⟨aI,ak⟩;refine⟨trivial,?_⟩;obtain⟨T,hT⟩:∃T:Int,max 0 (A.target-max 1 (q:Int))=T:=⟨_,rfl⟩;have ny:0<=T/\T<=A.size:=by omega
       rw[hT] at aI
       replace aI:Lq w5 c (acC A.size T V p) 191:=by
        show Lq w5 c [I (A.size:Int),(V 0).1,(V 0).2,(V 1).1,(V 1).2,(V 2).1,(V 2).2,(V 3).1,(V 3).2,I T,.map (some p)] _;rw[e2,e3];exact aI
       have cb:=(h2.ext aa).UR aI ak;have aW:=hA.UR ny;obtain⟨A5,bF⟩:∃A5:Arc,{A with target:=T}=A5:=⟨_,rfl⟩;have o5:A5.size=A.size:=by rw[<-bF]
       have nz:¬A5.held k:=by rw[<-bF];exact lG
       have qB:k∈A5.Lx:=by rw[<-bF];exact hg
       rw[bF] at cb aW;refine qE$ LS.qb (e:=[(0,_),(1,_),(4,_),(5,_)]) ?_;refine qN O$ Le O$ LD Xf O (Pl cb.m aW (by omega) true) ?_;rintro _ w6 ⟨rfl,V6,cB⟩;have aw:=Arc.P8 aW true;obtain⟨r6,cn⟩:∃r,A5.room true=r:=⟨_,rfl⟩;rw[cn] at cB aw⊢;obtain⟨A6,g6⟩:=r6;dsimp only at cB aw⊢;have eQ:=aw.perm.length_eq;have j0:=A6.MR;have nA:=A5.MR;have nB:=aW.total;have aB:=((h2.r aa).trans cb).trans cB;have bQ:=aB.k.Lg bD (λe=>n4' _ e O);refine Ls O (M7 (news:=Nv false g6) LW O O O O bQ (by simp)) ?_;rintro w7 ⟨bj,aC⟩;replace bj:Lq w7 b4 [.bool false,.bool g6.isSome,I (g6.getD 0)] 265:=bj;have n46:=aB.mono n4' l42;have g8:=aB.m.kp aC n46;refine qM O$ Le O$ LU O$ Lt N9 O$ Le O$ LD Ou O (Mm g8 (j:=3) (k:=k) (by decide)) ?_;rintro _ w8 ⟨rfl,V8,fx⟩
       have dG:k∉(A6.MD 3 ((A6.li 3).erase k)).li 1:=by
        show k∉A6.often;exact λe=>nz ((aw.gone k).1 (.inr e)).1
       refine Lf$ Li O$ Le O$ LU O$ Lt Nf O$ Le O$ LD OV O (MS fx.m (j:=1) (k:=k) (by decide) dG (by show A6.often.length<=_;omega)) ?_;rintro _ w9 ⟨rfl,V9,gL⟩;have bc:=fx.trans gL;have bP:=bc.k.Lg bj (λe=>n46 _ e O);have eO:=bP
       have cq:∀b,On c V9 p b->On c V p b\/w2.heap.size<=b:=λb hb=>by
        rcases bc.fp b hb with h5|h5
        ·exact aB.fp b h5
        ·have:=aB.k.size;have:=aC.size;exact .inr (by omega)
       have aP:Kp (λj=>On c V p j\/j=b4) w2 w9:=((aB.k.Lv λj e=> .inl e).trans (aC.Lv λj e=> .inr e)).It bc.k (λj e=>by
        rcases aB.fp j e with h5|h5
        ·exact .inr (.inl h5)
        ·exact .inl h5)
       refine Lf$ Ld$ qN O$ qV (LM (news:=Nv false g6) Oj O LW O (Lq.cells (n:=3) eO O) O)$ Ls O (M7 (news:=Nv false g6) LW O O O O eO (by simp)) ?_;rintro we ⟨da,dm⟩;replace da:Lq we b4 [.bool false,.bool g6.isSome,I (g6.getD 0)] 265:=da;refine Lk O$ LL Tryz.func150 (.cell Oj O LW O (Lq.cells (n:=3) da (news:=[_,_,_]) O) O (.tmp O .nil)) ?_
       have n49:∀b,On c V9 p b->b≠b4:=λb hb e=>by
        rcases cq b hb with h5|h5
        ·exact n4' b h5 e
        ·omega
       have eM:A.Nk k=({A6 with Lx:=A6.Lx.erase k,often:=A6.often++[k]},false,g6):=by
        unfold Arc.Nk;rw[if_neg bE,if_neg qH,if_pos hg];dsimp only;rw[hq,hT,bF,cn]
       rw[eM]
       exact⟨_,rfl,rfl,V9,bc.m.kp dm n49,λb hb=>(cq b hb).imp id (λe=>by omega),(aG.kp.It aP (λj e=>by
        rcases e with e| e
        ·exact .inr e
        ·exact .inl (by omega))).It dm (λj e=> .inl (by omega))⟩
      ·rw[decide_eq_false hg];refine Lk O$ LS.qb (e:=[(0,_),(1,_),(4,_),(5,_),(111,_)]) ?_;refine An O$ qN O$ Le O$ LD z5B O (Wk h2 hA cF) ?_;rintro _ w6 ⟨rfl,V6,cB⟩;have dE:=Arc.Z5 hA;obtain⟨r6,cn⟩:∃r,A.add=r:=⟨_,rfl⟩;rw[cn] at cB dE⊢;obtain⟨A6,g6⟩:=r6;dsimp only at cB dE⊢;obtain⟨fg,-,-⟩:=dE;have j0:=A6.MR;have aB:=cB;have bQ:=aB.k.Lg bD (λe=>n4' _ e O);refine Ls O (M7 (news:=Nv false g6) LW O O O O bQ (by simp)) ?_;rintro w7 ⟨bj,aC⟩;replace bj:Lq w7 b4 [.bool false,.bool g6.isSome,I (g6.getD 0)] 265:=bj;have n46:=aB.mono n4' l42;have g8:=aB.m.kp aC n46
       have dG:k∉A6.li 0:=by
        show k∉A6.once;exact λe=>lG ((fg.gone k).1 (.inl e)).1
       have oo:=fg.TH;refine Lf$ Li O$ Le O$ LU O$ Lt MF O$ Le O$ LD OV O (MS g8 (j:=0) (k:=k) (by decide) dG (by show A6.once.length<=_;omega)) ?_;rintro _ w9 ⟨rfl,V9,gL⟩;have bc:=gL;have bP:=bc.k.Lg bj (λe=>n46 _ e O);have eO:=bP
       have cq:∀b,On c V9 p b->On c V p b\/w2.heap.size<=b:=λb hb=>by
        rcases bc.fp b hb with h5|h5
        ·exact aB.fp b h5
        ·have:=aB.k.size;have:=aC.size;exact .inr (by omega)
       have aP:Kp (λj=>On c V p j\/j=b4) w2 w9:=((aB.k.Lv λj e=> .inl e).trans (aC.Lv λj e=> .inr e)).It bc.k (λj e=>by
        rcases aB.fp j e with h5|h5
        ·exact .inr (.inl h5)
        ·exact .inl h5)
       refine Lf$ Ld$ qN O$ qV (LM (news:=Nv false g6) Oj O LW O (Lq.cells (n:=3) eO O) O)$ Ls O (M7 (news:=Nv false g6) LW O O O O eO (by simp)) ?_;rintro we ⟨da,dm⟩;replace da:Lq we b4 [.bool false,.bool g6.isSome,I (g6.getD 0)] 265:=da;refine Lk O$ LL Tryz.func150 (.cell Oj O LW O (Lq.cells (n:=3) da (news:=[_,_,_]) O) O (.tmp O .nil)) ?_
       have n49:∀b,On c V9 p b->b≠b4:=λb hb e=>by
        rcases cq b hb with h5|h5
        ·exact n4' b h5 e
        ·omega
       have eM:A.Nk k=({A6 with once:=A6.once++[k]},false,g6):=by
        unfold Arc.Nk;rw[if_neg bE,if_neg qH,if_neg hg];dsimp only;rw[cn]
       rw[eM]
       exact⟨_,rfl,rfl,V9,bc.m.kp dm n49,λb hb=>(cq b hb).imp id (λe=>by omega),(aG.kp.It aP (λj e=>by
        rcases e with e| e
        ·exact .inr e
        ·exact .inl (by omega))).It dm (λj e=> .inl (by omega))⟩
  ·rw [decide_eq_false bZ]; refine Le O (qS (qS (M8 O O (Le O (qS (qS (M8 O O (Lf (An O (py (run_seq (Lc (qN O ?_))))))))))))); refine Le O (LU O (Lt MT O (Le O (LD SN O (mg) ?_)))); rintro _ w2 ⟨rfl, rfl⟩; by_cases hg : k ∈ A.LB
   ·rw[decide_eq_true hg];refine Lk O$ Lr O$ run_seq ?_;have qG:0<A.LB.length:=List.length_pos_of_mem hg;obtain⟨q,hq⟩:∃q,A.Lx.length / A.LB.length=q:=⟨_,rfl⟩;have eC:q<=2000:=by rw[<-hq];exact Nat.le_trans (Nat.div_le_self _ _) jZ
    have mh:(A.Lx.length:Int) / (A.LB.length:Int)=(q:Int):=by rw[<-hq];exact(Int.natCast_ediv _ _).symm
    refine LH [27] (λw'=>Ext w2 w') (by kernel_rfl) O$ qL [25,26,27] 0 O (λ_ h=>M0 O) aa$ qL [2,3,4,24,25,26,27] 1 O (λ_ h=>M0 O) aa$ qL [3,4,24,25,26,27] 2 O (λ_ h=>Mo O) aa$ qL [4,24,25,26,27] 3 O (λ_ h=>LV Oe O) aa$ qL [24,25,26,27] 4 O (λ_ h=>Lj U3 O O (h.Lg eN) O) aa$ qL [6,7,8,23,24,25,26,27] 5 O (λ_ h=>M0 O) aa$ qL [7,8,23,24,25,26,27] 6 O (λ_ h=>Mo O) aa$ qL [8,23,24,25,26,27] 7 O (λ_ h=>LV N8 O) aa$ qL [23,24,25,26,27] 8 O (λ_ h=>Lj U3 O O (h.Lg eN) O) aa$ qL [10,11,12,13,14,21,22,23,24,25,26,27] 9 O (λ_ h=>M0 O) aa$ qL [11,12,13,14,21,22,23,24,25,26,27] 10 O (λ_ h=>Mo O) aa$ qL [12,13,14,21,22,23,24,25,26,27] 11 O (λ_ h=>LV N9 O) aa$ qL [13,14,21,22,23,24,25,26,27] 12 O (λ_ h=>LV Mj O) aa ?_;refine qL [14,21,22,23,24,25,26,27] 13 O (λ_ h=>Lj N3 O O (h.Lg eN) O) aa$ qL [21,22,23,24,25,26,27] 14 O (λ_ h=>Ol N3 O) aa$ qL [16,17,18,19,20,21,22,23,24,25,26,27] 15 O (λ_ h=>M0 O) aa$ qL [17,18,19,20,21,22,23,24,25,26,27] 16 O (λ_ h=>Mo O) aa$ qL [18,19,20,21,22,23,24,25,26,27] 17 O (λ_ h=>LV MT O) aa$ qL [19,20,21,22,23,24,25,26,27] 18 O (λ_ h=>LV Mj O) aa$ qL [20,21,22,23,24,25,26,27] 19 O (λ_ h=>Lj N3 O O (h.Lg eN) O) aa$ qL [21,22,23,24,25,26,27] 20 O (λ_ h=>Ol N3 O) aa$ qL [22,23,24,25,26,27] 21 O (λ_ h=>SC O O ⟨by omega,by omega,by omega⟩) aa ?_;rw[mh];refine qL [23,24,25,26,27] 22 O (λ_ h=>yma O O) aa$ qL [24,25,26,27] 23 O (λ_ h=>Qu O O (by omega)) aa$ qL [25,26,27] 24 O (λ_ h=>ymi O O) aa$ qL [26,27] 25 O (λ_ h=>Mo O) aa$ qL [27] 26 O (λ_ h=>LV N8 O) aa$ OY [27]$ qO 27$ M1 (i:=27) O O (MY Md O O O (aa.Lg eN) (by simp)) ?_;rintro w5 ⟨aI,ak⟩;refine⟨trivial,?_⟩;obtain⟨T,hT⟩:∃T:Int,min (A.size:Int) (A.target+max 1 (q:Int))=T:=⟨_,rfl⟩;have ny:0<=T/\T<=A.size:=by omega
    rw[hT] at aI
    replace aI:Lq w5 c (acC A.size T V p) 191:=by
     show Lq w5 c [I (A.size:Int),(V 0).1,(V 0).2,(V 1).1,(V 1).2,(V 2).1,(V 2).2,(V 3).1,(V 3).2,I T,.map (some p)] _;rw[e2,e3];exact aI
    have cb:=(h2.ext aa).UR aI ak;have aW:=hA.UR ny;obtain⟨A5,bF⟩:∃A5:Arc,{A with target:=T}=A5:=⟨_,rfl⟩;have o5:A5.size=A.size:=by rw[<-bF]
    have nz:¬A5.held k:=by rw[<-bF];exact lG
    have qB:k∈A5.LB:=by rw[<-bF];exact hg
    rw[bF] at cb aW;refine qE$ LS.qb (e:=[(0,_),(1,_),(4,_),(5,_)]) ?_;refine qN O$ Le O$ LD Xf O (Pl cb.m aW (by omega) false) ?_;rintro _ w6 ⟨rfl,V6,cB⟩;have aw:=Arc.P8 aW false;obtain⟨r6,cn⟩:∃r,A5.room false=r:=⟨_,rfl⟩;rw[cn] at cB aw⊢;obtain⟨A6,g6⟩:=r6;dsimp only at cB aw⊢;have eQ:=aw.perm.length_eq;have j0:=A6.MR;have nA:=A5.MR;have nB:=aW.total;have aB:=((h2.r aa).trans cb).trans cB;have bQ:=aB.k.Lg bD (λe=>n4' _ e O);refine Ls O (M7 (news:=Nv false g6) LW O O O O bQ (by simp)) ?_;rintro w7 ⟨bj,aC⟩;replace bj:Lq w7 b4 [.bool false,.bool g6.isSome,I (g6.getD 0)] 265:=bj;have n46:=aB.mono n4' l42;have g8:=aB.m.kp aC n46;refine qM O$ Le O$ LU O$ Lt MT O$ Le O$ LD Ou O (Mm g8 (j:=2) (k:=k) (by decide)) ?_;rintro _ w8 ⟨rfl,V8,fx⟩
    have dG:k∉(A6.MD 2 ((A6.li 2).erase k)).li 1:=by
     show k∉A6.often;exact λe=>nz ((aw.gone k).1 (.inr e)).1
    refine Lf$ Li O$ Le O$ LU O$ Lt Nf O$ Le O$ LD OV O (MS fx.m (j:=1) (k:=k) (by decide) dG (by show A6.often.length<=_;omega)) ?_;rintro _ w9 ⟨rfl,V9,gL⟩;have bc:=fx.trans gL;have bP:=bc.k.Lg bj (λe=>n46 _ e O);have eO:=bP
    have cq:∀b,On c V9 p b->On c V p b\/w2.heap.size<=b:=λb hb=>by
     rcases bc.fp b hb with h5|h5
     ·exact aB.fp b h5
     ·have:=aB.k.size;have:=aC.size;exact .inr (by omega)
    have aP:Kp (λj=>On c V p j\/j=b4) w2 w9:=((aB.k.Lv λj e=> .inl e).trans (aC.Lv λj e=> .inr e)).It bc.k (λj e=>by
     rcases aB.fp j e with h5|h5
     ·exact .inr (.inl h5)
     ·exact .inl h5)
    refine Lf$ Ld$ qN O$ qV (LM (news:=Nv false g6) Oj O LW O (Lq.cells (n:=3) eO O) O)$ Ls O (M7 (news:=Nv false g6) LW O O O O eO (by simp)) ?_;rintro we ⟨da,dm⟩;replace da:Lq we b4 [.bool false,.bool g6.isSome,I (g6.getD 0)] 265:=da;refine Lk O$ LL Tryz.func150 (.cell Oj O LW O (Lq.cells (n:=3) da (news:=[_,_,_]) O) O (.tmp O .nil)) ?_
    have n49:∀b,On c V9 p b->b≠b4:=λb hb e=>by
     rcases cq b hb with h5|h5
     ·exact n4' b h5 e
     ·omega
    have eM:A.Nk k=({A6 with LB:=A6.LB.erase k,often:=A6.often++[k]},false,g6):=by
     unfold Arc.Nk;rw[if_neg bE,if_pos hg];dsimp only;rw[hq,hT,bF,cn]
    rw[eM]
    exact⟨_,rfl,rfl,V9,bc.m.kp dm n49,λb hb=>(cq b hb).imp id (λe=>by omega),(aG.kp.It aP (λj e=>by
     rcases e with e| e
     ·exact .inr e
     ·exact .inl (by omega))).It dm (λj e=> .inl (by omega))⟩
   ·have qH:=hg;rw[decide_eq_false hg];refine Lk O$ An O$ qN O$ Le O$ LU O$ Lt N9 O$ Le O$ LD SN O (pO) ?_;rintro _ w2 ⟨rfl,rfl⟩;by_cases hg:k∈A.Lx
    ·rw[decide_eq_true hg];refine Lk O$ LS.qb (e:=[(0,_),(1,_),(4,_),(5,_),(111,_)]) ?_;refine Lr O$ run_seq ?_;have qG:0<A.Lx.length:=List.length_pos_of_mem hg;obtain⟨q,hq⟩:∃q,A.LB.length / A.Lx.length=q:=⟨_,rfl⟩;have eC:q<=2000:=by rw[<-hq];exact Nat.le_trans (Nat.div_le_self _ _) gy
     have mh:(A.LB.length:Int) / (A.Lx.length:Int)=(q:Int):=by rw[<-hq];exact(Int.natCast_ediv _ _).symm
     refine LH [23] (λw'=>Ext w2 w') (by kernel_rfl) O$ qL [21,22,23] 0 O (λ_ h=>M0 O) aa$ qL [2,3,4,19,20,21,22,23] 1 O (λ_ h=>M0 O) aa$ qL [3,4,19,20,21,22,23] 2 O (λ_ h=>Mo O) aa$ qL [4,19,20,21,22,23] 3 O (λ_ h=>LV N8 O) aa$ qL [19,20,21,22,23] 4 O (λ_ h=>Lj U3 O O (h.Lg eN) O) aa$ qL [6,7,8,9,10,17,18,19,20,21,22,23] 5 O (λ_ h=>M0 O) aa$ qL [7,8,9,10,17,18,19,20,21,22,23] 6 O (λ_ h=>Mo O) aa$ qL [8,9,10,17,18,19,20,21,22,23] 7 O (λ_ h=>LV MT O) aa$ qL [9,10,17,18,19,20,21,22,23] 8 O (λ_ h=>LV Mj O) aa$ qL [10,17,18,19,20,21,22,23] 9 O (λ_ h=>Lj N3 O O (h.Lg eN) O) aa$ qL [17,18,19,20,21,22,23] 10 O (λ_ h=>Ol N3 O) aa$ qL [12,13,14,15,16,17,18,19,20,21,22,23] 11 O (λ_ h=>M0 O) aa$ qL [13,14,15,16,17,18,19,20,21,22,23] 12 O (λ_ h=>Mo O) aa ?_;refine qL [14,15,16,17,18,19,20,21,22,23] 13 O (λ_ h=>LV N9 O) aa$ qL [15,16,17,18,19,20,21,22,23] 14 O (λ_ h=>LV Mj O) aa$ qL [16,17,18,19,20,21,22,23] 15 O (λ_ h=>Lj N3 O O (h.Lg eN) O) aa$ qL [17,18,19,20,21,22,23] 16 O (λ_ h=>Ol N3 O) aa$ qL [18,19,20,21,22,23] 17 O (λ_ h=>SC O O ⟨by omega,by omega,by omega⟩) aa ?_;rw[mh];refine qL [19,20,21,22,23] 18 O (λ_ h=>yma O O) aa$ qL [20,21,22,23] 19 O (λ_ h=>SR O O (by omega)) aa$ qL [21,22,23] 20 O (λ_ h=>yma O O) aa$ qL [22,23] 21 O (λ_ h=>Mo O) aa$ qL [23] 22 O (λ_ h=>LV N8 O) aa$ OY [23]$ qO 23$ M1 (i:=23) O O (MY Md O O O (aa.Lg eN) (by simp)) ?_;rintro w5 ⟨aI,ak⟩;refine⟨trivial,?_⟩;obtain⟨T,hT⟩:∃T:Int,max 0 (A.target-max 1 (q:Int))=T:=⟨_,rfl⟩;have ny:0<=T/\T<=A.size:=by omega
     rw[hT] at aI
     replace aI:Lq w5 c (acC A.size T V p) 191:=by
      show Lq w5 c [I (A.size:Int),(V 0).1,(V 0).2,(V 1).1,(V 1).2,(V 2).1,(V 2).2,(V 3).1,(V 3).2,I T,.map (some p)] _;rw[e2,e3];exact aI
     have cb:=(h2.ext aa).UR aI ak;have aW:=hA.UR ny;obtain⟨A5,bF⟩:∃A5:Arc,{A with target:=T}=A5:=⟨_,rfl⟩;have o5:A5.size=A.size:=by rw[<-bF]
     have nz:¬A5.held k:=by rw[<-bF];exact lG
     have qB:k∈A5.Lx:=by rw[<-bF];exact hg
     rw[bF] at cb aW;refine qE$ LS.qb (e:=[(0,_),(1,_),(4,_),(5,_)]) ?_;refine qN O$ Le O$ LD Xf O (Pl cb.m aW (by omega) true) ?_;rintro _ w6 ⟨rfl,V6,cB⟩;have aw:=Arc.P8 aW true;obtain⟨r6,cn⟩:∃r,A5.room true=r:=⟨_,rfl⟩;rw[cn] at cB aw⊢;obtain⟨A6,g6⟩:=r6;dsimp only at cB aw⊢;have eQ:=aw.perm.length_eq;have j0:=A6.MR;have nA:=A5.MR;have nB:=aW.total;have aB:=((h2.r aa).trans cb).trans cB;have bQ:=aB.k.Lg bD (λe=>n4' _ e O);refine Ls O (M7 (news:=Nv false g6) LW O O O O bQ (by simp)) ?_;rintro w7 ⟨bj,aC⟩;replace bj:Lq w7 b4 [.bool false,.bool g6.isSome,I (g6.getD 0)] 265:=bj;have n46:=aB.mono n4' l42;have g8:=aB.m.kp aC n46;refine qM O$ Le O$ LU O$ Lt N9 O$ Le O$ LD Ou O (Mm g8 (j:=3) (k:=k) (by decide)) ?_;rintro _ w8 ⟨rfl,V8,fx⟩
     have dG:k∉(A6.MD 3 ((A6.li 3).erase k)).li 1:=by
      show k∉A6.often;exact λe=>nz ((aw.gone k).1 (.inr e)).1
     refine Lf$ Li O$ Le O$ LU O$ Lt Nf O$ Le O$ LD OV O (MS fx.m (j:=1) (k:=k) (by decide) dG (by show A6.often.length<=_;omega)) ?_;rintro _ w9 ⟨rfl,V9,gL⟩;have bc:=fx.trans gL;have bP:=bc.k.Lg bj (λe=>n46 _ e O);have eO:=bP
     have cq:∀b,On c V9 p b->On c V p b\/w2.heap.size<=b:=λb hb=>by
      rcases bc.fp b hb with h5|h5
      ·exact aB.fp b h5
      ·have:=aB.k.size;have:=aC.size;exact .inr (by omega)
     have aP:Kp (λj=>On c V p j\/j=b4) w2 w9:=((aB.k.Lv λj e=> .inl e).trans (aC.Lv λj e=> .inr e)).It bc.k (λj e=>by
      rcases aB.fp j e with h5|h5
      ·exact .inr (.inl h5)
      ·exact .inl h5)
     refine Lf$ Ld$ qN O$ qV (LM (news:=Nv false g6) Oj O LW O (Lq.cells (n:=3) eO O) O)$ Ls O (M7 (news:=Nv false g6) LW O O O O eO (by simp)) ?_;rintro we ⟨da,dm⟩;replace da:Lq we b4 [.bool false,.bool g6.isSome,I (g6.getD 0)] 265:=da;refine Lk O$ LL Tryz.func150 (.cell Oj O LW O (Lq.cells (n:=3) da (news:=[_,_,_]) O) O (.tmp O .nil)) ?_
     have n49:∀b,On c V9 p b->b≠b4:=λb hb e=>by
      rcases cq b hb with h5|h5
      ·exact n4' b h5 e
      ·omega
     have eM:A.Nk k=({A6 with Lx:=A6.Lx.erase k,often:=A6.often++[k]},false,g6):=by
      unfold Arc.Nk;rw[if_neg bE,if_neg qH,if_pos hg];dsimp only;rw[hq,hT,bF,cn]
     rw[eM]
     exact⟨_,rfl,rfl,V9,bc.m.kp dm n49,λb hb=>(cq b hb).imp id (λe=>by omega),(aG.kp.It aP (λj e=>by
      rcases e with e| e
      ·exact .inr e
      ·exact .inl (by omega))).It dm (λj e=> .inl (by omega))⟩
    ·rw[decide_eq_false hg];refine Lk O$ LS.qb (e:=[(0,_),(1,_),(4,_),(5,_),(111,_)]) ?_;refine An O$ qN O$ Le O$ LD z5B O (Wk h2 hA cF) ?_;rintro _ w6 ⟨rfl,V6,cB⟩;have dE:=Arc.Z5 hA;obtain⟨r6,cn⟩:∃r,A.add=r:=⟨_,rfl⟩;rw[cn] at cB dE⊢;obtain⟨A6,g6⟩:=r6;dsimp only at cB dE⊢;obtain⟨fg,-,-⟩:=dE;have j0:=A6.MR;have aB:=cB;have bQ:=aB.k.Lg bD (λe=>n4' _ e O);refine Ls O (M7 (news:=Nv false g6) LW O O O O bQ (by simp)) ?_;rintro w7 ⟨bj,aC⟩;replace bj:Lq w7 b4 [.bool false,.bool g6.isSome,I (g6.getD 0)] 265:=bj;have n46:=aB.mono n4' l42;have g8:=aB.m.kp aC n46
     have dG:k∉A6.li 0:=by
      show k∉A6.once;exact λe=>lG ((fg.gone k).1 (.inl e)).1
     have oo:=fg.TH;refine Lf$ Li O$ Le O$ LU O$ Lt MF O$ Le O$ LD OV O (MS g8 (j:=0) (k:=k) (by decide) dG (by show A6.once.length<=_;omega)) ?_;rintro _ w9 ⟨rfl,V9,gL⟩;have bc:=gL;have bP:=bc.k.Lg bj (λe=>n46 _ e O);have eO:=bP
     have cq:∀b,On c V9 p b->On c V p b\/w2.heap.size<=b:=λb hb=>by
      rcases bc.fp b hb with h5|h5
      ·exact aB.fp b h5
      ·have:=aB.k.size;have:=aC.size;exact .inr (by omega)
     have aP:Kp (λj=>On c V p j\/j=b4) w2 w9:=((aB.k.Lv λj e=> .inl e).trans (aC.Lv λj e=> .inr e)).It bc.k (λj e=>by
      rcases aB.fp j e with h5|h5
      ·exact .inr (.inl h5)
      ·exact .inl h5)
     refine Lf$ Ld$ qN O$ qV (LM (news:=Nv false g6) Oj O LW O (Lq.cells (n:=3) eO O) O)$ Ls O (M7 (news:=Nv false g6) LW O O O O eO (by simp)) ?_;rintro we ⟨da,dm⟩;replace da:Lq we b4 [.bool false,.bool g6.isSome,I (g6.getD 0)] 265:=da;refine Lk O$ LL Tryz.func150 (.cell Oj O LW O (Lq.cells (n:=3) da (news:=[_,_,_]) O) O (.tmp O .nil)) ?_
     have n49:∀b,On c V9 p b->b≠b4:=λb hb e=>by
      rcases cq b hb with h5|h5
      ·exact n4' b h5 e
      ·omega
     have eM:A.Nk k=({A6 with once:=A6.once++[k]},false,g6):=by
      unfold Arc.Nk;rw[if_neg bE,if_neg qH,if_neg hg];dsimp only;rw[cn]
     rw[eM]
     exact⟨_,rfl,rfl,V9,bc.m.kp dm n49,λb hb=>(cq b hb).imp id (λe=>by omega),(aG.kp.It aP (λj e=>by
      rcases e with e| e
      ·exact .inr e
      ·exact .inl (by omega))).It dm (λj e=> .inl (by omega))⟩
end
def Arc.z3w (A:Arc)(k:Int):Nat->Arc
 |0=>A
 |i+1=>(A.z3w k i).MD i (((A.z3w k i).li i).erase k)
def Arc.drop (A:Arc)(k:Int):Arc:=A.z3w k 4
theorem Arc.drop_eq (A:Arc)(k:Int):A.drop k={A with once:=A.once.erase k,often:=A.often.erase k,LB:=A.LB.erase k,Lx:=A.Lx.erase k}:=rfl
theorem Arc.Ok.drop {A:Arc}(h:A.Ok)(k:Int):(A.drop k).Ok:=by
 rw[Arc.drop_eq]
 have hs:(A.once.erase k++(A.often.erase k++(A.LB.erase k++A.Lx.erase k))).Sublist A.all:=List.erase_sublist.append (List.erase_sublist.append (List.erase_sublist.append List.erase_sublist))
 have a1:(A.once.erase k).length<=A.once.length:=List.length_erase_le
 have a2:(A.often.erase k).length<=A.often.length:=List.length_erase_le
 have a3:(A.LB.erase k).length<=A.LB.length:=List.length_erase_le
 have h1:=h.held
 have h2:=h.first
 exact⟨h.pos,h.nd.sublist hs,by dsimp only;omega,by dsimp only;omega,Nat.le_trans hs.length_le h.total,h.tg⟩
theorem Arc.z50 {A:Arc}(h:A.Ok)(k x:Int):(A.drop k).held x↔A.held x/\x≠k:=by
 have fA:=h.nd
 unfold Arc.all at fA
 rw[List.nodup_append] at fA
 obtain⟨nd1,nd2,-⟩:=fA
 rw[List.nodup_append] at nd2
 obtain⟨nd4,-,-⟩:=nd2
 rw[Arc.drop_eq]
 unfold Arc.held
 dsimp only
 rw[nd1.mem_erase_iff,nd4.mem_erase_iff]
 constructor
 ·rintro(⟨a,b⟩|⟨a,b⟩)
  ·exact⟨.inl b,a⟩
  ·exact⟨.inr b,a⟩
 ·rintro⟨b|b,a⟩
  ·exact .inl ⟨a,b⟩
  ·exact .inr ⟨a,b⟩
section
variable {w w' w2:World}{c p:Nat}{A A' A2:Arc}{V V' V2:Nat->Value×Value}{S:Nat->Prop}{k:Int}
theorem z4k (h:Ot w c A V p):LP Tryz.prog 140 [ptr c 0,I k] w λv w'=>(∃z,v=I z)/\∃V',RG w c V p w' (A.drop k) V':=by
 have hB:=h.cells
 have mg:=R4 h (j:=2) (k:=k) (by decide)
 have pO:=R4 h (j:=3) (k:=k) (by decide)
 rw[show A.li 2=A.LB from rfl] at mg
 rw[show A.li 3=A.Lx from rfl] at pO
 refine Lb (e:=[(0,_),(1,_)]) Tryz.func140 O Tryz.ntmps140 O O$ qN O$ Lk O$ run_seq$ M6 (λe' w'=>e'=[(0,ptr c 0),(1,I k)]/\w'=w) ?et$ λet=>?iv
 case et=>
  rintro e' w1 ⟨rfl,rfl⟩;have hg:=Ext.LC w1;refine run_seq$ run_seq$ N7 (λw'=>Ext w1 w') O$ LA 0 O O (hg)$ Ll 1 O (Mo O) hg$ Ll 2 O (LV MF O) hg$ LA 3 O O (hg)$ Ll 4 O (Mo O) hg$ Ll 5 O (LV Nf O) hg$ LA 6 O O (hg)$ Ll 7 O (Mo O) hg$ Ll 8 O (LV MT O) hg$ LA 9 O O (hg)$ Ll 10 O (Mo O) hg ?_;refine Ll 11 O (LV N9 O) hg$ LA 14 O O (hg)$ qO 12$ NY (i:=12) O O O (RN (cs:=[_,_,_,_]) (zs:=[Value.pointer none,Value.pointer none,Value.pointer none,Value.pointer none]) zaP z9e O (by kernel_rfl) O O O (by decide)) ?_;rintro _ w2 ⟨b51,rfl,⟨D4,ag,II⟩,xP⟩;refine⟨hg.trans ag,?_⟩;have aA:=hg.trans ag;refine Ll 13 O (Ol zaP O) (hg.trans ag)$ qE$ Lc ?_;have aV:∀{b:Nat},On c V p b->b<w1.heap.size:=h.lt;have lb:=xP.lt (g:=b51) O;have z12:=hg.size;have D5:=xP.rd;refine Nj (α:=Nat×(Nat->Value×Value)) ((0,V)) (λx=>[(1,I k),(51,.slice (some ⟨b51,0,none⟩) 4 4),(52,I 4),(53,I (x.1:Int))]) (λx w'=>x.1<=4/\RG w2 c V p w' (A.z3w k x.1) x.2/\Rd w' (.slice (some ⟨b51,0,none⟩) 4 4) 1 4 [ptr c 1,ptr c 3,ptr c 5,ptr c 7]) (λx=>4-x.1) ?hI ?hround
  case hI=>exact⟨Nat.zero_le _,(h.ext aA).r (Ext.refl w2),D5⟩
  case hround=>
   rintro⟨i,Vi⟩ w3 ⟨hi,lM,D6⟩ ih;dsimp only at hi lM D6 ih⊢
   try dsimp only
   refine qN O$ Mw O O$ Lf$ run_seq$ Lp O (λh0=>?_)$ λh0=>?_
   ·have lh:i<4:=by omega
    have hx:([ptr c 1,ptr c 3,ptr c 5,ptr c 7]:List Value)[i]? =some (ptr c (1+2*i)):=by
     match i,lh with
     |0,_|1,_|2,_|3,_=>rfl
    refine py$ run_seq$ Lc$ qN O$ qV (M9 zaP z9e O O (by omega))$ qV (LN zet O O (Mn D6 hx))$ Lk O$ Li O$ Lu O O$ LD Ou O (Mm lM.m (j:=i) (k:=k) lh) ?_;rintro _ w4 ⟨rfl,V4,bH⟩;refine Lf$ Ld$ Li O$ Mb O O$ Le O$ Lf ((ih (i+1,V4) _ ⟨lh,lM.trans bH,D6.kp bH.k λg e hf=>?_⟩ (by dsimp only;omega)).qb);have e':b51=g:=ML e;rcases lM.fp _ hf with e| e
    ·have:=aV e;have hb:b51=w1.drew.heap.size:=D4;omega
    ·omega
   ·have lh:i=4:=by omega
    subst lh;refine Ln O$ qN O$ Lk O$ Lh Tryz.func140 O ?_;exact⟨_,rfl,⟨0,rfl⟩,Vi,(h.r aA).trans lM⟩
 case iv =>
  refine Lc$ qN O$ Le O$ qV (Ml z3Z O O)$ Lk O$ An O$ qN O$ Lu O O$ LD z8Y O (XR h (k:=k)) ?_;rintro _ w ⟨rfl,rfl⟩;by_cases gN:k∈A.once\/k∈A.often
  ·rw[decide_eq_true gN];refine qV ((by first|exact Mh O|exact NL O)) ?_;refine Le O$ qS$ qS$ qS$ qS$ qS$ qS$ M8 O O$ Le O$ qS$ qS$ qS$ qS$ qS ?_;refine qS$ M8 O O$ Lk O$ LS.qb (e:=[(0,_),(1,_),(4,_),(10,_)]) ?_;refine An O$ qN O$ Le O$ LU O$ Lt VM O$ qV (Lj SH O O hB O)$ Le O$ qV (ylk (k:=k) (K:=KI) SH (NX U3) Md O O h.pins)$ MH O O$ M5$ Lk O$ An O$ py$ Ld ?_;exact(et _ _ ⟨rfl,rfl⟩).qb
  ·rw [decide_eq_false gN]; refine qV ((by first | exact Mh O | exact NL O)) ?_; refine Lu O O (LU O (Lt MT O (Le O (LD SN O (mg) ?_)))); rintro _ w ⟨rfl, rfl⟩; by_cases ao : k ∈ A.LB
   ·rw[decide_eq_true ao];refine qV ((by first|exact Mh O|exact NL O)) ?_;refine MU O O$ Le O$ qS$ qS$ qS$ qS$ qS$ qS$ M8 O O$ Lk O$ LS.qb (e:=[(0,_),(1,_),(4,_),(10,_)]) ?_;refine An O$ qN O$ Le O$ LU O$ Lt VM O$ qV (Lj SH O O hB O)$ Le O$ qV (ylk (k:=k) (K:=KI) SH (NX U3) Md O O h.pins)$ MH O O$ M5$ Lk O$ An O$ py$ Ld ?_;exact(et _ _ ⟨rfl,rfl⟩).qb
   ·rw[decide_eq_false ao];refine qV ((by first|exact Mh O|exact NL O)) ?_;refine MU O O$ Lu O O$ LU O$ Lt N9 O$ Le O$ LD SN O (pO) ?_;rintro _ w ⟨rfl,rfl⟩;by_cases ax:k∈A.Lx
    ·rw[decide_eq_true ax];refine qV ((by first|exact Mh O|exact NL O)) ?_;refine MU O O$ Lk O$ LS.qb (e:=[(0,_),(1,_),(4,_),(10,_)]) ?_;refine An O$ qN O$ Le O$ LU O$ Lt VM O$ qV (Lj SH O O hB O)$ Le O$ qV (ylk (k:=k) (K:=KI) SH (NX U3) Md O O h.pins)$ MH O O$ M5$ Lk O$ An O$ py$ Ld ?_;exact(et _ _ ⟨rfl,rfl⟩).qb
    ·rw[decide_eq_false ax];refine qV ((by first|exact Mh O|exact NL O)) ?_;refine MU O O$ Lk O$ LS.qb (e:=[(0,_),(1,_),(4,_),(10,_)]) ?_;refine Lr O$ qN O$ Lk O$ Lh Tryz.func140 O ?_
     have hd:A.drop k=A:=by
      rw[Arc.drop_eq,List.erase_of_not_mem (λe=>gN (.inl e)),List.erase_of_not_mem (λe=>gN (.inr e)),List.erase_of_not_mem ao,List.erase_of_not_mem ax]
     rw[hd];exact⟨_,rfl,⟨6,rfl⟩,V,h.r (Ext.refl w)⟩
end
structure Pg where
 k:Int
 b:Nat
 t:Bytes
 d:Bool
def Qw (l:List Pg):List (Int×Value):=l.map λg=>(g.k,ptr g.b 0)
def pgC (t:Bytes)(d:Bool):List Value:=[S t,.bool d,I 0]
structure NI where
 s:Nat
 d:Nat
 m:Nat
 gi:Nat
 c:Nat
 pm:Nat
 p:Nat
 fr:Nat
 V:Nat->Value×Value
 D:Dev
 A:Arc
 l:List Pg
 L:List Bool
 Fd:Nat->Prop
 h:Int
 mi:Int
 wr:Int
def NI.cp (P:NI):Nat->Nat->Prop
 |0,b=>b=P.s
 |1,b=>P.Fd b
 |2,b=>b=P.m\/b=P.gi
 |3,b=>On P.c P.V P.p b
 |4,b=>b=P.pm
 |5,b=>∃g∈P.l,g.b=b
 |_,_=>False
def NI.fp (P:NI)(b:Nat):Prop:=∃i,P.cp i b
def plC (P:NI):List Value:=[ptr P.d 0,ptr P.m 0,ptr P.c 0,.map (some P.pm),I (P.fr:Int),I P.h,I P.mi,I P.wr,I 0,I 0,I 0,.bool false]
def Dis (f:Nat->Nat->Prop):Prop:=∀i j,i≠j->∀b,f i b->¬f j b
structure PW (w:World)(P:NI):Prop where
 Lg:Lq w P.s (plC P) 103
 dev:RI w P.d P.D P.Fd
 ext:SY w P.m P.gi P.L
 arc:Ot w P.c P.A P.V P.p
 mp:Oo KI w P.pm (Qw P.l)
 pg:∀g∈P.l,Lq w g.b (pgC g.t g.d) 219
 pnd:(P.l.map (·.b)).Nodup
 Rf:Dis P.cp
section
variable {w w' w0:World}{P P0 P':NI}{S:Nat->Prop}{i0:Nat}
theorem PW.lt (h:PW w P){b:Nat}(hb:P.fp b):b<w.heap.size:=by
 obtain⟨i,hi⟩:=hb
 match i,hi with
 |0,e=>rw[show b=P.s from e];exact h.Lg.lt
 |1,e=>exact h.dev.lt b e
 | 2, e =>
   rcases e with e| e
   ·rw[e];exact h.ext.ltm
   ·rw[e];exact h.ext.ltg
 |3,e=>exact h.arc.lt e
 |4,e=>rw[show b=P.pm from e];exact h.mp.lt
 |5,⟨g,hg,e⟩=>rw[<-e];exact(h.pg g hg).lt
theorem PW.kp (h:PW w P)(hk:Kp S w w')(hn:∀b,P.fp b->¬S b):PW w' P:=
 ⟨hk.Lg h.Lg (hn _ ⟨0,rfl⟩),h.dev.kp hk λb hb=>hn b ⟨1,hb⟩,h.ext.kp hk (hn _ ⟨2,.inl O⟩) (hn _ ⟨2,.inr O⟩),h.arc.kp hk λb hb=>hn b ⟨3,hb⟩,h.mp.kp hk (hn _ ⟨4,rfl⟩),λg hg=>hk.Lg (h.pg g hg) (hn _ ⟨5,g,hg,rfl⟩),h.pnd,h.Rf⟩
theorem PW.ext' (h:PW w P)(hx:Ext w w'):PW w' P:=h.kp (S:=λ_=>False) hx λ_ _=>id
theorem PW.z5w (h:PW w P)(hk:Kp (P.cp i0) w w')(ne:0≠i0):Lq w' P.s (plC P) 103:=hk.Lg h.Lg (h.Rf 0 i0 ne _ O)
theorem PW.z5l (h:PW w P)(hk:Kp (P.cp i0) w w')(ne:1≠i0):RI w' P.d P.D P.Fd:=h.dev.kp hk λb hb=>h.Rf 1 i0 ne b hb
theorem PW.text (h:PW w P)(hk:Kp (P.cp i0) w w')(ne:2≠i0):SY w' P.m P.gi P.L:=h.ext.kp hk (h.Rf 2 i0 ne _ (.inl O)) (h.Rf 2 i0 ne _ (.inr O))
theorem PW.z4o (h:PW w P)(hk:Kp (P.cp i0) w w')(ne:3≠i0):Ot w' P.c P.A P.V P.p:=h.arc.kp hk λb hb=>h.Rf 3 i0 ne b hb
theorem PW.tmp (h:PW w P)(hk:Kp (P.cp i0) w w')(ne:4≠i0):Oo KI w' P.pm (Qw P.l):=h.mp.kp hk (h.Rf 4 i0 ne _ O)
theorem PW.tpg (h:PW w P)(hk:Kp (P.cp i0) w w')(ne:5≠i0):∀g∈P.l,Lq w' g.b (pgC g.t g.d) 219:=λg hg=>hk.Lg (h.pg g hg) (h.Rf 5 i0 ne _ ⟨g,hg,rfl⟩)
theorem PW.z7x (h:PW w P)(hs:∀i,i≠i0->P'.cp i=P.cp i)(hi:∀b,P'.cp i0 b->P.cp i0 b\/∀i,¬P.cp i b):Dis P'.cp:=λi j ne b hb c6=>by
 by_cases e:i=i0
 ·have e2:j≠i0:=λe2=>ne (e.trans e2.symm);rw[e] at hb;rw[hs j e2] at c6;rcases hi b hb with h1|h1
  ·exact h.Rf i0 j (λe3=>e2 e3.symm) b h1 c6
  ·exact h1 j c6
 ·rw[hs i e] at hb;by_cases e2:j=i0
  ·rw[e2] at c6;rcases hi b c6 with h1|h1
   ·exact h.Rf i i0 e b hb h1
   ·exact h1 i hb
  ·rw[hs j e2] at c6;exact h.Rf i j ne b hb c6
theorem PW.new (h:PW w P){b:Nat}(hb:w.heap.size<=b):∀i,¬P.cp i b:=λi e=>by have:=h.lt ⟨i,e⟩;omega
structure PY (w0:World)(P0:NI)(w:World)(P:NI):Prop where
 m:PW w P
 fp:∀b,P.fp b->P0.fp b\/w0.heap.size<=b
 k:Kp P0.fp w0 w
theorem PW.r (h:PW w P)(hx:Ext w w'):PY w P w' P:=⟨h.ext' hx,λb hb=> .inl hb,hx.kp⟩
theorem PY.ext (h:PY w0 P0 w P)(hx:Ext w w'):PY w0 P0 w' P:=⟨h.m.ext' hx,h.fp,h.k.trans hx.kp⟩
theorem PY.loc (h:PY w0 P0 w P)(hk:Kp S w w')(hS:∀b,S b->(P0.fp b\/w0.heap.size<=b)/\∀i,¬P.cp i b):PY w0 P0 w' P:=
 ⟨h.m.kp hk λb ⟨i,hb⟩ e=>(hS b e).2 i hb,h.fp,h.k.It hk λb e=>(hS b e).1.symm⟩
theorem PY.part (h:PY w0 P0 w P)(i0:Nat)(hm:PW w' P')(hs:∀i,i≠i0->P'.cp i=P.cp i)(hi:∀b,P'.cp i0 b->P.cp i0 b\/w0.heap.size<=b)(hk:Kp (P.cp i0) w w'):PY w0 P0 w' P':=
 ⟨hm,λb ⟨i,hb⟩=>by
  by_cases e:i=i0
  ·rw[e] at hb;rcases hi b hb with h1|h1
   ·exact h.fp b ⟨i0,h1⟩
   ·exact .inr h1
  ·rw[hs i e] at hb
   exact h.fp b ⟨i,hb⟩,h.k.It hk λb hb=>(h.fp b ⟨i0,hb⟩).symm⟩
theorem PY.trans {w2:World}{P2:NI}(h:PY w0 P0 w P)(h2:PY w P w2 P2):PY w0 P0 w2 P2:=
 ⟨h2.m,λb hb=>by
  rcases h2.fp b hb with e| e
  ·exact h.fp b e
  ·exact .inr (by have:=h.k.size;omega),h.k.It h2.k λb hb=>(h.fp b hb).symm⟩
theorem PY.dev (h:PY w0 P0 w P){D':Dev}(ht:z5t w P.d P.Fd D' w'):∃Fd',PY w0 P0 w' {P with D:=D',Fd:=Fd'}/\∀b,Fd' b->P.Fd b\/w.heap.size<=b:=by
 obtain⟨F',hd,hu⟩:=ht
 have hs:∀i,i≠1->NI.cp {P with D:=D',Fd:=F'} i=P.cp i:=λi e=>by
  match i,e with
  |0,_|2,_|3,_|4,_|5,_=>rfl
  |i+6,_=>rfl
 have hk:Kp (P.cp 1) w w':=hu.1
 refine⟨F',h.part 1 ⟨h.m.z5w hk (by decide),hd,h.m.text hk (by decide),h.m.z4o hk (by decide),h.m.tmp hk (by decide),h.m.tpg hk (by decide),h.m.pnd,h.m.z7x hs λb hb=>?_⟩ hs (λb hb=>?_) hk,hu.2⟩
 ·exact(hu.2 b hb).imp id λe=>h.m.new e
 ·exact(hu.2 b hb).imp id λe=>by have:=h.k.size;omega
theorem PY.arc (h:PY w0 P0 w P){A':Arc}{V':Nat->Value×Value}(hr:RG w P.c P.V P.p w' A' V'):PY w0 P0 w' {P with A:=A',V:=V'}:=by
 have hs:∀i,i≠3->NI.cp {P with A:=A',V:=V'} i=P.cp i:=λi e=>by
  match i,e with
  |0,_|1,_|2,_|4,_|5,_=>rfl
  |i+6,_=>rfl
 have hk:Kp (P.cp 3) w w':=hr.k
 refine h.part 3 ⟨h.m.z5w hk (by decide),h.m.z5l hk (by decide),h.m.text hk (by decide),hr.m,h.m.tmp hk (by decide),h.m.tpg hk (by decide),h.m.pnd,h.m.z7x hs λb hb=>?_⟩ hs (λb hb=>?_) hk
 ·exact(hr.fp b hb).imp id λe=>h.m.new e
 ·exact(hr.fp b hb).imp id λe=>by have:=h.k.size;omega
theorem PY.exM (h:PY w0 P0 w P){L':List Bool}(he:SY w' P.m P.gi L')(hk:Kp (λb=>b=P.gi) w w'):PY w0 P0 w' {P with L:=L'}:=by
 have hs:∀i,i≠2->NI.cp {P with L:=L'} i=P.cp i:=λi e=>by
  match i,e with
  |0,_|1,_|3,_|4,_|5,_=>rfl
  |i+6,_=>rfl
 have hk:Kp (P.cp 2) w w':=hk.Lv λb e=> .inr e
 exact h.part 2 ⟨h.m.z5w hk (by decide),h.m.z5l hk (by decide),he,h.m.z4o hk (by decide),h.m.tmp hk (by decide),h.m.tpg hk (by decide),h.m.pnd,h.m.z7x hs λb hb=> .inl hb⟩ hs (λb hb=> .inl hb) hk
theorem PY.cnt (h:PY w0 P0 w P){a b c:Int}(hB:Lq w' P.s (plC {P with h:=a,mi:=b,wr:=c}) 103)(hk:Kp (λb=>b=P.s) w w'):PY w0 P0 w' {P with h:=a,mi:=b,wr:=c}:=by
 have hs:∀i,i≠0->NI.cp {P with h:=a,mi:=b,wr:=c} i=P.cp i:=λi e=>by
  match i,e with
  |1,_|2,_|3,_|4,_|5,_=>rfl
  |i+6,_=>rfl
 have hk:Kp (P.cp 0) w w':=hk
 exact h.part 0 ⟨hB,h.m.z5l hk (by decide),h.m.text hk (by decide),h.m.z4o hk (by decide),h.m.tmp hk (by decide),h.m.tpg hk (by decide),h.m.pnd,h.m.z7x hs λb hb=> .inl hb⟩ hs (λb hb=> .inl hb) hk
theorem PY.del (h:PY w0 P0 w P){l':List Pg}(hl:l'.Sublist P.l)(hm:Oo KI w' P.pm (Qw l'))(hk:Kp (λb=>b=P.pm) w w'):PY w0 P0 w' {P with l:=l'}:=by
 have hk:Kp (P.cp 4) w w':=hk
 have dx:∀i b,NI.cp {P with l:=l'} i b->P.cp i b:=λi b hb=>by
  match i,hb with
  |0,e|1,e|2,e|3,e|4,e=>exact e
  |5,⟨g,hg,e⟩=>exact⟨g,hl.subset hg,e⟩
 have hp:=h.m.tpg hk (by decide)
 exact⟨⟨h.m.z5w hk (by decide),h.m.z5l hk (by decide),h.m.text hk (by decide),h.m.z4o hk (by decide),hm,λg hg=>hp g (hl.subset hg),(hl.map _).nodup h.m.pnd,λi j ne b hb c6=>h.m.Rf i j ne b (dx i b hb) (dx j b c6)⟩,λb ⟨i,hb⟩=>h.fp b ⟨i,dx i b hb⟩,h.k.It hk λb hb=>(h.fp b ⟨4,hb⟩).symm⟩
theorem PY.ins (h:PY w0 P0 w P){g:Pg}(hg:w0.heap.size<=g.b/\∀i,¬P.cp i g.b)(hb:Lq w g.b (pgC g.t g.d) 219)(hm:Oo KI w' P.pm (Qw (P.l++[g])))(hk:Kp (λb=>b=P.pm) w w'):PY w0 P0 w' {P with l:=P.l++[g]}:=by
 have hk:Kp (P.cp 4) w w':=hk
 have hp:=h.m.tpg hk (by decide)
 have fZ:∀i b,NI.cp {P with l:=P.l++[g]} i b->P.cp i b\/(i=5/\b=g.b):=λi b hb=>by
  match i,hb with
  |0,e|1,e|2,e|3,e|4,e=>exact .inl e
  | 5, ⟨g', cN, e⟩ =>
    rcases List.mem_append.1 cN with e2|e2
    ·exact .inl ⟨g',e2,e⟩
    ·rw[List.mem_singleton.1 e2] at e;exact .inr ⟨rfl,e.symm⟩
 refine⟨⟨h.m.z5w hk (by decide),h.m.z5l hk (by decide),h.m.text hk (by decide),h.m.z4o hk (by decide),hm,λg' cN=>?_,?_,λi j ne b hb c6=>?_⟩,λb ⟨i,hb⟩=>?_,h.k.It hk λb hb=>(h.fp b ⟨4,hb⟩).symm⟩
 ·rcases List.mem_append.1 cN with e| e
  ·exact hp g' e
  ·rw[List.mem_singleton.1 e];exact hk.Lg hb (hg.2 4)
 ·show((P.l++[g]).map (·.b)).Nodup;rw[List.map_append,List.nodup_append];refine⟨h.m.pnd,by simp,λa ha b hb e=>?_⟩;obtain⟨g',cN,rfl⟩:=List.mem_map.1 ha;rw[List.map_singleton,List.mem_singleton] at hb;exact hg.2 5 ⟨g',cN,e.trans hb⟩
 ·rcases fZ i b hb with e|⟨e,e2⟩
  ·rcases fZ j b c6 with f|⟨f,f2⟩
   ·exact h.m.Rf i j ne b e f
   ·rw[f2] at e;exact hg.2 i e
  ·rcases fZ j b c6 with f|⟨f,f2⟩
   ·rw[e2] at f;exact hg.2 j f
   ·exact ne (e.trans f.symm)
 ·rcases fZ i b hb with e|⟨e,e2⟩
  ·exact h.fp b ⟨i,e⟩
  ·rw[e2];exact .inr hg.1
theorem Ox {α β:Type}{f:α->β}:∀{l:List α},(l.map f).Nodup->∀{a b:α},a∈l->b∈l->f a=f b->a=b
 |[],_,a,b,ha,_,_=>by cases ha
 | x :: l, hn, a, b, ha, hb, e => by
   rw[List.map_cons,List.nodup_cons] at hn;rcases List.mem_cons.1 ha with h1|h1
   ·rcases List.mem_cons.1 hb with h2|h2
    ·rw[h1,h2]
    ·exact absurd (List.mem_map.2 ⟨b,h2,by rw[<-e,h1]⟩) hn.1
   ·rcases List.mem_cons.1 hb with h2|h2
    ·exact absurd (List.mem_map.2 ⟨a,h1,by rw[e,h2]⟩) hn.1
    ·exact Ox hn.2 h1 h2 e
def NA (l:List Pg)(k:Int)(t:Bytes)(d:Bool):List Pg:=l.map λg=>if g.k=k then {g with t:=t,d:=d} else g
theorem z5U (l:List Pg)(k:Int)(t:Bytes)(d:Bool):Qw (NA l k t d)=Qw l:=by
 unfold Qw NA
 rw[List.map_map]
 refine List.map_congr_left λg _=>?_
 by_cases h:g.k=k
 ·simp only[Function.comp_apply,if_pos h]
 ·simp only[Function.comp_apply,if_neg h]
theorem YA (l:List Pg)(k:Int)(t:Bytes)(d:Bool):(NA l k t d).map (·.b)=l.map (·.b):=by
 unfold NA
 rw[List.map_map]
 refine List.map_congr_left λg _=>?_
 show Pg.b (if _ then _ else _)=_
 split<;>rfl
theorem PY.zbp (h:PY w0 P0 w P){g:Pg}(hg:g∈P.l){t:Bytes}{d:Bool}(hb:Lq w' g.b (pgC t d) 219)(hk:Kp (λb=>b=g.b) w w'):PY w0 P0 w' {P with l:=NA P.l g.k t d}:=by
 have fA:=h.m.mp.nd
 have kH:∀b,(∃g'∈NA P.l g.k t d,g'.b=b)↔∃g'∈P.l,g'.b=b:=λb=>by
  have e:=YA P.l g.k t d;constructor
  ·rintro⟨g',cN,rfl⟩;have:g'.b∈P.l.map (·.b):=by rw[<-e];exact List.mem_map.2 ⟨g',cN,rfl⟩
   obtain⟨g2,a,b⟩:=List.mem_map.1 this;exact⟨g2,a,b⟩
  ·rintro⟨g',cN,rfl⟩;have:g'.b∈(NA P.l g.k t d).map (·.b):=by rw[e];exact List.mem_map.2 ⟨g',cN,rfl⟩
   obtain⟨g2,a,b⟩:=List.mem_map.1 this;exact⟨g2,a,b⟩
 have hs:∀i,i≠5->NI.cp {P with l:=NA P.l g.k t d} i=P.cp i:=λi e=>by
  match i,e with
  |0,_|1,_|2,_|3,_|4,_=>rfl
  |i+6,_=>rfl
 have ak:Kp (P.cp 5) w w':=hk.Lv λb e=>⟨g,hg,e.symm⟩
 have hi:∀b,NI.cp {P with l:=NA P.l g.k t d} 5 b->P.cp 5 b:=λb hb=>(kH b).1 hb
 refine h.part 5 ⟨h.m.z5w ak (by decide),h.m.z5l ak (by decide),h.m.text ak (by decide),h.m.z4o ak (by decide),?_,λg' cN=>?_,?_,h.m.z7x hs λb hb=> .inl (hi b hb)⟩ hs (λb hb=> .inl (hi b hb)) ak
 ·show Oo KI w' P.pm (Qw (NA P.l g.k t d));rw[z5U];exact h.m.tmp ak (by decide)
 ·obtain⟨g2,aa,rfl⟩:=List.mem_map.1 cN;by_cases e:g2.k=g.k
  ·rw[if_pos e]
   have e2:g2=g:=by
    unfold Qw at fA;rw[List.map_map] at fA;have D7:(P.l.map (·.k)).Nodup:=fA;exact Ox D7 aa hg e
   rw[e2];exact hb
  ·rw[if_neg e];have bN:g2.b≠g.b:=λe2=>e (by rw[Ox h.m.pnd aa hg e2]);exact hk.Lg (h.m.pg g2 aa) bN
 ·show((NA P.l g.k t d).map (·.b)).Nodup;rw[YA];exact h.m.pnd
end
end Go.Proofs.YtfgjaafcgghnoaaGreatDoor
