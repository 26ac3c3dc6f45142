/- Merged by program. -/
import Derived.Test.YtfgjaafcgghnoaaGreatDoorCTp5
set_option linter.all false
set_option maxRecDepth 1000000
set_option maxHeartbeats 16000000
namespace Go.Proofs.YtfgjaafcgghnoaaGreatDoor
open Go Go.RowKit
section
variable {w w':World}{m gi a:Nat}{L:List Bool}{S:Nat->Prop}
theorem z5v (h:TW w m gi L)(s n:Nat)(cU:1<=n)(cY:2<=s)(iK:s+n<=L.length):Mw Tryz.prog 141 [ptr m 0,.agg #[I (s:Int),I (n:Int)]] w λv w'=>v= .bool true/\Ext w w':=by
 have hn:=h.n
 refine It (e:=[(0,_),(1,_)]) Tryz.func141 O Tryz.ntmps141 O O$ qN O$ M5 O O (O2 O (cs:=[I (s:Int),I (n:Int)]) O) ?_
 rintro _ w1 ⟨b3,rfl,ek,ad,ar⟩
 have hg:=Ext.Mm w1
 have kl:=(h.ext ad).LY
 refine M4 O$ run_seq$ NV (λw'=>Ext w1 w') O$ M3 0 O (My NQ O) hg$ qT 1 O (λ_ h=>(by first|exact M1 U3 O O (h.LY ar) O|exact M1 U3 O O (h.LY kl) O)) hg ?_
 refine M3 2 O (yge O O) hg$ QB$ Mj 3 O O (hg)$ M3 4 O (My NK O) hg$ qT 5 O (λ_ h=>(by first|exact M1 U3 O O (h.LY ar) O|exact M1 U3 O O (h.LY kl) O)) hg ?_
 refine Mj 6 O O (hg)$ M3 7 O (N4 O) hg$ M3 8 O (My z3Z O) hg$ qT 9 O (λ_ h=>(by first|exact M1 U3 O O (h.LY ar) O|exact M1 U3 O O (h.LY kl) O)) hg ?_
 refine M3 10 O (yge O O) hg$ QB$ M3 11 O (RM O O) hg$ Mj 12 O O (hg)$ M3 13 O (My NK O) hg$ qT 14 O (λ_ h=>(by first|exact M1 U3 O O (h.LY ar) O|exact M1 U3 O O (h.LY kl) O)) hg ?_
 refine Mj 15 O O (hg)$ M3 16 O (N4 O) hg$ M3 17 O (My RI O) hg$ qT 18 O (λ_ h=>(by first|exact M1 Qh O O (h.LY ar) O|exact M1 Qh O O (h.LY kl) O)) hg ?_
 refine M3 19 O (Pb Qh O) hg$ M3 20 O (Xc O O) hg$ QB$ M3 21 O (RM O O) hg$ Mj 22 O O (hg)$ M3 23 O (My NQ O) hg$ qT 24 O (λ_ h=>(by first|exact M1 U3 O O (h.LY ar) O|exact M1 U3 O O (h.LY kl) O)) hg ?_
 refine Mj 25 O O (hg)$ M3 26 O (N4 O) hg$ M3 27 O (My RI O) hg$ qT 28 O (λ_ h=>(by first|exact M1 Qh O O (h.LY ar) O|exact M1 Qh O O (h.LY kl) O)) hg ?_
 refine M3 29 O (Pb Qh O) hg$ M3 30 O (My NK O) hg$ qT 31 O (λ_ h=>(by first|exact M1 U3 O O (h.LY ar) O|exact M1 U3 O O (h.LY kl) O)) hg ?_
 refine M3 32 O (TO O O (by omega)) hg$ M3 33 O (Vn O O) hg$ QB$ M3 34 O (RM O O) hg$ M3 35 O (NX O) hg$ qE$ Mz.qb (e:=[(4,_)]) ?_
 refine LZ Tryz.func141 O ?_
 exact⟨_,rfl,rfl,ad.trans hg⟩
theorem z2r {b5:Nat}(c d:Bool)(hB:M7 w b5 [stV d] 174)(As:c=d):Mw Tryz.prog 179 [stV c,ptr b5 0] w λv w'=>v= .bool false/\w'=w:=by
 subst As
 cases c with
 | true =>
   replace hB:M7 w b5 [.int .u8 1] 174:=hB;show Mw Tryz.prog 179 [.int .u8 1,ptr b5 0] w _;refine It (e:=[(0,_),(1,_)]) Tryz.func179 O Tryz.ntmps179 O O$ qN O$ Me O$ qM O$ LW O$ qV (M1 z7v O O hB O)$ N9 O O$ ML$ M4 O$ LZ Tryz.func179 O ?_
   exact⟨_,rfl,rfl,rfl⟩
 | false =>
   replace hB:M7 w b5 [.int .u8 0] 174:=hB;show Mw Tryz.prog 179 [.int .u8 0,ptr b5 0] w _;refine It (e:=[(0,_),(1,_)]) Tryz.func179 O Tryz.ntmps179 O O$ qN O$ Me O$ qM O$ LW O$ qV (M1 z7v O O hB O)$ N9 O O$ ML$ M4 O$ LZ Tryz.func179 O ?_;exact⟨_,rfl,rfl,rfl⟩
theorem z64 {b5 b o n cap:Nat}(hn:n<=4096)(c:Bool)(hB:M7 w b5 [stV c] 174)(hR:Rd w (.slice (some ⟨b,o,none⟩) n cap) 1 n (List.replicate n (stV c))):
  Mw Tryz.prog 210 [.slice (some ⟨b,o,none⟩) n cap,.func (.func 179) #[] #[ptr b5 0]] w λv w'=>v=I (-1)/\w'=w:=by
 refine It (e:=[(0,_),(1,_)]) Tryz.func210 O Tryz.ntmps210 O O$ qN O$ M4 O$ run_seq$ qN O$ LW O$ O9 Qh O$ LW O$ LX$ LU$ Oh (α:=Nat) (0) (λi=>[(0,.slice (some ⟨b,o,none⟩) n cap),(1,.func (.func 179) #[] #[ptr b5 0]),(7,I (n:Int)),(8,I (i:Int))]) (λi w'=>w'=w/\i<=n) (λi=>n-i) ?hI ?hround
 case hI=>exact⟨rfl,Nat.zero_le _⟩
 case hround=>
  rintro i w1 ⟨rfl,hi⟩ ih
  try dsimp only
  refine qN O$ Ni O O$ LX$ run_seq$ M8 O (λh0=>?_)$ λh0=>?_
  ·refine py$ run_seq$ LU$ qN O$ LW O$ Me O$ qM O$ Md O O$ LW O$ qV (MS Qh YU O O (by omega))$ qV (MA (v:=stV c) z7v O O (Na hR (by rw[List.getElem?_replicate,if_pos (by omega)]))) ?_;refine Ny O O (OK zdQ O O) (z2r c c hB O) ?_;rintro _ w1 ⟨rfl,rfl⟩;refine LX$ An O$ py$ LV$ M0 O$ MT O O$ LW O$ LX ?_;exact(ih (i+1) _ ⟨rfl,by omega⟩ (by omega)).qb
  ·refine M6 O$ qN O$ M4 O$ LZ Tryz.func210 O ?_;exact⟨_,rfl,rfl,rfl⟩
theorem z5a {b5 b o n cap:Nat}(hn:n<=4096)(c:Bool)(hB:M7 w b5 [stV c] 174)(hR:Rd w (.slice (some ⟨b,o,none⟩) n cap) 1 n (List.replicate n (stV c))):
  Mw Tryz.prog 178 [.slice (some ⟨b,o,none⟩) n cap,.func (.func 179) #[] #[ptr b5 0]] w λv w'=>v= .bool false/\w'=w:=by
 refine It (e:=[(0,_),(1,_)]) Tryz.func178 O Tryz.ntmps178 O O$ qN O$ Me O$ qM O$ Md O O$ Mn zdA O (z64 hn c hB hR) ?_
 rintro _ w ⟨rfl,rfl⟩
 refine PD O O$ ML$ M4 O$ LZ Tryz.func178 O ?_
 exact⟨_,rfl,rfl,rfl⟩
theorem z6e (h:TW w m gi L)(s n:Nat)(c:Bool)(cU:1<=n)(iK:s+n<=L.length)(hc:∀i,s<=i->i<s+n->L[i]? =some c):Mw Tryz.prog 142 [ptr m 0,.agg #[I (s:Int),I (n:Int)],stV c] w λv w'=>v= .bool true/\Ext w w':=by
 have hn:=h.n
 refine It (e:=[(0,_),(1,_),(2,_)]) Tryz.func142 O Tryz.ntmps142 O O$ qN O$ M5 O O (O2 O (cs:=[I (s:Int),I (n:Int)]) O) ?_
 rintro _ w1 ⟨b4,rfl,f9,ad,aH⟩
 refine M5 O O (O2 O (cs:=[stV c]) (by cases c<;>rfl)) ?_
 rintro _ w2 ⟨b5,rfl,fE,af,aI⟩
 have hg:=Ext.Mm w2
 have aG:=ad.trans af
 have kl:=(h.ext aG).LY
 have bA:=af.LY aH
 have dD:=(h.ext aG).ext hg
 refine M4 O$ run_seq$ NV (λw'=>Ext w2 w') O$ Mj 0 O O (hg)$ M3 1 O (N4 O) hg$ M3 2 O (My RI O) hg$ qT 3 O (λ_ h=>(by first|exact M1 Qh O O (h.LY bA) O|exact M1 Qh O O (h.LY kl) O)) hg ?_
 refine M3 4 O (My NK O) hg$ qT 5 O (λ_ h=>(by first|exact M1 U3 O O (h.LY bA) O|exact M1 U3 O O (h.LY kl) O)) hg ?_
 refine M3 6 O (My NK O) hg$ qT 7 O (λ_ h=>(by first|exact M1 U3 O O (h.LY bA) O|exact M1 U3 O O (h.LY kl) O)) hg ?_
 refine M3 8 O (My NQ O) hg$ qT 9 O (λ_ h=>(by first|exact M1 U3 O O (h.LY bA) O|exact M1 U3 O O (h.LY kl) O)) hg ?_
 refine M3 10 O (R4 O O (by omega)) hg$ M3 12 O (Zm (first:=[]) (caps:=[.tmp 5]) O O) hg ?_
 rw[show(s:Int)+(n:Int)=((s+n:Nat):Int) by omega]
 refine M3 11 O (zbK (i:=s) (j:=s+n) Qh YU O O O (by omega) (by omega)) hg ?_
 rw[show s+n-s=n by omega]
 have hR:Rd w2.drew (.slice (some ⟨gi,0+s*1,none⟩) n (L.length-s)) 1 n (List.replicate n (stV c)):=by
  have h1:=PW (P8 dD.sl.rd (i:=s) (by omega) (Nat.le_refl _)) (i:=n) (by omega);rw[if_neg (by omega)] at h1
  have e:((L.map stV).drop s).take n=List.replicate n (stV c):=by
   apply List.ext_getElem?;intro i;rw[List.getElem?_take,List.getElem?_drop,List.getElem?_map,List.getElem?_replicate];by_cases hi:i<n
   ·rw[if_pos hi,if_pos hi,hc (s+i) (by omega) (by omega)];rfl
   ·rw[if_neg hi,if_neg hi]
  rw[e] at h1
  have e2:(some (⟨gi,0,none⟩:Addr)).map (λx=>x.add (s*1))=some ⟨gi,0+s*1,none⟩:=by
   show some (Addr.add _ _)=_;unfold Addr.add;split
   ·rename_i h0;rw[h0]
   ·rfl
  rw[e2] at h1;exact h1
 refine Pm 13 O zew O (z5a (by omega) c ((hg.LY aI)) hR) ?_
 rintro _ w3 ⟨rfl,rfl⟩
 refine⟨hg,?_⟩
 refine M3 14 O ((by first|exact MX O|exact Oy O)) hg ?_
 refine M3 15 O (NX O) hg$ qE$ LZ Tryz.func142 O ?_
 exact⟨_,rfl,rfl,aG.trans hg⟩
theorem z2O (h:TW w m gi L)(s n:Nat)(cU:1<=n)(cY:2<=s)(iK:s+n<=L.length)(hc:∀i,s<=i->i<s+n->L[i]? =some true):Mw Tryz.prog 104 [ptr m 0,.agg #[I (s:Int),I (n:Int)]] w λv w'=>v=I 0/\TW w' m gi (NU L s n false)/\Kp (λk=>k=gi) w w':=by
 refine It (e:=[(0,_),(1,_)]) Tryz.func104 O Tryz.ntmps104 O O$ qN O$ M5 O O (O2 O (cs:=[I (s:Int),I (n:Int)]) O) ?_
 rintro _ w1 ⟨b3,rfl,ek,ad,ar⟩
 have h1:=h.ext ad
 have l3:=ar.lt
 have lg:=h.ltg
 refine M4 O$ run_seq$ LU$ qN O$ LW O$ qV (N7 Yn O O)$ M4 O$ An O$ qN O$ LW O$ qV (Mv (news:=[I (s:Int),I (n:Int)]) SO O NO O (M7.cells (n:=2) ar O) O)$ Mn zcy O (z5v h1 s n cU cY iK) ?_
 rintro _ w2 ⟨rfl,af⟩
 have h2:=h1.ext af
 have cV:=af.LY ar
 refine qV ((by first|exact MX O|exact Oy O)) ?_
 refine Md O O$ qV (Mv (news:=[I (s:Int),I (n:Int)]) SO O NO O (M7.cells (n:=2) cV O) O)$ Mn zec O (z6e h2 s n true cU iK hc) ?_
 rintro _ w3 ⟨rfl,ai⟩
 have h3:=h2.ext ai
 have dl:=ai.LY cV
 have kl:=h3.LY
 refine qV ((by first|exact MX O|exact Oy O)) ?_
 refine MN O O$ M4 O$ An O$ qN O$ LW O$ MC O$ Ma z8D O$ qV (M1 U4 O O kl O)$ M4 O$ An O ?_
 have dl:=ai.LY cV
 refine M0 O$ LW O$ qV (Mv (news:=[I (s:Int),I (n:Int)]) SO O NO O (M7.cells (n:=2) dl O) O)$ Mn zao O (YJ h3 s n false iK) ?_
 rintro _ w4 ⟨rfl,h4,av⟩
 refine LX$ Mz.qb (e:=[(4,_)]) ?_
 refine LV$ qN O$ M4 O$ LZ Tryz.func104 O ?_
 exact⟨_,rfl,rfl,h4,((ad.trans af).trans ai).kp.trans av⟩
end
structure Dev where
 due:Int
 P5:List Int
 z8z:Int
 mask:UInt8
 B:Nat
 N:Nat
 sf:Int->Option Bytes
 cache:List (Int×Bytes)
 down:Bool
 calls:Int
 reads:Int
def zeros (n:Nat):Bytes:=List.replicate n 0
def Dev.kept (D:Dev)(n:Int):Bytes:=(D.sf n).getD (zeros (512*D.N))
def SU (l:List (Int×Bytes))(n:Int):Option Bytes:=(l.reverse.find? λx=>x.1==n).map (·.2)
def Dev.now (D:Dev)(n:Int):Bytes:=(SU D.cache n).getD (D.kept n)
def Dev.has (D:Dev)(n:Int):Bool:=decide (0<=n/\n<(D.B:Int))
def Dev.count (D:Dev):Dev:={D with calls:=D.calls+1,due:=if D.due=0 then 0 else D.due-1}
structure Dev.Ok (D:Dev):Prop where
 hB:16<=D.B/\D.B<=4096
 hN:1<=D.N/\D.N<=8
 due:0<=D.due/\D.due<=9223372036854775807
 sf:∀n s,D.sf n=some s->0<=n/\n<(D.B:Int)/\s.length=512*D.N
 cache:∀x∈D.cache,0<=x.1/\x.1<(D.B:Int)/\x.2.length=512*D.N
 len:0<=D.calls
 reads:True
def Dev.Bd (D:Dev):Prop:=D.calls<1000000000000/\D.cache.length<1000000000000/\True
def wr (x:Int×Bytes):List Value:=[I x.1,S x.2]
def wrs (l:List (Int×Bytes)):List Value:=l.flatMap wr
@[simp] theorem wrs_length (l:List (Int×Bytes)):(wrs l).length=l.length*2:=by
 induction l with
 |nil=>rfl
 |cons x r ih=>simp[wrs,wr,List.flatMap_cons] at ih⊢;omega
def Vd (kp ca:Value)(m:Nat)(D:Dev):List Value:=[I D.due,kp,I D.z8z,PF D.mask,I (D.B:Int),I (D.N:Int),.map (some m),ca,.bool D.down,I D.calls,I D.reads]
@[simp] theorem devCs_length (kp ca:Value) (m:Nat) (D:Dev):(Vd kp ca m D).length=11:=rfl
abbrev KI:Int->Value:=λz=> .int .i64 z
structure OA (w:World)(p m:Nat)(kp ca:Value)(D:Dev):Prop where
 LY:M7 w p (Vd kp ca m D) 123
 map:∃kv,TG KI w m kv/\∀n,getL kv n=(D.sf n).map S
 cache:Sl w ca 334 2 D.cache.length (wrs D.cache)
 P5:Sl w kp 3 1 D.P5.length (D.P5.map I)
 ok:D.Ok
def fpD (p m:Nat)(kp ca:Value):Nat->Prop:=λk=>k=p\/k=m\/ca.ownBlock=some k\/kp.ownBlock=some k
def SF (w:World)(p:Nat)(D:Dev)(F:Nat->Prop):Prop:=∃m kp ca,OA w p m kp ca D/\∀k,F k↔fpD p m kp ca k
def Upd (F F':Nat->Prop)(w w':World):Prop:=Kp F w w'/\∀k,F' k->F k\/w.heap.size<=k
theorem Upd.trans {F F' F'':Nat->Prop}{a b c:World}(h:Upd F F' a b)(k:Upd F' F'' b c):Upd F F'' a c:=
 ⟨h.1.LS k.1 λi hi=>(h.2 i hi).symm,λi hi=>by
  rcases k.2 i hi with h'|h'
  ·exact h.2 i h'
  ·exact .inr (Nat.le_trans h.1.size h')⟩
theorem Ext.Yj {F:Nat->Prop}{w w':World}(h:Ext w w'):Upd F F w w':=⟨h.kp,λ_ h=> .inl h⟩
theorem OA.pm {w:World}{p m:Nat}{kp ca:Value}{D:Dev}(h:OA w p m kp ca D):¬p=m:=λe=>by
 obtain⟨kv,⟨⟨es,c,hh,-⟩,-⟩,-⟩:=h.map
 obtain⟨fz,hb,-⟩:=h.LY
 rw[e] at hb;rw[hb] at hh;cases hh
theorem PX {w:World}{v:Value}{e size n:Nat}{cs:List Value}{b:Nat}(h:Sl w v e size n cs)(hb:v.ownBlock=some b):∃xs fz,w.heap[b]? =some (.cells xs e fz):=by
 rcases h.2 with⟨hz,-⟩|⟨g,cap,cur,hv,-,hg,-⟩
 ·rw[hz] at hb;cases hb
 ·rw[hv] at hb;cases hb;exact⟨_,_,hg⟩
theorem OA.kp {S:Nat->Prop}{w w':World}{p m:Nat}{kp ca:Value}{D:Dev}(h:OA w p m kp ca D)(k:Kp S w w')(hn:∀i,fpD p m kp ca i->¬S i):OA w' p m kp ca D:=
 ⟨k.LY h.LY (hn p (.inl O)),let ⟨kv,h1,h2⟩:=h.map;⟨kv,k.map h1 (hn m (.inr (.inl O))),h2⟩,h.cache.kp k λg hg=>hn g (.inr (.inr (.inl hg))),h.P5.kp k λg hg=>hn g (.inr (.inr (.inr hg))),h.ok⟩
theorem OA.ext {w w':World}{p m:Nat}{kp ca:Value}{D:Dev}(h:OA w p m kp ca D)(k:Ext w w'):OA w' p m kp ca D:=h.kp k λ_ _=>id
theorem Dev.Ok.count {D:Dev}(h:D.Ok):D.count.Ok:=by
 have:=h.due
 have:=h.len
 refine⟨h.hB,h.hN,?_,h.sf,h.cache,?_,h.reads⟩
 ·simp only[Dev.count];split<;>omega
 ·simp only[Dev.count];omega
theorem OA.turn {w w':World}{p m:Nat}{kp ca:Value}{D D':Dev}(h:OA w p m kp ca D)(hb:M7 w' p (Vd kp ca m D') 123)(k:Kp (λi=>i=p) w w')(h1:D'.sf=D.sf)(h2:D'.cache=D.cache)(h3:D'.P5=D.P5)(h4:D'.N=D.N)(az:D'.Ok):OA w' p m kp ca D':=by
 obtain⟨fz,hp,-⟩:=h.LY
 refine⟨hb,let ⟨kv,hm,hs⟩:=h.map;⟨kv,k.map hm λe=>h.pm e.symm,by rw[h1];exact hs⟩,?_,?_,az⟩
 ·rw[h2];refine h.cache.kp k λg hg pV=>?_;obtain⟨xs,fz',hx⟩:=PX h.cache hg;rw[pV,hp] at hx;cases hx
 ·rw[h3];refine h.P5.kp k λg hg pV=>?_;obtain⟨xs,fz',hx⟩:=PX h.P5 hg;rw[pV,hp] at hx;cases hx
def Yj (f:Int->Option Bytes)(n:Int)(s:Bytes):Int->Option Bytes:=λx=>if x=n then some s else f x
def z5O (c:Bytes)(i:Nat)(x:Bytes):Bytes:=c.take i++x++c.drop (i+x.length)
def mixN (mask:UInt8)(a b:Bytes):Nat->Bytes
 |0=>a
 |s+1=>if mask.toNat / 2^s%2=1 then z5O (mixN mask a b s) (512*s) ((b.drop (512*s)).take 512) else mixN mask a b s
theorem z0Z (c x:Bytes)(i:Nat)(h:i+x.length<=c.length):(z5O c i x).length=c.length:=by
 simp[z5O];omega
theorem SL (mask:UInt8)(a b:Bytes)(N:Nat)(ha:a.length=512*N)(hb:b.length=512*N):∀s,s<=N->(mixN mask a b s).length=512*N
 |0,_=>ha
 | s + 1, h => by
   have ih:=SL mask a b N ha hb s (by omega);simp only[mixN];split
   ·rw[z0Z _ _ _ (by simp[ih];omega),ih]
   ·exact ih
def Dev.fallTo (D:Dev)(l:List Int)(tn:Int)(mk:UInt8):Nat->(Int->Option Bytes)
 |0=>D.sf
 | i + 1 => match D.cache[i]? with
   |none=>D.fallTo l tn mk i
   | some x => if (i : Int) = tn then Yj (D.fallTo l tn mk i) x.1 (mixN mk (((D.fallTo l tn mk i) x.1).getD (zeros (512 * D.N))) x.2 D.N)
     else if(i:Int)∈l then Yj (D.fallTo l tn mk i) x.1 x.2 else D.fallTo l tn mk i
def Dev.z6x (D:Dev)(l:List Int)(tn:Int)(mk:UInt8):Dev:=
 {D with sf:=D.fallTo l tn mk D.cache.length,cache:=[],due:=0,P5:=[],z8z:=0,mask:=0,down:=true}
theorem Dev.Ok.put {D:Dev}(h:D.Ok){n:Int}{s:Bytes}(hn:0<=n/\n<(D.B:Int))(hs:s.length=512*D.N):Dev.Ok {D with sf:=Yj D.sf n s}:=
 ⟨h.hB,h.hN,h.due,λx t hx=>by
  simp only[Yj] at hx;split at hx
  ·rename_i e
   cases hx;exact⟨by omega,by rw[e];exact hn.2,hs⟩
  ·exact h.sf x t hx,h.cache,h.len,h.reads⟩
theorem Dev.Ok.kept {D:Dev}(h:D.Ok)(n:Int):(D.kept n).length=512*D.N:=by
 unfold Dev.kept
 cases hs:D.sf n with
 |none=>simp[zeros]
 |some s=>exact(h.sf n s hs).2.2
theorem OA.put {w w':World}{p m:Nat}{kp ca:Value}{D:Dev}{kv:List (Int×Value)}{n:Int}{s:Bytes}(h:OA w p m kp ca D)(hs:∀n,getL kv n=(D.sf n).map S)(hm:TG KI w' m (putL kv n (S s)))(k:Kp (λi=>i=m) w w')
  (az:Dev.Ok {D with sf:=Yj D.sf n s}):OA w' p m kp ca {D with sf:=Yj D.sf n s}:=by
 obtain⟨kv0,⟨⟨es,c,hh,-⟩,-⟩,-⟩:=h.map
 refine⟨k.LY h.LY h.pm,⟨_,hm,λx=>?_⟩,?_,?_,az⟩
 ·rw[z6G,hs x];simp only[Yj];split<;>rfl
 ·refine h.cache.kp k λg hg pV=>?_;obtain⟨xs,fz',hx⟩:=PX h.cache hg;rw[pV,hh] at hx;cases hx
 ·refine h.P5.kp k λg hg pV=>?_;obtain⟨xs,fz',hx⟩:=PX h.P5 hg;rw[pV,hh] at hx;cases hx
theorem Rd.kpm {w w':World}{v:Value}{size n m:Nat}{cs:List Value}{kv:List (Int×Value)}(h:Rd w v size n cs)(hm:TG KI w m kv)(k:Kp (λi=>i=m) w w'):Rd w' v size n cs:=by
 obtain⟨h1,h2⟩:=h
 refine⟨h1,h2.imp id λ⟨b,off,cap,hv,hc⟩=>⟨b,off,cap,hv,λj u hj=>?_⟩⟩
 have zX:=hc j u hj
 obtain⟨⟨es,c,hh,-⟩,-⟩:=hm
 have bO:¬b=m:=λe=>by
  rw[e] at zX;simp[World.cell?,hh] at zX
 have aP:b<w.heap.size:=by
  rcases Nat.lt_or_ge b w.heap.size with h'|h'
  ·exact h'
  ·simp[World.cell?,Array.getElem?_eq_none h'] at zX
 rw[<-zX]
 simp only[World.cell?,k.block b aP bO]
theorem OA.zeH {w:World}{p m:Nat}{kp ca:Value}{D:Dev}(h:OA w p m kp ca D){g:Nat}(hg:ca.ownBlock=some g):¬g=p/\¬g=m/\¬kp.ownBlock=some g:=by
 obtain⟨xs,fz',hx⟩:=PX h.cache hg
 refine⟨λe=>?_,λe=>?_,λe=>?_⟩
 ·obtain⟨fz,hb,-⟩:=h.LY;rw[e,hb] at hx;cases hx
 ·obtain⟨kv,⟨⟨es,c,hh,-⟩,-⟩,-⟩:=h.map;rw[e,hh] at hx;cases hx
 ·obtain⟨ys,fy,hy⟩:=PX h.P5 e;rw[hx] at hy;cases hy
theorem OA.zfc {w:World}{p m:Nat}{kp ca:Value}{D:Dev}(h:OA w p m kp ca D){g:Nat}(hg:kp.ownBlock=some g):¬g=p/\¬g=m/\¬ca.ownBlock=some g:=by
 obtain⟨xs,fz',hx⟩:=PX h.P5 hg
 refine⟨λe=>?_,λe=>?_,λe=>?_⟩
 ·obtain⟨fz,hb,-⟩:=h.LY;rw[e,hb] at hx;cases hx
 ·obtain⟨kv,⟨⟨es,c,hh,-⟩,-⟩,-⟩:=h.map;rw[e,hh] at hx;cases hx
 ·obtain⟨ys,fy,hy⟩:=PX h.cache e;rw[hx] at hy;cases hy
theorem OA.lt {w:World}{p m:Nat}{kp ca:Value}{D:Dev}(h:OA w p m kp ca D):∀k,fpD p m kp ca k->k<w.heap.size:=by
 intro k hk
 rcases hk with rfl|rfl|hc|hc
 ·exact h.LY.lt
 ·obtain⟨kv,hm,-⟩:=h.map;exact hm.lt
 ·exact h.cache.lt hc
 ·exact h.P5.lt hc
theorem SF.kp {S F:Nat->Prop}{w w':World}{p:Nat}{D:Dev}(h:SF w p D F)(k:Kp S w w')(hn:∀i,F i->¬S i):SF w' p D F:=by
 obtain⟨m,kp,ca,h1,h2⟩:=h
 exact⟨m,kp,ca,h1.kp k λi hi=>hn i ((h2 i).2 hi),h2⟩
theorem SF.ext {F:Nat->Prop}{w w':World}{p:Nat}{D:Dev}(h:SF w p D F)(k:Ext w w'):SF w' p D F:=h.kp k λ_ _=>id
theorem SF.lt {F:Nat->Prop}{w:World}{p:Nat}{D:Dev}(h:SF w p D F):∀k,F k->k<w.heap.size:=by
 obtain⟨m,kp,ca,h1,h2⟩:=h
 intro k hk
 rcases (h2 k).1 hk with rfl|rfl|hc|hc
 ·exact h1.LY.lt
 ·obtain⟨kv,hm,-⟩:=h1.map;exact hm.lt
 ·exact h1.cache.lt hc
 ·exact h1.P5.lt hc
theorem Wk (n:Nat):((List.replicate n (Value.int .u8 0)).drop 0).take n=(zeros n).map PF:=by
 simp[zeros,PF]
section
variable {w:World}{p m:Nat}{kp ca:Value}{D:Dev}
theorem z2w (h:OA w p m kp ca D):Mw Tryz.prog 130 [ptr p 0] w λv w'=>v=I (D.B:Int)/\w'=w:=by
 have hM:=h.LY
 refine It (e:=[(0,_)]) Tryz.func130 O Tryz.ntmps130 O O$ qN O$ M4 O$ run_seq$ qN O$ LW O$ qV (N7 U27 O O)$ LX$ An O$ py$ qN O$ LW O$ MC O$ Ma X7 O ?_
 refine Ma Vy O$ qV (M1 U3 O O hM O)$ M4 O$ LZ Tryz.func130 O ?_
 exact⟨_,rfl,rfl,rfl⟩
theorem XO (h:OA w p m kp ca D):Mw Tryz.prog 89 [ptr p 0] w λv w'=>v=I ((512*D.N:Nat):Int)/\w'=w:=by
 have hM:=h.LY
 have hN:=h.ok.hN
 refine It (e:=[(0,_)]) Tryz.func89 O Tryz.ntmps89 O O$ qN O$ M4 O$ run_seq$ qN O$ LW O$ qV (N7 U27 O O)$ LX$ An O$ py$ qN O$ LW O$ MC O$ Ma X7 O ?_
 refine Ma VF O$ qV (M1 U3 O O hM O)$ qV (SB O O (by omega))$ M4 O$ LZ Tryz.func89 O (⟨_,rfl,?_,rfl⟩)
 show I _=I _
 congr 1;omega
theorem YC (h:OA w p m kp ca D):Mw Tryz.prog 193 [ptr p 0] w λv w'=>v=I (if D.down then 8 else 0)/\w'=w:=by
 have hM:=h.LY
 refine It (e:=[(0,_)]) Tryz.func193 O Tryz.ntmps193 O O$ qN O$ M4 O$ run_seq$ LU$ qN O$ LW O$ qV (N7 U27 O O)$ M4 O$ An O$ qN O$ LW O$ MC O$ Ma ZD O ?_
 refine qV (M1 U4 O O hM O)$ M4 O$ MZ O (λhd=>?_)$ λhd=>?_
 ·refine qN O$ M4 O$ LZ Tryz.func193 O ?_;exact⟨_,rfl,by simp[hd,resVal],rfl⟩
 ·refine py$ LV$ qN O$ M4 O$ LZ Tryz.func193 O ?_;exact⟨_,rfl,by simp[hd,resVal],rfl⟩
theorem z3Y (n:Int)(h:OA w p m kp ca D):Mw Tryz.prog 194 [ptr p 0,I n] w λv w'=>v= .bool (D.has n)/\w'=w:=by
 have hM:=h.LY
 refine It (e:=[(0,_),(1,_)]) Tryz.func194 O Tryz.ntmps194 O O$ qN O$ Me O$ qM O$ LW O$ PD O O$ P4 (λh1=>?_)$ λh1=>?_
 ·refine Md O O$ LW O$ MC O$ Ma X7 O$ Ma Vy O$ qV (M1 U3 O O hM O)$ Ni O O$ NC O O$ M4 O$ LZ Tryz.func194 O (⟨_,rfl,?_,rfl⟩);simp[Dev.has,h1,resVal]
 ·refine LW O$ qS$ qS$ qS$ qS$ qS$ qS$ qS$ MN O O$ M4 O$ LZ Tryz.func194 O (⟨_,rfl,?_,rfl⟩);simp[Dev.has,h1,resVal]
theorem z1p (n:Int)(h:OA w p m kp ca D):Mw Tryz.prog 222 [ptr p 0,I n] w λv w'=>v=S (D.kept n)/\Ext w w':=by
 have hM:=h.LY
 have hN:=h.ok.hN
 have eH:maxLen=9223372036854775807:=rfl
 obtain⟨kv,nA,mN⟩:=h.map
 refine It (e:=[(0,_),(1,_)]) Tryz.func222 O Tryz.ntmps222 O O$ qN O$ M4 O$ run_seq$ qN O$ LW O$ MC O$ Ma ZB O$ qV (M1 z1Q O O hM O)$ LW O$ qV (zfp (k:=n) (K:=KI) z1Q (OL U3) Z0 O O nA) ?_
 rw[mN n]
 cases hs:D.sf n with
 | some s =>
   refine LW O$ N5 O O$ N5 O O$ Me O$ Me O$ qM O$ LW O$ LX$ M9 O$ qN O$ LW O$ M4 O$ LZ Tryz.func222 O ?_
   exact⟨_,rfl,by simp[Dev.kept,hs,resVal],Ext.refl w⟩
 | none =>
   refine LW O$ N5 O O$ N5 O O$ Me O$ Me O$ qM O$ LW O$ LX$ An O$ py$ qN O$ LW O$ Mn zbn O (XO h) ?_;rintro _ w1 ⟨rfl,rfl⟩;refine M5 O O (pmk (c:=512*D.N) (n:=512*D.N) Nc TS O O O (by omega) (by omega) (by omega)) ?_;rintro _ w1 ⟨b1,rfl,⟨bR,ad,aj⟩,-⟩;refine qV (z2u (l:=zeros (512*D.N)) Nc U5 U9 O aj (Wk _) (by simp[zeros])) ?_;refine M4 O$ LZ Tryz.func222 O ?_;exact⟨_,rfl,by simp[Dev.kept,hs,resVal],ad⟩
theorem z19 (h:OA w p m kp ca D)(hc:D.calls<1000000000000):Mw Tryz.prog 219 [ptr p 0] w λv w'=>v= .bool (decide (D.due=1))/\OA w' p m kp ca D.count/\Kp (λk=>k=p) w w':=by
 have hM:=h.LY
 have pW:=h.ok.due
 have aA:=h.ok.len
 refine It (e:=[(0,_)]) Tryz.func219 O Tryz.ntmps219 O O$ qN O$ Me O$ qM O$ LW O$ MC O$ Ma z3F O$ qV (M1 U3 O O hM O)$ MT O O$ MC O$ Ma z3F O$ Mb O (NT MV O O O hM (by simp)) ?_
 rintro w1 ⟨dK,aK⟩
 refine LX$ run_seq$ qN O$ LW O$ MC O$ Ma Ta O$ Ma WJ O$ qV (M1 U3 O O dK O)$ O3 O O$ LX$ M8 O (λh0=>?_)$ λh0=>?_
 ·refine qN O$ M4 O$ LZ Tryz.func219 O ?_;have e0:(Vd kp ca m D).set (0+9) (I (D.calls+1))=Vd kp ca m D.count:=by simp[Vd,Dev.count,h0]
  rw[e0] at dK;exact⟨_,rfl,by simp[resVal];omega,h.turn dK aK O O O O h.ok.count,aK⟩
 ·refine py$ qN O$ LW O$ MC O$ Ma Ta O$ Ma WJ O$ qV (M1 U3 O O dK O)$ Oa O O$ MC O$ Ma Ta O$ Ma WJ O$ Mb O (NT MV O O O dK (by simp)) ?_;rintro w2 ⟨mw,ao⟩;refine qM O$ LW O$ MC O$ Ma Ta O$ Ma WJ O$ qV (M1 U3 O O mw O)$ O3 O O$ M4 O$ Mz.qb (e:=[(2,_)]) ?_;refine LZ Tryz.func219 O ?_;have e0:((Vd kp ca m D).set (0+9) (I (D.calls+1))).set (0+0+0) (I (D.due-1))=Vd kp ca m D.count:=by simp[Vd,Dev.count,h0]
  rw[e0] at mw;exact⟨_,rfl,by simp[resVal];omega,h.turn mw (aK.trans ao) O O O O h.ok.count,aK.trans ao⟩
end
theorem z4B (xs:List (Int×Bytes))(j:Nat)(h:j<xs.length):((wrs xs).drop (j*2)).take 2=wr xs[j]:=by
 induction xs generalizing j with
 |nil=>simp at h
 | cons x r ih =>
   cases j with
   |zero=>simp[wrs,wr,List.flatMap_cons]
   | succ j =>
     have e:(wrs (x::r))=I x.1::S x.2::wrs r:=by simp[wrs,wr,List.flatMap_cons]
     rw[e,show(j+1)*2=(j*2)+1+1 by omega]
     simpa using ih j (by simpa using h)
theorem Xg (a:Option Addr)(n cap:Nat)(w:World):Mw Tryz.prog 221 [.slice a n cap] w λv w'=>∃b,v= .func (.func 235) #[] #[ptr b 0]/\WB w b [.slice a n cap] 121 w':=by
 refine It (e:=[(0,_)]) Tryz.func221 O Tryz.ntmps221 O O$ qN O$ M5 O O (O2 O O) ?_
 rintro _ w1 ⟨b1,rfl,hN⟩
 refine Me O$ qM O$ qV (Zm (first:=[]) (caps:=[.tmp 1]) O O)$ M4 O$ LZ Tryz.func221 O ?_
 exact⟨_,rfl,_,rfl,hN⟩
theorem ZI (l bx:Nat)(ca:Value)(xs:List (Int×Bytes))(J:Nat->World->Prop)(Jx:World->Prop)(w:World)(hn:xs.length<4611686018427387904)
  (hJ:∀i w,J i w->(∃T,M7 w bx [ca] T)/\Sl w ca 334 2 xs.length (wrs xs))
  (hround:∀i w x,xs.reverse[i]? =some x->J i w->z05 Tryz.prog l [I ((xs.length:Int)-1-i),.agg (wr x).toArray] w λv w'=>(v= .bool true/\J (i+1) w')\/(v= .bool false/\Jx w')) (h0:J 0 w):
  Mw Tryz.prog 235 [.func (.yield l) #[] #[],ptr bx 0] w λv w'=>v= .tuple #[]/\(J xs.length w'\/Jx w'):=by
 obtain⟨⟨T,hM⟩,hS⟩:=hJ 0 w h0
 obtain⟨a,cap,rfl,ha⟩:=hS.rd.shape
 refine It (e:=[(0,_),(1,_)]) Tryz.func235 O Tryz.ntmps235 O O$ qN O$ qV (M1 Xv O O hM O)$ O9 Xv O$ Oa O O$ M4 O$ LU ?_
 rw[show(xs.length:Int)-1=(xs.length:Int)-1-((0:Nat):Int) by omega]
 refine Oh (α:=Nat) (0) (λi=>[(0,.func (.yield l) #[] #[]),(1,ptr bx 0),(3,I ((xs.length:Int)-1-i))]) (λi w=>i<=xs.length/\J i w) (λi=>xs.length-i) ?hI ?hround
 case hI=>exact⟨by omega,h0⟩
 case hround=>
  rintro i w1 ⟨hi,hj⟩ ih
  try dsimp only
  obtain⟨⟨T1,dK⟩,iM⟩:=hJ i w1 hj;refine run_seq$ qN O$ LW O$ PD O O$ LX$ M8 O (λjB=>?_)$ λjB=>?_
  ·have aP:i<xs.length:=by omega
   have zV:=iM.shape;rcases zV with⟨-,h⟩|⟨gb,cap',lA,jA⟩
   ·omega
   cases lA;obtain⟨x,hx⟩:∃x,xs.reverse[i]? =some x:=⟨_,List.getElem?_eq_getElem (by simpa using aP)⟩
   have fA:((wrs xs).drop ((xs.length-1-i)*2)).take 2=wr x:=by
    rw[z4B xs _ (by omega)]
    congr 1
    rw[List.getElem?_reverse aP,List.getElem?_eq_getElem (by omega)] at hx;exact NF hx
   have hz:((xs.length:Int)-1-i)=((xs.length-1-i:Nat):Int):=by omega
   have hy:=hround i w1 x hx hj;rw[hz] at hy⊢;refine py$ run_seq$ LU$ qN O$ Md O O$ qV (M1 Xv O O dK O)$ LW O$ qV (MS Xv SZ O O (by omega))$ qV (Mv zdK O SZ O (iM.part fA) O)$ z2D O O (yy O O) (hy) ?_;rintro v w2 hv;rcases hv with⟨rfl,kK⟩|⟨rfl,af⟩
   ·refine qV ((by first|exact MX O|exact Oy O)) ?_;refine LX$ An O$ py$ LV$ M0 O$ LW O$ Oa O O$ M4 O ?_;rw[show((xs.length-1-i:Nat):Int)-1=(xs.length:Int)-1-((i+1:Nat):Int) by omega];exact(ih (i+1) w2 ⟨by omega,kK⟩ (by omega)).qb
   ·refine qV ((by first|exact MX O|exact Oy O)) ?_;refine LX$ M9 O$ LZ Tryz.func235 O ?_;exact⟨_,rfl,rfl,.inr af⟩
  ·refine M6 O$ Nq Tryz.func235 O ?_;have:i=xs.length:=by omega
   subst this;exact⟨_,rfl,rfl,.inl hj⟩
theorem z1X (xs:List (Int×Bytes))(n:Int)(i:Nat):(∀j x,j<i->xs.reverse[j]? =some x->x.1≠n)->∀x,xs.reverse[i]? =some x->x.1=n->SU xs n=some x.2:=by
 intro gd x hx he
 have aP:i<xs.reverse.length:=by
  rcases Nat.lt_or_ge i xs.reverse.length with h| h
  ·exact h
  ·rw[List.getElem?_eq_none h] at hx;cases hx
 have:xs.reverse.find? (λx=>x.1==n)=some x:=by
  rw[List.find?_eq_some_iff_getElem];refine⟨by simp[he],i,aP,?_,λj hj=>?_⟩
  ·rw[List.getElem?_eq_getElem aP] at hx;exact NF hx
  ·have:=gd j _ hj (List.getElem?_eq_getElem (by omega))
   simpa using this
 simp[SU,this]
theorem z2z (xs:List (Int×Bytes))(n:Int):(∀j x,j<xs.length->xs.reverse[j]? =some x->x.1≠n)->SU xs n=none:=by
 intro gd
 have:xs.reverse.find? (λx=>x.1==n)=none:=by
  rw[List.find?_eq_none];intro x hx;obtain⟨j,hj,rfl⟩:=List.getElem_of_mem hx;have:=gd j _ (by simpa using hj) (List.getElem?_eq_getElem hj)
  simpa using this
 simp[SU,this]
theorem z8P {w:World}{p m:Nat}{kp ca:Value}{D:Dev}(n:Int)(h:OA w p m kp ca D)(hc:D.cache.length<1000000000000):
  Mw Tryz.prog 195 [ptr p 0,I n] w λv w'=>v=S (D.now n)/\Ext w w':=by
 have hM:=h.LY
 have aA:=h.ok.len
 have dU:=hc
 obtain⟨a,cap,rfl,ha⟩:=h.cache.rd.shape
 refine It (e:=[(0,_),(1,_)]) Tryz.func195 O Tryz.ntmps195 O O$ qN O$ M5 O O (O2 O O) ?_
 rintro _ w1 ⟨b3,rfl,ek,ad,ar⟩
 refine M5 O O (Oo (cs:=[_]) Z0 O) ?_
 rintro _ w2 ⟨b4,rfl,f9,af,aH⟩
 replace h:=(h.ext ad).ext af
 have mw:=h.LY
 refine LX$ run_seq$ qN O$ LW O$ MC O$ Ma Ut O$ qV (M1 Xv O O mw O)$ Mn zeh O (Xg a D.cache.length cap _) ?_
 rintro _ w3 ⟨bx,rfl,eZ,ai,gC⟩
 replace h:=h.ext ai
 replace ar:=ai.LY (af.LY ar)
 replace aH:=ai.LY aH
 refine LX$ LU$ Qk (ps:=[12,13]) (p:=[]) (q:=[_]) O zd6 ?_
 rintro l w4 ay hl cG hD Rc dM eW
 have Lt:=z7D dM eW
 have h3:=h
 replace h:=h.ext ay
 replace ar:=ay.LY ar
 replace aH:=ay.LY aH
 have km:=gC.lt
 have ko:=ar.lt
 have dW:=ad.size
 have cY:=af.size
 have oy:=ai.size
 have IX:bx<w3.heap.size:=gC.lt
 replace gC:=ay.LY gC
 refine Mw.mono (ZI l bx (.slice a D.cache.length cap) D.cache
  (λi w'=>Rc .ready none w'/\Kp (λk=>k=l) w4 w'/\∀j x,j<i->D.cache.reverse[j]? =some x->x.1≠n)
  (λw'=>Rc .done (some .ret) w'/\Kp (λk=>k=l\/k=b4) w4 w'/\M7 w' b4 [S (D.now n)] 9) w4 (by omega) ?_ ?_ ⟨eW,Kp.refl _ _,by omega⟩) ?_
 ·rintro i w' ⟨h1,h2,-⟩;refine⟨⟨_,h2.LY gC (by omega)⟩,h.cache.kp h2 λg hg ev=>?_⟩;have:=h3.cache.lt hg;omega
 ·rintro i w' x hx ⟨h1,h2,gd⟩;refine Rz dM h1 O O ?_;have wQ:=h2.size;refine M0 O$ M5 O O (Oo (cs:=[_,_]) SZ O) ?_;rintro _ w5 ⟨b6,rfl,mn,aW,aS⟩;refine Mb O (MO SZ O O O O aS (by simp)) ?_;rintro w6 ⟨mF,aR⟩;have aJ:=aW.LS aR (λi hi=>by omega);replace h1:=aJ.rc dM h1 id;replace h2:=h2.trans aJ.kp;have Dn:=aW.size;have IY:=mF.lt;refine LX$ run_beginRound O dM h1 ?_;rintro w7 h7 aD;have bK:=aD.LY mF (by omega);have kq:=(h2.trans aD).LY ar (by omega);refine LU$ qN O$ Ma WX O$ qV ((by first|exact M1 U3 O O bK O|exact M1 U3 O O kq O)) ?_;refine qV ((by first|exact M1 U3 O O bK O|exact M1 U3 O O kq O)) ?_;refine O3 O O$ LX$ M8 O (λdL=>?_)$ λdL=>?_
  ·have et:=(h2.trans aD).LY aH (by omega);refine qN O$ Ma z09 O$ qV ((by first|exact M1 U9 O O bK O|exact M1 U9 O O kq O)) ?_;refine Mb O (NT Z0 O O O et (by simp)) ?_;rintro w8 ⟨cu,bz⟩;refine LX$ Vc dM (bz.rc dM h7 (by omega)) ?_;intro w9 h9 aO;refine .inr ⟨rfl,h9,((h2.trans aD).Mc λ_ h=> .inl h).trans ((bz.Mc λ_ h=> .inr h).trans (aO.Mc λ_ h=> .inl h)),?_⟩
   have Do:D.now n=x.2:=by
    unfold Dev.now;rw[z1X D.cache n i gd x hx dL]
    rfl
   rw[Do];exact aO.LY cu (by omega)
  ·refine py$ LV$ S8 dM h7 ?_;intro w9 h9 aO;refine .inl ⟨rfl,h9,(h2.trans aD).trans aO,λj y hj hy=>?_⟩;rcases Nat.lt_or_ge j i with qY|qY
   ·exact gd j y qY hy
   ·have:j=i:=by omega
    subst this;rw[hx] at hy;cases hy;exact dL
 ·rintro v w' ⟨rfl,⟨h1,h2,gd⟩|⟨h1,h2,hB⟩⟩
  ·refine⟨_,_,h1,by simp,λw5 h5=>?_⟩;have ak:=h2.trans h5;have aW:Ext w3 w5:=ay.LS ak (λi hi=>by omega);replace h3:=h3.ext aW;have kq:=ak.LY ar (by omega);have et:=ak.LY aH (by omega);have tp:=ak.heap hD (by omega);refine LV$ qN O$ LW O$ qV (M1 U3 O O kq O)$ Mn z9K O (z1p n h3) ?_;rintro _ w6 ⟨rfl,aJ⟩;replace et:=aJ.LY et;replace tp:=aJ.heap tp id;refine Mb O (NT Z0 O O O et (by simp)) ?_;rintro w7 ⟨bK,aD⟩;replace tp:=aD.heap tp (by omega);have cu:=(Nz w7 w3.heap.size (.deferred none)).LY bK (by omega);refine LX$ Tk (by simp) (UM tp) Tryz.func195 (.cell1 U9 O O ((cu).cell _) .nil) ?_;refine⟨_,rfl,?_,?_⟩
   ·simp[Dev.now,z2z D.cache n gd,resVal]
   ·exact((((ad.trans (af.trans ai)).trans aW).trans aJ).LS aD (λi hi=>by omega)).LS (Nz w7 w3.heap.size (.deferred none)) (λi hi=>by omega)
  ·refine⟨_,_,h1,by simp,λw5 h5=>?_⟩;have tp:=(h2.trans (h5.Mc λ_ h=> .inl h)).heap hD (by omega);have aI:=h5.LY hB (by omega);have cu:=(Nz w5 w3.heap.size (.deferred none)).LY aI (by omega);refine Tk (by simp) (UM tp) Tryz.func195 (.cell1 U9 O O ((cu).cell _) .nil) ?_;refine⟨_,rfl,rfl,?_⟩;exact(((ad.trans (af.trans (ai.trans ay))).LS h2 (λi hi=>by omega)).LS h5 (λi hi=>by omega)).LS (Nz w5 w3.heap.size (.deferred none)) (λi hi=>by omega)
section
variable {w:World}{p m:Nat}{kp ca:Value}{D:Dev}
theorem z6R (h:OA w p m kp ca D):Mw Tryz.prog 148 [ptr p 0] w λv w'=>v= .bool D.down/\w'=w:=by
 have hM:=h.LY
 refine It (e:=[(0,_)]) Tryz.func148 O Tryz.ntmps148 O O$ qN O$ Me O$ qM O$ LW O$ qV (N7 U27 O O)$ Md O O$ MC O$ Ma ZD O$ qV (M1 U4 O O hM O)$ MN O O$ M4 O$ LZ Tryz.func148 O ?_
 exact⟨_,rfl,rfl,rfl⟩
end
theorem z5T (v:Value)(l:List Int)(x:Int)(w:World)(hl:l.length<=17592186044416)(hr:Rd w v 1 l.length (l.map I)):
  Mw Tryz.prog 208 [v,I x] w λu w'=>(∃k,u=I k/\(0<=k↔x∈l))/\w'=w:=by
 obtain⟨a,cap,rfl,ha⟩:=hr.shape
 refine It (e:=[(0,_),(1,_)]) Tryz.func208 O Tryz.ntmps208 O O$ qN O$ M4 O$ run_seq$ qN O$ LW O$ O9 O8 O$ LW O$ LX$ LU$ Oh (α:=Nat) (0) (λi=>[(0,.slice a l.length cap),(1,I x),(7,I (l.length:Int)),(8,I (i:Int))]) (λi w'=>w'=w/\i<=l.length/\∀j,j<i->l[j]?≠some x) (λi=>l.length-i) ?hI ?hround
 case hI=>exact⟨rfl,by omega,by omega⟩
 case hround =>
  rintro i _ ⟨rfl,hi,gd⟩ ih
  try dsimp only
  refine qN O$ Ni O O$ LX$ run_seq$ M8 O (λaP=>?_)$ λaP=>?_
  ·have fI:i<l.length:=by omega
   rcases hr.2 with⟨c,-,h⟩|⟨b,off,cap',lA,aV⟩
   ·omega
   cases lA;refine py$ run_seq$ LU$ qN O$ LW O$ Me O$ qM O$ Md O O$ LW O$ qV (MS O8 MV O O (by omega))$ qV (MA U3 O O (aV (i*1) (I l[i]) (by simp[fI]))) ?_;refine O3 O O$ LX$ M8 O (λdL=>?_)$ λdL=>?_
   ·refine qN O$ LW O$ M4 O$ LZ Tryz.func208 O (⟨_,rfl,⟨(i:Int),rfl,?_⟩,rfl⟩);constructor
    ·intro _;rw[dL];exact List.getElem_mem fI
    ·intro _;omega
   ·refine py$ LV$ M0 O$ MT O O$ LW O$ LX ?_
    exact(ih (i+1) _ ⟨rfl,by omega,λj hj=>by
     rcases Nat.lt_or_ge j i with h| h
     ·exact gd j h
     ·have:j=i:=by omega
      subst this;rw[List.getElem?_eq_getElem fI]
      exact λh=>dL (NF h).symm⟩ (by omega)).qb
  ·refine M6 O$ qN O$ M4 O$ LZ Tryz.func208 O (⟨_,rfl,⟨-1,rfl,?_⟩,rfl⟩);constructor
   ·intro h;omega
   ·intro h;obtain⟨j,hj,e⟩:=List.getElem_of_mem h;exact absurd (by rw[List.getElem?_eq_getElem hj,e]) (gd j (by omega))
theorem z07 (v:Value)(l:List Int)(x:Int)(w:World)(hl:l.length<=17592186044416)(hr:Rd w v 1 l.length (l.map I)):
  Mw Tryz.prog 234 [v,I x] w λu w'=>u= .bool (decide (x∈l))/\w'=w:=by
 refine It (e:=[(0,_),(1,_)]) Tryz.func234 O Tryz.ntmps234 O O$ qN O$ Me O$ qM O$ Md O O$ Mn zar O (z5T v l x w hl hr) ?_
 rintro _ w1 ⟨⟨k,rfl,hk⟩,rfl⟩
 refine PD O O$ M4 O$ LZ Tryz.func234 O (⟨_,rfl,?_,rfl⟩)
 simp only[resVal,hk]
theorem z2A (c x:Bytes)(rest:List Value)(i:Nat)(h:i+x.length<=c.length):NB (c.map PF++rest) i (x.map PF)=(z5O c i x).map PF++rest:=by
 unfold NB z5O
 rw[List.take_append_of_le_length (by simp;omega),List.drop_append_of_le_length (by simp;omega)]
 simp
theorem VB {D:Dev}{l:List Int}{tn:Int}{mk:UInt8}{i:Nat}{x:Int×Bytes}(hx:D.cache[i]? =some x):D.fallTo l tn mk (i+1)=
  if(i:Int)=tn then Yj (D.fallTo l tn mk i) x.1 (mixN mk (((D.fallTo l tn mk i) x.1).getD (zeros (512*D.N))) x.2 D.N)
   else if(i:Int)∈l then Yj (D.fallTo l tn mk i) x.1 x.2 else D.fallTo l tn mk i:=by
 simp only[Dev.fallTo,hx]
theorem z7i {w : World}{p m : Nat}{kp ca cv : Value}{D : Dev}(h : OA w p m kp ca D)(l : List Int)(tn : Int)(mk : UInt8)(hl : l.length <= 17592186044416)(hr : Rd w cv 1 l.length (l.map I))(dU : D.cache.length < 2000000000000) :
  Mw Tryz.prog 220 [ptr p 0,.agg #[cv,I tn,PF mk]] w λv w'=>v= .tuple #[]/\OA w' p m (.slice none 0 0) (.slice none 0 0) (D.z6x l tn mk)/\Kp (λk=>k=p\/k=m) w w':=by
 have aA:=h.ok.len
 have hN:=h.ok.hN
 have IZ:=mk.toNat_lt
 have J0:=h.pm
 have zY:=h.lt m (.inr (.inl O))
 have G8:∀{w':World},Ext w w'->w.heap.size<=w'.heap.size:=λh=>h.size
 obtain⟨a,cap,rfl,ha⟩:=h.cache.rd.shape
 obtain⟨ac,capc,rfl,Lu⟩:=hr.shape
 refine It (e:=[(0,_),(1,_)]) Tryz.func220 O Tryz.ntmps220 O O$ qN O$ M5 O O (O2 O O) ?_
 rintro _ w1 ⟨b3,rfl,ek,ad,ar⟩
 have h0:=h.ext ad
 have dW:=ad.size
 replace hr:=hr.ext ad
 have km:=ar.lt
 have hM:=h0.LY
 refine LX$ run_seq$ qN O$ LW O$ MC O$ Ma Ut O$ qV (M1 Xv O O hM O)$ O9 Xv O$ LW O$ LX$ LU$ Oh (α:=Nat) (0) (λi=>[(0,ptr p 0),(3,ptr b3 0),(11,.slice a D.cache.length cap),(12,I (D.cache.length:Int)),(13,I (i:Int))]) (λi wi=>i<=D.cache.length/\OA wi p m kp (.slice a D.cache.length cap) {D with sf:=D.fallTo l tn mk i}/\Rd wi (.slice ac l.length capc) 1 l.length (l.map I)/\M7 wi b3 [.slice ac l.length capc,I tn,PF mk] 118/\Kp (λk=>k=m) w1 wi) (λi=>D.cache.length-i) ?hI ?hround
 case hI=>exact⟨by omega,h0,hr,ar,Kp.refl _ _⟩
 case hround =>
  rintro i wi ⟨hi,hd,lY,ft,rT⟩ ih
  try dsimp only
  have J1:=rT.size;refine qN O$ Ni O O$ LX$ run_seq$ M8 O (λaP=>?_)$ λaP=>?_
  ·have fI : i < D.cache.length := by omega
   have nC:=hd.cache;rcases nC.shape with⟨-,h⟩|⟨gb,cap',lA,jA⟩
   ·exact absurd h (by show ¬D.cache.length=0;omega)
   cases lA;obtain⟨x,hx⟩:∃x,D.cache[i]? =some x:=⟨_,List.getElem?_eq_getElem fI⟩;have Fa:D.cache[i]=x:=by rw[List.getElem?_eq_getElem fI] at hx;exact NF hx
   have fA:((wrs D.cache).drop (i*2)).take 2=wr x:=by rw[z4B _ _ fI,Fa]
   have iC:=hd.ok.cache x (List.mem_of_getElem? hx);simp only at iC;have kS:=nC.part fA;refine py$ run_seq$ LU$ qN O$ LW O$ qV (MS Xv SZ O O (by omega))$ qV (Mv zdK O SZ O kS O)$ M5 O O (Oo (cs:=[_,_]) SZ O) ?_;rintro _ w2 ⟨b5,rfl,fE,af,aI⟩;refine Me O$ Mb O (MO SZ O O O O aI (by simp)) ?_;rintro w3 ⟨dy,au⟩;replace dy:M7 w3 b5 [I x.1,S x.2] 334:=dy;have ai:Ext wi w3:=af.LS au (λj hj=>by omega);have gR:=dy.lt;replace hd:=hd.ext ai;have lK:=hd.lt;replace lY:=lY.ext ai;have pX:=lY;replace ft:=ai.LY ft;have ko:=ft.lt;have cC:Kp (λk=>k=m) w1 w3:=rT.trans ai.kp;have J2:=ai.size;have G9:¬b3=b5:=by have:=af.size;have:=ft;omega
   refine LX$ LU$ qN O$ LW O$ Ma z9f O$ qV ((by first|exact M1 U3 O O ft O|exact M1 U3 O O dy O)) ?_;refine O3 O O$ M4 O$ M8 O (λzZ=>?_)$ λzZ=>?_
   ·refine qN O$ LW O$ Ma WX O$ qV ((by first|exact M1 U3 O O ft O|exact M1 U3 O O dy O)) ?_;refine Mn z9K O (z1p x.1 hd) ?_;rintro _ w4 ⟨rfl,ay⟩;obtain⟨k0,gU⟩:∃k0,Dev.kept {D with sf:=D.fallTo l tn mk i} x.1=k0:=⟨_,rfl⟩;have y5:k0.length=512*D.N:=by rw[<-gU];exact hd.ok.kept x.1
    rw[gU];refine M5 O O (z5y U9 Nc U5 O) ?_;rintro _ w5 ⟨bb,capb,rest,rfl,⟨ui,aW,uB⟩,Ga⟩;have dr:=ay.trans aW;replace hd:=hd.ext dr;replace lY:=lY.ext dr;replace ft:=dr.LY ft;replace dy:=dr.LY dy;have J3:=uB.lt;have uC:=hd.LY;have Gb:=dr.size;have J4:=ay.size;have J5:=hd.LY.lt;refine M4 O$ run_seq$ qN O$ LW O$ MC O$ Ma X7 O$ Ma VF O$ qV (M1 U3 O O uC O)$ LW O$ LX$ LU$ Oh (α:=Nat) (0) (λs=>[(0,ptr p 0),(3,ptr b3 0),(5,ptr b5 0),(6,.slice (some ⟨bb,0,none⟩) k0.length capb),(11,.slice (some ⟨gb,0,none⟩) D.cache.length cap),(12,I (D.cache.length:Int)),(13,I (i:Int)),(32,I (D.N:Int)),(33,I (s:Int))]) (λs ws=>s<=D.N/\M7 ws bb ((mixN mk k0 x.2 s).map PF++rest) 5/\Kp (λk=>k=bb) w5 ws) (λs=>D.N-s) ?hI ?hround
    case hI=>exact⟨by omega,uB,Kp.refl _ _⟩
    case hround=>
     rintro s ws ⟨hs,hC,eV⟩ ihs
     try dsimp only
     have pY:=eV.LY ft (by omega);have tq:=eV.LY dy (by omega);have eH:=SL mk k0 x.2 D.N y5 iC.2.2 s hs;refine qN O$ Ni O O$ LX$ run_seq$ M8 O (λgz=>?_)$ λgz=>?_
     ·have J6:s<D.N:=by omega
      obtain⟨q,hq⟩:∃q,mk.toNat / 2^s=q:=⟨_,rfl⟩;have Lv:q<256:=by rw[<-hq];exact Nat.lt_of_le_of_lt (Nat.div_le_self _ _) IZ
      refine py$ run_seq$ LU$ qN O$ LW O$ Me O$ qM O$ Ma z9H O$ qV (M1 U5 O O pY O)$ LW O$ qV (Qy s (2^s) O O (by simp only[IntKind.bits];omega) O) ?_;rw[hq];refine qV (zgv O O (by omega) (by omega)) ?_;rw[Nat.and_one_is_mod];refine O3 O O$ LX$ M8 O (λnq=>?_)$ λnq=>?_
      ·have nD:q%2=1:=by omega
       refine NV (λw'=>Kp (λk=>k=bb) ws w') O$ Mj 0 O O ((Kp.refl _ ws).drew)$ Mj 1 O O ((Kp.refl _ ws).drew)$ M3 2 O (SB O O (by omega)) ((Kp.refl _ ws).drew)$ Mj 3 O O ((Kp.refl _ ws).drew)$ M3 4 O (R4 O O (by omega)) ((Kp.refl _ ws).drew)$ M3 5 O (SB O O (by omega)) ((Kp.refl _ ws).drew)$ M3 7 O (My z09 O) ((Kp.refl _ ws).drew)$ qT 8 O (λ_ h=>M1 U9 O O (h.LY tq (by omega)) O) ((Kp.refl _ ws).drew)$ Mj 9 O O ((Kp.refl _ ws).drew)$ M3 10 O (SB O O (by omega)) ((Kp.refl _ ws).drew)$ M3 11 O (Ww U9 O O (by omega)) ((Kp.refl _ ws).drew)$ M3 6 O (zbK (i:=s*512) (j:=(s+1)*512) Nc TS O O O (by omega) (by omega)) ((Kp.refl _ ws).drew)$ qO 12 ?_;refine ON (i:=12) O O O (zg5 Nc TS O O ((Ext.Mm ws).LY hC) (by simp[eH];omega)) ?_;rintro _ w6 ⟨rfl,aS,aR⟩;refine⟨(Kp.refl _ ws).drew.trans aR,?_⟩
       have e6:((x.2.drop (s*512)).take ((s+1)*512-s*512)).map PF=((x.2.drop (512*s)).take 512).map PF:=by
        rw[show(s+1)*512-s*512=512 by omega,Nat.mul_comm]
       rw[e6,show 0+s*512*1=512*s by omega,z2A _ _ _ _ (by simp[eH,iC.2.2];omega)] at aS
       have em:mixN mk k0 x.2 (s+1)=z5O (mixN mk k0 x.2 s) (512*s) ((x.2.drop (512*s)).take 512):=by
        simp only[mixN,hq,nD,if_true]
       rw[<-em] at aS;refine qE$ LV$ M0 O$ MT O O$ LW O$ LX ?_;exact(ihs (s+1) w6 ⟨by omega,aS,eV.trans ((Kp.refl _ ws).drew.trans aR)⟩ (by omega)).qb
      ·have nD:¬q%2=1:=by omega
       have em:mixN mk k0 x.2 (s+1)=mixN mk k0 x.2 s:=by simp only[mixN,hq,nD,if_false]
       rw[<-em] at hC;refine py$ LV$ M0 O$ MT O O$ LW O$ LX ?_;exact(ihs (s+1) ws ⟨by omega,hC,eV⟩ (by omega)).qb
     ·have BK:s=D.N:=by omega
      subst BK;have uD:=hd.kp eV λk hk dO=>by have:=lK k hk;omega
      obtain⟨kv,nA,mN⟩:=uD.map;have Gc:=uD.LY;have pZ:Ext w3 ws:=dr.LS eV (λj hj=>by omega);have tr:=pX.ext pZ;refine M6 O$ NV (λw'=>Kp (λk=>k=m) ws w') O$ Mj 0 O O ((Kp.refl _ ws).drew)$ M3 1 O (N4 O) ((Kp.refl _ ws).drew)$ M3 2 O (My ZB O) ((Kp.refl _ ws).drew)$ qT 3 O (λ_ hS=>(by first|exact M1 z1Q O O (hS.LY Gc uD.pm) O|exact M1 z1Q O O (hS.LY tq (by omega)) O)) ((Kp.refl _ ws).drew) ?_;refine M3 4 O (My WX O) ((Kp.refl _ ws).drew)$ qT 5 O (λ_ hS=>(by first|exact M1 U3 O O (hS.LY Gc uD.pm) O|exact M1 U3 O O (hS.LY tq (by omega)) O)) ((Kp.refl _ ws).drew) ?_;refine Mj 6 O O ((Kp.refl _ ws).drew)$ qT 7 O (λ_ h=>z2u (l:=mixN mk k0 x.2 D.N) Nc U5 U9 O (h.LY hC (by omega)) (z1f _ _ _ (by omega)) (by omega)) ((Kp.refl _ ws).drew)$ qO 8$ MI (i:=8) O O (zmu (k:=x.1) (K:=KI) z1Q (OL U3) O O O (Ext.map (Ext.Mm ws) nA)) ?_;rintro w7 ⟨ge,aD⟩;refine⟨(Kp.refl _ ws).drew.trans aD,?_⟩;have iD:=(Kp.refl (λi=>i=m) ws).drew.trans aD;have ro:=uD.put mN ge iD (uD.ok.put ⟨iC.1,iC.2.1⟩ (SL mk k0 x.2 D.N y5 iC.2.2 D.N (Nat.le_refl _)))
      have ef:Yj (D.fallTo l tn mk i) x.1 (mixN mk k0 x.2 D.N)=D.fallTo l tn mk (i+1):=by
       rw[VB hx,if_pos zZ,<-gU];rfl
      simp only[ef] at ro;refine qE$ LV$ LV$ M0 O$ MT O O$ LW O$ LX ?_;exact(ih (i+1) w7 ⟨by omega,ro,tr.kpm nA iD,iD.LY pY (by omega),cC.trans (pZ.kp.trans iD)⟩ (by omega)).qb
   ·have y6:=hd.LY;refine qN O$ Ma z8T O$ qV ((by first|exact M1 O8 O O ft O|exact M1 O8 O O dy O)) ?_;refine LW O$ Mn zcx O (z07 (.slice ac l.length capc) l (i:Int) w3 hl pX) ?_;rintro _ w4 ⟨rfl,rfl⟩;refine M4 O$ M8 O (λaU=>?_)$ λaU=>?_
    ·obtain⟨kv,nA,mN⟩:=hd.map;refine NV (λw'=>Kp (λk=>k=m) w4 w') O$ Mj 0 O O ((Kp.refl _ w4).drew)$ M3 1 O (N4 O) ((Kp.refl _ w4).drew)$ M3 2 O (My ZB O) ((Kp.refl _ w4).drew)$ qT 3 O (λ_ hS=>(by first|exact M1 z1Q O O (hS.LY y6 hd.pm) O|exact M1 z1Q O O (hS.LY dy (by omega)) O)) ((Kp.refl _ w4).drew) ?_;refine M3 4 O (My WX O) ((Kp.refl _ w4).drew)$ qT 5 O (λ_ hS=>(by first|exact M1 U3 O O (hS.LY y6 hd.pm) O|exact M1 U3 O O (hS.LY dy (by omega)) O)) ((Kp.refl _ w4).drew) ?_;refine M3 6 O (My z09 O) ((Kp.refl _ w4).drew)$ qT 7 O (λ_ hS=>(by first|exact M1 U9 O O (hS.LY y6 hd.pm) O|exact M1 U9 O O (hS.LY dy (by omega)) O)) ((Kp.refl _ w4).drew) ?_;refine qO 8$ MI (i:=8) O O (zmu (k:=x.1) (K:=KI) z1Q (OL U3) O O O (Ext.map (Ext.Mm w4) nA)) ?_;rintro w7 ⟨ge,aD⟩;refine⟨(Kp.refl _ w4).drew.trans aD,?_⟩;have iD:=(Kp.refl (λi=>i=m) w4).drew.trans aD;have ro:=hd.put mN ge iD (hd.ok.put ⟨iC.1,iC.2.1⟩ iC.2.2)
     have ef:Yj (D.fallTo l tn mk i) x.1 x.2=D.fallTo l tn mk (i+1):=by
      rw[VB hx,if_neg zZ,if_pos aU]
     simp only[ef] at ro;refine qE$ LV$ LV$ M0 O$ MT O O$ LW O$ LX ?_;exact(ih (i+1) w7 ⟨by omega,ro,pX.kpm nA iD,iD.LY ft (by omega),cC.trans iD⟩ (by omega)).qb
    ·have ef:D.fallTo l tn mk i=D.fallTo l tn mk (i+1):=by
      rw[VB hx,if_neg zZ,if_neg aU]
     rw[ef] at hd;refine py$ LV$ LV$ M0 O$ MT O O$ LW O$ LX ?_;exact(ih (i+1) w4 ⟨by omega,hd,pX,ft,cC⟩ (by omega)).qb
  ·have aU:i=D.cache.length:=by omega
   subst aU;have y6:=hd.LY;refine M6 O$ qN O$ LW O$ MC O$ Ma Ut O$ Mb O (NT z3O O O O y6 (by simp)) ?_;rintro w5 ⟨aI,ak⟩;refine qM O$ LW O$ qV (OO (cs:=[_,_,_,_]) z4t O zc1 O O)$ MC O$ Ma Ta O$ Mb O (MO z4t O O O O aI (by simp)) ?_;rintro w6 ⟨aS,aR⟩;replace aS:M7 w6 p [I 0,.slice none 0 0,I 0,PF 0,I (D.B:Int),I (D.N:Int),.map (some m),.slice none 0 0,.bool D.down,I D.calls,I D.reads] 123:=aS;refine LX$ M0 O$ LW O$ MC O$ Ma ZD O$ Mb O (NT Sx O O O aS (by simp)) ?_;rintro w7 ⟨bK,aD⟩;refine LX$ Nq Tryz.func220 O ?_;have kr:=(ak.trans aR).trans aD;obtain⟨kv,nA,mN⟩:=hd.map;refine⟨_,rfl,rfl,⟨bK,⟨kv,kr.map nA λe=>hd.pm e.symm,mN⟩,Sl.nil w7 _ _,Sl.nil w7 _ _,?_⟩,?_⟩
   ·exact⟨hd.ok.hB,hd.ok.hN,by simp[Dev.z6x],hd.ok.sf,λx hx=>by simp[Dev.z6x] at hx,by have:=aA;simp[Dev.z6x];omega,hd.ok.reads⟩
   ·exact((Ext.kp ad).trans (rT.Mc λ_ h=> .inr h)).trans (kr.Mc λ_ h=> .inl h)
def Dev.push (D:Dev)(n:Int)(s:Bytes):Dev:={D with cache:=D.cache++[(n,s)]}
theorem z7j {P:Program}{e:Env}{d:Option Nat}{ty t t':TypeId}{pos:String}{aft:Array Edge}{g:Option (Nat×Bool)}{x y:Operand}{w:World}{a b:Int}(hx:look e x=some (I a))(hy:look e y=some (I b)):Y P e ⟨d,.binOp .add t x y t',ty,pos,aft,g⟩ (I (IntKind.i64.wrap (a+b))) w w:=fun ρ hρ=>by simp[execOp,go_sem,hρ _ _ hx,hρ _ _ hy]
def Dev.zaG (D:Dev):Dev:=D.z6x D.P5 D.z8z D.mask
def Dev.write (D:Dev)(n:Int)(s:Bytes):Dev×Int:=
 if D.down then(D,8)
 else if D.has n=false\/s.length≠512*D.N then(D,1)
 else if D.due=1 then(((D.push n s).count).zaG,8) else((D.push n s).count,0)
def Dev.read (D:Dev)(n:Int):Dev×Bytes×Int:=
 if D.down then(D,[],8) else if D.has n=false then(D,[],1) else({D with reads:=IntKind.i64.wrap (D.reads+1)},D.now n,0)
def Yb (w:World)(p m:Nat)(kp ca:Value)(D':Dev)(w':World):Prop:=∃kp' ca',OA w' p m kp' ca' D'/\Upd (fpD p m kp ca) (fpD p m kp' ca') w w'
theorem Yb.same {w w':World}{p m:Nat}{kp ca:Value}{D:Dev}(h:OA w' p m kp ca D)(k:Ext w w'):Yb w p m kp ca D w':=⟨kp,ca,h,k.Yj⟩
theorem z7Q {w w':World}{p m:Nat}{kp ca:Value}(k:Kp (λi=>i=p\/i=m) w w'):Upd (fpD p m kp ca) (fpD p m (.slice none 0 0) (.slice none 0 0)) w w':=
 ⟨k.Mc λi hi=>hi.elim .inl λh=> .inr (.inl h),λi hi=>by
  rcases hi with h|h|h| h
  ·exact .inl (.inl h)
  ·exact .inl (.inr (.inl h))
  ·cases h
  ·cases h⟩
section
variable {w:World}{p m:Nat}{kp ca:Value}{D:Dev}
theorem z7C (n:Int)(h:OA w p m kp ca D)(hc:D.Bd):
  Mw Tryz.prog 152 [ptr p 0,I n] w λv w'=>v= .tuple #[S (D.read n).2.1,I (D.read n).2.2]/\Yb w p m kp ca (D.read n).1 w':=by
 refine It (e:=[(0,_),(1,_)]) Tryz.func152 O Tryz.ntmps152 O O$ qN O$ Me O$ M4 O$ run_seq$ qN O$ LW O$ Mn zah O (YC h) ?_
 rintro _ w1 ⟨rfl,rfl⟩
 cases hd:D.down with
 | true =>
   refine Me O$ qM O$ LW O$ N9 O O$ LX$ M8 O (λhz=>?_)$ λhz=>?_
   ·refine qN O$ LW O$ Me O$ M4 O$ LZ Tryz.func152 O ?_;have e:D.read n=(D,[],8):=by simp[Dev.read,hd]
    rw[e];exact⟨_,rfl,rfl,Yb.same h (Ext.refl _)⟩
   ·exact absurd (by decide) hz
 | false =>
   refine Me O$ qM O$ LW O$ N9 O O$ LX$ M8 O (λhz=>?_)$ λhz=>?_
   ·exact absurd hz (by decide)
   ·refine py$ run_seq$ qN O$ Md O O$ Mn zaw O (z3Y n h) ?_;rintro _ w2 ⟨rfl,rfl⟩
    cases hh:D.has n with
    | false =>
      refine qV ((by first|exact MX O|exact Oy O)) ?_;refine LX$ M9 O$ qN O$ Me O$ M4 O$ LZ Tryz.func152 O ?_;have e:D.read n=(D,[],1):=by simp[Dev.read,hd,hh]
      rw[e]
      exact⟨_,rfl,rfl,Yb.same h (Ext.refl _)⟩
    | true =>
      refine qV ((by first|exact MX O|exact Oy O)) ?_;refine LX$ An O ?_;have hM:=h.LY;refine py$ qN O$ LW O$ MC O$ Ma z3U O$ qV (M1 U3 O O hM O)$ qV (z7j O O)$ MC O$ Ma z3U O$ Mb O (NT MV O O O hM (by simp)) ?_;rintro w3 ⟨Dp,au⟩;have h3:=h.turn (D':={D with reads:=IntKind.i64.wrap (D.reads+1)}) Dp au O O O O ⟨h.ok.hB,h.ok.hN,h.ok.due,h.ok.sf,h.ok.cache,h.ok.len,trivial⟩;refine qM O$ Md O O$ Mn zcB O (z8P n h3 hc.2.1) ?_;rintro _ w4 ⟨rfl,ay⟩;refine Me O$ M4 O$ LZ Tryz.func152 O ?_;have e:D.read n=({D with reads:=IntKind.i64.wrap (D.reads+1)},D.now n,0):=by simp[Dev.read,hd,hh]
      rw[e];exact⟨_,rfl,rfl,kp,ca,h3.ext ay,(au.Mc λ_ h=> .inl h).trans ay.kp,λ_ h=> .inl h⟩
theorem z5n (n : Int)(s : Bytes)(h : OA w p m kp ca D)(hc : D.Bd)(hk : D.P5.length <= 17592186044416) :
  Mw Tryz.prog 192 [ptr p 0,I n,S s] w λv w'=>v=I (D.write n s).2/\Yb w p m kp ca (D.write n s).1 w':=by
 have eH:maxLen=9223372036854775807:=rfl
 obtain⟨dP,dU,lS⟩:=hc
 have J7:=h.ok.len
 refine It (e:=[(0,_),(1,_),(2,_)]) Tryz.func192 O Tryz.ntmps192 O O$ qN O$ M4 O$ run_seq$ qN O$ LW O$ Mn zah O (YC h) ?_
 rintro _ w1 ⟨rfl,rfl⟩
 cases hd:D.down with
 | true =>
   refine Me O$ qM O$ LW O$ N9 O O$ LX$ M8 O (λhz=>?_)$ λhz=>?_
   ·refine qN O$ LW O$ M4 O$ LZ Tryz.func192 O ?_;have e:D.write n s=(D,8):=by simp[Dev.write,hd]
    rw[e];exact⟨_,rfl,rfl,Yb.same h (Ext.refl _)⟩
   ·exact absurd (by decide) hz
 | false =>
   refine Me O$ qM O$ LW O$ N9 O O$ LX$ M8 O (λhz=>?_)$ λhz=>?_
   ·exact absurd hz (by decide)
   ·refine py$ run_seq$ qN O$ Md O O$ Mn zaw O (z3Y n h) ?_;rintro _ w2 ⟨rfl,rfl⟩
    cases hh:D.has n with
    | false =>
      refine qV ((by first|exact MX O|exact Oy O)) ?_;refine LW O$ qS$ qS$ qS$ qS$ qS$ NC O O$ LX$ M9 O$ qN O$ M4 O$ LZ Tryz.func192 O ?_;have e:D.write n s=(D,1):=by simp[Dev.write,hd,hh]
      rw[e]
      exact⟨_,rfl,rfl,Yb.same h (Ext.refl _)⟩
    | true =>
      have hn:0<=n/\n<(D.B:Int):=by simpa[Dev.has] using hh
      refine qV ((by first|exact MX O|exact Oy O)) ?_;refine Md O O$ qV (Rr U9 O)$ LW O$ Mn zbn O (XO h) ?_;rintro _ w3 ⟨rfl,rfl⟩;refine N9 O O$ MN O O$ LX$ M8 O (λcG=>?_)$ λcG=>?_
      ·refine qN O$ M4 O$ LZ Tryz.func192 O ?_
       have e:D.write n s=(D,1):=by
        have:s.length≠512*D.N:=by omega
        simp[Dev.write,hd,hh,this]
       rw[e];exact⟨_,rfl,rfl,Yb.same h (Ext.refl _)⟩
      ·have fT:s.length=512*D.N:=by omega
       obtain⟨a,cap,rfl,ha⟩:=h.cache.rd.shape;have hM:=h.LY;refine py$ qN O$ Md O O$ MC O$ Ma Ut O$ qV (M1 Xv O O hM O)$ Md O O$ qV (OO (cs:=[_,_]) SZ O zet O O)$ M5 O O (SA (cs:=[_,_]) (zs:=[Value.int .i64 0,Value.string ⟨#[]⟩]) Xv SZ O (by kernel_rfl) O O O (by decide)) ?_;rintro _ w4 ⟨b4,rfl,⟨f9,ay,aH⟩,dV⟩;have nE:=h.cache.ext ay;refine M5 O O (pap Xv SZ O (by decide) O O nE dV.rd (by intro c hc;simp at hc;rcases hc with rfl|rfl<;>rfl) (by omega) (by omega)) ?_;rintro v' w5 ⟨fC,ak,rp,-⟩;have D6:oneV v'=true:=by rcases fC.shape with⟨rfl,-⟩|⟨g,cap,rfl,-⟩<;>rfl
       have h4:=h.ext ay
       have jj:∀g,(Value.slice a D.cache.length cap).ownBlock=some g->¬g=p:=λg hg pV=>by
        obtain⟨xs,fz',hx⟩:=PX h4.cache hg;obtain⟨fz,hb,-⟩:=h4.LY;rw[pV,hb] at hx;cases hx
       have uC:=ak.LY h4.LY (λhg=>jj p hg O);refine MC O$ Ma Ut O$ Mb O (NT z3O O O D6 uC (by simp)) ?_;rintro w6 ⟨aS,aR⟩;have eQ:=h.LY.lt
       have h6:OA w6 p m kp v' (D.push n s):=by
        refine⟨aS,?_,?_,?_,?_⟩
        ·obtain⟨kv,nA,mN⟩:=h4.map;exact⟨kv,aR.map (ak.map nA λhg=>(h4.zeH hg).2.1 O) λe=>h4.pm e.symm,mN⟩
        ·have e:wrs (D.push n s).cache=wrs D.cache++[I n,S s]:=by simp[Dev.push,wrs,wr]
         have e2:(D.push n s).cache.length=D.cache.length+1:=by simp[Dev.push]
         rw[e,e2];refine fC.kp aR λg hg=>?_;rcases rp g hg with h'|h'
         ·exact(h4.zeH h').1
         ·have:=ay.size;omega
        ·refine(h4.P5.kp ak λg hg hc=>(h4.zfc hg).2.2 hc).kp aR λg hg=>(h4.zfc hg).1
        ·refine⟨h.ok.hB,h.ok.hN,h.ok.due,h.ok.sf,λx hx=>?_,h.ok.len,h.ok.reads⟩;simp only[Dev.push,List.mem_append,List.mem_singleton] at hx;rcases hx with hx|rfl
         ·exact h.ok.cache x hx
         ·exact⟨hn.1,hn.2,fT⟩
       refine LX$ Mz.qb (e:=[(0,_),(6,_)]) ?_;refine run_seq$ qN O$ LW O$ Mn zc4 O (z19 h6 dP) ?_;rintro _ w7 ⟨rfl,h7,aD⟩
       have hu:Upd (fpD p m kp (.slice a D.cache.length cap)) (fpD p m kp v') w3 w7:=by
        refine⟨(ay.kp.trans (ak.Mc λi hi=> .inr (.inr (.inl hi)))).trans ((aR.Mc λi hi=> .inl hi).trans (aD.Mc λi hi=> .inl hi)),λi hi=>?_⟩;rcases hi with h'|h'|h'|h'
        ·exact .inl (.inl h')
        ·exact .inl (.inr (.inl h'))
        ·rcases rp i h' with Gd|Gd
         ·exact .inl (.inr (.inr (.inl Gd)))
         ·have:=ay.size;exact .inr (by omega)
        ·exact .inl (.inr (.inr (.inr h')))
       refine LX$ M8 O (λpW=>?_)$ λpW=>?_
       ·have J8:=h7.LY;refine qN O$ Md O O$ MC O$ Ma Ta O$ Ma z8K O$ qV (Mv zgJ O z7y O (M7.cells (n:=3) J8 (news:=[_,_,_]) O) O)$ Mn zdc O (z7i h7 D.P5 D.z8z D.mask hk (h7.P5.rd) (by show(D.cache++[(n,s)]).length<2000000000000;simp;omega)) ?_;rintro _ w8 ⟨rfl,h8,bz⟩;refine qM O$ M4 O$ LZ Tryz.func192 O ?_
        have e:D.write n s=(((D.push n s).count).zaG,8):=by
         have nF:D.due=1:=pW;simp[Dev.write,hd,hh,fT,nF]
        rw[e];exact⟨_,rfl,rfl,_,_,h8,hu.trans (z7Q bz)⟩
       ·refine py$ qN O$ M4 O$ LZ Tryz.func192 O ?_
        have e:D.write n s=((D.push n s).count,0):=by
         have nF:¬D.due=1:=pW;simp[Dev.write,hd,hh,fT,nF]
        rw[e];exact⟨_,rfl,rfl,_,_,h7,hu⟩
end
section
variable {w:World}{p m:Nat}{kp ca:Value}{D:Dev}
def Dev.z3C (D:Dev)(n:Nat):List Bytes:=(List.range n).map λj:Nat=>D.now (j:Int)
@[simp] theorem imageTo_length (D:Dev) (n:Nat):(D.z3C n).length=n:=by simp[Dev.z3C]
theorem z7q {w:World}{v:Value}{e size n:Nat}{cs:List Value}(h:Sl w v e size n cs):oneV v=true:=by
 rcases h.shape with⟨rfl,-⟩|⟨g,cap,rfl,-⟩<;>rfl
end
def W8 (b n:Int):Prop:=16<=b/\b<=4096/\1<=n/\n<=8
instance (b n:Int):Decidable (W8 b n):=by unfold W8;infer_instance
def Dev.fresh (B N:Nat):Dev:=⟨0,[],0,0,B,N,λ_=>none,[],false,0,0⟩
theorem z5o (b n:Int)(w:World):Mw Tryz.prog 52 [.agg #[I b,I n]] w λv w'=>v=I (if W8 b n then 0 else 1)/\Ext w w':=by
 refine It (e:=[(0,_)]) Tryz.func52 O Tryz.ntmps52 O O$ qN O$ M5 O O (O2 O O) ?_
 rintro _ w1 ⟨b1,rfl,bR,ad,aj⟩
 by_cases hg:W8 b n
 ·obtain⟨g1,g2,g3,g4⟩:=hg;refine M4 O$ run_seq$ qN O$ Ma Vy O$ qV (M1 U3 O O aj O)$ Ni O O$ ML$ LW O$ Ma Vy O$ qV (M1 U3 O O aj O)$ Ng O O$ ML$ MN O O$ LW O ?_;refine Ma VF O$ qV (M1 U3 O O aj O)$ Ni O O$ ML$ MN O O$ LW O$ Ma VF O$ qV (M1 U3 O O aj O)$ Ng O O$ ML$ MN O O$ LX$ An O$ py ?_;refine qN O$ M4 O$ LZ Tryz.func52 O ?_;exact⟨_,rfl,by rw[if_pos ⟨g1,g2,g3,g4⟩];rfl,ad⟩
 ·refine M4 O$ run_seq$ qN O$ Ma Vy O$ qV (M1 U3 O O aj O)$ Ni O O$ P4 (λh1=>?_)$ λh1=>?_
  ·refine LW O$ qS$ qS$ qS$ NC O O$ LW O$ qS$ qS$ qS$ NC O O$ LW O$ qS$ qS$ qS ?_;refine NC O O$ LX$ M9 O$ qN O$ M4 O$ LZ Tryz.func52 O ?_;exact⟨_,rfl,by rw[if_neg hg];rfl,ad⟩
  ·refine LW O$ Ma Vy O$ qV (M1 U3 O O aj O)$ Ng O O$ MN O O$ P4 (λh2=>?_)$ λh2=>?_
   ·refine LW O$ qS$ qS$ qS$ NC O O$ LW O$ qS$ qS$ qS$ NC O O$ LX$ M9 O$ qN O$ M4 O ?_;refine LZ Tryz.func52 O ?_;exact⟨_,rfl,by rw[if_neg hg];rfl,ad⟩
   ·refine LW O$ Ma VF O$ qV (M1 U3 O O aj O)$ Ni O O$ MN O O$ P4 (λh3=>?_)$ λh3=>?_
    ·refine LW O$ qS$ qS$ qS$ NC O O$ LX$ M9 O$ qN O$ M4 O$ LZ Tryz.func52 O ?_;exact⟨_,rfl,by rw[if_neg hg];rfl,ad⟩
    ·have:8<n:=by unfold W8 at hg;omega
     refine LW O$ Ma VF O$ qV (M1 U3 O O aj O)$ Ng O O$ O4$ MN O O$ LX$ M9 O$ qN O$ M4 O$ LZ Tryz.func52 O ?_;exact⟨_,rfl,by rw[if_neg hg];rfl,ad⟩
theorem zaP (B N:Nat)(w:World)(hg:W8 B N):Mw Tryz.prog 27 [.agg #[I (B:Int),I (N:Int)]] w λv w'=>∃p m,v= .tuple #[ptr p 0,I 0]/\OA w' p m (.slice none 0 0) (.slice none 0 0) (Dev.fresh B N)/\Ext w w'/\w.heap.size<=p/\w.heap.size<=m:=by
 obtain⟨g1,g2,g3,g4⟩:=hg
 refine It (e:=[(0,_)]) Tryz.func27 O Tryz.ntmps27 O O$ qN O$ M5 O O (O2 O O) ?_
 rintro _ w1 ⟨b1,rfl,bR,ad,aj⟩
 refine Me O$ M4 O$ run_seq$ qN O$ qV (Mv U80 O z6S O (M7.cells (n:=2) aj (news:=[_,_]) O) O)$ Mn zfL O (z5o B N _) ?_
 rintro _ w2 ⟨rfl,af⟩
 rw[if_pos ⟨g1,g2,g3,g4⟩]
 replace aj:=af.LY aj
 refine Me O$ qM O$ LW O$ N9 O O$ LX$ M8 O (λhz=>?_)$ λhz=>?_
 ·exact absurd hz (by decide)
 ·refine py$ qN O$ qV (Mv U80 O z6S O (M7.cells (n:=2) aj (news:=[_,_]) O) O)$ M5 O O (pmm) ?_;rintro _ w3 ⟨m,rfl,hm,ai,Dp⟩;refine qV (OO (cs:=[_,_,_,_,_,_,_,_,_,_,_]) zce O zdv O O)$ M5 O O (O2 O O) ?_;rintro _ w4 ⟨p,rfl,hp,ay,aH⟩;refine Me O$ M4 O$ LZ Tryz.func27 O ?_;have dW:=ad.size;have cY:=af.size;have oy:=ai.size;have J9:TG KI w4 m []:=⟨⟨#[],0,ay.heap Dp id,rfl⟩,by simp⟩;refine⟨_,rfl,p,m,rfl,⟨aH,⟨[],J9,λn=>rfl⟩,Sl.nil w4 _ _,Sl.nil w4 _ _,?_⟩,((ad.trans af).trans ai).trans ay,by omega,by omega⟩;exact⟨⟨by show 16<=B;omega,by show B<=4096;omega⟩,⟨by show 1<=N;omega,by show N<=8;omega⟩,(by simp[Dev.fresh]),(λn s h=>by cases h),(λx hx=>by cases hx),(by simp[Dev.fresh]),(by simp[Dev.fresh])⟩
def over (s:Bytes)(at':Nat)(d:Bytes):Bytes:=s.take at'++d++s.drop (at'+d.length)
def Dev.zaB (D:Dev)(n at':Int)(d:Bytes):Prop:=D.has n=true/\0<=at'/\at'+(d.length:Int)<=((512*D.N:Nat):Int)
instance (D:Dev) (n at':Int) (d:Bytes):Decidable (D.zaB n at' d):=by unfold Dev.zaB;infer_instance
def zfC (n:Int)(a:Nat)(d:Bytes)(x:Int×Bytes):Int×Bytes:=if x.1=n then(x.1,over x.2 a d) else x
def zat (n:Int)(a:Nat)(d:Bytes)(l:List (Int×Bytes))(i:Nat):List (Int×Bytes):=(l.take i).map (zfC n a d)++l.drop i
@[simp] theorem corTo_length (n:Int) (a:Nat) (d:Bytes) (l:List (Int×Bytes)) (i:Nat):(zat n a d l i).length=l.length:=by simp[zat];omega
theorem z2F (l:List (Int×Bytes))(x:Int×Bytes)(n:Int):SU (l++[x]) n=if x.1=n then some x.2 else SU l n:=by
 unfold SU
 rw[List.reverse_append,List.reverse_singleton,List.singleton_append,List.find?_cons]
 by_cases h:x.1=n
 ·simp[h]
 ·have hb:(x.1==n)=false:=by simpa using h
  simp[hb,h]
/-! ### Bounds -/
def Dev.Small (D:Dev)(k:Nat):Prop:=D.calls<=k/\D.cache.length<=k/\True/\D.P5.length<=17592186044416
theorem Dev.Small.bd {D:Dev}{k:Nat}(h:D.Small k)(hk:k<1000000000000):D.Bd:=⟨by have:=h.1;omega,by have:=h.2.1;omega,trivial⟩
/-! ### By footprints -/
def z5r (w:World)(p:Nat)(F:Nat->Prop)(D':Dev)(w':World):Prop:=∃F',SF w' p D' F'/\Upd F F' w w'
theorem Yb.toA {w w':World}{p m:Nat}{kp ca:Value}{D':Dev}{F:Nat->Prop}(hF:∀k,F k↔fpD p m kp ca k)(h:Yb w p m kp ca D' w'):z5r w p F D' w':=by
 have e:F=fpD p m kp ca:=funext λk=>propext (hF k)
 subst e
 obtain⟨kp',ca',h1,h2⟩:=h
 exact⟨_,⟨m,kp',ca',h1,λk=>Iff.rfl⟩,h2⟩
section
variable {w:World}{p:Nat}{D:Dev}{F:Nat->Prop}
theorem z4K (h:SF w p D F):Mw Tryz.prog 148 [ptr p 0] w λv w'=>v= .bool D.down/\w'=w:=by
 obtain⟨m,kp,ca,h1,hF⟩:=h;exact z6R h1
theorem z63 (h:SF w p D F):Mw Tryz.prog 89 [ptr p 0] w λv w'=>v=I ((512*D.N:Nat):Int)/\w'=w:=by
 obtain⟨m,kp,ca,h1,hF⟩:=h;exact XO h1
theorem T3 (h:SF w p D F):Mw Tryz.prog 130 [ptr p 0] w λv w'=>v=I (D.B:Int)/\w'=w:=by
 obtain⟨m,kp,ca,h1,hF⟩:=h;exact z2w h1
theorem z2x (n:Int)(s:Bytes)(h:SF w p D F){k:Nat}(hs:D.Small k)(hk:k<1000000000000):
  Mw Tryz.prog 192 [ptr p 0,I n,S s] w λv w'=>v=I (D.write n s).2/\z5r w p F (D.write n s).1 w':=by
 obtain⟨m,kp,ca,h1,hF⟩:=h
 exact(z5n n s h1 (hs.bd hk) hs.2.2.2).mono λv w' ⟨e,h2⟩=>⟨e,h2.toA hF⟩
theorem z57 (n:Int)(h:SF w p D F){k:Nat}(hs:D.Small k)(hk:k<1000000000000):
  Mw Tryz.prog 152 [ptr p 0,I n] w λv w'=>v= .tuple #[S (D.read n).2.1,I (D.read n).2.2]/\z5r w p F (D.read n).1 w':=by
 obtain⟨m,kp,ca,h1,hF⟩:=h
 exact(z7C n h1 (hs.bd hk)).mono λv w' ⟨e,h2⟩=>⟨e,h2.toA hF⟩
theorem z97 (B N:Nat)(w:World)(hg:W8 B N):Mw Tryz.prog 27 [.agg #[I (B:Int),I (N:Int)]] w λv w'=>∃p F,v= .tuple #[ptr p 0,I 0]/\SF w' p (Dev.fresh B N) F/\Ext w w'/\∀i,F i->w.heap.size<=i:=
 (zaP B N w hg).mono λv w' ⟨p,m,e,h,hx,h1,h2⟩=>⟨p,_,e,⟨m,_,_,h,λk=>Iff.rfl⟩,hx,λi hi=>by
  rcases hi with h|h|h| h
  ·omega
  ·omega
  ·cases h
  ·cases h⟩
end
theorem z5r.kpF {w w':World}{p:Nat}{F:Nat->Prop}{D':Dev}(h:z5r w p F D' w'):Kp F w w':=by
 obtain⟨F',-,hu⟩:=h
 exact hu.1
def nrm (z b:Int):Int:=(z.tmod b+b).tmod b
theorem R7 (z b:Int)(hb:0<b): -b<z.tmod b/\z.tmod b<b:=by
 have h2:=Int.tmod_lt_of_pos z hb
 refine⟨?_,h2⟩
 have h3:=Int.tmod_lt_of_pos (-z) hb
 rw[Int.neg_tmod] at h3
 omega
theorem Tn (z b:Int)(hb:0<b):0<=nrm z b/\nrm z b<b:=by
 obtain⟨h1,h2⟩:=R7 z b hb
 unfold nrm
 exact⟨Int.tmod_nonneg _ (by omega),Int.tmod_lt_of_pos _ hb⟩
theorem z80 {D:Dev}{n:Int}{s:Bytes}(hd:D.down=false)(h0:D.due=0)(hn:0<=n/\n<(D.B:Int))(hs:s.length=512*D.N):D.write n s=((D.push n s).count,0):=by
 have hh:D.has n=true:=by simp[Dev.has];omega
 unfold Dev.write
 rw[if_neg (by simp[hd]),if_neg (by simp[hh,hs]),if_neg (by omega)]
def grow:Nat->Bytes->Nat->Bytes
 |0,s,_=>s
 |f+1,s,n=>if s.length<n then grow f (s++s) n else s
def fill (s:Bytes)(n:Nat):Bytes:=(grow (n+1) (if s=[] then [0] else s) n).take n
section
variable {κ:Type}[DecidableEq κ]{K:κ->Value}{P:Program}{e:Env}{d:Option Nat}{ty t kt el:TypeId}{pos:String}{aft:Array Edge}{g:Option (Nat×Bool)}{x y u:Operand}{w:World}{m:Nat}{z:Value}{size bytes:Nat}{k:κ}
theorem zgG (ht:P.underlying t=some (.map kt el))(hK:Ky P kt K)(hz:TI P el z size bytes)(hx:look e x=some (.map none))(hy:look e y=some (K k)):
  Y P e ⟨d,.lookup t x y false,ty,pos,aft,g⟩ z w w:=fun ρ hρ=>by
 have zO:=hz.zero (w:=w)
 have rF:=λb=>hK.same.choose_spec.2.2 w b 9999 k
 have hu:=hK.same.choose_spec.1
 simp[execOp,hρ _ _ hx,hρ _ _ hy,Instr.lookup,run_underlying ht,rF,zO,Instr.findKey,run_underlying hu,Instr.findNow]
end
structure QM (w:World)(ks mp:Value)(l:List Int):Prop where
 sl:Sl w ks 3 1 l.length (l.map I)
 mp:(mp= .map none/\l=[])\/∃b,mp= .map (some b)/\Pk KI w b (l.map λk=>(k,I 1))
 n:l.length<=8192
def Fq (ks mp:Value)(b:Nat):Prop:=ks.ownBlock=some b\/mp= .map (some b)
section
variable {w w':World}{ks mp:Value}{l:List Int}{S:Nat->Prop}{c o:Nat}{cs:List Value}{k:Int}
theorem QM.kp (h:QM w ks mp l)(hk:Kp S w w')(hn:∀b,Fq ks mp b->¬S b):QM w' ks mp l:=
 ⟨h.sl.kp hk λg e=>hn g (.inl e),by
  rcases h.mp with e|⟨b,e,hm⟩
  ·exact .inl e
  ·exact .inr ⟨b,e,hm.kp hk (hn b (.inr e))⟩,h.n⟩
theorem QM.lt (h:QM w ks mp l){b:Nat}(hb:Fq ks mp b):b<w.heap.size:=by
 rcases hb with e| e
 ·exact h.sl.lt e
 ·rcases h.mp with⟨e',-⟩|⟨b',e',hm⟩
  ·rw[e'] at e;cases e
  ·rw[e'] at e;cases e;exact hm.lt
theorem QM.ne (h:QM w ks mp l){b:Nat}(hb:ks.ownBlock=some b):mp≠ .map (some b):=λe=>by
 obtain⟨cur,h1⟩:=h.sl.typed hb
 rcases h.mp with⟨e',-⟩|⟨b',e',hm⟩
 ·rw[e'] at e;cases e
 ·rw[e'] at e;cases e;obtain⟨⟨es,cl,h2,-⟩,-⟩:=hm;rw[h1] at h2;cases h2
theorem QM.nd (h:QM w ks mp l):l.Nodup:=by
 rcases h.mp with⟨-,e⟩|⟨b',e',hm⟩
 ·rw[e];exact List.nodup_nil
 ·have:=hm.nd;rw[List.map_map] at this;have e:((λp:Int×Value=>p.1) ∘ λk:Int=>(k,I 1))=id:=rfl;rw[e,List.map_id] at this;exact this
theorem z0W (l:List Int)(k:Int):getL (l.map λk=>(k,I 1)) k=if k∈l then some (I 1) else none:=by
 induction l with
 |nil=>rfl
 | cons a l ih =>
   show(if k=a then some (I 1) else getL (l.map λk=>(k,I 1)) k)=_;rw[ih];by_cases h:k=a
   ·simp[h]
   ·simp[h]
theorem z6D (l:List Int)(k:Int):delL (l.map λk=>(k,I 1)) k=(l.erase k).map λk=>(k,I 1):=by
 induction l with
 |nil=>rfl
 | cons a l ih =>
   show(if k=a then l.map (λk=>(k,I 1)) else(a,I 1)::delL (l.map λk=>(k,I 1)) k)=_;rw[ih,List.erase_cons];by_cases h:k=a
   ·subst h;simp
   ·rw[if_neg h,if_neg (by simpa using λe=>h e.symm)];rfl
theorem yqk {P:Program}{e:Env}{d:Option Nat}{ty t kt el:TypeId}{pos:String}{aft:Array Edge}{g:Option (Nat×Bool)}{x y:Operand}{bytes:Nat}(ht:P.underlying t=some (.map kt el))(hK:P.underlying kt=some (.int .i64))(hz:TI P el (I 0) 1 bytes)(hx:look e x=some mp)(hy:look e y=some (I k))(hq:QM w ks mp l):
  Y P e ⟨d,.lookup t x y false,ty,pos,aft,g⟩ (I (if k∈l then 1 else 0)) w w:=by
 rcases hq.mp with⟨rfl,rfl⟩|⟨b,rfl,hm⟩
 ·rw[if_neg (by simp)];exact zgG (k:=k) (K:=KI) ht (OL hK) hz hx hy
 ·have h:=ylk (k:=k) (K:=KI) (d:=d) (ty:=ty) (pos:=pos) (aft:=aft) (g:=g) ht (OL hK) hz hx hy hm.l;rw[z0W] at h;by_cases hk:k∈l
  ·rw[if_pos hk] at h⊢;exact h
  ·rw[if_neg hk] at h⊢;exact h
theorem z7m (hB:M7 w c cs 191)(h1:cs[o+1]? =some mp)(hq:QM w ks mp l):Mw Tryz.prog 176 [ptr c o,I k] w λv w'=>v= .bool (decide (k∈l))/\w'=w:=by
 refine It (e:=[(0,_),(1,_)]) Tryz.func176 O Tryz.ntmps176 O O$ qN O$ Me O$ qM O$ LW O$ MC O$ Ma UK O$ qV (M1 TH O O hB h1)$ LW O$ qV (yqk (k:=k) TH U3 MV O O hq)$ Ng O O$ M4 O$ LZ Tryz.func176 O (⟨_,rfl,?_,rfl⟩)
 by_cases hk:k∈l
 ·simp[hk,resVal]
 ·simp[hk,resVal]
theorem z3q {lv:Value}(x:Int)(hR:Rd w lv 1 l.length (l.map I))(hl:l.length<=4294967296):
  Mw Tryz.prog 208 [lv,I x] w λv w'=>w'=w/\((x∉l/\v=I (-1))\/∃i:Nat,v=I (i:Int)/\l[i]? =some x/\x∉l.take i):=by
 obtain⟨a,cap,rfl,-⟩:=hR.shape
 refine It (e:=[(0,_),(1,_)]) Tryz.func208 O Tryz.ntmps208 O O$ qN O$ M4 O$ run_seq$ qN O$ LW O$ O9 O8 O$ LW O$ LX$ LU$ Oh (α:=Nat) (0) (λi=>[(0,.slice a l.length cap),(1,I x),(7,I (l.length:Int)),(8,I (i:Int))]) (λi w'=>w'=w/\i<=l.length/\x∉l.take i) (λi=>l.length-i) ?hI ?hround
 case hI=>exact⟨rfl,Nat.zero_le _,by simp⟩
 case hround=>
  rintro i wi ⟨rfl,hi,gd⟩ ih
  try dsimp only
  refine qN O$ Ni O O$ LX$ run_seq$ M8 O (λaP=>?_)$ λaP=>?_
  ·have q9:i<l.length:=by omega
   obtain⟨s,nG⟩:∃s,l[i]? =some s:=⟨_,List.getElem?_eq_getElem q9⟩
   obtain⟨lb,lo,lc,e5⟩:∃b o c',Value.slice a l.length cap= .slice (some ⟨b,o,none⟩) l.length c':=by
    rcases hR.2 with⟨c,hc,h0⟩|⟨b,off,c',hc,-⟩
    ·omega
    ·exact⟨b,off,c',hc⟩
   cases e5;refine py$ run_seq$ LU$ qN O$ LW O$ Me O$ qM O$ Md O O$ LW O$ qV (MS O8 MV O O (by omega))$ qV (MA U3 O O (Na hR (show(l.map I)[i]? =some (I s) by rw[List.getElem?_map,nG];rfl))) ?_;refine O3 O O$ LX$ M8 O (λhe=>?_)$ λhe=>?_
   ·refine qN O$ LW O$ M4 O$ LZ Tryz.func208 O ?_;exact⟨_,rfl,rfl,.inr ⟨i,rfl,by rw[he];exact nG,gd⟩⟩
   ·refine py$ LV$ M0 O$ MT O O$ LW O$ LX ((ih (i+1) _ ⟨rfl,q9,λhh=>?_⟩ (by omega)).qb);rw[MP nG,List.mem_append,List.mem_singleton] at hh;rcases hh with h| h
    ·exact gd h
    ·exact he h
  ·have:i=l.length:=by omega
   subst this;rw[List.take_length] at gd;refine M6 O$ qN O$ M4 O$ LZ Tryz.func208 O ?_;exact⟨_,rfl,rfl,.inl ⟨gd,rfl⟩⟩
theorem z6p {i:Nat}{x:Int}(h:l[i]? =some x)(hn:x∉l.take i):l.take i++l.drop (i+1)=l.erase x:=by
 obtain⟨hi,e⟩:=List.getElem?_eq_some_iff.1 h
 conv=>rhs;rw[<-List.take_append_drop i l]
 rw[List.erase_append_right _ hn,List.drop_eq_getElem_cons hi,e,List.erase_cons_head]
theorem z0J {α:Type}{l:List α}{i:Nat}{a:α}(h:l[i]? =some a):l.set i a=l:=by
 obtain⟨hi,e⟩:=List.getElem?_eq_some_iff.1 h
 rw[<-e,List.set_getElem_self]
theorem z4N (hB:M7 w c cs 191)(h0:cs[o]? =some ks)(h1:cs[o+1]? =some mp)(hq:QM w ks mp l)(nc:¬Fq ks mp c):Mw Tryz.prog 177 [ptr c o,I k] w λv w'=>∃ks',v= .tuple #[]/\M7 w' c (cs.set o ks') 191/\QM w' ks' mp (l.erase k)/\(∀b,Fq ks' mp b->Fq ks mp b)/\Kp (λb=>b=c\/Fq ks mp b) w w':=by
 have hn:=hq.n
 have fw:=hq.nd
 refine It (e:=[(0,_),(1,_)]) Tryz.func177 O Tryz.ntmps177 O O$ qN O$ LW O$ MC O$ Ma N0 O$ qV (M1 O8 O O hB h0)$ LW O$ Mn zar O (z3q k hq.sl.rd (by omega)) ?_
 rintro _ w ⟨rfl,hv⟩
 rcases hv with⟨hk,rfl⟩|⟨i,rfl,hi,uA⟩
 ·refine Me O$ qM O$ LW O$ PD O O$ ML$ LX$ An O$ py$ Nq Tryz.func177 O (⟨_,rfl,ks,rfl,?_,?_,λb hb=>hb,Kp.refl _ _⟩)
  ·rw[z0J h0];exact hB
  ·rw[List.erase_of_not_mem hk];exact hq
 ·have Dq:k∈l:=List.mem_of_getElem? hi;have cy:=(List.getElem?_eq_some_iff.1 hi).1;refine Me O$ qM O$ LW O$ PD O O$ O4$ LX$ M9 O$ qN O$ Md O O$ MC O$ Ma N0 O$ qV (M1 O8 O O hB h0)$ Md O O$ MT O O ?_;refine Mn zbQ O (z86 hq.sl (λc hc=>by obtain⟨z,-,rfl⟩:=List.mem_map.1 hc;rfl) cy (by omega)) ?_;rintro ks2 w2 ⟨cH,ao,qa⟩
  have e2:(l.map I).take i++(l.map I).drop (i+1)=(l.erase k).map I:=by
   rw[<-List.map_take,<-List.map_drop,<-List.map_append,z6p hi uA]
  rw[e2] at cH;have jE:(l.erase k).length=l.length-1:=List.length_erase_of_mem Dq;rw[<-jE] at cH;have jh:¬ks.ownBlock=some c:=λe=>nc (.inl e);have am:=ao.LY hB jh;refine MC O$ Ma N0 O$ Mb O (NT z32 O O (z7q cH) am (by have:=(List.getElem?_eq_some_iff.1 h0).1;omega)) ?_;rintro w3 ⟨ar,au⟩
  obtain⟨b,rfl,hm⟩:∃b,mp= .map (some b)/\Pk KI w b (l.map λk=>(k,I 1)):=by
   rcases hq.mp with⟨-,e⟩| h
   ·rw[e] at Dq;cases Dq
   ·exact h
  have Ge:c≠b:=λe=>nc (.inr (by rw[e]));have zx:ks.ownBlock≠some b:=λe=>hq.ne e O;have y7:o+1<cs.length:=(List.getElem?_eq_some_iff.1 h1).1;have kX:=(hm.kp ao zx).kp au (λe=>Ge e.symm);have Dh:(cs.set (o+0) ks2)[o+1]? =some (Value.map (some b)):=by rw[List.getElem?_set_ne (by omega)];exact h1
  refine LX$ M0 O$ LW O$ MC O$ Ma UK O$ qV (M1 TH O O ar Dh)$ LW O$ z8g O (zbo (k:=k) (K:=KI) TH (OL U3) O O kX O) ?_;rintro _ w4 ⟨A0,av⟩;rw[z6D] at A0;refine LX$ Mz.qb (e:=[]) ?_;refine Nq Tryz.func177 O ?_;have kj:Kp (λj=>j=c\/Fq ks (.map (some b)) j) w w4:=((ao.Mc λj e=> .inr (.inl e)).trans (au.Mc λj e=> .inl e)).trans (av.Mc λj e=> .inr (.inr (by rw[e])));exact⟨_,rfl,ks2,rfl,av.LY ar Ge,⟨(cH.kp au λg e e'=>nc (.inl (e'▸qa g e))).kp av λg e e'=>zx (e'▸qa g e),.inr ⟨b,rfl,A0⟩,by omega⟩,λj hj=>hj.imp (qa j) id,kj⟩
theorem z8d (hB:M7 w c cs 191)(h0:cs[o]? =some ks)(h1:cs[o+1]? =some mp)(hq:QM w ks mp l)(nc:¬Fq ks mp c)(hk:k∉l)(hl:l.length<=8191):Mw Tryz.prog 187 [ptr c o,I k] w λv w'=>∃ks' mp',v= .tuple #[]/\M7 w' c ((cs.set (o+1) mp').set o ks') 191/\QM w' ks' mp' (l++[k])/\(∀b,Fq ks' mp' b->Fq ks mp b\/w.heap.size<=b)/\Kp (λb=>b=c\/Fq ks mp b) w w':=by
 have hn:=hq.n
 have fw:=hq.nd
 have lc:=hB.lt
 have y7:o+1<cs.length:=(List.getElem?_eq_some_iff.1 h1).1
 obtain⟨mo,rfl,A1⟩:∃mo,mp= .map mo/\((mo=none/\l=[])\/∃b,mo=some b/\Pk KI w b (l.map λk=>(k,I 1))):=by
  rcases hq.mp with⟨e,e2⟩|⟨b,e,e2⟩
  ·exact⟨_,e,.inl ⟨rfl,e2⟩⟩
  ·exact⟨_,e,.inr ⟨b,rfl,e2⟩⟩
 refine It (e:=[(0,_),(1,_)]) Tryz.func187 O Tryz.ntmps187 O O$ run_seq$ qN O$ LW O$ MC O$ Ma UK O$ qV (M1 TH O O hB h1)$ qV (zdh TH O O)$ LX$ MM (λe' w'=>∃b,e'=[(0,ptr c o),(1,I k)]/\M7 w' c (cs.set (o+1) (.map (some b))) 191/\Pk KI w' b (l.map λk=>(k,I 1))/\Sl w' ks 3 1 l.length (l.map I)/\(mo=some b\/w.heap.size<=b)/\Kp (λj=>j=c) w w'/\b≠c/\ks.ownBlock≠some b) ?cA$ λcA=>?cS
 case cA=>
  rintro e' w1 ⟨b,rfl,aj,dK,iM,hb,aK,Gf,gy⟩;have oQ:(cs.set (o+1) (Value.map (some b)))[o+1]? =some (.map (some b)):=List.getElem?_set_self y7;have eI:(cs.set (o+1) (Value.map (some b)))[o]? =some ks:=by rw[List.getElem?_set_ne (by omega)];exact h0
  have z1:=aK.size;refine qN O$ LW O$ MC O$ Ma UK O$ qV (M1 TH O O aj oQ)$ LW O$ Mb O (zbL (k:=k) (K:=KI) TH (OL U3) O O O dK) ?_;rintro w2 ⟨mw,ao⟩;rw[R3 _ _ _ (by rw[z0W,if_neg hk])] at mw;have am:=ao.LY aj (λe=>Gf e.symm);have cH:=iM.kp ao (λg e e'=>gy (e'▸e));refine LX$ M0 O$ Md O O$ MC O$ Ma N0 O$ qV (M1 O8 O O am eI)$ LW O$ M5 O O (SA (cs:=[_]) (zs:=[Value.int .i64 0]) O8 MV O (by kernel_rfl) O O O (by decide)) ?_;rintro _ w3 ⟨b24,rfl,⟨Ja,ai,gG⟩,Dr⟩;have lb:=mw.lt;have z2:=ao.size;refine M5 O O (pap O8 MV O (by decide) O O (cH.ext ai) Dr.rd (by intro c hc;simp at hc;subst hc;rfl) (by omega) (by simp only[maxLen];omega)) ?_;rintro ks4 w4 ⟨dV,av,Gg,-⟩;have z3:=ai.size;have z4:=av.size;have jh:ks.ownBlock≠some c:=λe=>nc (.inl e);have aH:=av.LY (ai.LY am) jh;have A0:=(mw.ext ai).kp av gy;refine MC O$ Ma N0 O$ Mb O (NT z32 O O (z7q dV) aH (by rw[List.length_set];omega)) ?_;rintro w5 ⟨aI,ak⟩;refine LX$ Nq Tryz.func187 O ?_
  have lk4:∀g,ks4.ownBlock=some g->g≠c:=λg e e'=>by
   rcases Gg g e with h| h
   ·exact jh (e'▸h)
   ·omega
  have aA:(l++[k]).length=l.length+1:=by simp
  refine⟨_,rfl,ks4,.map (some b),rfl,aI,⟨?_,.inr ⟨b,rfl,?_⟩,by omega⟩,λj hj=>?_,?_⟩
  ·rw[List.map_append,aA];exact dV.kp ak λg e e'=>lk4 g e e'
  ·rw[List.map_append];exact A0.kp ak Gf
  ·rcases hj with hj|hj
   ·rcases Gg j hj with h| h
    ·exact .inl (.inl h)
    ·exact .inr (by omega)
   ·cases hj;rcases hb with h| h
    ·exact .inl (.inr (by rw[h]))
    ·exact .inr h
  ·have Dt:Kp (λj=>j=c\/Fq ks (.map mo) j) w w2:=by
    rcases hb with h| h
    ·exact(aK.Mc λj e=> .inl e).trans (ao.Mc λj e=> .inr (.inr (by rw[h,e])))
    ·exact(aK.Mc λj e=> .inl e).LS ao (λj e=>by omega)
   exact((Dt.trans ai.kp).trans (av.Mc λj e=> .inr (.inl e))).trans (ak.Mc λj e=> .inl e)
 case cS=>
  rcases A1 with⟨rfl,rfl⟩|⟨b,rfl,hm⟩
  ·refine M9 O$ M0 O$ LW O$ M5 O O (pmm) ?_;rintro _ w1 ⟨b,rfl,hb,ad,cM⟩;have dK:Pk KI w1 b []:=Pk.new cM;have aj:=ad.LY hB;refine MC O$ Ma UK O$ Mb O (NT z4v O O O aj y7) ?_;rintro w2 ⟨am,ao⟩;refine LX ?_;have lb:=dK.lt;exact(cA _ _ ⟨b,rfl,am,dK.kp ao (by omega),(hq.sl.ext ad).kp ao (λg e e'=>nc (.inl (e'▸e))),.inr (by omega),ad.kp.trans ao,by omega,λe=>by have:=hq.sl.lt e;omega⟩).qb
  ·refine An O$ py ?_;exact(cA _ _ ⟨b,rfl,by rw[z0J h1];exact hB,hm,hq.sl,.inl O,Kp.refl _ _,λe=>nc (.inr (by rw[e])),λe=>hq.ne e O⟩).qb
end
def Arc.li (A:Arc):Nat->List Int
 |0=>A.once
 |1=>A.often
 |2=>A.Mk
 |_=>A.Mf
def Arc.Nr (A:Arc):Nat->List Int->Arc
 |0,l=>{A with once:=l}
 |1,l=>{A with often:=l}
 |2,l=>{A with Mk:=l}
 |_,l=>{A with Mf:=l}
theorem Arc.zaN (A:Arc){j:Nat}(hj:j<4)(l:List Int)(i:Nat)(hi:i<4):(A.Nr j l).li i=if i=j then l else A.li i:=by
 match j,hj,i,hi with
 |0,_,0,_|0,_,1,_|0,_,2,_|0,_,3,_|1,_,0,_|1,_,1,_|1,_,2,_|1,_,3,_|2,_,0,_|2,_,1,_|2,_,2,_|2,_,3,_|3,_,0,_|3,_,1,_|3,_,2,_|3,_,3,_=>rfl
def z4R (V:Nat->Value×Value)(j:Nat)(q:Value×Value)(i:Nat):Value×Value:=if i=j then q else V i
def acC (S:Nat)(T:Int)(V:Nat->Value×Value)(p:Nat):List Value:=[I (S:Int),(V 0).1,(V 0).2,(V 1).1,(V 1).2,(V 2).1,(V 2).2,(V 3).1,(V 3).2,I T,.map (some p)]
abbrev FV (V:Nat->Value×Value)(j b:Nat):Prop:=Fq (V j).1 (V j).2 b
structure Ps (w:World)(c:Nat)(A:Arc)(V:Nat->Value×Value)(p:Nat):Prop where
 LY:M7 w c (acC A.size A.target V p) 191
 q:∀j,j<4->QM w (V j).1 (V j).2 (A.li j)
 pins:TG KI w p []
 S4:∀i j,i<4->j<4->i≠j->∀b,FV V i b->¬FV V j b
 nc:∀j,j<4->¬FV V j c
 np:∀j,j<4->¬FV V j p
 cp:c≠p
def Pf (c:Nat)(V:Nat->Value×Value)(p b:Nat):Prop:=b=c\/b=p\/∃j,j<4/\FV V j b
section
variable {w w' w2:World}{c p:Nat}{A A' A2:Arc}{V V' V2:Nat->Value×Value}{S:Nat->Prop}{k:Int}
theorem Ps.kp (h:Ps w c A V p)(hk:Kp S w w')(hn:∀b,Pf c V p b->¬S b):Ps w' c A V p:=
 ⟨hk.LY h.LY (hn _ (.inl O)),λj hj=>(h.q j hj).kp hk λb hb=>hn b (.inr (.inr ⟨j,hj,hb⟩)),hk.map h.pins (hn _ (.inr (.inl O))),h.S4,h.nc,h.np,h.cp⟩
theorem Ps.ext (h:Ps w c A V p)(hx:Ext w w'):Ps w' c A V p:=h.kp (S:=λ_=>False) hx λ_ _=>id
theorem Ps.lt (h:Ps w c A V p){b:Nat}(hb:Pf c V p b):b<w.heap.size:=by
 rcases hb with e|e|⟨j,hj,hb⟩
 ·rw[e];exact h.LY.lt
 ·rw[e];exact h.pins.lt
 ·exact(h.q j hj).lt hb
structure SG (w:World)(c:Nat)(V:Nat->Value×Value)(p:Nat)(w':World)(A':Arc)(V':Nat->Value×Value):Prop where
 m:Ps w' c A' V' p
 fp:∀b,Pf c V' p b->Pf c V p b\/w.heap.size<=b
 k:Kp (Pf c V p) w w'
theorem SG.trans (h:SG w c V p w' A' V')(h2:SG w' c V' p w2 A2 V2):SG w c V p w2 A2 V2:=
 ⟨h2.m,λb hb=>by
  rcases h2.fp b hb with e| e
  ·exact h.fp b e
  ·exact .inr (by have:=h.k.size;omega),h.k.LS h2.k λb hb=>(h.fp b hb).symm⟩
theorem Ps.r (h:Ps w c A V p)(hx:Ext w w'):SG w c V p w' A V:=⟨h.ext hx,λb hb=> .inl hb,hx.kp⟩
theorem Ps.Yj {j:Nat}(hj:j<4)(h:Ps w c A V p){ks mp:Value}{l:List Int}(hB:M7 w' c (acC A.size A.target (z4R V j (ks,mp)) p) 191)(hs:(A.Nr j l).size=A.size/\(A.Nr j l).target=A.target)(hq:QM w' ks mp l)(hf:∀b,Fq ks mp b->FV V j b\/w.heap.size<=b)(hk:Kp (λb=>b=c\/FV V j b) w w'):SG w c V p w' (A.Nr j l) (z4R V j (ks,mp)):=by
 have aP:∀{b:Nat},Pf c V p b->b<w.heap.size:=h.lt
 have aU:∀i,i<4->i≠j->∀b,FV V i b->¬(b=c\/FV V j b):=λi hi i7 b hb e=>by
  rcases e with e| e
  ·exact h.nc i hi (e▸hb)
  ·exact h.S4 i j hi hj i7 b hb e
 have dW:∀i,i≠j->z4R V j (ks,mp) i=V i:=λi e=>if_neg e
 have cY:z4R V j (ks,mp) j=(ks,mp):=if_pos O
 refine⟨⟨by rw[hs.1,hs.2];exact hB,λi hi=>?_,hk.map h.pins (λe=>?_),λi i2 hi dA bO b hb bY=>?_,λi hi hb=>?_,λi hi hb=>?_,h.cp⟩,λb hb=>?_,hk.Mc λb hb=>?_⟩
 ·rw[Arc.zaN A hj l i hi];by_cases e:i=j
  ·rw[if_pos e,e,cY];exact hq
  ·rw[if_neg e,dW i e];exact(h.q i hi).kp hk λb hb=>aU i hi e b hb
 ·rcases e with e| e
  ·exact h.cp e.symm
  ·exact h.np j hj e
 ·by_cases e:i=j
  ·have e2:i2≠j:=λe2=>bO (e.trans e2.symm);unfold FV at hb bY;rw[e,cY] at hb;rw[dW i2 e2] at bY;rcases hf b hb with h1|h1
   ·exact h.S4 j i2 hj dA (λe3=>e2 e3.symm) b h1 bY
   ·have:=aP (.inr (.inr ⟨i2,dA,bY⟩));omega
  ·unfold FV at hb bY;rw[dW i e] at hb;by_cases e2:i2=j
   ·rw[e2,cY] at bY;rcases hf b bY with h1|h1
    ·exact h.S4 i j hi hj e b hb h1
    ·have:=aP (.inr (.inr ⟨i,hi,hb⟩));omega
   ·rw[dW i2 e2] at bY;exact h.S4 i i2 hi dA bO b hb bY
 ·by_cases e:i=j
  ·unfold FV at hb;rw[e,cY] at hb;rcases hf c hb with h1|h1
   ·exact h.nc j hj h1
   ·have:=h.LY.lt;omega
  ·unfold FV at hb;rw[dW i e] at hb;exact h.nc i hi hb
 ·by_cases e:i=j
  ·unfold FV at hb;rw[e,cY] at hb;rcases hf p hb with h1|h1
   ·exact h.np j hj h1
   ·have:=h.pins.lt;omega
  ·unfold FV at hb;rw[dW i e] at hb;exact h.np i hi hb
 ·rcases hb with e|e|⟨i,hi,hb⟩
  ·exact .inl (.inl e)
  ·exact .inl (.inr (.inl e))
  ·by_cases e:i=j
   ·unfold FV at hb;rw[e,cY] at hb;rcases hf b hb with h1|h1
    ·exact .inl (.inr (.inr ⟨j,hj,h1⟩))
    ·exact .inr h1
   ·unfold FV at hb;rw[dW i e] at hb;exact .inl (.inr (.inr ⟨i,hi,hb⟩))
 ·rcases hb with e| e
  ·exact .inl e
  ·exact .inr (.inr ⟨j,hj,e⟩)
theorem Tb (S:Nat)(T:Int)(V:Nat->Value×Value)(p:Nat){j:Nat}(hj:j<4):(acC S T V p)[1+2*j]? =some (V j).1/\(acC S T V p)[1+2*j+1]? =some (V j).2:=by
 match j,hj with
 |0,_|1,_|2,_|3,_=>exact⟨rfl,rfl⟩
theorem z9E (S:Nat)(T:Int)(V:Nat->Value×Value)(p:Nat){j:Nat}(hj:j<4)(ks mp:Value):((acC S T V p).set (1+2*j+1) mp).set (1+2*j) ks=acC S T (z4R V j (ks,mp)) p:=by
 match j,hj with
 |0,_|1,_|2,_|3,_=>rfl
theorem z7b (S:Nat)(T:Int)(V:Nat->Value×Value)(p:Nat){j:Nat}(hj:j<4)(ks:Value):(acC S T V p).set (1+2*j) ks=acC S T (z4R V j (ks,(V j).2)) p:=by
 match j,hj with
 |0,_|1,_|2,_|3,_=>rfl
theorem WT (A:Arc){j:Nat}(hj:j<4)(l:List Int):(A.Nr j l).size=A.size/\(A.Nr j l).target=A.target:=by
 match j,hj with
 |0,_|1,_|2,_|3,_=>exact⟨rfl,rfl⟩
theorem RY (h:Ps w c A V p){j:Nat}(hj:j<4):Mw Tryz.prog 176 [ptr c (1+2*j),I k] w λv w'=>v= .bool (decide (k∈A.li j))/\w'=w:=
 z7m h.LY (Tb _ _ _ _ hj).2 (h.q j hj)
theorem N6 (h:Ps w c A V p){j:Nat}(hj:j<4):Mw Tryz.prog 177 [ptr c (1+2*j),I k] w λv w'=>v= .tuple #[]/\∃V',SG w c V p w' (A.Nr j ((A.li j).erase k)) V':=by
 refine(z4N h.LY (Tb _ _ _ _ hj).1 (Tb _ _ _ _ hj).2 (h.q j hj) (h.nc j hj) (k:=k)).mono λv w' hv=>?_
 obtain⟨ks',rfl,hB,hq,hf,hk⟩:=hv
 rw[z7b _ _ _ _ hj] at hB
 exact⟨rfl,_,h.Yj hj hB (WT A hj _) hq (λb hb=> .inl (hf b hb)) hk⟩
theorem NH (h:Ps w c A V p){j:Nat}(hj:j<4)(hk:k∉A.li j)(hl:(A.li j).length<=8191):Mw Tryz.prog 187 [ptr c (1+2*j),I k] w λv w'=>v= .tuple #[]/\∃V',SG w c V p w' (A.Nr j (A.li j++[k])) V':=by
 refine(z8d h.LY (Tb _ _ _ _ hj).1 (Tb _ _ _ _ hj).2 (h.q j hj) (h.nc j hj) hk hl).mono λv w' hv=>?_
 obtain⟨ks',mp',rfl,hB,hq,hf,hk⟩:=hv
 rw[z9E _ _ _ _ hj] at hB
 exact⟨rfl,_,h.Yj hj hB (WT A hj _) hq hf hk⟩
def z1S (n:Nat):Arc:=⟨n,[],[],[],[],0⟩
theorem z8G {n:Nat}(h:1<=n):(z1S n).Ok:=⟨h,List.nodup_nil,Nat.zero_le _,Nat.zero_le _,Nat.zero_le _,⟨Int.le_refl _,by show(0:Int)<=(n:Int);omega⟩⟩
theorem z7S (n:Nat)(h1:1<=n)(h2:n<=4096)(w:World):Mw Tryz.prog 53 [I (n:Int)] w λv w'=>∃c V p,v= .tuple #[ptr c 0,I 0]/\Ps w' c (z1S n) V p/\(∀b,Pf c V p b->w.heap.size<=b)/\Ext w w':=by
 refine It (e:=[(0,_)]) Tryz.func53 O Tryz.ntmps53 O O$ qN O$ Me O$ M4 O$ run_seq$ qN O$ LW O$ Ni O O$ ML$ Md O O$ Ng O O$ ML$ MN O O$ LX ?_
 refine An O$ py$ qN O$ LW O$ M5 O O (pmm) ?_
 rintro _ w1 ⟨p,rfl,hp,ad,cM⟩
 refine qV (OO (cs:=[_,_,_,_,_,_,_,_,_,_,_]) zf1 O zcv O O)$ M5 O O (O2 O (cs:=acC n 0 (λ_=>(.slice none 0 0,.map none)) p) O) ?_
 rintro _ w2 ⟨c,rfl,hc,af,am⟩
 refine Me O$ M4 O$ LZ Tryz.func53 O ?_
 have dK:Pk KI w1 p []:=Pk.new cM
 have lp:=dK.lt
 have gd:∀b,¬Fq (.slice none 0 0) (.map none) b:=λb e=>by rcases e with e|e<;>cases e
 refine⟨_,rfl,c,_,p,rfl,⟨am,λj hj=>⟨?_,?_,?_⟩,af.map dK.l,λi j hi hj bO b hb=>absurd hb (gd b),λj hj=>gd c,λj hj=>gd p,by omega⟩,λb hb=>?_,ad.trans af⟩
 ·have e:(z1S n).li j=[]:=by match j,hj with|0,_|1,_|2,_|3,_=>rfl
  rw[e];exact Sl.nil _ _ _
 ·left
  refine⟨rfl,?_⟩
  match j,hj with|0,_|1,_|2,_|3,_=>rfl
 ·have e:(z1S n).li j=[]:=by match j,hj with|0,_|1,_|2,_|3,_=>rfl
  rw[e];exact Nat.zero_le _
 ·rcases hb with e|e|⟨j,hj,hb⟩
  ·have:=ad.size;omega
  ·omega
  ·exact absurd hb (gd b)
end
section
variable {w w' w2:World}{c p:Nat}{A A' A2:Arc}{V V' V2:Nat->Value×Value}{S:Nat->Prop}{k:Int}
theorem Ps.cells (h:Ps w c A V p):M7 w c [I (A.size:Int),(V 0).1,(V 0).2,(V 1).1,(V 1).2,(V 2).1,(V 2).2,(V 3).1,(V 3).2,I A.target,.map (some p)] 191:=h.LY
theorem Z9 (h:Ps w c A V p):Mw Tryz.prog 175 [ptr c 0,I k] w λv w'=>v= .bool (decide (k∈A.once\/k∈A.often))/\w'=w:=by
 have h0:=RY h (j:=0) (k:=k) (by decide)
 have h1:=RY h (j:=1) (k:=k) (by decide)
 rw[show A.li 0=A.once from rfl] at h0
 rw[show A.li 1=A.often from rfl] at h1
 refine It (e:=[(0,_),(1,_)]) Tryz.func175 O Tryz.ntmps175 O O$ qN O$ Me O$ qM O$ LW O$ qV (z1H z5F O O)$ Md O O$ MC O$ Ma Ns O$ LW O$ Mn TN O (h0) ?_
 rintro _ w ⟨rfl,rfl⟩
 by_cases gU:k∈A.once
 ·rw[decide_eq_true gU];refine LW O$ qS$ qS$ qS$ qS$ qS$ NC O O$ NC O O$ M4 O$ LZ Tryz.func175 O ?_;exact⟨_,rfl,by rw[decide_eq_true (Or.inl gU)];rfl,rfl⟩
 ·rw[decide_eq_false gU];refine Md O O$ MC O$ Ma O5 O$ LW O$ Mn TN O (h1) ?_;rintro _ w ⟨rfl,rfl⟩;refine MN O O$ NC O O$ M4 O$ LZ Tryz.func175 O (⟨_,rfl,?_,rfl⟩);by_cases aK:k∈A.often
  ·simp[gU,aK,resVal]
  ·simp[gU,aK,resVal]
def TR:List Int->Value
 |[]=> .tuple #[I 0,.bool false]
 |a::_=> .tuple #[I a,.bool true]
theorem RV (h:Ps w c A V p){j:Nat}(hj:j<4):Mw Tryz.prog 188 [ptr c 0,ptr c (1+2*j)] w λv w'=>v=TR (A.li j)/\w'=w:=by
 have hB:=h.cells
 have hg:=(Tb A.size A.target V p hj).1
 have hq:=h.q j hj
 obtain⟨ka,kc,eV,Du⟩:∃a c,(V j).1= .slice a (A.li j).length c/\(a=none->(A.li j).length=0):=hq.sl.rd.shape
 rw[eV] at hg
 have hR:=hq.sl.rd
 have hn:=hq.n
 rw[eV] at hR
 refine It (e:=[(0,_),(1,_)]) Tryz.func188 O Tryz.ntmps188 O O$ qN O$ Me O$ M4 O$ run_seq$ qN O$ LW O$ MC O$ Ma N0 O$ qV (M1 O8 O O h.LY hg)$ O9 O8 O$ LW O$ LX$ LU ?_
 cases hl:A.li j with
 | nil =>
   rw[hl] at hR;refine Oh (α:=Unit) (()) (λ_=>[(0,ptr c 0),(12,.slice ka 0 kc),(13,I 0),(14,I 0)]) (λ_ w'=>w'=w) (λ_=>0) ?hI ?hround
   case hI=>rfl
   case hround=>
    rintro i w2 rfl ih
    try dsimp only
    refine qN O$ Ni O O$ ML$ LX$ run_seq$ An O$ M6 O$ qN O$ Me O$ qM O$ LW O$ Me O$ M4 O$ LZ Tryz.func188 O ?_
    exact⟨_,rfl,rfl,rfl⟩
 | cons x r =>
   rw[hl] at hR Du hn
   obtain⟨kb,rfl⟩:∃b,ka=some b:=by
    cases ka with
    |none=>have:=Du O;simp at this
    |some b=>exact⟨b,rfl⟩
   obtain⟨lb,lo,lc,e5⟩:∃b o c',Value.slice (some kb) (x::r).length kc= .slice (some ⟨b,o,none⟩) (x::r).length c':=by
    rcases hR.2 with⟨c,hc,h0⟩|⟨b,off,c',hc,-⟩
    ·simp at h0
    ·exact⟨b,off,c',hc⟩
   cases e5;have ib:0<(x::r).length:=by simp
   refine Oh (α:=Unit) (()) (λ_=>[(0,ptr c 0),(12,.slice (some ⟨lb,lo,none⟩) (x::r).length kc),(13,I ((x::r).length:Int)),(14,I ((0:Nat):Int))]) (λ_ w'=>w'=w) (λ_=>0) ?hI ?hround
   case hI=>rfl
   case hround=>
    rintro i w2 rfl ih
    try dsimp only
    refine qN O$ Ni O O$ O4$ LX$ run_seq$ M9 O$ py$ run_seq$ LU$ qN O$ qV (MS O8 MV O O (by omega))$ qV (MA U3 O O (Na hR (i:=0) (show((x::r).map I)[0]? =some (I x) from rfl)))$ Me O$ qM O ?_;refine LW O$ MC O$ Ma WV O$ qV (M1 TH O O hB O)$ LW O$ qV (ylk (k:=x) (K:=KI) TH (OL U3) MV O O h.pins)$ O3 O O$ O4$ LX$ M9 O$ qN O$ LW O$ Me O$ M4 O ?_;refine LZ Tryz.func188 O ?_;exact⟨_,rfl,rfl,rfl⟩
theorem YF (h:Ps w c A V p)(hA:A.Ok)(cG:A.size<=1000):Mw Tryz.prog 189 [ptr c 0] w λv w'=>v= .bool (decide (A.once.length+A.often.length=A.size))/\Ext w w':=by
 have hB:=h.cells
 have hh:=hA.held
 obtain⟨a0,c0,e0,-⟩:∃a c,(V 0).1= .slice a A.once.length c/\_:=(h.q 0 (by decide)).sl.rd.shape
 obtain⟨a1,c1,e1,-⟩:∃a c,(V 1).1= .slice a A.often.length c/\_:=(h.q 1 (by decide)).sl.rd.shape
 rw[e0,e1] at hB
 have hg:=Ext.Mm w
 refine It (e:=[(0,_)]) Tryz.func189 O Tryz.ntmps189 O O$ qN O$ M4 O$ run_seq$ NV (λw'=>Ext w w') O$ Mj 0 O O (hg)$ M3 1 O (N4 O) hg$ M3 2 O (My Ns O) hg$ M3 3 O (My N0 O) hg$ qT 4 O (λ_ h=>M1 O8 O O (h.LY hB) O) hg$ M3 5 O (Pb O8 O) hg$ Mj 6 O O (hg)$ M3 7 O (N4 O) hg$ M3 8 O (My O5 O) hg ?_
 refine M3 9 O (My N0 O) hg$ qT 10 O (λ_ h=>M1 O8 O O (h.LY hB) O) hg$ M3 11 O (Pb O8 O) hg$ M3 12 O (R4 O O (by omega)) hg$ Mj 13 O O (hg)$ M3 14 O (N4 O) hg$ M3 15 O (My P7 O) hg$ qT 16 O (λ_ h=>M1 U3 O O (h.LY hB) O) hg$ M3 17 O (yeq O O) hg$ M3 18 O (NX O) hg$ qE$ LZ Tryz.func189 O (⟨_,rfl,?_,hg⟩)
 show Value.bool _=Value.bool _
 congr 1
 exact decide_eq_decide.2 (by omega)
end
def Oj (VR:Bool)(g:Option Int):List Value:=[.bool VR,.bool g.isSome,I (g.getD 0)]
abbrev z8N (VR:Bool)(g:Option Int):Value:= .agg (Oj VR g).toArray
section
variable {w w' w2:World}{c p:Nat}{A A' A2:Arc}{V V' V2:Nat->Value×Value}{S:Nat->Prop}{k:Int}
theorem Arc.Ok.lens (h:A.Ok)(cG:A.size<=1000)(j:Nat):(A.li j).length<=2000:=by
 have h1:=h.held
 have h2:=h.first
 have h3:=h.total
 have h4:=A.NI
 unfold Arc.li
 split<;>omega
theorem Qg (h : Ps w c A V p)(hA : A.Ok)(cG : A.size <= 1000)(bo : Bool) : Mw Tryz.prog 190 [ptr c 0, .bool bo] w λv w' => v = z8N false (A.room bo).2 /\ ∃ V', SG w c V p w' (A.room bo).1 V' := by
 have gF:=hA.lens cG 2
 have ko:=hA.lens cG 3
 have Jb:=hA.tg
 have ib:=hA.pos
 have fw:=hA.nd
 unfold Arc.all at fw
 rw[List.nodup_append] at fw
 obtain⟨nd1,nd2,nd3⟩:=fw
 rw[List.nodup_append] at nd2
 obtain⟨nd4,nd5,nd6⟩:=nd2
 rw[List.nodup_append] at nd5
 obtain⟨nd7,nd8,nd9⟩:=nd5
 have aP:∀{b:Nat},Pf c V p b->b<w.heap.size:=h.lt
 refine It (e:=[(0,_),(1,_)]) Tryz.func190 O Tryz.ntmps190 O O$ qN O$ M5 O O (Oo (cs:=[_,_,_]) MD O) ?_
 rintro _ w1 ⟨b4,rfl,f9,ad,aH⟩
 have oF:=h.ext ad
 have n4:∀b,Pf c V p b->b≠b4:=λb hb e=>by have:=aP hb;omega
 refine LX$ run_seq$ qN O$ LW O$ Mn za0 O (YF oF hA cG) ?_
 rintro _ w2 ⟨rfl,af⟩
 have bA:=af.LY aH
 have aG:=ad.trans af
 have dD:=h.ext aG
 by_cases cf:¬A.once.length+A.often.length=A.size
 ·rw[decide_eq_false cf];have ju:A.room bo=(A,none):=by unfold Arc.room;rw[if_neg cf]
  refine qV ((by first|exact MX O|exact Oy O)) ?_;refine LX$ M9 O$ qN O$ qV (Mv (news:=Oj false none) Pc O MD O (M7.cells (n:=3) bA O) O)$ Mb O (MO (news:=Oj false none) MD O O O O bA (by simp)) ?_;rintro w3 ⟨dR,au⟩;replace dR:M7 w3 b4 [.bool false,.bool false,I 0] 265:=dR;refine LX$ Mt Tryz.func190 (.cell Pc O MD O (M7.cells (n:=3) dR (news:=[_,_,_]) O) O .nil) ?_;rw[ju];exact⟨_,rfl,rfl,V,dD.kp au (λb hb=>n4 b hb),λb hb=> .inl hb,(aG.LS au (λj e=>by omega)).kp⟩
 ·have cf := Classical.not_not.1 cf; rw [decide_eq_true cf]; refine qV ((by first | exact MX O | exact Oy O)) ?_; refine LX (An O ?_); have am := dD.cells; obtain ⟨a0, c0, e0, -⟩ : ∃ a c, (V 0).1 = .slice a A.once.length c /\ _ := (h.q 0 (by decide)).sl.rd.shape; rw [e0] at am; have f0 := RV dD (j := 0) (by decide); have f1 := RV dD (j := 1) (by decide); rw [show A.li 0 = A.once from rfl] at f0; rw [show A.li 1 = A.often from rfl] at f1
  cases ho:A.once with
  | nil =>
    cases hf:A.often with
    | nil =>
      exfalso;rw[ho,hf] at cf;simp at cf
      omega
    | cons x1 r1 =>
      have ju:A.room bo=({A with often:=r1,Mf:=A.Mf++[x1]},some x1):=by unfold Arc.room;rw[if_pos cf,ho,hf]
      have Jc:A.once.length=0:=by rw[ho];rfl
      have g0:TR A.once= .tuple #[I 0,.bool false]:=by rw[ho];rfl
      have g1:TR A.often= .tuple #[I x1,.bool true]:=by rw[hf];rfl
      rw[g0] at f0;rw[g1] at f1;refine py$ qN O$ Md O O$ MC O$ Ma Ns O$ Mn Ur O (f0) ?_;rintro _ w2 ⟨rfl,rfl⟩;refine LW O$ qV (O6 (v:=I 0) O O)$ qV (O6 (v:= .bool false) O O)$ Me O$ Me O$ qM O$ Md O O$ MC O$ Ma O5 O$ Mn Ur O (f1) ?_;rintro _ w2 ⟨rfl,rfl⟩;refine LW O$ qV (O6 (v:=I x1) O O)$ qV (O6 (v:= .bool true) O O)$ Me O$ M4 O$ Mz.qb (e:=[(0,_),(1,_),(4,_),(5,_),(6,_),(7,_),(8,_)]) ?_;refine qN O$ LW O$ MC O$ Ma Ns O$ Ma N0 O$ qV (M1 O8 O O am O)$ O9 O8 O$ Me O$ qM O$ LW O$ PD O O$ ML$ LW O$ qS ?_;refine qS$ qS$ qS$ qS$ qS$ qS$ qS$ qS$ qS$ qS$ qS$ qS$ qS$ qS ?_;refine qS$ qS$ MN O O$ M4 O$ Mz.qb (e:=[(0,_),(4,_),(5,_),(6,_),(7,_),(8,_),(10,_)]) ?_;refine run_seq$ qN O$ Md O O$ qS$ MN O O$ Md O O$ qV ((by first|exact MX O|exact Oy O)) ?_;refine Md O O$ qV ((by first|exact MX O|exact Oy O)) ?_;refine NC O O$ MN O O$ LX$ An O$ py$ qN O$ LW O$ MC O$ Ma O5 O$ LW O$ Mn Pn O (N6 dD (j:=1) (k:=x1) (by decide)) ?_;rintro _ w3 ⟨rfl,V3,ci⟩;have gD:(A.li 1).erase x1=r1:=by show A.often.erase x1=r1;rw[hf];simp
      rw[gD] at ci
      have dG:x1∉(A.Nr 1 r1).li 3:=by
       show x1∉A.Mf;intro e;exact nd6 x1 (by rw[hf];simp) x1 (by simp[e]) O
      refine qM O$ LW O$ MC O$ Ma NZ O$ LW O$ Mn PU O (NH ci.m (j:=3) (k:=x1) (by decide) dG (by show A.Mf.length<=_;exact Nat.le_trans ko (by decide))) ?_;rintro _ w4 ⟨rfl,V4,bH⟩;have hr:=(dD.r (Ext.refl w2)).trans (ci.trans bH);have cw:=hr.k.LY bA (λe=>n4 _ e O);refine LX$ Mz.qb (e:=[(4,_),(7,_)]) ?_;refine qN O$ LW O$ qV (OO (cs:=[_,_,_]) MD O So O O)$ Mb O (MO (news:=Oj false (some x1)) MD O O O O cw (by simp)) ?_;rintro w5 ⟨aM,ak⟩;replace aM:M7 w5 b4 [.bool false,.bool true,I x1] 265:=aM;refine LX$ Mt Tryz.func190 (.cell Pc O MD O (M7.cells (n:=3) aM (news:=[_,_,_]) O) O .nil) ?_
      have dT:∀b,Pf c V4 p b->b≠b4:=λb hb e=>by
       rcases hr.fp b hb with h5|h5
       ·exact n4 b h5 e
       ·have:=bA.lt;omega
      rw[ju]
      exact⟨_,rfl,rfl,V4,hr.m.kp ak dT,λb hb=>(hr.fp b hb).imp id (λe=>by have:=aG.size;omega),(aG.kp.trans hr.k).LS ak (λj e=> .inl (by omega))⟩
  | cons x0 r0 =>
    have Jc:1<=A.once.length:=by rw[ho];simp
    cases hf:A.often with
    | nil =>
      have ju:A.room bo=({A with once:=r0,Mk:=A.Mk++[x0]},some x0):=by unfold Arc.room;rw[if_pos cf,ho,hf]
      have g0:TR A.once= .tuple #[I x0,.bool true]:=by rw[ho];rfl
      have g1:TR A.often= .tuple #[I 0,.bool false]:=by rw[hf];rfl
      rw[g0] at f0;rw[g1] at f1;refine py$ qN O$ Md O O$ MC O$ Ma Ns O$ Mn Ur O (f0) ?_;rintro _ w2 ⟨rfl,rfl⟩;refine LW O$ qV (O6 (v:=I x0) O O)$ qV (O6 (v:= .bool true) O O)$ Me O$ Me O$ qM O$ Md O O$ MC O$ Ma O5 O$ Mn Ur O (f1) ?_;rintro _ w2 ⟨rfl,rfl⟩;refine LW O$ qV (O6 (v:=I 0) O O)$ qV (O6 (v:= .bool false) O O)$ Me O$ M4 O$ Mz.qb (e:=[(0,_),(1,_),(4,_),(5,_),(6,_),(7,_),(8,_)]) ?_;refine qN O$ LW O$ MC O$ Ma Ns O$ Ma N0 O$ qV (M1 O8 O O am O)$ O9 O8 O$ Me O$ qM O$ LW O$ PD O O$ O4$ LW O ?_
      by_cases h1:(A.once.length:Int)>A.target
      ·skip
       refine Md O O$ MC O$ Ma O0 O$ qV (M1 U3 O O am O)$ Ng O O$ O4$ LW O$ qS$ qS$ qS$ qS$ qS$ qS$ qS ?_;refine qS$ qS$ NC O O$ NC O O$ M4 O$ Mz.qb (e:=[(0,_),(4,_),(5,_),(6,_),(7,_),(8,_),(10,_)]) ?_;refine run_seq$ qN O$ Md O O$ LW O$ NC O O$ LW O$ qS$ qS$ qS$ qS$ qS$ qS$ NC O O$ LX ?_;refine M9 O$ qN O$ LW O$ MC O$ Ma Ns O$ LW O$ Mn Pn O (N6 dD (j:=0) (k:=x0) (by decide)) ?_;rintro _ w3 ⟨rfl,V3,ci⟩;have gD:(A.li 0).erase x0=r0:=by show A.once.erase x0=r0;rw[ho];simp
       rw[gD] at ci
       have dG:x0∉(A.Nr 0 r0).li 2:=by
        show x0∉A.Mk;intro e;exact nd3 x0 (by rw[ho];simp) x0 (by simp[e]) O
       refine qM O$ LW O$ MC O$ Ma NG O$ LW O$ Mn PU O (NH ci.m (j:=2) (k:=x0) (by decide) dG (by show A.Mk.length<=_;exact Nat.le_trans gF (by decide))) ?_;rintro _ w4 ⟨rfl,V4,bH⟩;have hr:=(dD.r (Ext.refl w2)).trans (ci.trans bH);have cw:=hr.k.LY bA (λe=>n4 _ e O);refine LX$ Mz.qb (e:=[(0,_),(4,_),(5,_),(7,_)]) ?_;refine qN O$ LW O$ qV (OO (cs:=[_,_,_]) MD O So O O)$ Mb O (MO (news:=Oj false (some x0)) MD O O O O cw (by simp)) ?_;rintro w5 ⟨aM,ak⟩;replace aM:M7 w5 b4 [.bool false,.bool true,I x0] 265:=aM;refine LX$ Mt Tryz.func190 (.cell Pc O MD O (M7.cells (n:=3) aM (news:=[_,_,_]) O) O .nil) ?_
       have dT:∀b,Pf c V4 p b->b≠b4:=λb hb e=>by
        rcases hr.fp b hb with h5|h5
        ·exact n4 b h5 e
        ·have:=bA.lt;omega
       rw[ju];exact⟨_,rfl,rfl,V4,hr.m.kp ak dT,λb hb=>(hr.fp b hb).imp id (λe=>by have:=aG.size;omega),(aG.kp.trans hr.k).LS ak (λj e=> .inl (by omega))⟩
      ·refine Md O O$ MC O$ Ma O0 O$ qV (M1 U3 O O am O)$ Ng O O$ ML$ LW O ?_;by_cases h2:(A.once.length:Int)=A.target
       ·refine Md O O$ MC O$ Ma O0 O$ qV (M1 U3 O O am O)$ O3 O O$ O4$ LW O ?_
        cases bo with
        | true =>
          refine LW O ?_
          skip
          refine NC O O$ MN O O$ NC O O$ M4 O$ Mz.qb (e:=[(0,_),(4,_),(5,_),(6,_),(7,_),(8,_),(10,_)]) ?_;refine run_seq$ qN O$ Md O O$ LW O$ NC O O$ LW O$ qS$ qS$ qS$ qS$ qS$ qS$ NC O O$ LX ?_;refine M9 O$ qN O$ LW O$ MC O$ Ma Ns O$ LW O$ Mn Pn O (N6 dD (j:=0) (k:=x0) (by decide)) ?_;rintro _ w3 ⟨rfl,V3,ci⟩;have gD:(A.li 0).erase x0=r0:=by show A.once.erase x0=r0;rw[ho];simp
          rw[gD] at ci
          have dG:x0∉(A.Nr 0 r0).li 2:=by
           show x0∉A.Mk;intro e;exact nd3 x0 (by rw[ho];simp) x0 (by simp[e]) O
          refine qM O$ LW O$ MC O$ Ma NG O$ LW O$ Mn PU O (NH ci.m (j:=2) (k:=x0) (by decide) dG (by show A.Mk.length<=_;exact Nat.le_trans gF (by decide))) ?_;rintro _ w4 ⟨rfl,V4,bH⟩;have hr:=(dD.r (Ext.refl w2)).trans (ci.trans bH);have cw:=hr.k.LY bA (λe=>n4 _ e O);refine LX$ Mz.qb (e:=[(0,_),(4,_),(5,_),(7,_)]) ?_;refine qN O$ LW O$ qV (OO (cs:=[_,_,_]) MD O So O O)$ Mb O (MO (news:=Oj false (some x0)) MD O O O O cw (by simp)) ?_;rintro w5 ⟨aM,ak⟩;replace aM:M7 w5 b4 [.bool false,.bool true,I x0] 265:=aM;refine LX$ Mt Tryz.func190 (.cell Pc O MD O (M7.cells (n:=3) aM (news:=[_,_,_]) O) O .nil) ?_
          have dT:∀b,Pf c V4 p b->b≠b4:=λb hb e=>by
           rcases hr.fp b hb with h5|h5
           ·exact n4 b h5 e
           ·have:=bA.lt;omega
          rw[ju]
          exact⟨_,rfl,rfl,V4,hr.m.kp ak dT,λb hb=>(hr.fp b hb).imp id (λe=>by have:=aG.size;omega),(aG.kp.trans hr.k).LS ak (λj e=> .inl (by omega))⟩
        | false =>
          refine LW O ?_
          skip
          refine NC O O$ MN O O$ NC O O$ M4 O$ Mz.qb (e:=[(0,_),(4,_),(5,_),(6,_),(7,_),(8,_),(10,_)]) ?_;refine run_seq$ qN O$ Md O O$ qS$ MN O O$ Md O O$ qV ((by first|exact MX O|exact Oy O)) ?_;refine Md O O$ qV ((by first|exact MX O|exact Oy O)) ?_;refine NC O O$ MN O O$ LX$ M9 O$ qN O$ LW O$ MC O$ Ma Ns O$ LW O$ Mn Pn O (N6 dD (j:=0) (k:=x0) (by decide)) ?_;rintro _ w3 ⟨rfl,V3,ci⟩;have gD:(A.li 0).erase x0=r0:=by show A.once.erase x0=r0;rw[ho];simp
          rw[gD] at ci
          have dG:x0∉(A.Nr 0 r0).li 2:=by
           show x0∉A.Mk;intro e;exact nd3 x0 (by rw[ho];simp) x0 (by simp[e]) O
          refine qM O$ LW O$ MC O$ Ma NG O$ LW O$ Mn PU O (NH ci.m (j:=2) (k:=x0) (by decide) dG (by show A.Mk.length<=_;exact Nat.le_trans gF (by decide))) ?_;rintro _ w4 ⟨rfl,V4,bH⟩;have hr:=(dD.r (Ext.refl w2)).trans (ci.trans bH);have cw:=hr.k.LY bA (λe=>n4 _ e O);refine LX$ Mz.qb (e:=[(0,_),(4,_),(5,_),(7,_)]) ?_;refine qN O$ LW O$ qV (OO (cs:=[_,_,_]) MD O So O O)$ Mb O (MO (news:=Oj false (some x0)) MD O O O O cw (by simp)) ?_;rintro w5 ⟨aM,ak⟩;replace aM:M7 w5 b4 [.bool false,.bool true,I x0] 265:=aM;refine LX$ Mt Tryz.func190 (.cell Pc O MD O (M7.cells (n:=3) aM (news:=[_,_,_]) O) O .nil) ?_
          have dT:∀b,Pf c V4 p b->b≠b4:=λb hb e=>by
           rcases hr.fp b hb with h5|h5
           ·exact n4 b h5 e
           ·have:=bA.lt;omega
          rw[ju];exact⟨_,rfl,rfl,V4,hr.m.kp ak dT,λb hb=>(hr.fp b hb).imp id (λe=>by have:=aG.size;omega),(aG.kp.trans hr.k).LS ak (λj e=> .inl (by omega))⟩
       ·refine Md O O$ MC O$ Ma O0 O$ qV (M1 U3 O O am O)$ O3 O O$ ML$ LW O ?_
        skip
        refine qS$ MN O O$ MN O O$ NC O O$ M4 O$ Mz.qb (e:=[(0,_),(4,_),(5,_),(6,_),(7,_),(8,_),(10,_)]) ?_;refine run_seq$ qN O$ Md O O$ qS$ MN O O$ Md O O$ qV ((by first|exact MX O|exact Oy O)) ?_;refine Md O O$ qV ((by first|exact MX O|exact Oy O)) ?_;refine NC O O$ MN O O$ LX$ M9 O$ qN O$ LW O$ MC O$ Ma Ns O$ LW O$ Mn Pn O (N6 dD (j:=0) (k:=x0) (by decide)) ?_;rintro _ w3 ⟨rfl,V3,ci⟩;have gD:(A.li 0).erase x0=r0:=by show A.once.erase x0=r0;rw[ho];simp
        rw[gD] at ci
        have dG:x0∉(A.Nr 0 r0).li 2:=by
         show x0∉A.Mk;intro e;exact nd3 x0 (by rw[ho];simp) x0 (by simp[e]) O
        refine qM O$ LW O$ MC O$ Ma NG O$ LW O$ Mn PU O (NH ci.m (j:=2) (k:=x0) (by decide) dG (by show A.Mk.length<=_;exact Nat.le_trans gF (by decide))) ?_;rintro _ w4 ⟨rfl,V4,bH⟩;have hr:=(dD.r (Ext.refl w2)).trans (ci.trans bH);have cw:=hr.k.LY bA (λe=>n4 _ e O);refine LX$ Mz.qb (e:=[(0,_),(4,_),(5,_),(7,_)]) ?_;refine qN O$ LW O$ qV (OO (cs:=[_,_,_]) MD O So O O)$ Mb O (MO (news:=Oj false (some x0)) MD O O O O cw (by simp)) ?_;rintro w5 ⟨aM,ak⟩;replace aM:M7 w5 b4 [.bool false,.bool true,I x0] 265:=aM;refine LX$ Mt Tryz.func190 (.cell Pc O MD O (M7.cells (n:=3) aM (news:=[_,_,_]) O) O .nil) ?_
        have dT:∀b,Pf c V4 p b->b≠b4:=λb hb e=>by
         rcases hr.fp b hb with h5|h5
         ·exact n4 b h5 e
         ·have:=bA.lt;omega
        rw[ju]
        exact⟨_,rfl,rfl,V4,hr.m.kp ak dT,λb hb=>(hr.fp b hb).imp id (λe=>by have:=aG.size;omega),(aG.kp.trans hr.k).LS ak (λj e=> .inl (by omega))⟩
    | cons x1 r1 =>
      have g0:TR A.once= .tuple #[I x0,.bool true]:=by rw[ho];rfl
      have g1:TR A.often= .tuple #[I x1,.bool true]:=by rw[hf];rfl
      rw[g0] at f0;rw[g1] at f1;refine py$ qN O$ Md O O$ MC O$ Ma Ns O$ Mn Ur O (f0) ?_;rintro _ w2 ⟨rfl,rfl⟩;refine LW O$ qV (O6 (v:=I x0) O O)$ qV (O6 (v:= .bool true) O O)$ Me O$ Me O$ qM O$ Md O O$ MC O$ Ma O5 O$ Mn Ur O (f1) ?_;rintro _ w2 ⟨rfl,rfl⟩;refine LW O$ qV (O6 (v:=I x1) O O)$ qV (O6 (v:= .bool true) O O)$ Me O$ M4 O$ Mz.qb (e:=[(0,_),(1,_),(4,_),(5,_),(6,_),(7,_),(8,_)]) ?_;refine qN O$ LW O$ MC O$ Ma Ns O$ Ma N0 O$ qV (M1 O8 O O am O)$ O9 O8 O$ Me O$ qM O$ LW O$ PD O O$ O4$ LW O ?_
      by_cases h1:(A.once.length:Int)>A.target
      ·have ju:A.room bo=({A with once:=r0,Mk:=A.Mk++[x0]},some x0):=by unfold Arc.room;rw[if_pos cf,ho,hf];exact if_pos (by rw[<-ho];exact .inl h1)
       refine Md O O$ MC O$ Ma O0 O$ qV (M1 U3 O O am O)$ Ng O O$ O4$ LW O$ qS$ qS$ qS$ qS$ qS$ qS$ qS ?_;refine qS$ qS$ NC O O$ NC O O$ M4 O$ Mz.qb (e:=[(0,_),(4,_),(5,_),(6,_),(7,_),(8,_),(10,_)]) ?_;refine run_seq$ qN O$ Md O O$ LW O$ NC O O$ LW O$ qS$ qS$ qS$ qS$ qS$ qS$ NC O O$ LX ?_;refine M9 O$ qN O$ LW O$ MC O$ Ma Ns O$ LW O$ Mn Pn O (N6 dD (j:=0) (k:=x0) (by decide)) ?_;rintro _ w3 ⟨rfl,V3,ci⟩;have gD:(A.li 0).erase x0=r0:=by show A.once.erase x0=r0;rw[ho];simp
       rw[gD] at ci
       have dG:x0∉(A.Nr 0 r0).li 2:=by
        show x0∉A.Mk;intro e;exact nd3 x0 (by rw[ho];simp) x0 (by simp[e]) O
       refine qM O$ LW O$ MC O$ Ma NG O$ LW O$ Mn PU O (NH ci.m (j:=2) (k:=x0) (by decide) dG (by show A.Mk.length<=_;exact Nat.le_trans gF (by decide))) ?_;rintro _ w4 ⟨rfl,V4,bH⟩;have hr:=(dD.r (Ext.refl w2)).trans (ci.trans bH);have cw:=hr.k.LY bA (λe=>n4 _ e O);refine LX$ Mz.qb (e:=[(0,_),(4,_),(5,_),(7,_)]) ?_;refine qN O$ LW O$ qV (OO (cs:=[_,_,_]) MD O So O O)$ Mb O (MO (news:=Oj false (some x0)) MD O O O O cw (by simp)) ?_;rintro w5 ⟨aM,ak⟩;replace aM:M7 w5 b4 [.bool false,.bool true,I x0] 265:=aM;refine LX$ Mt Tryz.func190 (.cell Pc O MD O (M7.cells (n:=3) aM (news:=[_,_,_]) O) O .nil) ?_
       have dT:∀b,Pf c V4 p b->b≠b4:=λb hb e=>by
        rcases hr.fp b hb with h5|h5
        ·exact n4 b h5 e
        ·have:=bA.lt;omega
       rw[ju];exact⟨_,rfl,rfl,V4,hr.m.kp ak dT,λb hb=>(hr.fp b hb).imp id (λe=>by have:=aG.size;omega),(aG.kp.trans hr.k).LS ak (λj e=> .inl (by omega))⟩
      ·refine Md O O$ MC O$ Ma O0 O$ qV (M1 U3 O O am O)$ Ng O O$ ML$ LW O ?_;by_cases h2:(A.once.length:Int)=A.target
       ·refine Md O O$ MC O$ Ma O0 O$ qV (M1 U3 O O am O)$ O3 O O$ O4$ LW O ?_
        cases bo with
        | true =>
          refine LW O ?_;have ju:A.room true=({A with once:=r0,Mk:=A.Mk++[x0]},some x0):=by unfold Arc.room;rw[if_pos cf,ho,hf];exact if_pos (by rw[<-ho];exact .inr ⟨h2,rfl⟩)
          refine NC O O$ MN O O$ NC O O$ M4 O$ Mz.qb (e:=[(0,_),(4,_),(5,_),(6,_),(7,_),(8,_),(10,_)]) ?_;refine run_seq$ qN O$ Md O O$ LW O$ NC O O$ LW O$ qS$ qS$ qS$ qS$ qS$ qS$ NC O O$ LX ?_;refine M9 O$ qN O$ LW O$ MC O$ Ma Ns O$ LW O$ Mn Pn O (N6 dD (j:=0) (k:=x0) (by decide)) ?_;rintro _ w3 ⟨rfl,V3,ci⟩;have gD:(A.li 0).erase x0=r0:=by show A.once.erase x0=r0;rw[ho];simp
          rw[gD] at ci
          have dG:x0∉(A.Nr 0 r0).li 2:=by
           show x0∉A.Mk;intro e;exact nd3 x0 (by rw[ho];simp) x0 (by simp[e]) O
          refine qM O$ LW O$ MC O$ Ma NG O$ LW O$ Mn PU O (NH ci.m (j:=2) (k:=x0) (by decide) dG (by show A.Mk.length<=_;exact Nat.le_trans gF (by decide))) ?_;rintro _ w4 ⟨rfl,V4,bH⟩;have hr:=(dD.r (Ext.refl w2)).trans (ci.trans bH);have cw:=hr.k.LY bA (λe=>n4 _ e O);refine LX$ Mz.qb (e:=[(0,_),(4,_),(5,_),(7,_)]) ?_;refine qN O$ LW O$ qV (OO (cs:=[_,_,_]) MD O So O O)$ Mb O (MO (news:=Oj false (some x0)) MD O O O O cw (by simp)) ?_;rintro w5 ⟨aM,ak⟩;replace aM:M7 w5 b4 [.bool false,.bool true,I x0] 265:=aM;refine LX$ Mt Tryz.func190 (.cell Pc O MD O (M7.cells (n:=3) aM (news:=[_,_,_]) O) O .nil) ?_
          have dT:∀b,Pf c V4 p b->b≠b4:=λb hb e=>by
           rcases hr.fp b hb with h5|h5
           ·exact n4 b h5 e
           ·have:=bA.lt;omega
          rw[ju]
          exact⟨_,rfl,rfl,V4,hr.m.kp ak dT,λb hb=>(hr.fp b hb).imp id (λe=>by have:=aG.size;omega),(aG.kp.trans hr.k).LS ak (λj e=> .inl (by omega))⟩
        | false =>
          refine LW O ?_;have ju:A.room false=({A with often:=r1,Mf:=A.Mf++[x1]},some x1):=by unfold Arc.room;rw[if_pos cf,ho,hf];exact if_neg (by rw[<-ho];rintro(e|⟨e,e2⟩);exact h1 e;cases e2)
          refine NC O O$ MN O O$ NC O O$ M4 O$ Mz.qb (e:=[(0,_),(4,_),(5,_),(6,_),(7,_),(8,_),(10,_)]) ?_;refine run_seq$ qN O$ Md O O$ qS$ MN O O$ Md O O$ qV ((by first|exact MX O|exact Oy O)) ?_;refine Md O O$ qV ((by first|exact MX O|exact Oy O)) ?_;refine NC O O$ MN O O$ LX$ An O$ py$ qN O$ LW O$ MC O$ Ma O5 O$ LW O$ Mn Pn O (N6 dD (j:=1) (k:=x1) (by decide)) ?_;rintro _ w3 ⟨rfl,V3,ci⟩;have gD:(A.li 1).erase x1=r1:=by show A.often.erase x1=r1;rw[hf];simp
          rw[gD] at ci
          have dG:x1∉(A.Nr 1 r1).li 3:=by
           show x1∉A.Mf;intro e;exact nd6 x1 (by rw[hf];simp) x1 (by simp[e]) O
          refine qM O$ LW O$ MC O$ Ma NZ O$ LW O$ Mn PU O (NH ci.m (j:=3) (k:=x1) (by decide) dG (by show A.Mf.length<=_;exact Nat.le_trans ko (by decide))) ?_;rintro _ w4 ⟨rfl,V4,bH⟩;have hr:=(dD.r (Ext.refl w2)).trans (ci.trans bH);have cw:=hr.k.LY bA (λe=>n4 _ e O);refine LX$ Mz.qb (e:=[(4,_),(7,_)]) ?_;refine qN O$ LW O$ qV (OO (cs:=[_,_,_]) MD O So O O)$ Mb O (MO (news:=Oj false (some x1)) MD O O O O cw (by simp)) ?_;rintro w5 ⟨aM,ak⟩;replace aM:M7 w5 b4 [.bool false,.bool true,I x1] 265:=aM;refine LX$ Mt Tryz.func190 (.cell Pc O MD O (M7.cells (n:=3) aM (news:=[_,_,_]) O) O .nil) ?_
          have dT:∀b,Pf c V4 p b->b≠b4:=λb hb e=>by
           rcases hr.fp b hb with h5|h5
           ·exact n4 b h5 e
           ·have:=bA.lt;omega
          rw[ju];exact⟨_,rfl,rfl,V4,hr.m.kp ak dT,λb hb=>(hr.fp b hb).imp id (λe=>by have:=aG.size;omega),(aG.kp.trans hr.k).LS ak (λj e=> .inl (by omega))⟩
       ·refine Md O O$ MC O$ Ma O0 O$ qV (M1 U3 O O am O)$ O3 O O$ ML$ LW O ?_;have ju:A.room bo=({A with often:=r1,Mf:=A.Mf++[x1]},some x1):=by unfold Arc.room;rw[if_pos cf,ho,hf];exact if_neg (by rw[<-ho];rintro(e|⟨e,e2⟩);exact h1 e;exact h2 e)
        refine qS$ MN O O$ MN O O$ NC O O$ M4 O$ Mz.qb (e:=[(0,_),(4,_),(5,_),(6,_),(7,_),(8,_),(10,_)]) ?_;refine run_seq$ qN O$ Md O O$ qS$ MN O O$ Md O O$ qV ((by first|exact MX O|exact Oy O)) ?_;refine Md O O$ qV ((by first|exact MX O|exact Oy O)) ?_;refine NC O O$ MN O O$ LX$ An O$ py$ qN O$ LW O$ MC O$ Ma O5 O$ LW O$ Mn Pn O (N6 dD (j:=1) (k:=x1) (by decide)) ?_;rintro _ w3 ⟨rfl,V3,ci⟩;have gD:(A.li 1).erase x1=r1:=by show A.often.erase x1=r1;rw[hf];simp
        rw[gD] at ci
        have dG:x1∉(A.Nr 1 r1).li 3:=by
         show x1∉A.Mf;intro e;exact nd6 x1 (by rw[hf];simp) x1 (by simp[e]) O
        refine qM O$ LW O$ MC O$ Ma NZ O$ LW O$ Mn PU O (NH ci.m (j:=3) (k:=x1) (by decide) dG (by show A.Mf.length<=_;exact Nat.le_trans ko (by decide))) ?_;rintro _ w4 ⟨rfl,V4,bH⟩;have hr:=(dD.r (Ext.refl w2)).trans (ci.trans bH);have cw:=hr.k.LY bA (λe=>n4 _ e O);refine LX$ Mz.qb (e:=[(4,_),(7,_)]) ?_;refine qN O$ LW O$ qV (OO (cs:=[_,_,_]) MD O So O O)$ Mb O (MO (news:=Oj false (some x1)) MD O O O O cw (by simp)) ?_;rintro w5 ⟨aM,ak⟩;replace aM:M7 w5 b4 [.bool false,.bool true,I x1] 265:=aM;refine LX$ Mt Tryz.func190 (.cell Pc O MD O (M7.cells (n:=3) aM (news:=[_,_,_]) O) O .nil) ?_
        have dT:∀b,Pf c V4 p b->b≠b4:=λb hb e=>by
         rcases hr.fp b hb with h5|h5
         ·exact n4 b h5 e
         ·have:=bA.lt;omega
        rw[ju];exact⟨_,rfl,rfl,V4,hr.m.kp ak dT,λb hb=>(hr.fp b hb).imp id (λe=>by have:=aG.size;omega),(aG.kp.trans hr.k).LS ak (λj e=> .inl (by omega))⟩
end
theorem Arc.Ok.zda {A:Arc}(h:A.Ok):(A.Nr 2 (A.Mk.drop 1)).Ok:=by
 have hs:(A.Nr 2 (A.Mk.drop 1)).all.Sublist A.all:=(((List.drop_sublist 1 A.Mk).append_right A.Mf).append_left A.often).append_left A.once
 have:=h.first
 have h2:=hs.length_le
 have h3:=h.total
 exact⟨h.pos,h.nd.sublist hs,h.held,by show A.once.length+(A.Mk.drop 1).length<=A.size;rw[List.length_drop];omega,Nat.le_trans h2 h3,h.tg⟩
theorem Arc.Ok.zdU {A:Arc}(h:A.Ok):(A.Nr 3 (A.Mf.drop 1)).Ok:=by
 have hs:(A.Nr 3 (A.Mf.drop 1)).all.Sublist A.all:=(((List.drop_sublist 1 A.Mf).append_left A.Mk).append_left A.often).append_left A.once
 exact⟨h.pos,h.nd.sublist hs,h.held,h.first,Nat.le_trans hs.length_le h.total,h.tg⟩
section
variable {w w' w2:World}{c p:Nat}{A A' A2:Arc}{V V' V2:Nat->Value×Value}{S:Nat->Prop}{k:Int}
theorem Ps.head (h:Ps w c A V p){j:Nat}(hj:j<4){x:Int}{r:List Int}(hl:A.li j=x::r):∃b o cp,(V j).1= .slice (some ⟨b,o,none⟩) (A.li j).length cp/\w.cell? ⟨b,o+0*1,none⟩=some (I x):=by
 have hR:=(h.q j hj).sl.rd
 rcases hR.2 with⟨c,hc,h0⟩|⟨b,off,c',hc,-⟩
 ·rw[hl] at h0;simp at h0
 ·rw[hc] at hR;exact⟨b,off,c',hc,Na hR (i:=0) (by rw[hl];rfl)⟩
theorem XB (h:Ps w c A V p)(hA:A.Ok)(cG:A.size<=1000):Mw Tryz.prog 191 [ptr c 0] w λv w'=>v=z8N false A.add.2/\∃V',SG w c V p w' A.add.1 V':=by
 have sj:=hA.lens cG 0
 have kY:=hA.lens cG 1
 have gF:=hA.lens cG 2
 have ko:=hA.lens cG 3
 have ib:=hA.pos
 have gO:=A.NI
 have uE:=hA.held
 have Lw:=hA.first
 have eM:=hA.total
 have aP:∀{b:Nat},Pf c V p b->b<w.heap.size:=h.lt
 rw[show A.li 0=A.once from rfl] at sj
 rw[show A.li 1=A.often from rfl] at kY
 rw[show A.li 2=A.Mk from rfl] at gF
 rw[show A.li 3=A.Mf from rfl] at ko
 have hB:=h.cells
 obtain⟨a0,c0,e0,-⟩:∃a c,(V 0).1= .slice a A.once.length c/\_:=(h.q 0 (by decide)).sl.rd.shape
 obtain⟨a1,c1,e1,-⟩:∃a c,(V 1).1= .slice a A.often.length c/\_:=(h.q 1 (by decide)).sl.rd.shape
 obtain⟨a2,c2,e2,-⟩:∃a c,(V 2).1= .slice a A.Mk.length c/\_:=(h.q 2 (by decide)).sl.rd.shape
 obtain⟨a3,c3,e3,-⟩:∃a c,(V 3).1= .slice a A.Mf.length c/\_:=(h.q 3 (by decide)).sl.rd.shape
 rw[e0,e1,e2,e3] at hB
 refine It (e:=[(0,_)]) Tryz.func191 O Tryz.ntmps191 O O$ qN O$ M5 O O (Oo (cs:=[_,_,_]) MD O) ?_
 rintro _ w1 ⟨b2,rfl,bY,ad,am⟩
 replace am:M7 w1 b2 [.bool false,.bool false,I 0] 265:=am
 have n2:∀b,Pf c V p b->b≠b2:=λb hb e=>by have:=aP hb;omega
 have aj:=ad.LY hB
 have aw:=Ext.Mm w1
 refine LX$ run_seq$ NV (λw'=>Ext w1 w') O$ Mj 0 O O (aw)$ M3 1 O (N4 O) aw$ M3 2 O (My Ns O) aw$ M3 3 O (My N0 O) aw$ qT 4 O (λ_ h=>M1 O8 O O (h.LY aj) O) aw$ M3 5 O (Pb O8 O) aw$ Mj 6 O O (aw)$ M3 7 O (N4 O) aw$ M3 8 O (My NG O) aw$ M3 9 O (My N0 O) aw$ qT 10 O (λ_ h=>M1 O8 O O (h.LY aj) O) aw ?_
 refine M3 11 O (Pb O8 O) aw$ M3 12 O (R4 O O (by omega)) aw$ M3 13 O (NX O) aw$ qE$ run_seq ?_
 rw[show(A.once.length:Int)+(A.Mk.length:Int)=((A.once.length+A.Mk.length:Nat):Int) by omega]
 have aa:=Ext.Mm w1.drew
 have ku:=aw.LY aj
 refine NV (λw'=>Ext w1.drew w') O$ Mj 0 O O (aa)$ Mj 1 O O (aa)$ M3 2 O (N4 O) aa$ M3 3 O (My O5 O) aa$ M3 4 O (My N0 O) aa$ qT 5 O (λ_ h=>M1 O8 O O (h.LY ku) O) aa$ M3 6 O (Pb O8 O) aa$ M3 7 O (R4 O O (by omega)) aa$ Mj 8 O O (aa)$ M3 9 O (N4 O) aa$ M3 10 O (My NZ O) aa$ M3 11 O (My N0 O) aa$ qT 12 O (λ_ h=>M1 O8 O O (h.LY ku) O) aa ?_
 refine M3 13 O (Pb O8 O) aa$ M3 14 O (R4 O O (by omega)) aa$ M3 15 O (NX O) aa ?_
 rw[show((A.once.length+A.Mk.length:Nat):Int)+(A.often.length:Int)+(A.Mf.length:Int)=(A.all.length:Int) by omega]
 have af:=(ad.trans aw).trans aa
 obtain⟨w2,ln⟩:∃w2,w1.drew.drew=w2:=⟨_,rfl⟩
 rw[ln] at af
 have aF:=aw.trans aa
 rw[ln] at aF⊢
 have h2:=h.ext af
 have jv:=h2.cells
 rw[e0,e1,e2,e3] at jv
 have ik:=aF.LY am
 have ae:=Ext.Mm w2
 refine qE$ Mz.qb (e:=[(0,_),(2,_),(3,_),(4,_)]) ?_
 refine run_seq$ MM (λe' w'=>e'=[(0,ptr c 0),(2,ptr b2 0)]/\∃A' V',A'.Ok/\A'.size=A.size/\SG w2 c V p w' A' V'/\M7 w' b2 [.bool false,.bool false,I 0] 265/\A.add=A'.room false/\w2.heap.size<=w'.heap.size) ?eu$ λeu=>?iE
 case eu=>
  rintro e' w3 ⟨rfl,A',V',tt,y8,ci,ar,dH,z3⟩;refine qN O$ LW O$ Mn XP O (Qg ci.m tt (by omega) false) ?_;rintro _ w4 ⟨rfl,V4,bH⟩;have hr:=ci.trans bH
  have n3:∀b,Pf c V' p b->b≠b2:=λb hb e=>by
   rcases ci.fp b hb with h5|h5
   ·exact n2 b h5 e
   ·have:=ik.lt;omega
  have n4:∀b,Pf c V4 p b->b≠b2:=λb hb e=>by
   rcases hr.fp b hb with h5|h5
   ·exact n2 b h5 e
   ·have:=ik.lt;omega
  have gG:=bH.k.LY ar (λe=>n3 _ e O);obtain⟨g,hg⟩:∃g,(A'.room false).2=g:=⟨_,rfl⟩;rw[hg];refine Mb O (MO (news:=Oj false g) MD O O O O gG (by simp)) ?_;rintro w5 ⟨dp,ak⟩;replace dp:M7 w5 b2 [.bool false,.bool g.isSome,I (g.getD 0)] 265:=dp;refine LX$ Mt Tryz.func191 (.cell Pc O MD O (M7.cells (n:=3) dp (news:=[_,_,_]) O) O .nil) ?_;rw[dH,hg];have z1:=ad.size;have z2:=af.size;exact⟨_,rfl,rfl,V4,hr.m.kp ak n4,λb hb=>(hr.fp b hb).imp id (λe=>by omega),(af.kp.trans hr.k).LS ak (λj e=> .inl (by omega))⟩
 case iE =>
  have e13:(A.all.length:Int)=(A.all.length:Int):=rfl;have h3:=h2.ext ae;have qc:=ae.LY jv;have cT:=ae.LY ik;have z1:=ad.size;have z2:=af.size;by_cases hf:A.once.length+A.Mk.length=A.size
  ·by_cases ho:A.once.length<A.size
   ·refine LU$ run_seq$ NV (λw'=>Ext w2 w') O$ Mj 0 O O (ae)$ Mj 1 O O (ae)$ M3 2 O (N4 O) ae$ M3 3 O (My P7 O) ae$ qT 4 O (λ_ h=>M1 U3 O O (h.LY jv) O) ae$ M3 5 O (yeq O O) ae$ QB$ Mj 6 O O (ae)$ Mj 7 O O (ae)$ M3 8 O (N4 O) ae$ M3 9 O (My Ns O) ae ?_;refine M3 10 O (My N0 O) ae$ qT 11 O (λ_ h=>M1 O8 O O (h.LY jv) O) ae$ M3 12 O (Pb O8 O) ae$ Mj 13 O O (ae)$ M3 14 O (N4 O) ae$ M3 15 O (My P7 O) ae$ qT 16 O (λ_ h=>M1 U3 O O (h.LY jv) O) ae$ M3 17 O (Xc O O) ae$ QB$ M3 18 O (RM O O) ae$ M3 19 O (NX O) ae$ qE$ M9 O ?_
    obtain⟨x,r,hw⟩:∃x r,A.Mk=x::r:=by
     cases hx:A.Mk with
     |nil=>rw[hx] at hf;simp at hf;omega
     |cons x r=>exact⟨x,r,rfl⟩
    obtain⟨lb,lo,lc,y9,-⟩:=h2.head (j:=2) (by decide) hw;rw[e2] at y9;cases y9;have cI:=(h3.q 2 (by decide)).sl.rd;rw[e2] at cI;have rq:0<A.Mk.length:=by rw[hw];simp
    have gP:((A.li 2).map I)[0]? =some (I x):=by show(A.Mk.map I)[0]? =_;rw[hw];rfl
    have ag:=Ext.Mm w2.drew;refine Mo [10] (λw'=>Ext w2.drew w') (by kernel_rfl) O$ qL [1,2,10] 0 O (λ_ h=>MH O) ag$ qL [2,10] 1 O (λ_ h=>N4 O) ag$ qL [10] 2 O (λ_ h=>My NG O) ag$ qL [4,5,6,7,8,9,10] 3 O (λ_ h=>MH O) ag$ qL [5,6,7,8,9,10] 4 O (λ_ h=>N4 O) ag$ qL [6,7,8,9,10] 5 O (λ_ h=>My NG O) ag$ qL [7,8,9,10] 6 O (λ_ h=>My N0 O) ag$ qL [8,9,10] 7 O (λ_ h=>M1 O8 O O (h.LY (ae.LY jv)) O) ag$ qL [9,10] 8 O (λ_ h=>MS O8 MV O O (by omega)) ag$ qL [10] 9 O (λ_ h=>MA U3 O O (Na (cI.ext h) (i:=0) gP)) ag$ PH [10]$ Pm 10 O Pn O (N6 (h3.ext ag) (j:=2) (k:=x) (by decide)) ?_;rintro _ w5 ⟨rfl,V5,cg⟩;refine⟨trivial,?_⟩;have ya:(A.li 2).erase x=A.Mk.drop 1:=by show A.Mk.erase x=A.Mk.drop 1;rw[hw];simp
    rw[ya] at cg;have f7:=(h2.r (ae.trans ag)).trans cg;have dp:=f7.k.LY ik (λe=>n2 _ e O);refine qE$ Mz.qb (e:=[(0,_),(2,_)]) ?_;refine LV ?_;exact(eu _ _ ⟨rfl,_,V5,hA.zda,(WT A (j:=2) (by decide) _).1,f7,dp,by unfold Arc.add;rw[if_pos hf,if_pos ho];rfl,f7.k.size⟩).qb
   ·refine LU$ run_seq$ NV (λw'=>Ext w2 w') O$ Mj 0 O O (ae)$ Mj 1 O O (ae)$ M3 2 O (N4 O) ae$ M3 3 O (My P7 O) ae$ qT 4 O (λ_ h=>M1 U3 O O (h.LY jv) O) ae$ M3 5 O (yeq O O) ae$ QB$ Mj 6 O O (ae)$ Mj 7 O O (ae)$ M3 8 O (N4 O) ae$ M3 9 O (My Ns O) ae ?_;refine M3 10 O (My N0 O) ae$ qT 11 O (λ_ h=>M1 O8 O O (h.LY jv) O) ae$ M3 12 O (Pb O8 O) ae$ Mj 13 O O (ae)$ M3 14 O (N4 O) ae$ M3 15 O (My P7 O) ae$ qT 16 O (λ_ h=>M1 U3 O O (h.LY jv) O) ae$ M3 17 O (Xc O O) ae$ QT$ M3 18 O (RM O O) ae$ M3 19 O (NX O) ae$ qE$ An O$ qN O ?_;refine Md O O$ MC O$ Ma P7 O$ qV (M1 U3 O O qc O)$ O3 O O$ O4$ M4 O$ Mz.qb (e:=[(0,_),(2,_),(4,_),(66,_)]) ?_;refine M9 O$ qN O$ Md O O$ MC O$ Ma Ns O ?_
    obtain⟨x,r,hw⟩:∃x r,A.once=x::r:=by
     cases hx:A.once with
     |nil=>rw[hx] at ho;simp at ho;omega
     |cons x r=>exact⟨x,r,rfl⟩
    have f0:=RV h3 (j:=0) (by decide);rw[show A.li 0=A.once from rfl,show TR A.once= .tuple #[I x,.bool true] by rw[hw];rfl] at f0;obtain⟨w3,qd⟩:∃w3,w2.drew=w3:=⟨_,rfl⟩;rw[qd] at f0 h3 cT ae⊢;refine Mn Ur O (f0) ?_;rintro _ w3 ⟨rfl,rfl⟩;refine LW O$ qV (O6 (v:=I x) O O)$ qV (O6 (v:= .bool true) O O)$ Me O$ Me O$ qM O$ LW O$ MC O$ Ma Ns O$ LW O$ Mn Pn O (N6 h3 (j:=0) (k:=x) (by decide)) ?_;rintro _ w5 ⟨rfl,V5,cg⟩;have ya:(A.li 0).erase x=A.once.drop 1:=by show A.once.erase x=A.once.drop 1;rw[hw];simp
    rw[ya] at cg;have f7:=(h2.r ae).trans cg;have dp:=f7.k.LY ik (λe=>n2 _ e O);refine qM O$ LW O$ qV (OO (cs:=[_,_,_]) MD O So O O)$ Mb O (MO (news:=Oj false (some x)) MD O O O O dp (by simp)) ?_;rintro w6 ⟨bZ,aR⟩;replace bZ:M7 w6 b2 [.bool false,.bool true,I x] 265:=bZ;refine LX$ Mt Tryz.func191 (.cell Pc O MD O (M7.cells (n:=3) bZ (news:=[_,_,_]) O) O .nil) ?_
    have n5:∀b,Pf c V5 p b->b≠b2:=λb hb e=>by
     rcases f7.fp b hb with h5|h5
     ·exact n2 b h5 e
     ·have:=ik.lt;omega
    have dH:A.add=(A.Nr 0 (A.once.drop 1),some x):=by unfold Arc.add;rw[if_pos hf,if_neg ho,hw];rfl
    rw[dH];exact⟨_,rfl,rfl,V5,f7.m.kp aR n5,λb hb=>(f7.fp b hb).imp id (λe=>by omega),(af.kp.trans f7.k).LS aR (λj e=> .inl (by omega))⟩
  ·refine LU$ run_seq$ NV (λw'=>Ext w2 w') O$ Mj 0 O O (ae)$ Mj 1 O O (ae)$ M3 2 O (N4 O) ae$ M3 3 O (My P7 O) ae$ qT 4 O (λ_ h=>M1 U3 O O (h.LY jv) O) ae$ M3 5 O (yeq O O) ae$ QT$ Mj 6 O O (ae)$ qJ 7 O (ae)$ qJ 8 O (ae)$ qJ 9 O (ae) ?_;refine qJ 10 O (ae)$ qJ 11 O (ae)$ qJ 12 O (ae)$ qJ 13 O (ae)$ qJ 14 O (ae)$ qJ 15 O (ae)$ qJ 16 O (ae)$ qJ 17 O (ae)$ M3 18 O (Ro O O) ae$ M3 19 O (NX O) ae$ qE$ An O$ qN O$ Md O O ?_;refine MC O$ Ma P7 O$ qV (M1 U3 O O qc O)$ O3 O O$ ML$ M4 O$ Mz.qb (e:=[(0,_),(2,_),(4,_),(66,_)]) ?_;refine An O$ qN O$ Md O O$ MC O$ Ma P7 O$ qV (M1 U3 O O qc O) ?_;by_cases h4:A.all.length<A.size
   ·refine Ni O O$ O4$ M4 O$ M9 O$ qN O$ qV (OO (cs:=[_,_,_]) MD O So O O)$ Mb O (MO (news:=Oj false none) MD O O O O cT (by simp)) ?_;rintro w5 ⟨dp,ak⟩;replace dp:M7 w5 b2 [.bool false,.bool false,I 0] 265:=dp;refine LX$ Mt Tryz.func191 (.cell Pc O MD O (M7.cells (n:=3) dp (news:=[_,_,_]) O) O .nil) ?_;have dH:A.add=(A,none):=by unfold Arc.add;rw[if_neg hf,if_pos h4]
    rw[dH];exact⟨_,rfl,rfl,V,h3.kp ak n2,λb hb=> .inl hb,((af.trans ae).LS ak (λj e=>by omega)).kp⟩
   ·refine Ni O O$ ML$ M4 O$ An O$ qN O$ Md O O$ MC O$ Ma P7 O$ qV (M1 U3 O O qc O)$ qV (SB O O (by omega)) ?_;by_cases h5:A.all.length=2*A.size
    ·refine O3 O O$ O4$ M4 O$ M9 O ?_
     obtain⟨x,r,hw⟩:∃x r,A.Mf=x::r:=by
      cases hx:A.Mf with
      |nil=>rw[hx] at gO;simp at gO;omega
      |cons x r=>exact⟨x,r,rfl⟩
     obtain⟨lb,lo,lc,y9,-⟩:=h2.head (j:=3) (by decide) hw;rw[e3] at y9;cases y9;have cI:=(h3.q 3 (by decide)).sl.rd;rw[e3] at cI;have rq:0<A.Mf.length:=by rw[hw];simp
     have gP:((A.li 3).map I)[0]? =some (I x):=by show(A.Mf.map I)[0]? =_;rw[hw];rfl
     have ag:=Ext.Mm w2.drew;refine Mo [10] (λw'=>Ext w2.drew w') (by kernel_rfl) O$ qL [1,2,10] 0 O (λ_ h=>MH O) ag$ qL [2,10] 1 O (λ_ h=>N4 O) ag$ qL [10] 2 O (λ_ h=>My NZ O) ag$ qL [4,5,6,7,8,9,10] 3 O (λ_ h=>MH O) ag$ qL [5,6,7,8,9,10] 4 O (λ_ h=>N4 O) ag$ qL [6,7,8,9,10] 5 O (λ_ h=>My NZ O) ag$ qL [7,8,9,10] 6 O (λ_ h=>My N0 O) ag$ qL [8,9,10] 7 O (λ_ h=>M1 O8 O O (h.LY (ae.LY jv)) O) ag$ qL [9,10] 8 O (λ_ h=>MS O8 MV O O (by omega)) ag$ qL [10] 9 O (λ_ h=>MA U3 O O (Na (cI.ext h) (i:=0) gP)) ag$ PH [10]$ Pm 10 O Pn O (N6 (h3.ext ag) (j:=3) (k:=x) (by decide)) ?_;rintro _ w5 ⟨rfl,V5,cg⟩;refine⟨trivial,?_⟩;have ya:(A.li 3).erase x=A.Mf.drop 1:=by show A.Mf.erase x=A.Mf.drop 1;rw[hw];simp
     rw[ya] at cg;have f7:=(h2.r (ae.trans ag)).trans cg;have dp:=f7.k.LY ik (λe=>n2 _ e O);refine qE$ Mz.qb (e:=[(0,_),(2,_)]) ?_;refine LV ?_;exact(eu _ _ ⟨rfl,_,V5,hA.zdU,(WT A (j:=3) (by decide) _).1,f7,dp,by unfold Arc.add;rw[if_neg hf,if_neg h4,if_pos h5];rfl,f7.k.size⟩).qb
    ·refine O3 O O$ ML$ M4 O$ An O$ py$ LV ?_;exact(eu _ _ ⟨rfl,A,V,hA,rfl,h2.r ae,cT,by unfold Arc.add;rw[if_neg hf,if_neg h4,if_neg h5],ae.size⟩).qb
end
section
variable {w w' w2:World}{c p:Nat}{A A' A2:Arc}{V V' V2:Nat->Value×Value}{S:Nat->Prop}{k:Int}
theorem Ps.VA (h:Ps w c A V p){T:Int}(hB:M7 w' c (acC A.size T V p) 191)(hk:Kp (λb=>b=c) w w'):SG w c V p w' {A with target:=T} V:=
 ⟨⟨hB,λj hj=>by
  have e:({A with target:=T}:Arc).li j=A.li j:=by match j,hj with|0,_|1,_|2,_|3,_=>rfl
  rw[e]
  exact(h.q j hj).kp hk λb hb e=>h.nc j hj (e▸hb),hk.map h.pins (λe=>h.cp e.symm),h.S4,h.nc,h.np,h.cp⟩,λb hb=> .inl hb,hk.Mc λb e=> .inl e⟩
theorem Arc.Ok.VA (h:A.Ok){T:Int}(hT:0<=T/\T<=A.size):({A with target:=T}:Arc).Ok:=⟨h.pos,h.nd,h.held,h.first,h.total,hT⟩
theorem SG.mono (h:SG w c V p w' A' V'){b:Nat}(hb:∀j,Pf c V p j->j≠b)(hw:b<w.heap.size):∀j,Pf c V' p j->j≠b:=λj hj e=>by
 rcases h.fp j hj with h5|h5
 ·exact hb j h5 e
 ·omega
theorem z2T (h : Ps w c A V p)(hA : A.Ok)(cG : A.size <= 1000) : Mw Tryz.prog 150 [ptr c 0, I k] w λv w' => v = .tuple #[z8N (A.Oc k).2.1 (A.Oc k).2.2, I 0] /\ ∃ V', SG w c V p w' (A.Oc k).1 V' := by
 have kY:=hA.lens cG 1
 have gF:=hA.lens cG 2
 have ko:=hA.lens cG 3
 have Jb:=hA.tg
 have ib:=hA.pos
 have gO:=A.NI
 have eM:=hA.total
 have fw:=hA.nd
 unfold Arc.all at fw
 rw[List.nodup_append] at fw
 obtain⟨nd1,nd2,nd3⟩:=fw
 rw[List.nodup_append] at nd2
 obtain⟨nd4,nd5,nd6⟩:=nd2
 have aP:∀{b:Nat},Pf c V p b->b<w.heap.size:=h.lt
 rw[show A.li 1=A.often from rfl] at kY
 rw[show A.li 2=A.Mk from rfl] at gF
 rw[show A.li 3=A.Mf from rfl] at ko
 refine It (e:=[(0,_),(1,_)]) Tryz.func150 O Tryz.ntmps150 O O$ qN O$ M5 O O (Oo (cs:=[_,_,_]) MD O) ?_
 rintro _ w1 ⟨b4,rfl,f9,ad,aH⟩
 replace aH:M7 w1 b4 [.bool false,.bool false,I 0] 265:=aH
 have n4:∀b,Pf c V p b->b≠b4:=λb hb e=>by have:=aP hb;omega
 have l4:=aH.lt
 have h1:=h.ext ad
 have z1:=ad.size
 refine M4 O$ run_seq$ qN O$ LW O$ qV (N7 z5F O O)$ LX$ An O$ py$ run_seq$ qN O$ Md O O$ Mn za6 O (Z9 h1 (k:=k)) ?_
 rintro _ w1 ⟨rfl,rfl⟩
 by_cases bD:k∈A.once\/k∈A.often
 ·rw[decide_eq_true bD];refine LX$ M9 O$ qN O$ LW O$ MC O$ Ma Ns O$ LW O$ Mn Pn O (N6 h1 (j:=0) (k:=k) (by decide)) ?_;rintro _ w2 ⟨rfl,V2,dB⟩;refine qM O$ LW O$ MC O$ Ma O5 O$ LW O$ Mn Pn O (N6 dB.m (j:=1) (k:=k) (by decide)) ?_;rintro _ w3 ⟨rfl,V3,ci⟩;refine qM O$ LW O$ MC O$ Ma O5 O$ LW O ?_
  have uA:k∉((A.Nr 0 ((A.li 0).erase k)).Nr 1 (((A.Nr 0 ((A.li 0).erase k)).li 1).erase k)).li 1:=by
   show k∉A.often.erase k;exact nd4.not_mem_erase
  have jE:(((A.Nr 0 ((A.li 0).erase k)).Nr 1 (((A.Nr 0 ((A.li 0).erase k)).li 1).erase k)).li 1).length<=8191:=by
   show(A.often.erase k).length<=_;have:=(List.length_erase_le:(A.often.erase k).length<=A.often.length);omega
  refine Mn PU O (NH ci.m (j:=1) (k:=k) (by decide) uA jE) ?_;rintro _ w4 ⟨rfl,V4,bH⟩;have hr:=(dB.trans ci).trans bH;have cw:=hr.k.LY aH (λe=>n4 _ e O);refine qM O$ qV (OO (cs:=[_,_,_]) MD O So O O)$ Mb O (MO (news:=Oj true none) MD O O O O cw (by simp)) ?_;rintro w5 ⟨aM,ak⟩;replace aM:M7 w5 b4 [.bool true,.bool false,I 0] 265:=aM;refine M4 O$ Mz.qb (e:=[(0,_),(1,_),(4,_),(5,_)]) ?_;refine Mt Tryz.func150 (.cell Pc O MD O (M7.cells (n:=3) aM (news:=[_,_,_]) O) O (.tmp O .nil)) ?_;have eM:A.Oc k=({A with once:=A.once.erase k,often:=A.often.erase k++[k]},true,none):=by unfold Arc.Oc;rw[if_pos bD]
  rw[eM];exact⟨_,rfl,rfl,V4,hr.m.kp ak (hr.mono n4 l4),λb hb=>(hr.fp b hb).imp id (λe=>by omega),(ad.kp.trans hr.k).LS ak (λj e=> .inl (by omega))⟩
 ·rw [decide_eq_false bD]; have gU : k ∉ A.once := λe => bD (.inl e); have aK : k ∉ A.often := λe => bD (.inr e); have lR : ¬ A.held k := bD; refine LX (An O ?_); have f0 := RV h1 (j := 0) (by decide); have f1 := RV h1 (j := 1) (by decide); rw [show A.li 0 = A.once from rfl] at f0; rw [show A.li 1 = A.often from rfl] at f1
  obtain⟨v0,o0,e0,q0⟩:∃x o,TR A.once= .tuple #[I x,.bool o]/\(o=true↔A.once≠[]):=by
   cases A.once with
   |nil=>exact⟨_,_,rfl,by simp⟩
   |cons x r=>exact⟨_,_,rfl,by simp⟩
  obtain⟨v1,o1,e1,q1⟩:∃x o,TR A.often= .tuple #[I x,.bool o]/\(o=true↔A.often≠[]):=by
   cases A.often with
   |nil=>exact⟨_,_,rfl,by simp⟩
   |cons x r=>exact⟨_,_,rfl,by simp⟩
  rw[e0] at f0;rw[e1] at f1;refine py$ qN O$ Md O O$ MC O$ Ma Ns O$ Mn Ur O (f0) ?_;rintro _ w1 ⟨rfl,rfl⟩;refine LW O$ qV (O6 (v:=I v0) O O)$ qV (O6 (v:= .bool o0) O O)$ Me O$ Me O$ qM O$ Md O O$ MC O$ Ma O5 O$ Mn Ur O (f1) ?_;rintro _ w1 ⟨rfl,rfl⟩;refine LW O$ qV (O6 (v:=I v1) O O)$ qV (O6 (v:= .bool o1) O O)$ Me O$ M4 O$ Mz.qb (e:=[(0,_),(1,_),(4,_),(5,_),(7,_),(9,_)]) ?_;refine run_seq$ qN O$ LW O$ Mn za0 O (YF h1 hA cG) ?_;rintro _ w2 ⟨rfl,af⟩;have h2:=h1.ext af;have bA:=af.LY aH;have aG:=ad.trans af;have z2:=af.size;have eN:=h2.cells;have aa:=Ext.Mm w2;obtain⟨a2,c2,e2,-⟩:∃a c,(V 2).1= .slice a A.Mk.length c/\_:=(h.q 2 (by decide)).sl.rd.shape;obtain⟨a3,c3,e3,-⟩:∃a c,(V 3).1= .slice a A.Mf.length c/\_:=(h.q 3 (by decide)).sl.rd.shape;rw[e2,e3] at eN;have ln:=RY h2 (j:=2) (k:=k) (by decide);have qd:=RY h2 (j:=3) (k:=k) (by decide);rw[show A.li 2=A.Mk from rfl] at ln;rw[show A.li 3=A.Mf from rfl] at qd;have n4':∀b,Pf c V p b->b≠b4:=n4;have l42:b4<w2.heap.size:=by omega
  by_cases cf:A.once.length+A.often.length=A.size
  ·rw [decide_eq_true cf]
   cases Gh:o0 with
   | true =>
     subst Gh;refine Md O O$ qV ((by first|exact MX O|exact Oy O)) ?_;refine NC O O$ LW O$ qS$ qS$ MN O O$ LX$ An O$ py$ run_seq$ LU$ qN O$ LW O$ MC O$ Ma NG O ?_;refine LW O$ Mn TN O (ln) ?_;rintro _ w2 ⟨rfl,rfl⟩;by_cases hg:k∈A.Mk
     ·rw[decide_eq_true hg];refine M4 O$ M9 O$ run_seq ?_;have rq:0<A.Mk.length:=List.length_pos_of_mem hg;obtain⟨q,hq⟩:∃q,A.Mf.length / A.Mk.length=q:=⟨_,rfl⟩;have fR:q<=2000:=by rw[<-hq];exact Nat.le_trans (Nat.div_le_self _ _) ko
      have mx:(A.Mf.length:Int) / (A.Mk.length:Int)=(q:Int):=by rw[<-hq];exact(Int.natCast_ediv _ _).symm
      refine Mo [27] (λw'=>Ext w2 w') (by kernel_rfl) O$ qL [25,26,27] 0 O (λ_ h=>MH O) aa$ qL [2,3,4,24,25,26,27] 1 O (λ_ h=>MH O) aa$ qL [3,4,24,25,26,27] 2 O (λ_ h=>N4 O) aa$ qL [4,24,25,26,27] 3 O (λ_ h=>My P7 O) aa$ qL [24,25,26,27] 4 O (λ_ h=>M1 U3 O O (h.LY eN) O) aa$ qL [6,7,8,23,24,25,26,27] 5 O (λ_ h=>MH O) aa$ qL [7,8,23,24,25,26,27] 6 O (λ_ h=>N4 O) aa$ qL [8,23,24,25,26,27] 7 O (λ_ h=>My O0 O) aa$ qL [23,24,25,26,27] 8 O (λ_ h=>M1 U3 O O (h.LY eN) O) aa$ qL [10,11,12,13,14,21,22,23,24,25,26,27] 9 O (λ_ h=>MH O) aa$ qL [11,12,13,14,21,22,23,24,25,26,27] 10 O (λ_ h=>N4 O) aa$ qL [12,13,14,21,22,23,24,25,26,27] 11 O (λ_ h=>My NZ O) aa$ qL [13,14,21,22,23,24,25,26,27] 12 O (λ_ h=>My N0 O) aa ?_;refine qL [14,21,22,23,24,25,26,27] 13 O (λ_ h=>M1 O8 O O (h.LY eN) O) aa$ qL [21,22,23,24,25,26,27] 14 O (λ_ h=>Pb O8 O) aa$ qL [16,17,18,19,20,21,22,23,24,25,26,27] 15 O (λ_ h=>MH O) aa$ qL [17,18,19,20,21,22,23,24,25,26,27] 16 O (λ_ h=>N4 O) aa$ qL [18,19,20,21,22,23,24,25,26,27] 17 O (λ_ h=>My NG O) aa$ qL [19,20,21,22,23,24,25,26,27] 18 O (λ_ h=>My N0 O) aa$ qL [20,21,22,23,24,25,26,27] 19 O (λ_ h=>M1 O8 O O (h.LY eN) O) aa$ qL [21,22,23,24,25,26,27] 20 O (λ_ h=>Pb O8 O) aa$ qL [22,23,24,25,26,27] 21 O (λ_ h=>Te O O ⟨by omega,by omega,by omega⟩) aa ?_;rw[mx];refine qL [23,24,25,26,27] 22 O (λ_ h=>yma O O) aa$ qL [24,25,26,27] 23 O (λ_ h=>R4 O O (by omega)) aa$ qL [25,26,27] 24 O (λ_ h=>ymi O O) aa$ qL [26,27] 25 O (λ_ h=>N4 O) aa$ qL [27] 26 O (λ_ h=>My O0 O) aa$ PH [27]$ qO 27$ MI (i:=27) O O (NT MV O O O (aa.LY eN) (by simp)) ?_;rintro w5 ⟨aI,ak⟩;refine⟨trivial,?_⟩;obtain⟨T,hT⟩:∃T:Int,min (A.size:Int) (A.target+max 1 (q:Int))=T:=⟨_,rfl⟩;have nH:0<=T/\T<=A.size:=by omega
      rw[hT] at aI
      replace aI:M7 w5 c (acC A.size T V p) 191:=by
       show M7 w5 c [I (A.size:Int),(V 0).1,(V 0).2,(V 1).1,(V 1).2,(V 2).1,(V 2).2,(V 3).1,(V 3).2,I T,.map (some p)] _;rw[e2,e3];exact aI
      have cg:=(h2.ext aa).VA aI ak;have aT:=hA.VA nH;obtain⟨A5,bE⟩:∃A5:Arc,{A with target:=T}=A5:=⟨_,rfl⟩;have oo:A5.size=A.size:=by rw[<-bE]
      have nI:¬A5.held k:=by rw[<-bE];exact lR
      have rl:k∈A5.Mk:=by rw[<-bE];exact hg
      rw[bE] at cg aT;refine qE$ Mz.qb (e:=[(0,_),(1,_),(4,_),(5,_)]) ?_;refine qN O$ LW O$ Mn XP O (Qg cg.m aT (by omega) false) ?_;rintro _ w6 ⟨rfl,V6,cD⟩;have az:=Arc.PR aT false;obtain⟨r6,cq⟩:∃r,A5.room false=r:=⟨_,rfl⟩;rw[cq] at cD az⊢;obtain⟨A6,g6⟩:=r6;dsimp only at cD az⊢;have eQ:=az.perm.length_eq;have ja:=A6.NI;have nJ:=A5.NI;have nK:=aT.total;have aC:=((h2.r aa).trans cg).trans cD;have bV:=aC.k.LY bA (λe=>n4' _ e O);refine Mb O (MO (news:=Oj false g6) MD O O O O bV (by simp)) ?_;rintro w7 ⟨bu,aD⟩;replace bu:M7 w7 b4 [.bool false,.bool g6.isSome,I (g6.getD 0)] 265:=bu;have n46:=aC.mono n4' l42;have ge:=aC.m.kp aD n46;refine qM O$ LW O$ MC O$ Ma NG O$ LW O$ Mn Pn O (N6 ge (j:=2) (k:=k) (by decide)) ?_;rintro _ w8 ⟨rfl,V8,fu⟩
      have dI:k∉(A6.Nr 2 ((A6.li 2).erase k)).li 1:=by
       show k∉A6.often;exact λe=>nI ((az.gone k).1 (.inr e)).1
      refine LX$ M0 O$ LW O$ MC O$ Ma O5 O$ LW O$ Mn PU O (NH fu.m (j:=1) (k:=k) (by decide) dI (by show A6.often.length<=_;omega)) ?_;rintro _ w9 ⟨rfl,V9,gS⟩;have bj:=fu.trans gS;have bU:=bj.k.LY bu (λe=>n46 _ e O);have eO:=bU
      have ct:∀b,Pf c V9 p b->Pf c V p b\/w2.heap.size<=b:=λb hb=>by
       rcases bj.fp b hb with h5|h5
       ·exact aC.fp b h5
       ·have:=aC.k.size;have:=aD.size;exact .inr (by omega)
      have aO:Kp (λj=>Pf c V p j\/j=b4) w2 w9:=((aC.k.Mc λj e=> .inl e).trans (aD.Mc λj e=> .inr e)).LS bj.k (λj e=>by
       rcases aC.fp j e with h5|h5
       ·exact .inr (.inl h5)
       ·exact .inl h5)
      refine LX$ LV$ qN O$ qV (Mv (news:=Oj false g6) Pc O MD O (M7.cells (n:=3) eO O) O)$ Mb O (MO (news:=Oj false g6) MD O O O O eO (by simp)) ?_;rintro we ⟨da,dm⟩;replace da:M7 we b4 [.bool false,.bool g6.isSome,I (g6.getD 0)] 265:=da;refine M4 O$ Mt Tryz.func150 (.cell Pc O MD O (M7.cells (n:=3) da (news:=[_,_,_]) O) O (.tmp O .nil)) ?_
      have n49:∀b,Pf c V9 p b->b≠b4:=λb hb e=>by
       rcases ct b hb with h5|h5
       ·exact n4' b h5 e
       ·omega
      have eM:A.Oc k=({A6 with Mk:=A6.Mk.erase k,often:=A6.often++[k]},false,g6):=by
       unfold Arc.Oc;rw[if_neg bD,if_pos hg];dsimp only;rw[hq,hT,bE,cq]
      rw[eM]
      exact⟨_,rfl,rfl,V9,bj.m.kp dm n49,λb hb=>(ct b hb).imp id (λe=>by omega),(aG.kp.LS aO (λj e=>by
       rcases e with e| e
       ·exact .inr e
       ·exact .inl (by omega))).LS dm (λj e=> .inl (by omega))⟩
     ·have rt:=hg;rw[decide_eq_false hg];refine M4 O$ An O$ qN O$ LW O$ MC O$ Ma NZ O$ LW O$ Mn TN O (qd) ?_;rintro _ w2 ⟨rfl,rfl⟩;by_cases hg:k∈A.Mf
      ·rw[decide_eq_true hg];refine M4 O$ Mz.qb (e:=[(0,_),(1,_),(4,_),(5,_),(111,_)]) ?_;refine M9 O$ run_seq ?_;have rq:0<A.Mf.length:=List.length_pos_of_mem hg;obtain⟨q,hq⟩:∃q,A.Mk.length / A.Mf.length=q:=⟨_,rfl⟩;have fR:q<=2000:=by rw[<-hq];exact Nat.le_trans (Nat.div_le_self _ _) gF
       have mx:(A.Mk.length:Int) / (A.Mf.length:Int)=(q:Int):=by rw[<-hq];exact(Int.natCast_ediv _ _).symm
       refine Mo [23] (λw'=>Ext w2 w') (by kernel_rfl) O$ qL [21,22,23] 0 O (λ_ h=>MH O) aa$ qL [2,3,4,19,20,21,22,23] 1 O (λ_ h=>MH O) aa$ qL [3,4,19,20,21,22,23] 2 O (λ_ h=>N4 O) aa$ qL [4,19,20,21,22,23] 3 O (λ_ h=>My O0 O) aa$ qL [19,20,21,22,23] 4 O (λ_ h=>M1 U3 O O (h.LY eN) O) aa$ qL [6,7,8,9,10,17,18,19,20,21,22,23] 5 O (λ_ h=>MH O) aa$ qL [7,8,9,10,17,18,19,20,21,22,23] 6 O (λ_ h=>N4 O) aa$ qL [8,9,10,17,18,19,20,21,22,23] 7 O (λ_ h=>My NG O) aa$ qL [9,10,17,18,19,20,21,22,23] 8 O (λ_ h=>My N0 O) aa$ qL [10,17,18,19,20,21,22,23] 9 O (λ_ h=>M1 O8 O O (h.LY eN) O) aa$ qL [17,18,19,20,21,22,23] 10 O (λ_ h=>Pb O8 O) aa$ qL [12,13,14,15,16,17,18,19,20,21,22,23] 11 O (λ_ h=>MH O) aa$ qL [13,14,15,16,17,18,19,20,21,22,23] 12 O (λ_ h=>N4 O) aa ?_;refine qL [14,15,16,17,18,19,20,21,22,23] 13 O (λ_ h=>My NZ O) aa$ qL [15,16,17,18,19,20,21,22,23] 14 O (λ_ h=>My N0 O) aa$ qL [16,17,18,19,20,21,22,23] 15 O (λ_ h=>M1 O8 O O (h.LY eN) O) aa$ qL [17,18,19,20,21,22,23] 16 O (λ_ h=>Pb O8 O) aa$ qL [18,19,20,21,22,23] 17 O (λ_ h=>Te O O ⟨by omega,by omega,by omega⟩) aa ?_;rw[mx];refine qL [19,20,21,22,23] 18 O (λ_ h=>yma O O) aa$ qL [20,21,22,23] 19 O (λ_ h=>TO O O (by omega)) aa$ qL [21,22,23] 20 O (λ_ h=>yma O O) aa$ qL [22,23] 21 O (λ_ h=>N4 O) aa$ qL [23] 22 O (λ_ h=>My O0 O) aa$ PH [23]$ qO 23$ MI (i:=23) O O (NT MV O O O (aa.LY eN) (by simp)) ?_;rintro w5 ⟨aI,ak⟩;refine⟨trivial,?_⟩;obtain⟨T,hT⟩:∃T:Int,max 0 (A.target-max 1 (q:Int))=T:=⟨_,rfl⟩;have nH:0<=T/\T<=A.size:=by omega
       rw[hT] at aI
       replace aI:M7 w5 c (acC A.size T V p) 191:=by
        show M7 w5 c [I (A.size:Int),(V 0).1,(V 0).2,(V 1).1,(V 1).2,(V 2).1,(V 2).2,(V 3).1,(V 3).2,I T,.map (some p)] _;rw[e2,e3];exact aI
       have cg:=(h2.ext aa).VA aI ak;have aT:=hA.VA nH;obtain⟨A5,bE⟩:∃A5:Arc,{A with target:=T}=A5:=⟨_,rfl⟩;have oo:A5.size=A.size:=by rw[<-bE]
       have nI:¬A5.held k:=by rw[<-bE];exact lR
       have rl:k∈A5.Mf:=by rw[<-bE];exact hg
       rw[bE] at cg aT;refine qE$ Mz.qb (e:=[(0,_),(1,_),(4,_),(5,_)]) ?_;refine qN O$ LW O$ Mn XP O (Qg cg.m aT (by omega) true) ?_;rintro _ w6 ⟨rfl,V6,cD⟩;have az:=Arc.PR aT true;obtain⟨r6,cq⟩:∃r,A5.room true=r:=⟨_,rfl⟩;rw[cq] at cD az⊢;obtain⟨A6,g6⟩:=r6;dsimp only at cD az⊢;have eQ:=az.perm.length_eq;have ja:=A6.NI;have nJ:=A5.NI;have nK:=aT.total;have aC:=((h2.r aa).trans cg).trans cD;have bV:=aC.k.LY bA (λe=>n4' _ e O);refine Mb O (MO (news:=Oj false g6) MD O O O O bV (by simp)) ?_;rintro w7 ⟨bu,aD⟩;replace bu:M7 w7 b4 [.bool false,.bool g6.isSome,I (g6.getD 0)] 265:=bu;have n46:=aC.mono n4' l42;have ge:=aC.m.kp aD n46;refine qM O$ LW O$ MC O$ Ma NZ O$ LW O$ Mn Pn O (N6 ge (j:=3) (k:=k) (by decide)) ?_;rintro _ w8 ⟨rfl,V8,fu⟩
       have dI:k∉(A6.Nr 3 ((A6.li 3).erase k)).li 1:=by
        show k∉A6.often;exact λe=>nI ((az.gone k).1 (.inr e)).1
       refine LX$ M0 O$ LW O$ MC O$ Ma O5 O$ LW O$ Mn PU O (NH fu.m (j:=1) (k:=k) (by decide) dI (by show A6.often.length<=_;omega)) ?_;rintro _ w9 ⟨rfl,V9,gS⟩;have bj:=fu.trans gS;have bU:=bj.k.LY bu (λe=>n46 _ e O);have eO:=bU
       have ct:∀b,Pf c V9 p b->Pf c V p b\/w2.heap.size<=b:=λb hb=>by
        rcases bj.fp b hb with h5|h5
        ·exact aC.fp b h5
        ·have:=aC.k.size;have:=aD.size;exact .inr (by omega)
       have aO:Kp (λj=>Pf c V p j\/j=b4) w2 w9:=((aC.k.Mc λj e=> .inl e).trans (aD.Mc λj e=> .inr e)).LS bj.k (λj e=>by
        rcases aC.fp j e with h5|h5
        ·exact .inr (.inl h5)
        ·exact .inl h5)
       refine LX$ LV$ qN O$ qV (Mv (news:=Oj false g6) Pc O MD O (M7.cells (n:=3) eO O) O)$ Mb O (MO (news:=Oj false g6) MD O O O O eO (by simp)) ?_;rintro we ⟨da,dm⟩;replace da:M7 we b4 [.bool false,.bool g6.isSome,I (g6.getD 0)] 265:=da;refine M4 O$ Mt Tryz.func150 (.cell Pc O MD O (M7.cells (n:=3) da (news:=[_,_,_]) O) O (.tmp O .nil)) ?_
       have n49:∀b,Pf c V9 p b->b≠b4:=λb hb e=>by
        rcases ct b hb with h5|h5
        ·exact n4' b h5 e
        ·omega
       have eM:A.Oc k=({A6 with Mf:=A6.Mf.erase k,often:=A6.often++[k]},false,g6):=by
        unfold Arc.Oc;rw[if_neg bD,if_neg rt,if_pos hg];dsimp only;rw[hq,hT,bE,cq]
       rw[eM]
       exact⟨_,rfl,rfl,V9,bj.m.kp dm n49,λb hb=>(ct b hb).imp id (λe=>by omega),(aG.kp.LS aO (λj e=>by
        rcases e with e| e
        ·exact .inr e
        ·exact .inl (by omega))).LS dm (λj e=> .inl (by omega))⟩
      ·rw[decide_eq_false hg];refine M4 O$ Mz.qb (e:=[(0,_),(1,_),(4,_),(5,_),(111,_)]) ?_;refine An O$ qN O$ LW O$ Mn z6o O (XB h2 hA cG) ?_;rintro _ w6 ⟨rfl,V6,cD⟩;have dH:=Arc.Zs hA;obtain⟨r6,cq⟩:∃r,A.add=r:=⟨_,rfl⟩;rw[cq] at cD dH⊢;obtain⟨A6,g6⟩:=r6;dsimp only at cD dH⊢;obtain⟨fg,-,-⟩:=dH;have ja:=A6.NI;have aC:=cD;have bV:=aC.k.LY bA (λe=>n4' _ e O);refine Mb O (MO (news:=Oj false g6) MD O O O O bV (by simp)) ?_;rintro w7 ⟨bu,aD⟩;replace bu:M7 w7 b4 [.bool false,.bool g6.isSome,I (g6.getD 0)] 265:=bu;have n46:=aC.mono n4' l42;have ge:=aC.m.kp aD n46
       have dI:k∉A6.li 0:=by
        show k∉A6.once;exact λe=>lR ((fg.gone k).1 (.inl e)).1
       have oE:=fg.UR;refine LX$ M0 O$ LW O$ MC O$ Ma Ns O$ LW O$ Mn PU O (NH ge (j:=0) (k:=k) (by decide) dI (by show A6.once.length<=_;omega)) ?_;rintro _ w9 ⟨rfl,V9,gS⟩;have bj:=gS;have bU:=bj.k.LY bu (λe=>n46 _ e O);have eO:=bU
       have ct:∀b,Pf c V9 p b->Pf c V p b\/w2.heap.size<=b:=λb hb=>by
        rcases bj.fp b hb with h5|h5
        ·exact aC.fp b h5
        ·have:=aC.k.size;have:=aD.size;exact .inr (by omega)
       have aO:Kp (λj=>Pf c V p j\/j=b4) w2 w9:=((aC.k.Mc λj e=> .inl e).trans (aD.Mc λj e=> .inr e)).LS bj.k (λj e=>by
        rcases aC.fp j e with h5|h5
        ·exact .inr (.inl h5)
        ·exact .inl h5)
       refine LX$ LV$ qN O$ qV (Mv (news:=Oj false g6) Pc O MD O (M7.cells (n:=3) eO O) O)$ Mb O (MO (news:=Oj false g6) MD O O O O eO (by simp)) ?_;rintro we ⟨da,dm⟩;replace da:M7 we b4 [.bool false,.bool g6.isSome,I (g6.getD 0)] 265:=da;refine M4 O$ Mt Tryz.func150 (.cell Pc O MD O (M7.cells (n:=3) da (news:=[_,_,_]) O) O (.tmp O .nil)) ?_
       have n49:∀b,Pf c V9 p b->b≠b4:=λb hb e=>by
        rcases ct b hb with h5|h5
        ·exact n4' b h5 e
        ·omega
       have eM:A.Oc k=({A6 with once:=A6.once++[k]},false,g6):=by
        unfold Arc.Oc;rw[if_neg bD,if_neg rt,if_neg hg];dsimp only;rw[cq]
       rw[eM]
       exact⟨_,rfl,rfl,V9,bj.m.kp dm n49,λb hb=>(ct b hb).imp id (λe=>by omega),(aG.kp.LS aO (λj e=>by
        rcases e with e| e
        ·exact .inr e
        ·exact .inl (by omega))).LS dm (λj e=> .inl (by omega))⟩
   | false =>
     subst Gh
     have y7:o1=true:=by
      have e:A.once=[]:=Classical.not_not.1 λe=>by have:=q0.2 e;cases this
      rw[e] at cf;exact q1.2 λe=>by rw[e] at cf;simp at cf;omega
     subst y7;refine Md O O$ qV ((by first|exact MX O|exact Oy O)) ?_;refine NC O O$ Md O O$ qV ((by first|exact MX O|exact Oy O)) ?_;refine NC O O$ LX$ An O$ py$ run_seq$ LU$ qN O$ LW O$ MC O$ Ma NG O$ LW O$ Mn TN O (ln) ?_;rintro _ w2 ⟨rfl,rfl⟩;by_cases hg:k∈A.Mk
     ·rw[decide_eq_true hg];refine M4 O$ M9 O$ run_seq ?_;have rq:0<A.Mk.length:=List.length_pos_of_mem hg;obtain⟨q,hq⟩:∃q,A.Mf.length / A.Mk.length=q:=⟨_,rfl⟩;have fR:q<=2000:=by rw[<-hq];exact Nat.le_trans (Nat.div_le_self _ _) ko
      have mx:(A.Mf.length:Int) / (A.Mk.length:Int)=(q:Int):=by rw[<-hq];exact(Int.natCast_ediv _ _).symm
      refine Mo [27] (λw'=>Ext w2 w') (by kernel_rfl) O$ qL [25,26,27] 0 O (λ_ h=>MH O) aa$ qL [2,3,4,24,25,26,27] 1 O (λ_ h=>MH O) aa$ qL [3,4,24,25,26,27] 2 O (λ_ h=>N4 O) aa$ qL [4,24,25,26,27] 3 O (λ_ h=>My P7 O) aa$ qL [24,25,26,27] 4 O (λ_ h=>M1 U3 O O (h.LY eN) O) aa$ qL [6,7,8,23,24,25,26,27] 5 O (λ_ h=>MH O) aa$ qL [7,8,23,24,25,26,27] 6 O (λ_ h=>N4 O) aa$ qL [8,23,24,25,26,27] 7 O (λ_ h=>My O0 O) aa$ qL [23,24,25,26,27] 8 O (λ_ h=>M1 U3 O O (h.LY eN) O) aa$ qL [10,11,12,13,14,21,22,23,24,25,26,27] 9 O (λ_ h=>MH O) aa$ qL [11,12,13,14,21,22,23,24,25,26,27] 10 O (λ_ h=>N4 O) aa$ qL [12,13,14,21,22,23,24,25,26,27] 11 O (λ_ h=>My NZ O) aa$ qL [13,14,21,22,23,24,25,26,27] 12 O (λ_ h=>My N0 O) aa ?_;refine qL [14,21,22,23,24,25,26,27] 13 O (λ_ h=>M1 O8 O O (h.LY eN) O) aa$ qL [21,22,23,24,25,26,27] 14 O (λ_ h=>Pb O8 O) aa$ qL [16,17,18,19,20,21,22,23,24,25,26,27] 15 O (λ_ h=>MH O) aa$ qL [17,18,19,20,21,22,23,24,25,26,27] 16 O (λ_ h=>N4 O) aa$ qL [18,19,20,21,22,23,24,25,26,27] 17 O (λ_ h=>My NG O) aa$ qL [19,20,21,22,23,24,25,26,27] 18 O (λ_ h=>My N0 O) aa$ qL [20,21,22,23,24,25,26,27] 19 O (λ_ h=>M1 O8 O O (h.LY eN) O) aa$ qL [21,22,23,24,25,26,27] 20 O (λ_ h=>Pb O8 O) aa$ qL [22,23,24,25,26,27] 21 O (λ_ h=>Te O O ⟨by omega,by omega,by omega⟩) aa ?_;rw[mx];refine qL [23,24,25,26,27] 22 O (λ_ h=>yma O O) aa$ qL [24,25,26,27] 23 O (λ_ h=>R4 O O (by omega)) aa$ qL [25,26,27] 24 O (λ_ h=>ymi O O) aa$ qL [26,27] 25 O (λ_ h=>N4 O) aa$ qL [27] 26 O (λ_ h=>My O0 O) aa$ PH [27]$ qO 27$ MI (i:=27) O O (NT MV O O O (aa.LY eN) (by simp)) ?_;rintro w5 ⟨aI,ak⟩;refine⟨trivial,?_⟩;obtain⟨T,hT⟩:∃T:Int,min (A.size:Int) (A.target+max 1 (q:Int))=T:=⟨_,rfl⟩;have nH:0<=T/\T<=A.size:=by omega
      rw[hT] at aI
      replace aI:M7 w5 c (acC A.size T V p) 191:=by
       show M7 w5 c [I (A.size:Int),(V 0).1,(V 0).2,(V 1).1,(V 1).2,(V 2).1,(V 2).2,(V 3).1,(V 3).2,I T,.map (some p)] _;rw[e2,e3];exact aI
      have cg:=(h2.ext aa).VA aI ak;have aT:=hA.VA nH;obtain⟨A5,bE⟩:∃A5:Arc,{A with target:=T}=A5:=⟨_,rfl⟩;have oo:A5.size=A.size:=by rw[<-bE]
      have nI:¬A5.held k:=by rw[<-bE];exact lR
      have rl:k∈A5.Mk:=by rw[<-bE];exact hg
      rw[bE] at cg aT;refine qE$ Mz.qb (e:=[(0,_),(1,_),(4,_),(5,_)]) ?_;refine qN O$ LW O$ Mn XP O (Qg cg.m aT (by omega) false) ?_;rintro _ w6 ⟨rfl,V6,cD⟩;have az:=Arc.PR aT false;obtain⟨r6,cq⟩:∃r,A5.room false=r:=⟨_,rfl⟩;rw[cq] at cD az⊢;obtain⟨A6,g6⟩:=r6;dsimp only at cD az⊢;have eQ:=az.perm.length_eq;have ja:=A6.NI;have nJ:=A5.NI;have nK:=aT.total;have aC:=((h2.r aa).trans cg).trans cD;have bV:=aC.k.LY bA (λe=>n4' _ e O);refine Mb O (MO (news:=Oj false g6) MD O O O O bV (by simp)) ?_;rintro w7 ⟨bu,aD⟩;replace bu:M7 w7 b4 [.bool false,.bool g6.isSome,I (g6.getD 0)] 265:=bu;have n46:=aC.mono n4' l42;have ge:=aC.m.kp aD n46;refine qM O$ LW O$ MC O$ Ma NG O$ LW O$ Mn Pn O (N6 ge (j:=2) (k:=k) (by decide)) ?_;rintro _ w8 ⟨rfl,V8,fu⟩
      have dI:k∉(A6.Nr 2 ((A6.li 2).erase k)).li 1:=by
       show k∉A6.often;exact λe=>nI ((az.gone k).1 (.inr e)).1
      refine LX$ M0 O$ LW O$ MC O$ Ma O5 O$ LW O$ Mn PU O (NH fu.m (j:=1) (k:=k) (by decide) dI (by show A6.often.length<=_;omega)) ?_;rintro _ w9 ⟨rfl,V9,gS⟩;have bj:=fu.trans gS;have bU:=bj.k.LY bu (λe=>n46 _ e O);have eO:=bU
      have ct:∀b,Pf c V9 p b->Pf c V p b\/w2.heap.size<=b:=λb hb=>by
       rcases bj.fp b hb with h5|h5
       ·exact aC.fp b h5
       ·have:=aC.k.size;have:=aD.size;exact .inr (by omega)
      have aO:Kp (λj=>Pf c V p j\/j=b4) w2 w9:=((aC.k.Mc λj e=> .inl e).trans (aD.Mc λj e=> .inr e)).LS bj.k (λj e=>by
       rcases aC.fp j e with h5|h5
       ·exact .inr (.inl h5)
       ·exact .inl h5)
      refine LX$ LV$ qN O$ qV (Mv (news:=Oj false g6) Pc O MD O (M7.cells (n:=3) eO O) O)$ Mb O (MO (news:=Oj false g6) MD O O O O eO (by simp)) ?_;rintro we ⟨da,dm⟩;replace da:M7 we b4 [.bool false,.bool g6.isSome,I (g6.getD 0)] 265:=da;refine M4 O$ Mt Tryz.func150 (.cell Pc O MD O (M7.cells (n:=3) da (news:=[_,_,_]) O) O (.tmp O .nil)) ?_
      have n49:∀b,Pf c V9 p b->b≠b4:=λb hb e=>by
       rcases ct b hb with h5|h5
       ·exact n4' b h5 e
       ·omega
      have eM:A.Oc k=({A6 with Mk:=A6.Mk.erase k,often:=A6.often++[k]},false,g6):=by
       unfold Arc.Oc;rw[if_neg bD,if_pos hg];dsimp only;rw[hq,hT,bE,cq]
      rw[eM]
      exact⟨_,rfl,rfl,V9,bj.m.kp dm n49,λb hb=>(ct b hb).imp id (λe=>by omega),(aG.kp.LS aO (λj e=>by
       rcases e with e| e
       ·exact .inr e
       ·exact .inl (by omega))).LS dm (λj e=> .inl (by omega))⟩
     ·have rt:=hg;rw[decide_eq_false hg];refine M4 O$ An O$ qN O$ LW O$ MC O$ Ma NZ O$ LW O$ Mn TN O (qd) ?_;rintro _ w2 ⟨rfl,rfl⟩;by_cases hg:k∈A.Mf
      ·rw[decide_eq_true hg];refine M4 O$ Mz.qb (e:=[(0,_),(1,_),(4,_),(5,_),(111,_)]) ?_;refine M9 O$ run_seq ?_;have rq:0<A.Mf.length:=List.length_pos_of_mem hg;obtain⟨q,hq⟩:∃q,A.Mk.length / A.Mf.length=q:=⟨_,rfl⟩;have fR:q<=2000:=by rw[<-hq];exact Nat.le_trans (Nat.div_le_self _ _) gF
       have mx:(A.Mk.length:Int) / (A.Mf.length:Int)=(q:Int):=by rw[<-hq];exact(Int.natCast_ediv _ _).symm
       refine Mo [23] (λw'=>Ext w2 w') (by kernel_rfl) O$ qL [21,22,23] 0 O (λ_ h=>MH O) aa$ qL [2,3,4,19,20,21,22,23] 1 O (λ_ h=>MH O) aa$ qL [3,4,19,20,21,22,23] 2 O (λ_ h=>N4 O) aa$ qL [4,19,20,21,22,23] 3 O (λ_ h=>My O0 O) aa$ qL [19,20,21,22,23] 4 O (λ_ h=>M1 U3 O O (h.LY eN) O) aa$ qL [6,7,8,9,10,17,18,19,20,21,22,23] 5 O (λ_ h=>MH O) aa$ qL [7,8,9,10,17,18,19,20,21,22,23] 6 O (λ_ h=>N4 O) aa$ qL [8,9,10,17,18,19,20,21,22,23] 7 O (λ_ h=>My NG O) aa$ qL [9,10,17,18,19,20,21,22,23] 8 O (λ_ h=>My N0 O) aa$ qL [10,17,18,19,20,21,22,23] 9 O (λ_ h=>M1 O8 O O (h.LY eN) O) aa$ qL [17,18,19,20,21,22,23] 10 O (λ_ h=>Pb O8 O) aa$ qL [12,13,14,15,16,17,18,19,20,21,22,23] 11 O (λ_ h=>MH O) aa$ qL [13,14,15,16,17,18,19,20,21,22,23] 12 O (λ_ h=>N4 O) aa ?_;refine qL [14,15,16,17,18,19,20,21,22,23] 13 O (λ_ h=>My NZ O) aa$ qL [15,16,17,18,19,20,21,22,23] 14 O (λ_ h=>My N0 O) aa$ qL [16,17,18,19,20,21,22,23] 15 O (λ_ h=>M1 O8 O O (h.LY eN) O) aa$ qL [17,18,19,20,21,22,23] 16 O (λ_ h=>Pb O8 O) aa$ qL [18,19,20,21,22,23] 17 O (λ_ h=>Te O O ⟨by omega,by omega,by omega⟩) aa ?_;rw[mx];refine qL [19,20,21,22,23] 18 O (λ_ h=>yma O O) aa$ qL [20,21,22,23] 19 O (λ_ h=>TO O O (by omega)) aa$ qL [21,22,23] 20 O (λ_ h=>yma O O) aa$ qL [22,23] 21 O (λ_ h=>N4 O) aa$ qL [23] 22 O (λ_ h=>My O0 O) aa$ PH [23]$ qO 23$ MI (i:=23) O O (NT MV O O O (aa.LY eN) (by simp)) ?_;rintro w5 ⟨aI,ak⟩;refine⟨trivial,?_⟩;obtain⟨T,hT⟩:∃T:Int,max 0 (A.target-max 1 (q:Int))=T:=⟨_,rfl⟩;have nH:0<=T/\T<=A.size:=by omega
       rw[hT] at aI
       replace aI:M7 w5 c (acC A.size T V p) 191:=by
        show M7 w5 c [I (A.size:Int),(V 0).1,(V 0).2,(V 1).1,(V 1).2,(V 2).1,(V 2).2,(V 3).1,(V 3).2,I T,.map (some p)] _;rw[e2,e3];exact aI
       have cg:=(h2.ext aa).VA aI ak;have aT:=hA.VA nH;obtain⟨A5,bE⟩:∃A5:Arc,{A with target:=T}=A5:=⟨_,rfl⟩;have oo:A5.size=A.size:=by rw[<-bE]
       have nI:¬A5.held k:=by rw[<-bE];exact lR
       have rl:k∈A5.Mf:=by rw[<-bE];exact hg
       rw[bE] at cg aT;refine qE$ Mz.qb (e:=[(0,_),(1,_),(4,_),(5,_)]) ?_;refine qN O$ LW O$ Mn XP O (Qg cg.m aT (by omega) true) ?_;rintro _ w6 ⟨rfl,V6,cD⟩;have az:=Arc.PR aT true;obtain⟨r6,cq⟩:∃r,A5.room true=r:=⟨_,rfl⟩;rw[cq] at cD az⊢;obtain⟨A6,g6⟩:=r6;dsimp only at cD az⊢;have eQ:=az.perm.length_eq;have ja:=A6.NI;have nJ:=A5.NI;have nK:=aT.total;have aC:=((h2.r aa).trans cg).trans cD;have bV:=aC.k.LY bA (λe=>n4' _ e O);refine Mb O (MO (news:=Oj false g6) MD O O O O bV (by simp)) ?_;rintro w7 ⟨bu,aD⟩;replace bu:M7 w7 b4 [.bool false,.bool g6.isSome,I (g6.getD 0)] 265:=bu;have n46:=aC.mono n4' l42;have ge:=aC.m.kp aD n46;refine qM O$ LW O$ MC O$ Ma NZ O$ LW O$ Mn Pn O (N6 ge (j:=3) (k:=k) (by decide)) ?_;rintro _ w8 ⟨rfl,V8,fu⟩
       have dI:k∉(A6.Nr 3 ((A6.li 3).erase k)).li 1:=by
        show k∉A6.often;exact λe=>nI ((az.gone k).1 (.inr e)).1
       refine LX$ M0 O$ LW O$ MC O$ Ma O5 O$ LW O$ Mn PU O (NH fu.m (j:=1) (k:=k) (by decide) dI (by show A6.often.length<=_;omega)) ?_;rintro _ w9 ⟨rfl,V9,gS⟩;have bj:=fu.trans gS;have bU:=bj.k.LY bu (λe=>n46 _ e O);have eO:=bU
       have ct:∀b,Pf c V9 p b->Pf c V p b\/w2.heap.size<=b:=λb hb=>by
        rcases bj.fp b hb with h5|h5
        ·exact aC.fp b h5
        ·have:=aC.k.size;have:=aD.size;exact .inr (by omega)
       have aO:Kp (λj=>Pf c V p j\/j=b4) w2 w9:=((aC.k.Mc λj e=> .inl e).trans (aD.Mc λj e=> .inr e)).LS bj.k (λj e=>by
        rcases aC.fp j e with h5|h5
        ·exact .inr (.inl h5)
        ·exact .inl h5)
       refine LX$ LV$ qN O$ qV (Mv (news:=Oj false g6) Pc O MD O (M7.cells (n:=3) eO O) O)$ Mb O (MO (news:=Oj false g6) MD O O O O eO (by simp)) ?_;rintro we ⟨da,dm⟩;replace da:M7 we b4 [.bool false,.bool g6.isSome,I (g6.getD 0)] 265:=da;refine M4 O$ Mt Tryz.func150 (.cell Pc O MD O (M7.cells (n:=3) da (news:=[_,_,_]) O) O (.tmp O .nil)) ?_
       have n49:∀b,Pf c V9 p b->b≠b4:=λb hb e=>by
        rcases ct b hb with h5|h5
        ·exact n4' b h5 e
        ·omega
       have eM:A.Oc k=({A6 with Mf:=A6.Mf.erase k,often:=A6.often++[k]},false,g6):=by
        unfold Arc.Oc;rw[if_neg bD,if_neg rt,if_pos hg];dsimp only;rw[hq,hT,bE,cq]
       rw[eM]
       exact⟨_,rfl,rfl,V9,bj.m.kp dm n49,λb hb=>(ct b hb).imp id (λe=>by omega),(aG.kp.LS aO (λj e=>by
        rcases e with e| e
        ·exact .inr e
        ·exact .inl (by omega))).LS dm (λj e=> .inl (by omega))⟩
      ·rw[decide_eq_false hg];refine M4 O$ Mz.qb (e:=[(0,_),(1,_),(4,_),(5,_),(111,_)]) ?_;refine An O$ qN O$ LW O$ Mn z6o O (XB h2 hA cG) ?_;rintro _ w6 ⟨rfl,V6,cD⟩;have dH:=Arc.Zs hA;obtain⟨r6,cq⟩:∃r,A.add=r:=⟨_,rfl⟩;rw[cq] at cD dH⊢;obtain⟨A6,g6⟩:=r6;dsimp only at cD dH⊢;obtain⟨fg,-,-⟩:=dH;have ja:=A6.NI;have aC:=cD;have bV:=aC.k.LY bA (λe=>n4' _ e O);refine Mb O (MO (news:=Oj false g6) MD O O O O bV (by simp)) ?_;rintro w7 ⟨bu,aD⟩;replace bu:M7 w7 b4 [.bool false,.bool g6.isSome,I (g6.getD 0)] 265:=bu;have n46:=aC.mono n4' l42;have ge:=aC.m.kp aD n46
       have dI:k∉A6.li 0:=by
        show k∉A6.once;exact λe=>lR ((fg.gone k).1 (.inl e)).1
       have oE:=fg.UR;refine LX$ M0 O$ LW O$ MC O$ Ma Ns O$ LW O$ Mn PU O (NH ge (j:=0) (k:=k) (by decide) dI (by show A6.once.length<=_;omega)) ?_;rintro _ w9 ⟨rfl,V9,gS⟩;have bj:=gS;have bU:=bj.k.LY bu (λe=>n46 _ e O);have eO:=bU
       have ct:∀b,Pf c V9 p b->Pf c V p b\/w2.heap.size<=b:=λb hb=>by
        rcases bj.fp b hb with h5|h5
        ·exact aC.fp b h5
        ·have:=aC.k.size;have:=aD.size;exact .inr (by omega)
       have aO:Kp (λj=>Pf c V p j\/j=b4) w2 w9:=((aC.k.Mc λj e=> .inl e).trans (aD.Mc λj e=> .inr e)).LS bj.k (λj e=>by
        rcases aC.fp j e with h5|h5
        ·exact .inr (.inl h5)
        ·exact .inl h5)
       refine LX$ LV$ qN O$ qV (Mv (news:=Oj false g6) Pc O MD O (M7.cells (n:=3) eO O) O)$ Mb O (MO (news:=Oj false g6) MD O O O O eO (by simp)) ?_;rintro we ⟨da,dm⟩;replace da:M7 we b4 [.bool false,.bool g6.isSome,I (g6.getD 0)] 265:=da;refine M4 O$ Mt Tryz.func150 (.cell Pc O MD O (M7.cells (n:=3) da (news:=[_,_,_]) O) O (.tmp O .nil)) ?_
       have n49:∀b,Pf c V9 p b->b≠b4:=λb hb e=>by
        rcases ct b hb with h5|h5
        ·exact n4' b h5 e
        ·omega
       have eM:A.Oc k=({A6 with once:=A6.once++[k]},false,g6):=by
        unfold Arc.Oc;rw[if_neg bD,if_neg rt,if_neg hg];dsimp only;rw[cq]
       rw[eM]
       exact⟨_,rfl,rfl,V9,bj.m.kp dm n49,λb hb=>(ct b hb).imp id (λe=>by omega),(aG.kp.LS aO (λj e=>by
        rcases e with e| e
        ·exact .inr e
        ·exact .inl (by omega))).LS dm (λj e=> .inl (by omega))⟩
  ·rw [decide_eq_false cf]; refine LW O (qS (qS (MN O O (LW O (qS (qS (MN O O (LX (An O (py (run_seq (LU (qN O ?_))))))))))))); refine LW O (MC O (Ma NG O (LW O (Mn TN O (ln) ?_)))); rintro _ w2 ⟨rfl, rfl⟩; by_cases hg : k ∈ A.Mk
   ·rw[decide_eq_true hg];refine M4 O$ M9 O$ run_seq ?_;have rq:0<A.Mk.length:=List.length_pos_of_mem hg;obtain⟨q,hq⟩:∃q,A.Mf.length / A.Mk.length=q:=⟨_,rfl⟩;have fR:q<=2000:=by rw[<-hq];exact Nat.le_trans (Nat.div_le_self _ _) ko
    have mx:(A.Mf.length:Int) / (A.Mk.length:Int)=(q:Int):=by rw[<-hq];exact(Int.natCast_ediv _ _).symm
    refine Mo [27] (λw'=>Ext w2 w') (by kernel_rfl) O$ qL [25,26,27] 0 O (λ_ h=>MH O) aa$ qL [2,3,4,24,25,26,27] 1 O (λ_ h=>MH O) aa$ qL [3,4,24,25,26,27] 2 O (λ_ h=>N4 O) aa$ qL [4,24,25,26,27] 3 O (λ_ h=>My P7 O) aa$ qL [24,25,26,27] 4 O (λ_ h=>M1 U3 O O (h.LY eN) O) aa$ qL [6,7,8,23,24,25,26,27] 5 O (λ_ h=>MH O) aa$ qL [7,8,23,24,25,26,27] 6 O (λ_ h=>N4 O) aa$ qL [8,23,24,25,26,27] 7 O (λ_ h=>My O0 O) aa$ qL [23,24,25,26,27] 8 O (λ_ h=>M1 U3 O O (h.LY eN) O) aa$ qL [10,11,12,13,14,21,22,23,24,25,26,27] 9 O (λ_ h=>MH O) aa$ qL [11,12,13,14,21,22,23,24,25,26,27] 10 O (λ_ h=>N4 O) aa$ qL [12,13,14,21,22,23,24,25,26,27] 11 O (λ_ h=>My NZ O) aa$ qL [13,14,21,22,23,24,25,26,27] 12 O (λ_ h=>My N0 O) aa ?_;refine qL [14,21,22,23,24,25,26,27] 13 O (λ_ h=>M1 O8 O O (h.LY eN) O) aa$ qL [21,22,23,24,25,26,27] 14 O (λ_ h=>Pb O8 O) aa$ qL [16,17,18,19,20,21,22,23,24,25,26,27] 15 O (λ_ h=>MH O) aa$ qL [17,18,19,20,21,22,23,24,25,26,27] 16 O (λ_ h=>N4 O) aa$ qL [18,19,20,21,22,23,24,25,26,27] 17 O (λ_ h=>My NG O) aa$ qL [19,20,21,22,23,24,25,26,27] 18 O (λ_ h=>My N0 O) aa$ qL [20,21,22,23,24,25,26,27] 19 O (λ_ h=>M1 O8 O O (h.LY eN) O) aa$ qL [21,22,23,24,25,26,27] 20 O (λ_ h=>Pb O8 O) aa$ qL [22,23,24,25,26,27] 21 O (λ_ h=>Te O O ⟨by omega,by omega,by omega⟩) aa ?_;rw[mx];refine qL [23,24,25,26,27] 22 O (λ_ h=>yma O O) aa$ qL [24,25,26,27] 23 O (λ_ h=>R4 O O (by omega)) aa$ qL [25,26,27] 24 O (λ_ h=>ymi O O) aa$ qL [26,27] 25 O (λ_ h=>N4 O) aa$ qL [27] 26 O (λ_ h=>My O0 O) aa$ PH [27]$ qO 27$ MI (i:=27) O O (NT MV O O O (aa.LY eN) (by simp)) ?_;rintro w5 ⟨aI,ak⟩;refine⟨trivial,?_⟩;obtain⟨T,hT⟩:∃T:Int,min (A.size:Int) (A.target+max 1 (q:Int))=T:=⟨_,rfl⟩;have nH:0<=T/\T<=A.size:=by omega
    rw[hT] at aI
    replace aI:M7 w5 c (acC A.size T V p) 191:=by
     show M7 w5 c [I (A.size:Int),(V 0).1,(V 0).2,(V 1).1,(V 1).2,(V 2).1,(V 2).2,(V 3).1,(V 3).2,I T,.map (some p)] _;rw[e2,e3];exact aI
    have cg:=(h2.ext aa).VA aI ak;have aT:=hA.VA nH;obtain⟨A5,bE⟩:∃A5:Arc,{A with target:=T}=A5:=⟨_,rfl⟩;have oo:A5.size=A.size:=by rw[<-bE]
    have nI:¬A5.held k:=by rw[<-bE];exact lR
    have rl:k∈A5.Mk:=by rw[<-bE];exact hg
    rw[bE] at cg aT;refine qE$ Mz.qb (e:=[(0,_),(1,_),(4,_),(5,_)]) ?_;refine qN O$ LW O$ Mn XP O (Qg cg.m aT (by omega) false) ?_;rintro _ w6 ⟨rfl,V6,cD⟩;have az:=Arc.PR aT false;obtain⟨r6,cq⟩:∃r,A5.room false=r:=⟨_,rfl⟩;rw[cq] at cD az⊢;obtain⟨A6,g6⟩:=r6;dsimp only at cD az⊢;have eQ:=az.perm.length_eq;have ja:=A6.NI;have nJ:=A5.NI;have nK:=aT.total;have aC:=((h2.r aa).trans cg).trans cD;have bV:=aC.k.LY bA (λe=>n4' _ e O);refine Mb O (MO (news:=Oj false g6) MD O O O O bV (by simp)) ?_;rintro w7 ⟨bu,aD⟩;replace bu:M7 w7 b4 [.bool false,.bool g6.isSome,I (g6.getD 0)] 265:=bu;have n46:=aC.mono n4' l42;have ge:=aC.m.kp aD n46;refine qM O$ LW O$ MC O$ Ma NG O$ LW O$ Mn Pn O (N6 ge (j:=2) (k:=k) (by decide)) ?_;rintro _ w8 ⟨rfl,V8,fu⟩
    have dI:k∉(A6.Nr 2 ((A6.li 2).erase k)).li 1:=by
     show k∉A6.often;exact λe=>nI ((az.gone k).1 (.inr e)).1
    refine LX$ M0 O$ LW O$ MC O$ Ma O5 O$ LW O$ Mn PU O (NH fu.m (j:=1) (k:=k) (by decide) dI (by show A6.often.length<=_;omega)) ?_;rintro _ w9 ⟨rfl,V9,gS⟩;have bj:=fu.trans gS;have bU:=bj.k.LY bu (λe=>n46 _ e O);have eO:=bU
    have ct:∀b,Pf c V9 p b->Pf c V p b\/w2.heap.size<=b:=λb hb=>by
     rcases bj.fp b hb with h5|h5
     ·exact aC.fp b h5
     ·have:=aC.k.size;have:=aD.size;exact .inr (by omega)
    have aO:Kp (λj=>Pf c V p j\/j=b4) w2 w9:=((aC.k.Mc λj e=> .inl e).trans (aD.Mc λj e=> .inr e)).LS bj.k (λj e=>by
     rcases aC.fp j e with h5|h5
     ·exact .inr (.inl h5)
     ·exact .inl h5)
    refine LX$ LV$ qN O$ qV (Mv (news:=Oj false g6) Pc O MD O (M7.cells (n:=3) eO O) O)$ Mb O (MO (news:=Oj false g6) MD O O O O eO (by simp)) ?_;rintro we ⟨da,dm⟩;replace da:M7 we b4 [.bool false,.bool g6.isSome,I (g6.getD 0)] 265:=da;refine M4 O$ Mt Tryz.func150 (.cell Pc O MD O (M7.cells (n:=3) da (news:=[_,_,_]) O) O (.tmp O .nil)) ?_
    have n49:∀b,Pf c V9 p b->b≠b4:=λb hb e=>by
     rcases ct b hb with h5|h5
     ·exact n4' b h5 e
     ·omega
    have eM:A.Oc k=({A6 with Mk:=A6.Mk.erase k,often:=A6.often++[k]},false,g6):=by
     unfold Arc.Oc;rw[if_neg bD,if_pos hg];dsimp only;rw[hq,hT,bE,cq]
    rw[eM]
    exact⟨_,rfl,rfl,V9,bj.m.kp dm n49,λb hb=>(ct b hb).imp id (λe=>by omega),(aG.kp.LS aO (λj e=>by
     rcases e with e| e
     ·exact .inr e
     ·exact .inl (by omega))).LS dm (λj e=> .inl (by omega))⟩
   ·have rt:=hg;rw[decide_eq_false hg];refine M4 O$ An O$ qN O$ LW O$ MC O$ Ma NZ O$ LW O$ Mn TN O (qd) ?_;rintro _ w2 ⟨rfl,rfl⟩;by_cases hg:k∈A.Mf
    ·rw[decide_eq_true hg];refine M4 O$ Mz.qb (e:=[(0,_),(1,_),(4,_),(5,_),(111,_)]) ?_;refine M9 O$ run_seq ?_;have rq:0<A.Mf.length:=List.length_pos_of_mem hg;obtain⟨q,hq⟩:∃q,A.Mk.length / A.Mf.length=q:=⟨_,rfl⟩;have fR:q<=2000:=by rw[<-hq];exact Nat.le_trans (Nat.div_le_self _ _) gF
     have mx:(A.Mk.length:Int) / (A.Mf.length:Int)=(q:Int):=by rw[<-hq];exact(Int.natCast_ediv _ _).symm
     refine Mo [23] (λw'=>Ext w2 w') (by kernel_rfl) O$ qL [21,22,23] 0 O (λ_ h=>MH O) aa$ qL [2,3,4,19,20,21,22,23] 1 O (λ_ h=>MH O) aa$ qL [3,4,19,20,21,22,23] 2 O (λ_ h=>N4 O) aa$ qL [4,19,20,21,22,23] 3 O (λ_ h=>My O0 O) aa$ qL [19,20,21,22,23] 4 O (λ_ h=>M1 U3 O O (h.LY eN) O) aa$ qL [6,7,8,9,10,17,18,19,20,21,22,23] 5 O (λ_ h=>MH O) aa$ qL [7,8,9,10,17,18,19,20,21,22,23] 6 O (λ_ h=>N4 O) aa$ qL [8,9,10,17,18,19,20,21,22,23] 7 O (λ_ h=>My NG O) aa$ qL [9,10,17,18,19,20,21,22,23] 8 O (λ_ h=>My N0 O) aa$ qL [10,17,18,19,20,21,22,23] 9 O (λ_ h=>M1 O8 O O (h.LY eN) O) aa$ qL [17,18,19,20,21,22,23] 10 O (λ_ h=>Pb O8 O) aa$ qL [12,13,14,15,16,17,18,19,20,21,22,23] 11 O (λ_ h=>MH O) aa$ qL [13,14,15,16,17,18,19,20,21,22,23] 12 O (λ_ h=>N4 O) aa ?_;refine qL [14,15,16,17,18,19,20,21,22,23] 13 O (λ_ h=>My NZ O) aa$ qL [15,16,17,18,19,20,21,22,23] 14 O (λ_ h=>My N0 O) aa$ qL [16,17,18,19,20,21,22,23] 15 O (λ_ h=>M1 O8 O O (h.LY eN) O) aa$ qL [17,18,19,20,21,22,23] 16 O (λ_ h=>Pb O8 O) aa$ qL [18,19,20,21,22,23] 17 O (λ_ h=>Te O O ⟨by omega,by omega,by omega⟩) aa ?_;rw[mx];refine qL [19,20,21,22,23] 18 O (λ_ h=>yma O O) aa$ qL [20,21,22,23] 19 O (λ_ h=>TO O O (by omega)) aa$ qL [21,22,23] 20 O (λ_ h=>yma O O) aa$ qL [22,23] 21 O (λ_ h=>N4 O) aa$ qL [23] 22 O (λ_ h=>My O0 O) aa$ PH [23]$ qO 23$ MI (i:=23) O O (NT MV O O O (aa.LY eN) (by simp)) ?_;rintro w5 ⟨aI,ak⟩;refine⟨trivial,?_⟩;obtain⟨T,hT⟩:∃T:Int,max 0 (A.target-max 1 (q:Int))=T:=⟨_,rfl⟩;have nH:0<=T/\T<=A.size:=by omega
     rw[hT] at aI
     replace aI:M7 w5 c (acC A.size T V p) 191:=by
      show M7 w5 c [I (A.size:Int),(V 0).1,(V 0).2,(V 1).1,(V 1).2,(V 2).1,(V 2).2,(V 3).1,(V 3).2,I T,.map (some p)] _;rw[e2,e3];exact aI
     have cg:=(h2.ext aa).VA aI ak;have aT:=hA.VA nH;obtain⟨A5,bE⟩:∃A5:Arc,{A with target:=T}=A5:=⟨_,rfl⟩;have oo:A5.size=A.size:=by rw[<-bE]
     have nI:¬A5.held k:=by rw[<-bE];exact lR
     have rl:k∈A5.Mf:=by rw[<-bE];exact hg
     rw[bE] at cg aT;refine qE$ Mz.qb (e:=[(0,_),(1,_),(4,_),(5,_)]) ?_;refine qN O$ LW O$ Mn XP O (Qg cg.m aT (by omega) true) ?_;rintro _ w6 ⟨rfl,V6,cD⟩;have az:=Arc.PR aT true;obtain⟨r6,cq⟩:∃r,A5.room true=r:=⟨_,rfl⟩;rw[cq] at cD az⊢;obtain⟨A6,g6⟩:=r6;dsimp only at cD az⊢;have eQ:=az.perm.length_eq;have ja:=A6.NI;have nJ:=A5.NI;have nK:=aT.total;have aC:=((h2.r aa).trans cg).trans cD;have bV:=aC.k.LY bA (λe=>n4' _ e O);refine Mb O (MO (news:=Oj false g6) MD O O O O bV (by simp)) ?_;rintro w7 ⟨bu,aD⟩;replace bu:M7 w7 b4 [.bool false,.bool g6.isSome,I (g6.getD 0)] 265:=bu;have n46:=aC.mono n4' l42;have ge:=aC.m.kp aD n46;refine qM O$ LW O$ MC O$ Ma NZ O$ LW O$ Mn Pn O (N6 ge (j:=3) (k:=k) (by decide)) ?_;rintro _ w8 ⟨rfl,V8,fu⟩
     have dI:k∉(A6.Nr 3 ((A6.li 3).erase k)).li 1:=by
      show k∉A6.often;exact λe=>nI ((az.gone k).1 (.inr e)).1
     refine LX$ M0 O$ LW O$ MC O$ Ma O5 O$ LW O$ Mn PU O (NH fu.m (j:=1) (k:=k) (by decide) dI (by show A6.often.length<=_;omega)) ?_;rintro _ w9 ⟨rfl,V9,gS⟩;have bj:=fu.trans gS;have bU:=bj.k.LY bu (λe=>n46 _ e O);have eO:=bU
     have ct:∀b,Pf c V9 p b->Pf c V p b\/w2.heap.size<=b:=λb hb=>by
      rcases bj.fp b hb with h5|h5
      ·exact aC.fp b h5
      ·have:=aC.k.size;have:=aD.size;exact .inr (by omega)
     have aO:Kp (λj=>Pf c V p j\/j=b4) w2 w9:=((aC.k.Mc λj e=> .inl e).trans (aD.Mc λj e=> .inr e)).LS bj.k (λj e=>by
      rcases aC.fp j e with h5|h5
      ·exact .inr (.inl h5)
      ·exact .inl h5)
     refine LX$ LV$ qN O$ qV (Mv (news:=Oj false g6) Pc O MD O (M7.cells (n:=3) eO O) O)$ Mb O (MO (news:=Oj false g6) MD O O O O eO (by simp)) ?_;rintro we ⟨da,dm⟩;replace da:M7 we b4 [.bool false,.bool g6.isSome,I (g6.getD 0)] 265:=da;refine M4 O$ Mt Tryz.func150 (.cell Pc O MD O (M7.cells (n:=3) da (news:=[_,_,_]) O) O (.tmp O .nil)) ?_
     have n49:∀b,Pf c V9 p b->b≠b4:=λb hb e=>by
      rcases ct b hb with h5|h5
      ·exact n4' b h5 e
      ·omega
     have eM:A.Oc k=({A6 with Mf:=A6.Mf.erase k,often:=A6.often++[k]},false,g6):=by
      unfold Arc.Oc;rw[if_neg bD,if_neg rt,if_pos hg];dsimp only;rw[hq,hT,bE,cq]
     rw[eM]
     exact⟨_,rfl,rfl,V9,bj.m.kp dm n49,λb hb=>(ct b hb).imp id (λe=>by omega),(aG.kp.LS aO (λj e=>by
      rcases e with e| e
      ·exact .inr e
      ·exact .inl (by omega))).LS dm (λj e=> .inl (by omega))⟩
    ·rw[decide_eq_false hg];refine M4 O$ Mz.qb (e:=[(0,_),(1,_),(4,_),(5,_),(111,_)]) ?_;refine An O$ qN O$ LW O$ Mn z6o O (XB h2 hA cG) ?_;rintro _ w6 ⟨rfl,V6,cD⟩;have dH:=Arc.Zs hA;obtain⟨r6,cq⟩:∃r,A.add=r:=⟨_,rfl⟩;rw[cq] at cD dH⊢;obtain⟨A6,g6⟩:=r6;dsimp only at cD dH⊢;obtain⟨fg,-,-⟩:=dH;have ja:=A6.NI;have aC:=cD;have bV:=aC.k.LY bA (λe=>n4' _ e O);refine Mb O (MO (news:=Oj false g6) MD O O O O bV (by simp)) ?_;rintro w7 ⟨bu,aD⟩;replace bu:M7 w7 b4 [.bool false,.bool g6.isSome,I (g6.getD 0)] 265:=bu;have n46:=aC.mono n4' l42;have ge:=aC.m.kp aD n46
     have dI:k∉A6.li 0:=by
      show k∉A6.once;exact λe=>lR ((fg.gone k).1 (.inl e)).1
     have oE:=fg.UR;refine LX$ M0 O$ LW O$ MC O$ Ma Ns O$ LW O$ Mn PU O (NH ge (j:=0) (k:=k) (by decide) dI (by show A6.once.length<=_;omega)) ?_;rintro _ w9 ⟨rfl,V9,gS⟩;have bj:=gS;have bU:=bj.k.LY bu (λe=>n46 _ e O);have eO:=bU
     have ct:∀b,Pf c V9 p b->Pf c V p b\/w2.heap.size<=b:=λb hb=>by
      rcases bj.fp b hb with h5|h5
      ·exact aC.fp b h5
      ·have:=aC.k.size;have:=aD.size;exact .inr (by omega)
     have aO:Kp (λj=>Pf c V p j\/j=b4) w2 w9:=((aC.k.Mc λj e=> .inl e).trans (aD.Mc λj e=> .inr e)).LS bj.k (λj e=>by
      rcases aC.fp j e with h5|h5
      ·exact .inr (.inl h5)
      ·exact .inl h5)
     refine LX$ LV$ qN O$ qV (Mv (news:=Oj false g6) Pc O MD O (M7.cells (n:=3) eO O) O)$ Mb O (MO (news:=Oj false g6) MD O O O O eO (by simp)) ?_;rintro we ⟨da,dm⟩;replace da:M7 we b4 [.bool false,.bool g6.isSome,I (g6.getD 0)] 265:=da;refine M4 O$ Mt Tryz.func150 (.cell Pc O MD O (M7.cells (n:=3) da (news:=[_,_,_]) O) O (.tmp O .nil)) ?_
     have n49:∀b,Pf c V9 p b->b≠b4:=λb hb e=>by
      rcases ct b hb with h5|h5
      ·exact n4' b h5 e
      ·omega
     have eM:A.Oc k=({A6 with once:=A6.once++[k]},false,g6):=by
      unfold Arc.Oc;rw[if_neg bD,if_neg rt,if_neg hg];dsimp only;rw[cq]
     rw[eM]
     exact⟨_,rfl,rfl,V9,bj.m.kp dm n49,λb hb=>(ct b hb).imp id (λe=>by omega),(aG.kp.LS aO (λj e=>by
      rcases e with e| e
      ·exact .inr e
      ·exact .inl (by omega))).LS dm (λj e=> .inl (by omega))⟩
end
def Arc.z4q (A:Arc)(k:Int):Nat->Arc
 |0=>A
 |i+1=>(A.z4q k i).Nr i (((A.z4q k i).li i).erase k)
def Arc.drop (A:Arc)(k:Int):Arc:=A.z4q k 4
theorem Arc.drop_eq (A:Arc)(k:Int):A.drop k={A with once:=A.once.erase k,often:=A.often.erase k,Mk:=A.Mk.erase k,Mf:=A.Mf.erase k}:=rfl
theorem Arc.Ok.drop {A:Arc}(h:A.Ok)(k:Int):(A.drop k).Ok:=by
 rw[Arc.drop_eq]
 have hs:(A.once.erase k++(A.often.erase k++(A.Mk.erase k++A.Mf.erase k))).Sublist A.all:=List.erase_sublist.append (List.erase_sublist.append (List.erase_sublist.append List.erase_sublist))
 have a1:(A.once.erase k).length<=A.once.length:=List.length_erase_le
 have a2:(A.often.erase k).length<=A.often.length:=List.length_erase_le
 have a3:(A.Mk.erase k).length<=A.Mk.length:=List.length_erase_le
 have h1:=h.held
 have h2:=h.first
 exact⟨h.pos,h.nd.sublist hs,by dsimp only;omega,by dsimp only;omega,Nat.le_trans hs.length_le h.total,h.tg⟩
theorem Arc.z4J {A:Arc}(h:A.Ok)(k x:Int):(A.drop k).held x↔A.held x/\x≠k:=by
 have fw:=h.nd
 unfold Arc.all at fw
 rw[List.nodup_append] at fw
 obtain⟨nd1,nd2,-⟩:=fw
 rw[List.nodup_append] at nd2
 obtain⟨nd4,-,-⟩:=nd2
 rw[Arc.drop_eq]
 unfold Arc.held
 dsimp only
 rw[nd1.mem_erase_iff,nd4.mem_erase_iff]
 constructor
 ·rintro(⟨a,b⟩|⟨a,b⟩)
  ·exact⟨.inl b,a⟩
  ·exact⟨.inr b,a⟩
 ·rintro⟨b|b,a⟩
  ·exact .inl ⟨a,b⟩
  ·exact .inr ⟨a,b⟩
section
variable {w w' w2:World}{c p:Nat}{A A' A2:Arc}{V V' V2:Nat->Value×Value}{S:Nat->Prop}{k:Int}
theorem z52 (h:Ps w c A V p):Mw Tryz.prog 140 [ptr c 0,I k] w λv w'=>(∃z,v=I z)/\∃V',SG w c V p w' (A.drop k) V':=by
 have hB:=h.cells
 have ln:=RY h (j:=2) (k:=k) (by decide)
 have qd:=RY h (j:=3) (k:=k) (by decide)
 rw[show A.li 2=A.Mk from rfl] at ln
 rw[show A.li 3=A.Mf from rfl] at qd
 refine It (e:=[(0,_),(1,_)]) Tryz.func140 O Tryz.ntmps140 O O$ qN O$ M4 O$ run_seq$ MM (λe' w'=>e'=[(0,ptr c 0),(1,I k)]/\w'=w) ?eu$ λeu=>?iE
 case eu=>
  rintro e' w1 ⟨rfl,rfl⟩;have hg:=Ext.Mm w1;refine run_seq$ run_seq$ NV (λw'=>Ext w1 w') O$ Mj 0 O O (hg)$ M3 1 O (N4 O) hg$ M3 2 O (My Ns O) hg$ Mj 3 O O (hg)$ M3 4 O (N4 O) hg$ M3 5 O (My O5 O) hg$ Mj 6 O O (hg)$ M3 7 O (N4 O) hg$ M3 8 O (My NG O) hg$ Mj 9 O O (hg)$ M3 10 O (N4 O) hg ?_;refine M3 11 O (My NZ O) hg$ Mj 14 O O (hg)$ qO 12$ ON (i:=12) O O O (SA (cs:=[_,_,_,_]) (zs:=[Value.pointer none,Value.pointer none,Value.pointer none,Value.pointer none]) zbv zaF O (by kernel_rfl) O O O (by decide)) ?_;rintro _ w2 ⟨b51,rfl,⟨Dv,af,Jd⟩,yb⟩;refine⟨hg.trans af,?_⟩;have aF:=hg.trans af;refine M3 13 O (Pb zbv O) (hg.trans af)$ qE$ LU ?_;have aP:∀{b:Nat},Pf c V p b->b<w1.heap.size:=h.lt;have lb:=yb.lt (g:=b51) O;have z12:=hg.size;have Dw:=yb.rd;refine Oh (α:=Nat×(Nat->Value×Value)) ((0,V)) (λx=>[(1,I k),(51,.slice (some ⟨b51,0,none⟩) 4 4),(52,I 4),(53,I (x.1:Int))]) (λx w'=>x.1<=4/\SG w2 c V p w' (A.z4q k x.1) x.2/\Rd w' (.slice (some ⟨b51,0,none⟩) 4 4) 1 4 [ptr c 1,ptr c 3,ptr c 5,ptr c 7]) (λx=>4-x.1) ?hI ?hround
  case hI=>exact⟨Nat.zero_le _,(h.ext aF).r (Ext.refl w2),Dw⟩
  case hround=>
   rintro⟨i,Vi⟩ w3 ⟨hi,lY,Dx⟩ ih;dsimp only at hi lY Dx ih⊢
   try dsimp only
   refine qN O$ Ni O O$ LX$ run_seq$ M8 O (λh0=>?_)$ λh0=>?_
   ·have lC:i<4:=by omega
    have hx:([ptr c 1,ptr c 3,ptr c 5,ptr c 7]:List Value)[i]? =some (ptr c (1+2*i)):=by
     match i,lC with
     |0,_|1,_|2,_|3,_=>rfl
    refine py$ run_seq$ LU$ qN O$ qV (MS zbv zaF O O (by omega))$ qV (MA zgb O O (Na Dx hx))$ M4 O$ M0 O$ Md O O$ Mn Pn O (N6 lY.m (j:=i) (k:=k) lC) ?_;rintro _ w4 ⟨rfl,V4,bH⟩;refine LX$ LV$ M0 O$ MT O O$ LW O$ LX ((ih (i+1,V4) _ ⟨lC,lY.trans bH,Dx.kp bH.k λg e hf=>?_⟩ (by dsimp only;omega)).qb);have e':b51=g:=NF e;rcases lY.fp _ hf with e| e
    ·have:=aP e;have hb:b51=w1.drew.heap.size:=Dv;omega
    ·omega
   ·have lC:i=4:=by omega
    subst lC;refine M6 O$ qN O$ M4 O$ LZ Tryz.func140 O ?_;exact⟨_,rfl,⟨0,rfl⟩,Vi,(h.r aF).trans lY⟩
 case iE =>
  refine LU$ qN O$ LW O$ qV (N7 z5F O O)$ M4 O$ An O$ qN O$ Md O O$ Mn za6 O (Z9 h (k:=k)) ?_;rintro _ w ⟨rfl,rfl⟩;by_cases gU:k∈A.once\/k∈A.often
  ·rw[decide_eq_true gU];refine qV ((by first|exact MX O|exact Oy O)) ?_;refine LW O$ qS$ qS$ qS$ qS$ qS$ qS$ MN O O$ LW O$ qS$ qS$ qS$ qS$ qS ?_;refine qS$ MN O O$ M4 O$ Mz.qb (e:=[(0,_),(1,_),(4,_),(10,_)]) ?_;refine An O$ qN O$ LW O$ MC O$ Ma WV O$ qV (M1 TH O O hB O)$ LW O$ qV (ylk (k:=k) (K:=KI) TH (OL U3) MV O O h.pins)$ Ng O O$ ML$ M4 O$ An O$ py$ LV ?_;exact(eu _ _ ⟨rfl,rfl⟩).qb
  ·rw [decide_eq_false gU]; refine qV ((by first | exact MX O | exact Oy O)) ?_; refine Md O O (MC O (Ma NG O (LW O (Mn TN O (ln) ?_)))); rintro _ w ⟨rfl, rfl⟩; by_cases ao : k ∈ A.Mk
   ·rw[decide_eq_true ao];refine qV ((by first|exact MX O|exact Oy O)) ?_;refine NC O O$ LW O$ qS$ qS$ qS$ qS$ qS$ qS$ MN O O$ M4 O$ Mz.qb (e:=[(0,_),(1,_),(4,_),(10,_)]) ?_;refine An O$ qN O$ LW O$ MC O$ Ma WV O$ qV (M1 TH O O hB O)$ LW O$ qV (ylk (k:=k) (K:=KI) TH (OL U3) MV O O h.pins)$ Ng O O$ ML$ M4 O$ An O$ py$ LV ?_;exact(eu _ _ ⟨rfl,rfl⟩).qb
   ·rw[decide_eq_false ao];refine qV ((by first|exact MX O|exact Oy O)) ?_;refine NC O O$ Md O O$ MC O$ Ma NZ O$ LW O$ Mn TN O (qd) ?_;rintro _ w ⟨rfl,rfl⟩;by_cases au:k∈A.Mf
    ·rw[decide_eq_true au];refine qV ((by first|exact MX O|exact Oy O)) ?_;refine NC O O$ M4 O$ Mz.qb (e:=[(0,_),(1,_),(4,_),(10,_)]) ?_;refine An O$ qN O$ LW O$ MC O$ Ma WV O$ qV (M1 TH O O hB O)$ LW O$ qV (ylk (k:=k) (K:=KI) TH (OL U3) MV O O h.pins)$ Ng O O$ ML$ M4 O$ An O$ py$ LV ?_;exact(eu _ _ ⟨rfl,rfl⟩).qb
    ·rw[decide_eq_false au];refine qV ((by first|exact MX O|exact Oy O)) ?_;refine NC O O$ M4 O$ Mz.qb (e:=[(0,_),(1,_),(4,_),(10,_)]) ?_;refine M9 O$ qN O$ M4 O$ LZ Tryz.func140 O ?_
     have hd:A.drop k=A:=by
      rw[Arc.drop_eq,List.erase_of_not_mem (λe=>gU (.inl e)),List.erase_of_not_mem (λe=>gU (.inr e)),List.erase_of_not_mem ao,List.erase_of_not_mem au]
     rw[hd];exact⟨_,rfl,⟨6,rfl⟩,V,h.r (Ext.refl w)⟩
end
structure Pg where
 k:Int
 b:Nat
 t:Bytes
 d:Bool
def Rs (l:List Pg):List (Int×Value):=l.map λg=>(g.k,ptr g.b 0)
def pgC (t:Bytes)(d:Bool):List Value:=[S t,.bool d,I 0]
structure Ol where
 s:Nat
 d:Nat
 m:Nat
 gi:Nat
 c:Nat
 pm:Nat
 p:Nat
 fr:Nat
 V:Nat->Value×Value
 D:Dev
 A:Arc
 l:List Pg
 L:List Bool
 Fd:Nat->Prop
 h:Int
 mi:Int
 wr:Int
def Ol.cp (P:Ol):Nat->Nat->Prop
 |0,b=>b=P.s
 |1,b=>P.Fd b
 |2,b=>b=P.m\/b=P.gi
 |3,b=>Pf P.c P.V P.p b
 |4,b=>b=P.pm
 |5,b=>∃g∈P.l,g.b=b
 |_,_=>False
def Ol.fp (P:Ol)(b:Nat):Prop:=∃i,P.cp i b
def plC (P:Ol):List Value:=[ptr P.d 0,ptr P.m 0,ptr P.c 0,.map (some P.pm),I (P.fr:Int),I P.h,I P.mi,I P.wr,I 0,I 0,I 0,.bool false]
def Dis (f:Nat->Nat->Prop):Prop:=∀i j,i≠j->∀b,f i b->¬f j b
structure R1 (w:World)(P:Ol):Prop where
 LY:M7 w P.s (plC P) 103
 dev:SF w P.d P.D P.Fd
 ext:TW w P.m P.gi P.L
 arc:Ps w P.c P.A P.V P.p
 mp:Pk KI w P.pm (Rs P.l)
 pg:∀g∈P.l,M7 w g.b (pgC g.t g.d) 219
 pnd:(P.l.map (·.b)).Nodup
 S4:Dis P.cp
section
variable {w w' w0:World}{P P0 P':Ol}{S:Nat->Prop}{i0:Nat}
theorem R1.lt (h:R1 w P){b:Nat}(hb:P.fp b):b<w.heap.size:=by
 obtain⟨i,hi⟩:=hb
 match i,hi with
 |0,e=>rw[show b=P.s from e];exact h.LY.lt
 |1,e=>exact h.dev.lt b e
 | 2, e =>
   rcases e with e| e
   ·rw[e];exact h.ext.ltm
   ·rw[e];exact h.ext.ltg
 |3,e=>exact h.arc.lt e
 |4,e=>rw[show b=P.pm from e];exact h.mp.lt
 |5,⟨g,hg,e⟩=>rw[<-e];exact(h.pg g hg).lt
theorem R1.kp (h:R1 w P)(hk:Kp S w w')(hn:∀b,P.fp b->¬S b):R1 w' P:=
 ⟨hk.LY h.LY (hn _ ⟨0,rfl⟩),h.dev.kp hk λb hb=>hn b ⟨1,hb⟩,h.ext.kp hk (hn _ ⟨2,.inl O⟩) (hn _ ⟨2,.inr O⟩),h.arc.kp hk λb hb=>hn b ⟨3,hb⟩,h.mp.kp hk (hn _ ⟨4,rfl⟩),λg hg=>hk.LY (h.pg g hg) (hn _ ⟨5,g,hg,rfl⟩),h.pnd,h.S4⟩
theorem R1.ext' (h:R1 w P)(hx:Ext w w'):R1 w' P:=h.kp (S:=λ_=>False) hx λ_ _=>id
theorem R1.z5m (h:R1 w P)(hk:Kp (P.cp i0) w w')(ne:0≠i0):M7 w' P.s (plC P) 103:=hk.LY h.LY (h.S4 0 i0 ne _ O)
theorem R1.z4H (h:R1 w P)(hk:Kp (P.cp i0) w w')(ne:1≠i0):SF w' P.d P.D P.Fd:=h.dev.kp hk λb hb=>h.S4 1 i0 ne b hb
theorem R1.text (h:R1 w P)(hk:Kp (P.cp i0) w w')(ne:2≠i0):TW w' P.m P.gi P.L:=h.ext.kp hk (h.S4 2 i0 ne _ (.inl O)) (h.S4 2 i0 ne _ (.inr O))
theorem R1.z6l (h:R1 w P)(hk:Kp (P.cp i0) w w')(ne:3≠i0):Ps w' P.c P.A P.V P.p:=h.arc.kp hk λb hb=>h.S4 3 i0 ne b hb
theorem R1.tmp (h:R1 w P)(hk:Kp (P.cp i0) w w')(ne:4≠i0):Pk KI w' P.pm (Rs P.l):=h.mp.kp hk (h.S4 4 i0 ne _ O)
theorem R1.tpg (h:R1 w P)(hk:Kp (P.cp i0) w w')(ne:5≠i0):∀g∈P.l,M7 w' g.b (pgC g.t g.d) 219:=λg hg=>hk.LY (h.pg g hg) (h.S4 5 i0 ne _ ⟨g,hg,rfl⟩)
theorem R1.z6N (h:R1 w P)(hs:∀i,i≠i0->P'.cp i=P.cp i)(hi:∀b,P'.cp i0 b->P.cp i0 b\/∀i,¬P.cp i b):Dis P'.cp:=λi j ne b hb bY=>by
 by_cases e:i=i0
 ·have e2:j≠i0:=λe2=>ne (e.trans e2.symm);rw[e] at hb;rw[hs j e2] at bY;rcases hi b hb with h1|h1
  ·exact h.S4 i0 j (λe3=>e2 e3.symm) b h1 bY
  ·exact h1 j bY
 ·rw[hs i e] at hb;by_cases e2:j=i0
  ·rw[e2] at bY;rcases hi b bY with h1|h1
   ·exact h.S4 i i0 e b hb h1
   ·exact h1 i hb
  ·rw[hs j e2] at bY;exact h.S4 i j ne b hb bY
theorem R1.new (h:R1 w P){b:Nat}(hb:w.heap.size<=b):∀i,¬P.cp i b:=λi e=>by have:=h.lt ⟨i,e⟩;omega
structure QQ (w0:World)(P0:Ol)(w:World)(P:Ol):Prop where
 m:R1 w P
 fp:∀b,P.fp b->P0.fp b\/w0.heap.size<=b
 k:Kp P0.fp w0 w
theorem R1.r (h:R1 w P)(hx:Ext w w'):QQ w P w' P:=⟨h.ext' hx,λb hb=> .inl hb,hx.kp⟩
theorem QQ.ext (h:QQ w0 P0 w P)(hx:Ext w w'):QQ w0 P0 w' P:=⟨h.m.ext' hx,h.fp,h.k.trans hx.kp⟩
theorem QQ.loc (h:QQ w0 P0 w P)(hk:Kp S w w')(hS:∀b,S b->(P0.fp b\/w0.heap.size<=b)/\∀i,¬P.cp i b):QQ w0 P0 w' P:=
 ⟨h.m.kp hk λb ⟨i,hb⟩ e=>(hS b e).2 i hb,h.fp,h.k.LS hk λb e=>(hS b e).1.symm⟩
theorem QQ.part (h:QQ w0 P0 w P)(i0:Nat)(hm:R1 w' P')(hs:∀i,i≠i0->P'.cp i=P.cp i)(hi:∀b,P'.cp i0 b->P.cp i0 b\/w0.heap.size<=b)(hk:Kp (P.cp i0) w w'):QQ w0 P0 w' P':=
 ⟨hm,λb ⟨i,hb⟩=>by
  by_cases e:i=i0
  ·rw[e] at hb;rcases hi b hb with h1|h1
   ·exact h.fp b ⟨i0,h1⟩
   ·exact .inr h1
  ·rw[hs i e] at hb
   exact h.fp b ⟨i,hb⟩,h.k.LS hk λb hb=>(h.fp b ⟨i0,hb⟩).symm⟩
theorem QQ.trans {w2:World}{P2:Ol}(h:QQ w0 P0 w P)(h2:QQ w P w2 P2):QQ w0 P0 w2 P2:=
 ⟨h2.m,λb hb=>by
  rcases h2.fp b hb with e| e
  ·exact h.fp b e
  ·exact .inr (by have:=h.k.size;omega),h.k.LS h2.k λb hb=>(h.fp b hb).symm⟩
theorem QQ.dev (h:QQ w0 P0 w P){D':Dev}(ht:z5r w P.d P.Fd D' w'):∃Fd',QQ w0 P0 w' {P with D:=D',Fd:=Fd'}/\∀b,Fd' b->P.Fd b\/w.heap.size<=b:=by
 obtain⟨F',hd,hu⟩:=ht
 have hs:∀i,i≠1->Ol.cp {P with D:=D',Fd:=F'} i=P.cp i:=λi e=>by
  match i,e with
  |0,_|2,_|3,_|4,_|5,_=>rfl
  |i+6,_=>rfl
 have hk:Kp (P.cp 1) w w':=hu.1
 refine⟨F',h.part 1 ⟨h.m.z5m hk (by decide),hd,h.m.text hk (by decide),h.m.z6l hk (by decide),h.m.tmp hk (by decide),h.m.tpg hk (by decide),h.m.pnd,h.m.z6N hs λb hb=>?_⟩ hs (λb hb=>?_) hk,hu.2⟩
 ·exact(hu.2 b hb).imp id λe=>h.m.new e
 ·exact(hu.2 b hb).imp id λe=>by have:=h.k.size;omega
theorem QQ.arc (h:QQ w0 P0 w P){A':Arc}{V':Nat->Value×Value}(hr:SG w P.c P.V P.p w' A' V'):QQ w0 P0 w' {P with A:=A',V:=V'}:=by
 have hs:∀i,i≠3->Ol.cp {P with A:=A',V:=V'} i=P.cp i:=λi e=>by
  match i,e with
  |0,_|1,_|2,_|4,_|5,_=>rfl
  |i+6,_=>rfl
 have hk:Kp (P.cp 3) w w':=hr.k
 refine h.part 3 ⟨h.m.z5m hk (by decide),h.m.z4H hk (by decide),h.m.text hk (by decide),hr.m,h.m.tmp hk (by decide),h.m.tpg hk (by decide),h.m.pnd,h.m.z6N hs λb hb=>?_⟩ hs (λb hb=>?_) hk
 ·exact(hr.fp b hb).imp id λe=>h.m.new e
 ·exact(hr.fp b hb).imp id λe=>by have:=h.k.size;omega
theorem QQ.exM (h:QQ w0 P0 w P){L':List Bool}(he:TW w' P.m P.gi L')(hk:Kp (λb=>b=P.gi) w w'):QQ w0 P0 w' {P with L:=L'}:=by
 have hs:∀i,i≠2->Ol.cp {P with L:=L'} i=P.cp i:=λi e=>by
  match i,e with
  |0,_|1,_|3,_|4,_|5,_=>rfl
  |i+6,_=>rfl
 have hk:Kp (P.cp 2) w w':=hk.Mc λb e=> .inr e
 exact h.part 2 ⟨h.m.z5m hk (by decide),h.m.z4H hk (by decide),he,h.m.z6l hk (by decide),h.m.tmp hk (by decide),h.m.tpg hk (by decide),h.m.pnd,h.m.z6N hs λb hb=> .inl hb⟩ hs (λb hb=> .inl hb) hk
theorem QQ.cnt (h:QQ w0 P0 w P){a b c:Int}(hB:M7 w' P.s (plC {P with h:=a,mi:=b,wr:=c}) 103)(hk:Kp (λb=>b=P.s) w w'):QQ w0 P0 w' {P with h:=a,mi:=b,wr:=c}:=by
 have hs:∀i,i≠0->Ol.cp {P with h:=a,mi:=b,wr:=c} i=P.cp i:=λi e=>by
  match i,e with
  |1,_|2,_|3,_|4,_|5,_=>rfl
  |i+6,_=>rfl
 have hk:Kp (P.cp 0) w w':=hk
 exact h.part 0 ⟨hB,h.m.z4H hk (by decide),h.m.text hk (by decide),h.m.z6l hk (by decide),h.m.tmp hk (by decide),h.m.tpg hk (by decide),h.m.pnd,h.m.z6N hs λb hb=> .inl hb⟩ hs (λb hb=> .inl hb) hk
theorem QQ.del (h:QQ w0 P0 w P){l':List Pg}(hl:l'.Sublist P.l)(hm:Pk KI w' P.pm (Rs l'))(hk:Kp (λb=>b=P.pm) w w'):QQ w0 P0 w' {P with l:=l'}:=by
 have hk:Kp (P.cp 4) w w':=hk
 have dv:∀i b,Ol.cp {P with l:=l'} i b->P.cp i b:=λi b hb=>by
  match i,hb with
  |0,e|1,e|2,e|3,e|4,e=>exact e
  |5,⟨g,hg,e⟩=>exact⟨g,hl.subset hg,e⟩
 have hp:=h.m.tpg hk (by decide)
 exact⟨⟨h.m.z5m hk (by decide),h.m.z4H hk (by decide),h.m.text hk (by decide),h.m.z6l hk (by decide),hm,λg hg=>hp g (hl.subset hg),(hl.map _).nodup h.m.pnd,λi j ne b hb bY=>h.m.S4 i j ne b (dv i b hb) (dv j b bY)⟩,λb ⟨i,hb⟩=>h.fp b ⟨i,dv i b hb⟩,h.k.LS hk λb hb=>(h.fp b ⟨4,hb⟩).symm⟩
theorem QQ.ins (h:QQ w0 P0 w P){g:Pg}(hg:w0.heap.size<=g.b/\∀i,¬P.cp i g.b)(hb:M7 w g.b (pgC g.t g.d) 219)(hm:Pk KI w' P.pm (Rs (P.l++[g])))(hk:Kp (λb=>b=P.pm) w w'):QQ w0 P0 w' {P with l:=P.l++[g]}:=by
 have hk:Kp (P.cp 4) w w':=hk
 have hp:=h.m.tpg hk (by decide)
 have g9:∀i b,Ol.cp {P with l:=P.l++[g]} i b->P.cp i b\/(i=5/\b=g.b):=λi b hb=>by
  match i,hb with
  |0,e|1,e|2,e|3,e|4,e=>exact .inl e
  | 5, ⟨g', cO, e⟩ =>
    rcases List.mem_append.1 cO with e2|e2
    ·exact .inl ⟨g',e2,e⟩
    ·rw[List.mem_singleton.1 e2] at e;exact .inr ⟨rfl,e.symm⟩
 refine⟨⟨h.m.z5m hk (by decide),h.m.z4H hk (by decide),h.m.text hk (by decide),h.m.z6l hk (by decide),hm,λg' cO=>?_,?_,λi j ne b hb bY=>?_⟩,λb ⟨i,hb⟩=>?_,h.k.LS hk λb hb=>(h.fp b ⟨4,hb⟩).symm⟩
 ·rcases List.mem_append.1 cO with e| e
  ·exact hp g' e
  ·rw[List.mem_singleton.1 e];exact hk.LY hb (hg.2 4)
 ·show((P.l++[g]).map (·.b)).Nodup;rw[List.map_append,List.nodup_append];refine⟨h.m.pnd,by simp,λa ha b hb e=>?_⟩;obtain⟨g',cO,rfl⟩:=List.mem_map.1 ha;rw[List.map_singleton,List.mem_singleton] at hb;exact hg.2 5 ⟨g',cO,e.trans hb⟩
 ·rcases g9 i b hb with e|⟨e,e2⟩
  ·rcases g9 j b bY with f|⟨f,f2⟩
   ·exact h.m.S4 i j ne b e f
   ·rw[f2] at e;exact hg.2 i e
  ·rcases g9 j b bY with f|⟨f,f2⟩
   ·rw[e2] at f;exact hg.2 j f
   ·exact ne (e.trans f.symm)
 ·rcases g9 i b hb with e|⟨e,e2⟩
  ·exact h.fp b ⟨i,e⟩
  ·rw[e2];exact .inr hg.1
theorem Pp {α β:Type}{f:α->β}:∀{l:List α},(l.map f).Nodup->∀{a b:α},a∈l->b∈l->f a=f b->a=b
 |[],_,a,b,ha,_,_=>by cases ha
 | x :: l, hn, a, b, ha, hb, e => by
   rw[List.map_cons,List.nodup_cons] at hn;rcases List.mem_cons.1 ha with h1|h1
   ·rcases List.mem_cons.1 hb with h2|h2
    ·rw[h1,h2]
    ·exact absurd (List.mem_map.2 ⟨b,h2,by rw[<-e,h1]⟩) hn.1
   ·rcases List.mem_cons.1 hb with h2|h2
    ·exact absurd (List.mem_map.2 ⟨a,h1,by rw[e,h2]⟩) hn.1
    ·exact Pp hn.2 h1 h2 e
def On (l:List Pg)(k:Int)(t:Bytes)(d:Bool):List Pg:=l.map λg=>if g.k=k then {g with t:=t,d:=d} else g
theorem z7l (l:List Pg)(k:Int)(t:Bytes)(d:Bool):Rs (On l k t d)=Rs l:=by
 unfold Rs On
 rw[List.map_map]
 refine List.map_congr_left λg _=>?_
 by_cases h:g.k=k
 ·simp only[Function.comp_apply,if_pos h]
 ·simp only[Function.comp_apply,if_neg h]
theorem ZP (l:List Pg)(k:Int)(t:Bytes)(d:Bool):(On l k t d).map (·.b)=l.map (·.b):=by
 unfold On
 rw[List.map_map]
 refine List.map_congr_left λg _=>?_
 show Pg.b (if _ then _ else _)=_
 split<;>rfl
theorem QQ.zdF (h:QQ w0 P0 w P){g:Pg}(hg:g∈P.l){t:Bytes}{d:Bool}(hb:M7 w' g.b (pgC t d) 219)(hk:Kp (λb=>b=g.b) w w'):QQ w0 P0 w' {P with l:=On P.l g.k t d}:=by
 have fw:=h.m.mp.nd
 have kS:∀b,(∃g'∈On P.l g.k t d,g'.b=b)↔∃g'∈P.l,g'.b=b:=λb=>by
  have e:=ZP P.l g.k t d;constructor
  ·rintro⟨g',cO,rfl⟩;have:g'.b∈P.l.map (·.b):=by rw[<-e];exact List.mem_map.2 ⟨g',cO,rfl⟩
   obtain⟨g2,a,b⟩:=List.mem_map.1 this;exact⟨g2,a,b⟩
  ·rintro⟨g',cO,rfl⟩;have:g'.b∈(On P.l g.k t d).map (·.b):=by rw[e];exact List.mem_map.2 ⟨g',cO,rfl⟩
   obtain⟨g2,a,b⟩:=List.mem_map.1 this;exact⟨g2,a,b⟩
 have hs:∀i,i≠5->Ol.cp {P with l:=On P.l g.k t d} i=P.cp i:=λi e=>by
  match i,e with
  |0,_|1,_|2,_|3,_|4,_=>rfl
  |i+6,_=>rfl
 have ak:Kp (P.cp 5) w w':=hk.Mc λb e=>⟨g,hg,e.symm⟩
 have hi:∀b,Ol.cp {P with l:=On P.l g.k t d} 5 b->P.cp 5 b:=λb hb=>(kS b).1 hb
 refine h.part 5 ⟨h.m.z5m ak (by decide),h.m.z4H ak (by decide),h.m.text ak (by decide),h.m.z6l ak (by decide),?_,λg' cO=>?_,?_,h.m.z6N hs λb hb=> .inl (hi b hb)⟩ hs (λb hb=> .inl (hi b hb)) ak
 ·show Pk KI w' P.pm (Rs (On P.l g.k t d));rw[z7l];exact h.m.tmp ak (by decide)
 ·obtain⟨g2,aa,rfl⟩:=List.mem_map.1 cO;by_cases e:g2.k=g.k
  ·rw[if_pos e]
   have e2:g2=g:=by
    unfold Rs at fw;rw[List.map_map] at fw;have Dy:(P.l.map (·.k)).Nodup:=fw;exact Pp Dy aa hg e
   rw[e2];exact hb
  ·rw[if_neg e];have bO:g2.b≠g.b:=λe2=>e (by rw[Pp h.m.pnd aa hg e2]);exact hk.LY (h.m.pg g2 aa) bO
 ·show((On P.l g.k t d).map (·.b)).Nodup;rw[ZP];exact h.m.pnd
end
end Go.Proofs.YtfgjaafcgghnoaaGreatDoor
