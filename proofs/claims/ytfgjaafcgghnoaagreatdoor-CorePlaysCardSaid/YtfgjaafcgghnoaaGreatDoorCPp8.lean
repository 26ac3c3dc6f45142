/- Merged by program. -/
import Derived.Test.YtfgjaafcgghnoaaGreatDoorCPp7
set_option linter.all false
set_option maxRecDepth 1000000
set_option maxHeartbeats 16000000
namespace Go.Proofs.YtfgjaafcgghnoaaGreatDoor
open Go Go.RowKit
def GrR (w:World)(gb go:Nat)(g:List (List Nat)):Prop:=∀(v:Nat) (l:List Nat),g[v]? =some l->∃(a:Option Addr) (c:Nat),w.cell? ⟨gb,go+v*1,none⟩=some (.slice a l.length c)/\∀(i x:Nat),l[i]? =some x->∃lb lo,a=some ⟨lb,lo,none⟩/\w.cell? ⟨lb,lo+i*1,none⟩=some (Oe x)
theorem Oz {w w':World}{a:Addr}{u:Value}(hx:Ext w w')(h:w.cell? a=some u):w'.cell? a=some u:=by
 unfold World.cell? at h⊢
 cases hh:w.heap[a.block]? with
 |none=>rw[hh] at h;simp at h
 |some o=>rw[hx.heap hh id];rw[hh] at h;exact h
theorem GrR.ext {w w':World}{gb go:Nat}{g:List (List Nat)}(h:GrR w gb go g)(hx:Ext w w'):GrR w' gb go g:=λv l hl=>by
 obtain⟨a,c,h1,h2⟩:=h v l hl
 refine⟨a,c,Oz hx h1,λi x hi=>?_⟩
 obtain⟨lb,lo,e,h3⟩:=h2 i x hi
 exact⟨lb,lo,e,Oz hx h3⟩
theorem GrM.r {w:World}{v:Value}{g:List (List Nat)}(h:GrM w v g)(h1:1<=g.length):∃gb go gc,v= .slice (some ⟨gb,go,none⟩) g.length gc/\GrR w gb go g:=by
 obtain⟨vs,hr,hv⟩:=h.ex
 rcases hr.2 with⟨c,-,h0⟩|⟨gb,go,gc,e,hc⟩
 ·omega
 ·refine⟨gb,go,gc,e,λv l hl=>?_⟩;obtain⟨a,c,g1,g2,g3⟩:=hv v l hl;refine⟨a,c,by rw[Nat.mul_one];exact hc v _ g1,λi x hi=>?_⟩;rcases g3.2 with⟨c',-,h0⟩|⟨lb,lo,lc,e2,eM⟩
  ·have:l=[]:=List.eq_nil_of_length_eq_zero h0;rw[this] at hi;cases hi
  ·cases e2;exact⟨lb,lo,rfl,by rw[Nat.mul_one];exact eM i _ (by rw[List.getElem?_map,hi];rfl)⟩
/-! ### Distances -/
structure XM (w:World)(bg B:Nat)(L:List (List Nat)):Prop where
 ex:∃vs:List Value,NM w bg vs 45/\vs.length=L.length/\∀(i:Nat) (l:List Nat),L[i]? =some l->∃(a:Option Addr) (c:Nat),vs[i]? =some (.slice a l.length c)/\l.length<=c/\Rd w (.slice a l.length c) 1 l.length (l.map Oe)/\∀b,(Value.slice a l.length c).ownBlock=some b->B<=b/\b≠bg
section
variable {w w':World}{bg B:Nat}{L:List (List Nat)}
theorem XM.ext (h:XM w bg B L)(hx:Ext w w'):XM w' bg B L:=by
 obtain⟨vs,h1,h2,h3⟩:=h.ex
 refine⟨vs,hx.ND h1,h2,λi l hl=>?_⟩
 obtain⟨a,c,g1,g2,g3,g4⟩:=h3 i l hl
 exact⟨a,c,g1,g2,g3.ext hx,g4⟩
theorem XM.new {n:Nat}(h:NM w bg (List.replicate n (.slice none 0 0)) 45):XM w bg B (List.replicate n []):=
 ⟨_,h,by simp,λi l hl=>by
  rw[List.getElem?_replicate] at hl;split at hl
  ·rename_i hi
   cases hl;exact⟨none,0,by rw[List.getElem?_replicate,if_pos hi];rfl,Nat.le_refl _,⟨rfl,.inl ⟨(none,0),rfl,rfl⟩⟩,λb hb=>by cases hb⟩
  ·cases hl⟩
theorem XM.set (h:XM w bg B L){f:Nat}{l:List Nat}{a:Option Addr}{c:Nat}(hk:Kp (λb=>b=bg) w w')(hB:∀vs,NM w bg vs 45->NM w' bg (vs.set (0+f*1) (.slice a l.length c)) 45)(hf:f<L.length)(iC:l.length<=c)(hr:Rd w (.slice a l.length c) 1 l.length (l.map Oe))(ho:∀b,(Value.slice a l.length c).ownBlock=some b->B<=b/\b≠bg):XM w' bg B (L.set f l):=by
 obtain⟨vs,h1,h2,h3⟩:=h.ex
 refine⟨_,hB vs h1,by simp[h2],λi l' hl=>?_⟩
 rw[Nat.zero_add,Nat.mul_one]
 by_cases e:f=i
 ·subst e;rw[List.getElem?_set_self hf] at hl;cases hl;exact⟨a,c,List.getElem?_set_self (by rw[h2];exact hf),iC,hr.kp hk (λb hb e=>(ho b hb).2 e),ho⟩
 ·rw[List.getElem?_set_ne e] at hl;obtain⟨a',c',g1,g2,g3,g4⟩:=h3 i l' hl;exact⟨a',c',by rw[List.getElem?_set_ne e];exact g1,g2,g3.kp hk (λb hb e=>(g4 b hb).2 e),g4⟩
theorem XM.gr (h:XM w bg B L):GrM w (.slice (some ⟨bg,0,none⟩) L.length L.length) L:=by
 obtain⟨vs,h1,h2,h3⟩:=h.ex
 refine⟨vs,⟨by rw[h2,Nat.mul_one],.inr ⟨bg,0,L.length,rfl,λj u hj=>by rw[h1.cell,Nat.zero_add];exact hj⟩⟩,λi l hl=>?_⟩
 obtain⟨a,c,g1,g2,g3,g4⟩:=h3 i l hl
 exact⟨a,c,g1,g2,g3⟩
theorem XM.lt (h:XM w bg B L):bg<w.heap.size:=by obtain⟨vs,h1,-⟩:=h.ex;exact h1.lt
theorem XM.cell (h:XM w bg B L){f:Nat}{l:List Nat}(hf:L[f]? =some l):∃(a:Option Addr) (c:Nat),w.cell? ⟨bg,0+f*1,none⟩=some (.slice a l.length c)/\l.length<=c/\Rd w (.slice a l.length c) 1 l.length (l.map Oe)/\∀b,(Value.slice a l.length c).ownBlock=some b->B<=b/\b≠bg:=by
 obtain⟨vs,h1,h2,h3⟩:=h.ex
 obtain⟨a,c,g1,g2,g3,g4⟩:=h3 f l hf
 exact⟨a,c,by rw[h1.cell,Nat.zero_add,Nat.mul_one];exact g1,g2,g3,g4⟩
def EdR (w:World)(ea:Option Addr)(es:List (Nat×Nat)):Prop:=∀(i:Nat) (e:Nat×Nat),es[i]? =some e->e.1<4294967296/\e.2<4294967296/\∃eb eo,ea=some ⟨eb,eo,none⟩/\w.cell? ⟨eb,eo+i*2+0,none⟩=some (Oe e.1)/\w.cell? ⟨eb,eo+i*2+1,none⟩=some (Oe e.2)
theorem EdR.ext {ea:Option Addr}{es:List (Nat×Nat)}(h:EdR w ea es)(hx:Ext w w'):EdR w' ea es:=λi e he=>by
 obtain⟨h1,h2,eb,eo,h3,h4,h5⟩:=h i e he
 exact⟨h1,h2,eb,eo,h3,Oz hx h4,Oz hx h5⟩
end
theorem QQ.insert {g:List (List Nat)}(h:QQ g){f x k:Nat}{s:List Nat}(hs:g[f]? =some s)(hx:x<g.length)(hk:k<=s.length)(h1:∀y∈s.take k,y<x)(h2:∀y∈s.drop k,x<y):QQ (g.set f (s.take k++[x]++s.drop k)):=by
 have hm:=List.mem_of_getElem? hs
 have uD:=h.ok s hm
 have aU:=h.lt s hm
 have hn:=h.n
 refine⟨λl hl=>?_,λl hl y hy=>?_,by rw[List.length_set];exact h.n⟩
 ·rcases List.mem_or_eq_of_mem_set hl with e| e
  ·exact h.ok l e
  ·subst e;refine⟨?_,λy hy=>?_⟩
   ·have hr:List.Pairwise (·<·) s:=uD.Yf;show List.Pairwise (·<·) _;rw[List.append_assoc,List.pairwise_append];refine⟨hr.sublist (List.take_sublist _ _),?_,λa ha b hb=>?_⟩
    ·rw[List.singleton_append,List.pairwise_cons];exact⟨h2,hr.sublist (List.drop_sublist _ _)⟩
    ·rw[List.singleton_append] at hb;rcases List.mem_cons.1 hb with e| e
     ·rw[e];exact h1 a ha
     ·exact Nat.lt_trans (h1 a ha) (h2 b e)
   ·rcases List.mem_append.1 hy with e| e
    ·rcases List.mem_append.1 e with e| e
     ·exact uD.lt y (List.mem_of_mem_take e)
     ·rw[List.mem_singleton.1 e];omega
    ·exact uD.lt y (List.mem_of_mem_drop e)
 ·rw[List.length_set];rcases List.mem_or_eq_of_mem_set hl with e| e
  ·exact h.lt l e y hy
  ·subst e;rcases List.mem_append.1 hy with e| e
   ·rcases List.mem_append.1 e with e| e
    ·exact aU y (List.mem_of_mem_take e)
    ·rw[List.mem_singleton.1 e];exact hx
   ·exact aU y (List.mem_of_mem_drop e)
theorem QQ.empty {n:Nat}(hn:n<=60):QQ (List.replicate n []):=
 ⟨λl hl=>by rw[List.eq_of_mem_replicate hl];exact⟨List.Pairwise.nil,λy h=>(by cases h)⟩,λl hl y hy=>(by rw[List.eq_of_mem_replicate hl] at hy;cases hy),by simpa using hn⟩
end Go.Proofs.YtfgjaafcgghnoaaGreatDoor
namespace Go.Proofs.YtfgjaafcgghnoaaGreatDoor
open Go Go.RowKit Go.Proofs.Tryz
theorem NM.uniq {w:World}{b:Nat}{cs cs':List Value}{T T':TypeId}(h:NM w b cs T)(h':NM w b cs' T'):cs=cs':=by
 obtain⟨fz,h1,-⟩:=h
 obtain⟨fz',h2,-⟩:=h'
 rw[h1] at h2
 have:=Pz h2
 injection this with e1 e2 e3
 have:=congrArg Array.toList e1
 simpa using this
theorem z84 {n : Nat}(cY : 1 <= n)(hn : n <= 40){w : World}{ea : Option Addr}{ec : Nat}{es : List (Nat × Nat)}(pw : es.length <= 9000000000000000000)(hE : EdR w ea es) : Oa prog 24 [I (n : Int), .slice ea es.length ec] w λv w' => ∃ g bg, v = .slice (some ⟨bg, 0, none⟩) g.length g.length /\ g.length = n /\ QQ g /\ XM w' bg w.heap.size g /\ Ext w w' := by
 have eJ:maxLen=9223372036854775807:=rfl
 refine Nu (e:=[(0,_),(1,_)]) func24 O ntmps24 O O$ qN O$ NQ O$ qM O$ Nz O$ NK O O (pmk (c:=n) (n:=n) SH QC O O O (by omega) (by omega) (by omega)) ?_
 rintro _ w1 ⟨bg,rfl,⟨HJ,ad,aj⟩,-⟩
 have kQ:XM w1 bg w.heap.size (List.replicate n []):=XM.new aj
 refine NF O$ py$ qN O$ NF O$ Nw$ Qb (α:=Nat×List (List Nat)) ((0,List.replicate n [])) (λy=>[(0,I (n:Int)),(1,.slice ea es.length ec),(5,.slice (some ⟨bg,0,none⟩) n n),(6,I (y.1:Int))]) (λy w'=>y.1<=es.length/\y.2.length=n/\QQ y.2/\XM w' bg w.heap.size y.2/\Ext w w') (λy=>es.length-y.1) ?hI ?hround
 case hI=>exact⟨Nat.zero_le _,by simp,QQ.empty (by omega),kQ,ad⟩
 case hround =>
  rintro⟨i,g⟩ w2 ⟨hi,dL,ay,cA,ag⟩ ih;dsimp only at hi dL ay cA ag ih⊢
  try dsimp only
  refine py$ qN O$ NT O O$ Q0 U22 O$ Pb O O$ NB$ NN O (λhq=>?_)$ λhq=>?_
  ·have cu : i < es.length := by omega
   obtain⟨e,he⟩:∃e,es[i]? =some e:=⟨_,List.getElem?_eq_getElem cu⟩;obtain⟨e1,e2,eb,eo,rfl,dH,eM⟩:=(hE.ext ag) i e he;refine An$ py$ Nw$ py$ qN O$ NT O O$ qV (OH U22 Su O O (by omega))$ NO VE O$ qV (Oi OX O O dH)$ qV (Ow O OX U3 (by omega))$ Nz O ?_;by_cases hf:e.1<n
   ·by_cases ht:e.2<n
    ·refine RN O O$ Ox$ NT O O$ Nz O$ qV (OH U22 Su O O (by omega))$ NO Us O$ qV (Oi OX O O eM)$ qV (Ow O OX U3 (by omega))$ Nz O$ RN O O$ Ox ?_;obtain⟨s,hs⟩:∃s,g[e.1]? =some s:=⟨_,List.getElem?_eq_getElem (by omega)⟩;obtain⟨a,c,eL,iC,dU,Fh⟩:=cA.cell hs;have fP:s.length<=n:=by rw[<-dL];exact ay.len (List.mem_of_getElem? hs)
     refine OC O O$ NB$ It O$ An$ qN O$ NT O O$ Nz O$ qV (OH U22 Su O O (by omega))$ NO VE O$ qV (Oi OX O O dH)$ qV (OH SH QC O O (by omega))$ qV (Oi Ob O O eL)$ NQ O$ qM O ?_;refine NF O$ py$ Nw ?_;have um:List.Pairwise (·<·) s:=(ay.ok s (List.mem_of_getElem? hs)).Yf
     have Lp:∀(k y:Nat),s[k]? =some y->∀z∈s.drop k,y<=z:=λk y hy z hz=>by
      have ig:k<s.length:=by
       rcases Nat.lt_or_ge k s.length with h| h
       ·exact h
       ·rw[List.getElem?_eq_none h] at hy;cases hy
      have h1:List.Pairwise (·<·) (s.drop k):=um.sublist (List.drop_sublist _ _);rw[List.drop_eq_getElem_cons ig] at h1 hz;rw[List.getElem?_eq_getElem ig] at hy;cases hy;rcases List.mem_cons.1 hz with e| e
      ·omega
      ·exact Nat.le_of_lt ((List.pairwise_cons.1 h1).1 z e)
     refine QW (λe' w'=>∃k:Nat,e'=[(0,I (n:Int)),(1,.slice (some ⟨eb,eo,none⟩) es.length ec),(5,.slice (some ⟨bg,0,none⟩) n n),(6,I (i:Int)),(7,.slice a s.length c),(8,I (k:Int))]/\k<=s.length/\(∀y∈s.take k,y<e.2)/\(∀y,s[k]? =some y->e.2<=y)/\Ext w2 w') ?jG$ λjG=>?uH
     case jG =>
      rintro e' w3 ⟨k,rfl,hk,i6,iO,ah⟩;have ae:=Ext.NY w3;have uE:=dU.ext ah;have uF:=Oz ah eM;refine py$ Oy (λe' w'=>∃q,e'=[(0,I (n:Int)),(1,.slice (some ⟨eb,eo,none⟩) es.length ec),(5,.slice (some ⟨bg,0,none⟩) n n),(6,I (i:Int)),(7,.slice a s.length c),(8,I (k:Int)),(76,.bool q)]/\(q=true->∀y∈s.drop k,e.2<y)/\Ext w2 w') ?eC$ λeC=>?iR
      case eC =>
       rintro e' w4 ⟨q,rfl,pF,aB⟩;have dz:=cA.ext aB;have mE:=dU.ext aB;have oE:=Oz aB dH;have Fi:=Oz aB eM;have bU:=ag.trans aB;refine OV O (λrk=>?_)$ λrk=>?_
       ·have ak:=Ext.NY w4;have bB:=ak.size;have Hs:w.heap.size<=w4.heap.size:=bU.size;have Fj:=dz.lt
        have lD:((s.take k++[e.2])++s.drop k).length=s.length+1:=by
         rw[List.length_append,List.length_append,List.length_take,List.length_drop,List.length_singleton];omega
        have dm:∀(l:List Nat),∀c∈l.map Oe,c.oneCell'=true:=λl c hc=>by obtain⟨z,-,rfl⟩:=List.mem_map.1 hc;rfl
        have jU:(s.take k).length=k:=by rw[List.length_take];omega
        have vC:(s.drop k).length=s.length-k:=List.length_drop ..;obtain⟨vs,oF,js,-⟩:=id dz.ex;refine O3 [23] (λw'=>Ext w4 w') (by kernel_rfl) O$ qL [22,23] 0 O (λ_ h=>Oq O) ak$ qL [3,4,5,22,23] 1 O (λ_ h=>Oq O) ak$ qL [3,4,5,22,23] 2 O (λ_ h=>Oq O) ak$ qL [4,5,22,23] 3 O (λ_ h=>OH U22 Su O O (by omega)) ak$ qL [5,22,23] 4 O (λ_ h=>Og VE O) ak$ qL [9,10,17,21,22,23] 7 O (λ_ h=>Oq O) ak$ qL [9,10,17,21,22,23] 8 O (λ_ h=>Oq O) ak$ qL [13,14,15,16,17,21,22,23] 11 O (λ_ h=>Oq O) ak$ qL [13,14,15,16,17,21,22,23] 12 O (λ_ h=>Oq O) ak$ qL [14,15,16,17,21,22,23] 13 O (λ_ h=>OH U22 Su O O (by omega)) ak$ qL [15,16,17,21,22,23] 14 O (λ_ h=>Og Us O) ak$ qL [20,21,22,23] 18 O (λ_ h=>Oq O) ak$ qL [20,21,22,23] 19 O (λ_ h=>Oq O) ak ?_;refine qL [22,23] 5 O (λ_ h=>Oi OX O O (Oz h oE)) ak$ qL [10,17,21,22,23] 9 O (λ_ h=>z9D Ob NV O O (by omega)) ak$ qL [16,17,21,22,23] 15 O (λ_ h=>Oi OX O O (Oz h Fi)) ak$ qL [21,22,23] 20 O (λ_ h=>WA Ob NV O O hk iC) ak$ VT (i:=6) (j:=16) (by kernel_rfl) ?_ ?_
        ·refine P4 (i:=6) O O O (Ur (cs:=[]) (zs:=[]) Ob NV O (by kernel_rfl) O O O (by decide)) ?_;rintro v6 w6 ⟨b6,rfl,⟨mN,aK,aR⟩,fh⟩;refine⟨ak.trans aK,?_⟩;have wj:w4.heap.size<=b6:=by omega
         have lb6:=aR.lt;have ak:=ak.trans aK
         try have bT:=bT.ext aK
         have bB:=Nat.le_trans bB aK.size;refine VT (i:=10) (j:=16) (by kernel_rfl) ?_ ?_
         ·refine P4 (i:=10) O O O (pap Ob NV O (by decide) O O fh ((S1 (i:=k) mE hk).ext ak) (λc hc=>dm s c (List.mem_of_mem_take hc)) (by omega) (by omega)) ?_;rintro v10 w10 ⟨bz,au,aZ,-⟩;refine⟨ak.Nv au (λj e=>by have e:b6=j:=Pz e;omega),?_⟩;have ak:=ak.Nv au (λj e=>by have e:b6=j:=Pz e;omega)
          try have bT:=bT.kp au (λj hj e=>by have e:b6=j:=Pz e;have hj:b16=j:=Pz hj;omega)
          have aZ:∀j,v10.ownBlock=some j->w4.heap.size<=j:=λj hj=>by rcases aZ j hj with e|e;(have e:b6=j:=Pz e;omega);omega
          have bB:=Nat.le_trans bB au.size;have oG:=λ(j:Nat) (hj:v10.ownBlock=some j)=>bz.lt hj;refine PC (i:=16) (by kernel_rfl)$ P4 (i:=16) O O O (Ur (cs:=[_]) (zs:=[Value.int .u32 0]) Ob NV O (by kernel_rfl) O O O (by decide)) ?_;rintro v16 w16 ⟨b16,rfl,⟨oH,aD,eE⟩,bT⟩;refine⟨ak.trans aD,?_⟩;have oI:w4.heap.size<=b16:=by omega
          have ak:=ak.trans aD
          try have fh:=fh.ext aD
          try have bz:=bz.ext aD
          have lb16:=eE.lt;have bB:=Nat.le_trans bB aD.size;refine PC (i:=17) (by kernel_rfl)$ P4 (i:=17) O O O (pap Ob NV O (by decide) O O bz bT.rd (λc hc=>dm [e.2] c hc) (by omega) (by omega)) ?_;rintro v17 w17 ⟨ew,bR,bJ,-⟩;refine⟨ak.Nv bR (λj e=>aZ j e),?_⟩;have ak:=ak.Nv bR (λj e=>aZ j e);have bJ:∀j,v17.ownBlock=some j->w4.heap.size<=j:=λj hj=>by rcases bJ j hj with e|e;exact aZ j e;omega
          have bB:=Nat.le_trans bB bR.size;refine PC (i:=21) (by kernel_rfl)$ P4 (i:=21) O O O (pap Ob NV O (by decide) O O ew ((R4 (i:=k) mE hk iC).ext ak) (λc hc=>dm s c (List.mem_of_mem_drop hc)) (by omega) (by omega)) ?_;rintro v21 w21 ⟨bP,dP,cO,-⟩;refine⟨ak.Nv dP (λj e=>bJ j e),?_⟩;have ak:=ak.Nv dP (λj e=>bJ j e);have cO:∀j,v21.ownBlock=some j->w4.heap.size<=j:=λj hj=>by rcases cO j hj with e|e;exact bJ j e;omega
          refine qL [23] 22 O (λ_ h=>OH SH QC O O (by omega)) ak ?_;have gJ:=ak.ND oF;refine Rs [23]$ qO 23$ Ou (i:=23) O O (PA QC O O (Uq bP) gJ (by rw[js];omega)) ?_;rintro w23 ⟨cX,cW⟩;refine⟨trivial,?_⟩;refine qE$ Ny$ NC O$ Nz O$ OI O O$ NF O ?_;rw[show 0+k+1+(s.length-k)=(s.take k++[e.2]++s.drop k).length by rw[lD];omega,show([]++List.take k (s.map Oe)++[Oe e.2]++List.drop k (s.map Oe))=(s.take k++[e.2]++s.drop k).map Oe by simp[List.map_take,List.map_drop]] at bP;obtain⟨ra,rc,rfl,-⟩:=bP.rd.shape
          have oJ:(s.take k++[e.2]++s.drop k).length<=rc:=by
           rcases bP.shape with⟨e1,e2⟩|⟨gg,cc,e1,e2⟩
           ·omega
           ·cases e1;exact e2
          have oK:=(dz.ext ak).set cW (f:=e.1) (l:=s.take k++[e.2]++s.drop k) (a:=ra) (c:=rc) (λvs' h'=>by rw[NM.uniq h' gJ];exact cX) (by omega) oJ bP.rd (λj hj=>by have:=cO j hj;omega);have oL:=ay.insert hs (x:=e.2) (k:=k) (by omega) hk i6 (pF rk);exact(ih (i+1,g.set e.1 (s.take k++[e.2]++s.drop k)) _ ⟨by omega,by rw[List.length_set];exact dL,oL,oK,(bU.trans ak).Nv cW (λj e=>by omega)⟩ (by omega)).qb
         ·refine P4 (i:=16) O O O (Ur (cs:=[_]) (zs:=[Value.int .u32 0]) Ob NV O (by kernel_rfl) O O O (by decide)) ?_;rintro v16 w16 ⟨b16,rfl,⟨oH,aD,eE⟩,bT⟩;refine⟨ak.trans aD,?_⟩;have oI:w4.heap.size<=b16:=by omega
          have ak:=ak.trans aD
          try have fh:=fh.ext aD
          try have bz:=bz.ext aD
          have lb16:=eE.lt;have bB:=Nat.le_trans bB aD.size;refine PC (i:=10) (by kernel_rfl)$ P4 (i:=10) O O O (pap Ob NV O (by decide) O O fh ((S1 (i:=k) mE hk).ext ak) (λc hc=>dm s c (List.mem_of_mem_take hc)) (by omega) (by omega)) ?_;rintro v10 w10 ⟨bz,au,aZ,-⟩;refine⟨ak.Nv au (λj e=>by have e:b6=j:=Pz e;omega),?_⟩;have ak:=ak.Nv au (λj e=>by have e:b6=j:=Pz e;omega)
          try have bT:=bT.kp au (λj hj e=>by have e:b6=j:=Pz e;have hj:b16=j:=Pz hj;omega)
          have aZ:∀j,v10.ownBlock=some j->w4.heap.size<=j:=λj hj=>by rcases aZ j hj with e|e;(have e:b6=j:=Pz e;omega);omega
          have bB:=Nat.le_trans bB au.size;have oG:=λ(j:Nat) (hj:v10.ownBlock=some j)=>bz.lt hj;refine PC (i:=17) (by kernel_rfl)$ P4 (i:=17) O O O (pap Ob NV O (by decide) O O bz bT.rd (λc hc=>dm [e.2] c hc) (by omega) (by omega)) ?_;rintro v17 w17 ⟨ew,bR,bJ,-⟩;refine⟨ak.Nv bR (λj e=>aZ j e),?_⟩;have ak:=ak.Nv bR (λj e=>aZ j e);have bJ:∀j,v17.ownBlock=some j->w4.heap.size<=j:=λj hj=>by rcases bJ j hj with e|e;exact aZ j e;omega
          have bB:=Nat.le_trans bB bR.size;refine PC (i:=21) (by kernel_rfl)$ P4 (i:=21) O O O (pap Ob NV O (by decide) O O ew ((R4 (i:=k) mE hk iC).ext ak) (λc hc=>dm s c (List.mem_of_mem_drop hc)) (by omega) (by omega)) ?_;rintro v21 w21 ⟨bP,dP,cO,-⟩;refine⟨ak.Nv dP (λj e=>bJ j e),?_⟩;have ak:=ak.Nv dP (λj e=>bJ j e);have cO:∀j,v21.ownBlock=some j->w4.heap.size<=j:=λj hj=>by rcases cO j hj with e|e;exact bJ j e;omega
          refine qL [23] 22 O (λ_ h=>OH SH QC O O (by omega)) ak ?_;have gJ:=ak.ND oF;refine Rs [23]$ qO 23$ Ou (i:=23) O O (PA QC O O (Uq bP) gJ (by rw[js];omega)) ?_;rintro w23 ⟨cX,cW⟩;refine⟨trivial,?_⟩;refine qE$ Ny$ NC O$ Nz O$ OI O O$ NF O ?_;rw[show 0+k+1+(s.length-k)=(s.take k++[e.2]++s.drop k).length by rw[lD];omega,show([]++List.take k (s.map Oe)++[Oe e.2]++List.drop k (s.map Oe))=(s.take k++[e.2]++s.drop k).map Oe by simp[List.map_take,List.map_drop]] at bP;obtain⟨ra,rc,rfl,-⟩:=bP.rd.shape
          have oJ:(s.take k++[e.2]++s.drop k).length<=rc:=by
           rcases bP.shape with⟨e1,e2⟩|⟨gg,cc,e1,e2⟩
           ·omega
           ·cases e1;exact e2
          have oK:=(dz.ext ak).set cW (f:=e.1) (l:=s.take k++[e.2]++s.drop k) (a:=ra) (c:=rc) (λvs' h'=>by rw[NM.uniq h' gJ];exact cX) (by omega) oJ bP.rd (λj hj=>by have:=cO j hj;omega);have oL:=ay.insert hs (x:=e.2) (k:=k) (by omega) hk i6 (pF rk);exact(ih (i+1,g.set e.1 (s.take k++[e.2]++s.drop k)) _ ⟨by omega,by rw[List.length_set];exact dL,oL,oK,(bU.trans ak).Nv cW (λj e=>by omega)⟩ (by omega)).qb
        ·refine P4 (i:=16) O O O (Ur (cs:=[_]) (zs:=[Value.int .u32 0]) Ob NV O (by kernel_rfl) O O O (by decide)) ?_;rintro v16 w16 ⟨b16,rfl,⟨oH,aD,eE⟩,bT⟩;refine⟨ak.trans aD,?_⟩;have oI:w4.heap.size<=b16:=by omega
         have ak:=ak.trans aD
         try have fh:=fh.ext aD
         try have bz:=bz.ext aD
         have lb16:=eE.lt;have bB:=Nat.le_trans bB aD.size;refine PC (i:=6) (by kernel_rfl)$ P4 (i:=6) O O O (Ur (cs:=[]) (zs:=[]) Ob NV O (by kernel_rfl) O O O (by decide)) ?_;rintro v6 w6 ⟨b6,rfl,⟨mN,aK,aR⟩,fh⟩;refine⟨ak.trans aK,?_⟩;have wj:w4.heap.size<=b6:=by omega
         have lb6:=aR.lt;have ak:=ak.trans aK
         try have bT:=bT.ext aK
         have bB:=Nat.le_trans bB aK.size;refine PC (i:=10) (by kernel_rfl)$ P4 (i:=10) O O O (pap Ob NV O (by decide) O O fh ((S1 (i:=k) mE hk).ext ak) (λc hc=>dm s c (List.mem_of_mem_take hc)) (by omega) (by omega)) ?_;rintro v10 w10 ⟨bz,au,aZ,-⟩;refine⟨ak.Nv au (λj e=>by have e:b6=j:=Pz e;omega),?_⟩;have ak:=ak.Nv au (λj e=>by have e:b6=j:=Pz e;omega)
         try have bT:=bT.kp au (λj hj e=>by have e:b6=j:=Pz e;have hj:b16=j:=Pz hj;omega)
         have aZ:∀j,v10.ownBlock=some j->w4.heap.size<=j:=λj hj=>by rcases aZ j hj with e|e;(have e:b6=j:=Pz e;omega);omega
         have bB:=Nat.le_trans bB au.size;have oG:=λ(j:Nat) (hj:v10.ownBlock=some j)=>bz.lt hj;refine PC (i:=17) (by kernel_rfl)$ P4 (i:=17) O O O (pap Ob NV O (by decide) O O bz bT.rd (λc hc=>dm [e.2] c hc) (by omega) (by omega)) ?_;rintro v17 w17 ⟨ew,bR,bJ,-⟩;refine⟨ak.Nv bR (λj e=>aZ j e),?_⟩;have ak:=ak.Nv bR (λj e=>aZ j e);have bJ:∀j,v17.ownBlock=some j->w4.heap.size<=j:=λj hj=>by rcases bJ j hj with e|e;exact aZ j e;omega
         have bB:=Nat.le_trans bB bR.size;refine PC (i:=21) (by kernel_rfl)$ P4 (i:=21) O O O (pap Ob NV O (by decide) O O ew ((R4 (i:=k) mE hk iC).ext ak) (λc hc=>dm s c (List.mem_of_mem_drop hc)) (by omega) (by omega)) ?_;rintro v21 w21 ⟨bP,dP,cO,-⟩;refine⟨ak.Nv dP (λj e=>bJ j e),?_⟩;have ak:=ak.Nv dP (λj e=>bJ j e);have cO:∀j,v21.ownBlock=some j->w4.heap.size<=j:=λj hj=>by rcases cO j hj with e|e;exact bJ j e;omega
         refine qL [23] 22 O (λ_ h=>OH SH QC O O (by omega)) ak ?_;have gJ:=ak.ND oF;refine Rs [23]$ qO 23$ Ou (i:=23) O O (PA QC O O (Uq bP) gJ (by rw[js];omega)) ?_;rintro w23 ⟨cX,cW⟩;refine⟨trivial,?_⟩;refine qE$ Ny$ NC O$ Nz O$ OI O O$ NF O ?_;rw[show 0+k+1+(s.length-k)=(s.take k++[e.2]++s.drop k).length by rw[lD];omega,show([]++List.take k (s.map Oe)++[Oe e.2]++List.drop k (s.map Oe))=(s.take k++[e.2]++s.drop k).map Oe by simp[List.map_take,List.map_drop]] at bP;obtain⟨ra,rc,rfl,-⟩:=bP.rd.shape
         have oJ:(s.take k++[e.2]++s.drop k).length<=rc:=by
          rcases bP.shape with⟨e1,e2⟩|⟨gg,cc,e1,e2⟩
          ·omega
          ·cases e1;exact e2
         have oK:=(dz.ext ak).set cW (f:=e.1) (l:=s.take k++[e.2]++s.drop k) (a:=ra) (c:=rc) (λvs' h'=>by rw[NM.uniq h' gJ];exact cX) (by omega) oJ bP.rd (λj hj=>by have:=cO j hj;omega);have oL:=ay.insert hs (x:=e.2) (k:=k) (by omega) hk i6 (pF rk);exact(ih (i+1,g.set e.1 (s.take k++[e.2]++s.drop k)) _ ⟨by omega,by rw[List.length_set];exact dL,oL,oK,(bU.trans ak).Nv cW (λj e=>by omega)⟩ (by omega)).qb
       ·refine An$ Ny$ NC O$ Nz O$ OI O O$ NF O ?_;exact(ih (i+1,g) _ ⟨by omega,dL,ay,dz,bU⟩ (by omega)).qb
      case iR=>
       refine PK (λw'=>Ext w3 w') O$ NX 0 O O (ae)$ NX 1 O O (ae)$ NG 2 O (R7 Ob O) ae ?_;by_cases pq:k=s.length
       ·refine NG 3 O (yeq O O) ae$ SC$ NX 4 O O (ae)$ qJ 5 O (ae)$ qJ 6 O (ae)$ qJ 7 O (ae)$ qJ 8 O (ae)$ qJ 9 O (ae)$ qJ 10 O (ae)$ qJ 11 O (ae)$ qJ 12 O (ae)$ qJ 13 O (ae)$ qJ 14 O (ae)$ NG 15 O (Tu O O) ae ?_;refine qE ?_;exact(eC _ _ ⟨true,rfl,λ_ y hy=>(by rw[pq,List.drop_length] at hy;cases hy),ah.trans ae⟩).qb
       ·obtain⟨y,hy⟩:∃y,s[k]? =some y:=⟨_,List.getElem?_eq_getElem (by omega)⟩;rcases uE.2 with⟨⟨ca,cc⟩,fT,s7⟩|⟨lb,lo,cap,fT,dx⟩
        ·omega
        cases fT;have uG:w3.cell? ⟨lb,lo+k*1,none⟩=some (Oe y):=dx (k*1) _ (by rw[Nat.mul_one,List.getElem?_map,hy];rfl);refine NG 3 O (yeq O O) ae$ S4$ NX 4 O O (ae)$ NX 5 O O (ae)$ NX 6 O O (ae)$ NG 7 O (OH Ob NV O O (by omega)) ae$ NX 9 O O (ae)$ NX 10 O O (ae)$ NG 11 O (OH U22 Su O O (by omega)) ae$ NG 12 O (Og Us O) ae$ qT 8 O (λ_ h=>Oi OX O O (Oz h uG)) ae$ qT 13 O (λ_ h=>Oi OX O O (Oz h uF)) ae ?_;have Bj:=iO y hy;by_cases sH:y=e.2
        ·refine NG 14 O (yne O O) ae$ S4$ NG 15 O (S6 O O) ae$ qE ?_;exact(eC _ _ ⟨false,rfl,λe=>(by cases e),ah.trans ae⟩).qb
        ·refine NG 14 O (yne O O) ae$ SC$ NG 15 O (S6 O O) ae$ qE ?_;exact(eC _ _ ⟨true,rfl,λ_ z hz=>(by have:=Lp k y hy z hz;omega),ah.trans ae⟩).qb
     case uH=>
      refine Qb (α:=Nat) (0) (λk=>[(0,I (n:Int)),(1,.slice (some ⟨eb,eo,none⟩) es.length ec),(5,.slice (some ⟨bg,0,none⟩) n n),(6,I (i:Int)),(7,.slice a s.length c),(8,I (k:Int))]) (λk w'=>k<=s.length/\(∀y∈s.take k,y<e.2)/\Ext w2 w') (λk=>s.length-k) ?hI ?hround
      case hI=>exact⟨Nat.zero_le _,λy hy=>(by simp at hy),Ext.refl _⟩
      case hround=>
       rintro k w3 ⟨hk,i6,ah⟩ ih2;have ae:=Ext.NY w3;have uE:=dU.ext ah;have uF:=Oz ah eM
       try dsimp only
       refine py$ py$ PK (λw'=>Ext w3 w') O$ NX 0 O O (ae)$ NX 1 O O (ae)$ NG 2 O (R7 Ob O) ae ?_;by_cases ig:k<s.length
       ·obtain⟨y,hy⟩:∃y,s[k]? =some y:=⟨_,List.getElem?_eq_getElem ig⟩;rcases uE.2 with⟨⟨ca,cc⟩,fT,s7⟩|⟨lb,lo,cap,fT,dx⟩
        ·omega
        cases fT;have uG:w3.cell? ⟨lb,lo+k*1,none⟩=some (Oe y):=dx (k*1) _ (by rw[Nat.mul_one,List.getElem?_map,hy];rfl);refine NG 3 O (ZQ O O) ae$ SC$ NX 4 O O (ae)$ NX 5 O O (ae)$ NX 6 O O (ae)$ NG 7 O (OH Ob NV O O (by omega)) ae$ NX 9 O O (ae)$ NX 10 O O (ae)$ NG 11 O (OH U22 Su O O (by omega)) ae$ NG 12 O (Og Us O) ae$ qT 8 O (λ_ h=>Oi OX O O (Oz h uG)) ae$ qT 13 O (λ_ h=>Oi OX O O (Oz h uF)) ae ?_;by_cases Bj:y<e.2
        ·refine NG 14 O (ZQ O O) ae$ SC$ NG 15 O (Tu O O) ae$ qE$ NI O$ An$ Nw$ NC O$ Nz O$ OI O O$ NF O$ Ny ((ih2 (k+1) _ ⟨by omega,λz hz=>?_,ah.trans ae⟩ (by omega)).qb);rw[OB hy] at hz;rcases List.mem_append.1 hz with e'|e'
         ·exact i6 z e'
         ·rw[List.mem_singleton.1 e'];exact Bj
        ·refine NG 14 O (ZQ O O) ae$ S4$ NG 15 O (Tu O O) ae$ qE$ It O$ NL O ?_;exact(jG _ _ ⟨k,rfl,hk,i6,λz hz=>(by rw[hy] at hz;cases hz;omega),ah.trans ae⟩).qb
       ·refine NG 3 O (ZQ O O) ae$ S4$ NX 4 O O (ae)$ qJ 5 O (ae)$ qJ 6 O (ae)$ qJ 7 O (ae)$ qJ 8 O (ae)$ qJ 9 O (ae)$ qJ 10 O (ae)$ qJ 11 O (ae)$ qJ 12 O (ae)$ qJ 13 O (ae)$ qJ 14 O (ae)$ NG 15 O (S6 O O) ae ?_;refine qE$ It O$ NL O ?_;exact(jG _ _ ⟨k,rfl,hk,i6,λz hz=>(by rw[List.getElem?_eq_none (by omega)] at hz;cases hz),ah.trans ae⟩).qb
    ·refine RN O O$ Ox$ NT O O$ Nz O$ qV (OH U22 Su O O (by omega))$ NO Us O$ qV (Oi OX O O eM)$ qV (Ow O OX U3 (by omega))$ Nz O$ RN O O$ PE$ OC O O$ NB$ NI O ?_;refine NL O$ NC O$ Nz O$ OI O O$ NF O ?_;exact(ih (i+1,g) _ ⟨by omega,dL,ay,cA,ag⟩ (by omega)).qb
   ·refine RN O O$ PE$ Nz O$ qS$ qS$ qS$ qS$ qS$ qS$ qS$ qS$ Pc O O$ NB$ NI O ?_;refine NL O$ NC O$ Nz O$ OI O O$ NF O ?_;exact(ih (i+1,g) _ ⟨by omega,dL,ay,cA,ag⟩ (by omega)).qb
  ·refine NL O$ qN O$ Nz O$ NF O$ NA func24 O ?_;exact⟨_,rfl,g,bg,by rw[dL];rfl,dL,ay,cA,ag⟩
def TZ (g:List (List Nat))(v i u:Nat):List Nat:=(List.range v).filter (λx=>decide (u∈NS g x))++(if u∈(NS g v).take i then [v] else [])
def Tm (g:List (List Nat))(v i:Nat):List (List Nat):=(List.range g.length).map (TZ g v i)
def Wa (g:List (List Nat)):List (List Nat):=Tm g g.length 0
theorem z5H (g:List (List Nat))(v u:Nat):TZ g v (NS g v).length u=TZ g (v+1) 0 u:=by
 unfold TZ
 rw[List.take_length,List.range_succ,List.filter_append]
 by_cases h:u∈NS g v<;>simp[h]
theorem RQ (g:List (List Nat))(v i:Nat):(Tm g v i).length=g.length:=by simp[Tm]
theorem U0 (g:List (List Nat))(v i:Nat){u:Nat}(hu:u<g.length):(Tm g v i)[u]? =some (TZ g v i u):=by
 unfold Tm
 rw[List.getElem?_map,List.getElem?_range hu];rfl
theorem z7U (g:List (List Nat))(v i u:Nat):(TZ g v i u).length<=v+1:=by
 unfold TZ
 have h1:=List.length_filter_le (λx=>decide (u∈NS g x)) (List.range v)
 rw[List.length_range] at h1
 rw[List.length_append]
 split<;>simp<;>omega
theorem z74 {g:List (List Nat)}(ay:QQ g){v i u:Nat}(hu:(NS g v)[i]? =some u):(Tm g v i).set u (TZ g v i u++[v])=Tm g v (i+1):=by
 have mZ:=RY ay v u (List.mem_of_getElem? hu)
 have fV:u∉(NS g v).take i:=λh=>by
  have fR:v<g.length:=by
   rcases Nat.lt_or_ge v g.length with h| h
   ·exact h
   ·unfold NS at hu;rw[List.getElem?_eq_none h] at hu;cases hu
  have hr:List.Pairwise (·<·) (NS g v):=by
   unfold NS;rw[List.getElem?_eq_getElem fR];exact(ay.ok _ (List.getElem_mem fR)).Yf
  have h2:=OB hu;have h3:List.Pairwise (·<·) ((NS g v).take (i+1)):=hr.sublist (List.take_sublist _ _);rw[h2,List.pairwise_append] at h3;have:=h3.2.2 u h u List.mem_cons_self;omega
 apply List.ext_getElem?
 intro x
 by_cases hx:u=x
 ·subst hx;rw[List.getElem?_set_self (by rw[RQ];exact mZ),U0 _ _ _ mZ]
  congr 1
  unfold TZ;rw[if_neg fV,List.append_nil,OB hu,if_pos (by simp)]
 ·rw[List.getElem?_set_ne hx];by_cases ik:x<g.length
  ·rw[U0 _ _ _ ik,U0 _ _ _ ik]
   congr 1
   unfold TZ
   congr 1
   rw[OB hu]
   have:x∈(NS g v).take i++[u]↔x∈(NS g v).take i:=by
    rw[List.mem_append,List.mem_singleton];exact⟨λe=>e.resolve_right λe=>hx e.symm,.inl⟩
   simp only[this]
  ·rw[List.getElem?_eq_none (by rw[RQ];omega),List.getElem?_eq_none (by rw[RQ];omega)]
theorem z8g (g:List (List Nat)){u:Nat}(hu:u<g.length):(Wa g)[u]? =some ((List.range g.length).filter λx=>decide (u∈NS g x)):=by
 unfold Wa
 rw[U0 _ _ _ hu]
 unfold TZ
 rw[List.take_zero,if_neg (by simp),List.append_nil]
theorem Xe (g:List (List Nat)):(Wa g).length=g.length:=RQ _ _ _
theorem z9c {g:List (List Nat)}(h:QQ g):QQ (Wa g):=by
 have hl:=Xe g
 have dZ:∀l∈Wa g,∃u,l=(List.range g.length).filter λx=>decide (u∈NS g x):=λl hm=>by
  obtain⟨u,hu⟩:=List.getElem?_of_mem hm
  have mZ:u<g.length:=by
   rcases Nat.lt_or_ge u g.length with h| h
   ·exact h
   ·rw[List.getElem?_eq_none (by omega)] at hu;cases hu
  rw[z8g g mZ] at hu;exact⟨u,(Pz hu).symm⟩
 have hn:=h.n
 refine⟨λl hm=>?_,λl hm y hy=>?_,by omega⟩
 ·obtain⟨u,rfl⟩:=dZ l hm;exact⟨(List.pairwise_lt_range).sublist List.filter_sublist,λy hy=>by have:=List.mem_range.1 (List.mem_filter.1 hy).1;omega⟩
 ·obtain⟨u,rfl⟩:=dZ l hm;have:=List.mem_range.1 (List.mem_filter.1 hy).1;omega
structure RwA (w:World)(bg B:Nat)(L:List (List Nat)):Prop where
 ex:∃vs:List Value,NM w bg vs 45/\vs.length=L.length/\(∀(i:Nat) (l:List Nat),L[i]? =some l->∃v:Value,vs[i]? =some v/\Sl w v 46 1 l.length (l.map Oe)/\∀b,v.ownBlock=some b->B<=b/\b≠bg)/\∀(i j:Nat) (vi vj:Value) (b:Nat),i≠j->vs[i]? =some vi->vs[j]? =some vj->vi.ownBlock=some b->vj.ownBlock≠some b
section
variable {w w':World}{bg B:Nat}{L:List (List Nat)}
theorem RwA.new {n:Nat}(h:NM w bg (List.replicate n (.slice none 0 0)) 45):RwA w bg B (List.replicate n []):=by
 refine⟨_,h,by simp,λi l hl=>?_,λi j vi vj b _ hi _ hb=>?_⟩
 ·rw[List.getElem?_replicate] at hl;split at hl
  ·rename_i hi
   cases hl;exact⟨.slice none 0 0,by rw[List.getElem?_replicate,if_pos hi],Sl.nil w _ 1,λb hb=>by cases hb⟩
  ·cases hl
 ·have:=List.mem_of_getElem? hi;rw[List.eq_of_mem_replicate this] at hb;cases hb
theorem RwA.rw (h:RwA w bg B L):XM w bg B L:=by
 obtain⟨vs,h1,h2,h3,h4⟩:=h.ex
 refine⟨vs,h1,h2,λi l hl=>?_⟩
 obtain⟨v,g1,g2,g3⟩:=h3 i l hl
 obtain⟨a,c,rfl,-⟩:=g2.rd.shape
 refine⟨a,c,g1,?_,g2.rd,g3⟩
 rcases g2.shape with⟨e1,e2⟩|⟨gg,cc,e1,e2⟩
 ·omega
 ·cases e1;exact e2
theorem RwA.put {w2:World}(h:RwA w bg B L){u:Nat}{l l':List Nat}{v v':Value}{vs:List Value}(oF:NM w bg vs 45)(hu:L[u]? =some l)(hv:vs[u]? =some v)(hk:Kp (λb=>v.ownBlock=some b) w w')(hS:Sl w' v' 46 1 l'.length (l'.map Oe))(ho:∀b,v'.ownBlock=some b->v.ownBlock=some b\/w.heap.size<=b)(aq:Kp (λb=>b=bg) w' w2)(hB:NM w2 bg (vs.set (0+u*1) v') 45)(g9:B<=w.heap.size):RwA w2 bg B (L.set u l'):=by
 obtain⟨vs0,h1,h2,h3,h4⟩:=h.ex
 have e0:=h1.uniq oF
 subst e0
 rw[Nat.zero_add,Nat.mul_one] at hB
 obtain⟨v0,g1,g2,g3⟩:=h3 u l hu
 rw[hv] at g1
 cases g1
 have fL:=h1.lt
 have sT:u<L.length:=by
  rcases Nat.lt_or_ge u L.length with h| h
  ·exact h
  ·rw[List.getElem?_eq_none h] at hu;cases hu
 have Aw:∀b,v'.ownBlock=some b->B<=b/\b≠bg:=λb hb=>by
  rcases ho b hb with e| e
  ·exact g3 b e
  ·omega
 have aU:∀(j:Nat) (vj:Value) (b:Nat),vs0[j]? =some vj->vj.ownBlock=some b->b<w.heap.size:=λj vj b hj hb=>by
  obtain⟨lj,Lq⟩:∃lj,L[j]? =some lj:=⟨_,List.getElem?_eq_getElem (by
   rw[<-h2];rcases Nat.lt_or_ge j vs0.length with h| h
   ·exact h
   ·rw[List.getElem?_eq_none h] at hj;cases hj)⟩
  obtain⟨vj',k1,k2,-⟩:=h3 j lj Lq;rw[hj] at k1;cases k1;exact k2.lt hb
 refine⟨_,hB,by simp[h2],λi li hl=>?_,λi j vi vj b iq hi hj hb=>?_⟩
 ·by_cases e:u=i
  ·subst e;rw[List.getElem?_set_self sT] at hl;cases hl;exact⟨v',List.getElem?_set_self (by rw[h2];exact sT),hS.kp aq (λb hb e=>(Aw b hb).2 e),Aw⟩
  ·rw[List.getElem?_set_ne e] at hl;obtain⟨vi,k1,k2,k3⟩:=h3 i li hl;exact⟨vi,by rw[List.getElem?_set_ne e];exact k1,(k2.kp hk (λb hb e2=>h4 u i v vi b e hv k1 e2 hb)).kp aq (λb hb e=>(k3 b hb).2 e),k3⟩
 ·by_cases ei:u=i
  ·subst ei;rw[List.getElem?_set_self (by rw[h2];exact sT)] at hi;cases hi;rw[List.getElem?_set_ne iq] at hj;intro bQ;rcases ho b hb with e| e
   ·exact h4 u j v vj b iq hv hj e bQ
   ·have:=aU j vj b hj bQ;omega
  ·rw[List.getElem?_set_ne ei] at hi;by_cases ej:u=j
   ·subst ej;rw[List.getElem?_set_self (by rw[h2];exact sT)] at hj;cases hj;intro bQ;rcases ho b bQ with e| e
    ·exact h4 i u vi v b iq hi hv hb e
    ·have:=aU i vi b hi hb;omega
   ·rw[List.getElem?_set_ne ej] at hj;exact h4 i j vi vj b iq hi hj hb
end
theorem z5I {g:List (List Nat)}(ay:QQ g){w:World}{gb go gc:Nat}(hg:GrR w gb go g):Oa prog 32 [.slice (some ⟨gb,go,none⟩) g.length gc] w λv w'=>∃bt,v= .slice (some ⟨bt,0,none⟩) g.length g.length/\XM w' bt w.heap.size (Wa g)/\Ext w w':=by
 have eJ:maxLen=9223372036854775807:=rfl
 have hn:=ay.n
 refine Nu (e:=[(0,_)]) func32 O ntmps32 O O$ qN O$ NQ O$ qM O$ Nz O$ Q0 SH O$ NK O O (pmk (c:=g.length) (n:=g.length) SH QC O O O (by omega) (by omega) (by omega)) ?_
 rintro _ w1 ⟨bt,rfl,⟨pC,ad,aj⟩,-⟩
 have kQ:RwA w1 bt w.heap.size (Tm g 0 0):=by
  have e:Tm g 0 0=List.replicate g.length []:=by
   apply List.ext_getElem<;>simp[Tm,TZ]
  rw[e];exact RwA.new aj
 refine NF O$ py$ qN O$ NF O$ Nw$ Qb (α:=Nat) (0) (λv=>[(0,.slice (some ⟨gb,go,none⟩) g.length gc),(3,.slice (some ⟨bt,0,none⟩) g.length g.length),(4,I (v:Int))]) (λv w'=>v<=g.length/\RwA w' bt w.heap.size (Tm g v 0)/\Ext w w') (λv=>g.length-v) ?hI ?hround
 case hI=>exact⟨Nat.zero_le _,kQ,ad⟩
 case hround =>
  rintro v w2 ⟨hv,cA,ag⟩ ih
  try dsimp only
  refine py$ qN O$ NT O O$ Q0 SH O$ Pb O O$ NB$ NN O (λhq=>?_)$ λhq=>?_
  ·have fR:v<g.length:=by omega
   have dL:g[v]? =some (NS g v):=by unfold NS;rw[List.getElem?_eq_getElem fR];rfl
   have fP:(NS g v).length<=g.length:=ay.len (List.mem_of_getElem? dL);refine An$ py$ Nw$ qN O$ NF O$ Nw$ Qb (α:=Nat) (0) (λi=>[(0,.slice (some ⟨gb,go,none⟩) g.length gc),(3,.slice (some ⟨bt,0,none⟩) g.length g.length),(4,I (v:Int)),(5,I (i:Int))]) (λi w'=>i<=(NS g v).length/\RwA w' bt w.heap.size (Tm g v i)/\Ext w w') (λi=>(NS g v).length-i) ?hI ?hround
   case hI=>exact⟨Nat.zero_le _,cA,ag⟩
   case hround=>
    rintro i w3 ⟨hi,jO,ah⟩ ih2;obtain⟨a,c,dH,eM⟩:=hg v _ dL;have ae:=Ext.NY w3
    try dsimp only
    refine py$ qN O$ NT O O$ Nz O$ qV (OH SH QC O O (by omega))$ qV (Oi Ob O O (Oz ah dH))$ Q0 Ob O$ Pb O O$ NB$ NN O (λfO=>?_)$ λfO=>?_
    ·obtain⟨u,hu⟩:∃u,(NS g v)[i]? =some u:=⟨_,List.getElem?_eq_getElem (by omega)⟩;obtain⟨lb,lo,rfl,na⟩:=eM i u hu;have mZ:u<g.length:=RY ay v u (List.mem_of_getElem? hu);have HV:=U0 g v i mZ;have kS:=z7U g v i u;obtain⟨vs,oF,js,jS,Lr⟩:=id jO.ex;obtain⟨vu,HW,Ls,Bk⟩:=jS u _ HV
     have Fk:∀{w':World},Kp (λb=>vu.ownBlock=some b) w3 w'->w'.cell? ⟨bt,0+u*1,none⟩=some vu:=λhk=>by
      rw[(hk.ND oF (λe=>(Bk _ e).2 O)).cell,Nat.zero_add,Nat.mul_one];exact HW
     have z3:=ah.size;refine An$ py$ Nw ?_;have mF:∀{w':World},Kp (λb=>vu.ownBlock=some b) w3 w'->Ext w w':=λhk=>ah.Nv hk (λb e=>(Bk b e).1);refine O3 [23] (λw'=>Kp (λb=>vu.ownBlock=some b) w3 w') (by kernel_rfl) O$ qL [22,23] 0 O (λ_ h=>Oq O) (ae.kp)$ qL [3,4,6,7,22,23] 1 O (λ_ h=>Oq O) (ae.kp)$ qL [3,4,6,7,22,23] 2 O (λ_ h=>Oq O) (ae.kp)$ qL [4,6,7,22,23] 3 O (λ_ h=>OH SH QC O O (by omega)) (ae.kp)$ qL [6,7,22,23] 5 O (λ_ h=>Oq O) (ae.kp)$ qL [16,17,21,22,23] 8 O (λ_ h=>Oq O) (ae.kp)$ qL [11,12,14,15,16,17,21,22,23] 9 O (λ_ h=>Oq O) (ae.kp)$ qL [11,12,14,15,16,17,21,22,23] 10 O (λ_ h=>Oq O) (ae.kp)$ qL [12,14,15,16,17,21,22,23] 11 O (λ_ h=>OH SH QC O O (by omega)) (ae.kp)$ qL [14,15,16,17,21,22,23] 13 O (λ_ h=>Oq O) (ae.kp)$ qL [19,20,21,22,23] 18 O (λ_ h=>Oq O) (ae.kp)$ qL [20,21,22,23] 19 O (λ_ h=>SJ O U3 OX) (ae.kp)$ qL [6,7,22,23] 4 O (λ_ h=>Oi Ob O O (Oz (mF h) dH)) (ae.kp) ?_;refine qL [14,15,16,17,21,22,23] 12 O (λ_ h=>Oi Ob O O (Oz (mF h) dH)) (ae.kp)$ qL [7,22,23] 6 O (λ_ h=>OH Ob NV O O (by omega)) (ae.kp)$ qL [15,16,17,21,22,23] 14 O (λ_ h=>OH Ob NV O O (by omega)) (ae.kp)$ qL [22,23] 7 O (λ_ h=>Oi OX O O (Oz (mF h) na)) (ae.kp)$ qL [16,17,21,22,23] 15 O (λ_ h=>Oi OX O O (Oz (mF h) na)) (ae.kp)$ qL [17,21,22,23] 16 O (λ_ h=>OH SH QC O O (by omega)) (ae.kp)$ qL [21,22,23] 17 O (λ_ h=>Oi Ob O O (Fk h)) (ae.kp) ?_;rw[Nat.mod_eq_of_lt (show v<4294967296 by omega)];refine PC (i:=20) (by kernel_rfl)$ P4 (i:=20) O O O (Ur (cs:=[_]) (zs:=[Value.int .u32 0]) Ob NV O (by kernel_rfl) O O O (by decide)) ?_;rintro v4 w4 ⟨b4,rfl,⟨ev,aB,aH⟩,ee⟩;refine⟨ae.kp.trans aB.kp,?_⟩;have cy:=ae.trans aB;refine PC (i:=21) (by kernel_rfl)$ P4 (i:=21) O O O (pap Ob NV O (by decide) O O (Ls.ext cy) ee.rd (λc hc=>by obtain⟨z,-,rfl⟩:=List.mem_map.1 (show c∈[v].map Oe from hc);rfl) (by omega) (by omega)) ?_;rintro v5 w5 ⟨fE,ai,nO,-⟩;refine⟨cy.kp.trans ai,?_⟩;have jy:Kp (λb=>vu.ownBlock=some b) w3 w5:=cy.kp.trans ai;have z34:=cy.size;have Fl:=jy.ND oF (λe=>(Bk _ e).2 O);refine qL [23] 22 O (λ_ h=>OH SH QC O O (by omega)) (cy.kp.trans ai)$ Rs [23]$ qO 23$ Ou (i:=23) O O (PA QC O O (Uq fE) Fl (by rw[js,RQ];omega)) ?_;rintro w6 ⟨aR,aP⟩;refine⟨trivial,?_⟩;have jN:=jO.put (l':=TZ g v i u++[v]) oF HV HW jy (by rw[List.length_append,List.map_append];exact fE) (λb hb=>(nO b hb).imp id λe=>by omega) aP aR z3;rw[z74 ay hu] at jN;refine qE$ Ny$ NC O$ Nz O$ OI O O$ NF O ?_;exact(ih2 (i+1) _ ⟨by omega,jN,(ah.Nv jy (λb e=>(Bk b e).1)).Nv aP (λb e=>by omega)⟩ (by omega)).qb
    ·have cu:i=(NS g v).length:=by omega
     subst cu;refine NL O$ Ny$ NC O$ Nz O$ OI O O$ NF O ?_
     have e:Tm g v (NS g v).length=Tm g (v+1) 0:=by
      unfold Tm;exact List.map_congr_left λu _=>z5H g v u
     exact(ih (v+1) _ ⟨by omega,by rw[<-e];exact jO,ah⟩ (by omega)).qb
  ·have fR:v=g.length:=by omega
   subst fR;refine NL O$ qN O$ Nz O$ NF O$ NA func32 O ?_;exact⟨_,rfl,bt,rfl,cA.rw,ag⟩
theorem z2f (z:Int)(hz: -9223372036854775808<=z/\z<=9223372036854775807)(w:World):Oa prog 25 [I z] w λv w'=>∃n:Nat,v=I (n:Int)/\1<=n/\n<=40/\w'=w:=by
 have r1:=Un z 40 (by decide)
 have r2:=Y0 z 40 (by decide)
 refine Nu (e:=[(0,_)]) func25 O ntmps25 O O$ qN O$ NQ O$ qM O$ Nz O$ qV (yrt O O (by decide))$ OI O O$ qV (yrt O O (by decide)) ?_
 rw[show(z.tmod 40+40).tmod 40=nrm z 40 from rfl]
 refine OI O O$ NF O$ NA func25 O ?_
 exact⟨_,rfl,(1+nrm z 40).toNat,by rw[Int.toNat_of_nonneg (by omega)];rfl,by omega,by omega,rfl⟩
def z6m:Pa:=⟨7,3,3,3,64⟩
def z6I:Pa:=⟨0,0,2,1,64⟩
def z6j:Pa:=⟨2,1,4,2,3⟩
theorem z3l (z:Int)(hz: -9223372036854775808<=z/\z<=9223372036854775807)(w:World):Oa prog 31 [I z] w λv w'=>∃p:Pa,v=bpV p/\p.Pk/\p.zeta<=3/\Ext w w':=by
 have r1:=Un z 3 (by decide)
 have r2:=Y0 z 3 (by decide)
 refine Nu (e:=[(0,_)]) func31 O ntmps31 O O$ qN O$ NK O O (Qk (cs:=[_,_,_,_,_]) Qm O) ?_
 rintro _ w1 ⟨b2,rfl,bQ,ad,aj⟩
 refine qM O$ qV (QP (cs:=[_,_,_,_,_]) Qm O zbt O O)$ qV (QP (cs:=[_,_,_,_,_]) Qm O zbt O O)$ qV (QP (cs:=[_,_,_,_,_]) Qm O zbt O O)$ NK O O (Ur (cs:=[_,_,_,_,_,_,_,_,_,_,_,_,_,_,_]) (zs:=[Value.int .i64 0,Value.int .i64 0,Value.int .i64 0,Value.int .i64 0,Value.int .i64 0,Value.int .i64 0,Value.int .i64 0,Value.int .i64 0,Value.int .i64 0,Value.int .i64 0,Value.int .i64 0,Value.int .i64 0,Value.int .i64 0,Value.int .i64 0,Value.int .i64 0]) zaP Qm O (by kernel_rfl) O O O (by decide)) ?_
 rintro _ w2 ⟨b3,rfl,⟨dF,ag,am⟩,-⟩
 refine Nz O$ qV (yrt O O (by decide))$ OI O O$ qV (yrt O O (by decide)) ?_
 rw[show(z.tmod 3+3).tmod 3=nrm z 3 from rfl]
 have fx:=ag.ND aj
 have Fn:nrm z 3=((0:Nat):Int)\/nrm z 3=((1:Nat):Int)\/nrm z 3=((2:Nat):Int):=by omega
 have lb:=aj.lt
 rcases Fn with e|e| e
 ·rw[e];refine qV (OH zaP Qm O O (by omega))$ qV (Oh (news:=TR z6m) U88 O Qm O (NM.cells (i:=0+0*5) (n:=5) am O) O)$ NP O (OA (news:=TR z6m) Qm O O O O fx (by simp)) ?_;rintro w3 ⟨ar,aw⟩;refine NB$ O9 func31 (.cell U88 O Qm O (NM.cells (n:=5) ar (news:=[_,_,_,_,_]) O) O .nil) ?_;exact⟨_,rfl,z6m,rfl,by unfold Pa.Pk QB.Pk z6m Pa.list;decide,by decide,(ad.trans ag).Nv aw (λj e=>by omega)⟩
 ·rw[e];refine qV (OH zaP Qm O O (by omega))$ qV (Oh (news:=TR z6I) U88 O Qm O (NM.cells (i:=0+1*5) (n:=5) am O) O)$ NP O (OA (news:=TR z6I) Qm O O O O fx (by simp)) ?_;rintro w3 ⟨ar,aw⟩;refine NB$ O9 func31 (.cell U88 O Qm O (NM.cells (n:=5) ar (news:=[_,_,_,_,_]) O) O .nil) ?_;exact⟨_,rfl,z6I,rfl,by unfold Pa.Pk QB.Pk z6I Pa.list;decide,by decide,(ad.trans ag).Nv aw (λj e=>by omega)⟩
 ·rw[e];refine qV (OH zaP Qm O O (by omega))$ qV (Oh (news:=TR z6j) U88 O Qm O (NM.cells (i:=0+2*5) (n:=5) am O) O)$ NP O (OA (news:=TR z6j) Qm O O O O fx (by simp)) ?_;rintro w3 ⟨ar,aw⟩;refine NB$ O9 func31 (.cell U88 O Qm O (NM.cells (n:=5) ar (news:=[_,_,_,_,_]) O) O .nil) ?_;exact⟨_,rfl,z6j,rfl,by unfold Pa.Pk QB.Pk z6j Pa.list;decide,by decide,(ad.trans ag).Nv aw (λj e=>by omega)⟩
theorem Yq {Q:Qn}{txt:Int->NH}{K:Nat}{X:Nat->Prop}{w:World}(h:Sp Q txt K X w):Oa prog 23 [ptr Q.s 0] w λv w'=>∃a b c d e:Value,v= .agg #[a,b,c,d,e,I 0,I 0]/\Ext w w':=by
 obtain⟨P,hm,hI,hs,hf⟩:=h
 rw[<-hs.s]
 have hB:=hm.cells
 refine Nu (e:=[(0,_)]) func23 O ntmps23 O O$ qN O$ NK O O (Qk (cs:=[_,_,_,_,_,_,_]) z0s O) ?_
 rintro _ w1 ⟨b2,rfl,bQ,ad,aj⟩
 have wG:=ad.ND hB
 refine NB$ py$ qN O$ Nz O$ qV (OP UM O O)$ NB$ It O$ An$ qN O$ Nz O$ O8 O$ NO Uj O$ qV (Oh (news:=[I (P.fr:Int),I P.h,I P.mi,I P.wr,I 0,I 0,I 0]) U71 O z0s O (NM.cells (i:=4) (n:=7) wG O) O)$ NK O O (Qk (cs:=[_,_,_,_,_,_,_]) z0s O) ?_
 rintro _ w2 ⟨b3,rfl,dF,ag,am⟩
 refine NP O (OA (news:=[I (P.fr:Int),I P.h,I P.mi,I P.wr,I 0,I 0,I 0]) z0s O O O O am (by simp)) ?_
 rintro w3 ⟨ar,aw⟩
 replace ar:NM w3 b3 [I (P.fr:Int),I P.h,I P.mi,I P.wr,I 0,I 0,I 0] 71:=ar
 have aO:Ext w1 w3:=ag.Nv aw (λj e=>by omega)
 have cI:=ad.trans aO
 have kD:=cI.ND hB
 have zr:=hm.mp.ext cI
 have du:=aO.ND aj
 have z1:=ad.size
 have z2:=ag.size
 have l1:=aj.lt
 refine qM O$ Nz O$ O8 O$ NO TE O$ qV (NJ VN O O kD O)$ qV (zht VN O zr.l)$ NO zd8 O$ NP O (PA OL O O O ar (by simp)) ?_
 rintro w4 ⟨aH,ao⟩
 have cN:=ao.ND du (by omega)
 replace aH:NM w4 b3 [I (P.fr:Int),I P.h,I P.mi,I P.wr,I ((SD P.l).length:Int),I 0,I 0] 71:=aH
 refine qM O$ qV (Oh (news:=[I (P.fr:Int),I P.h,I P.mi,I P.wr,I ((SD P.l).length:Int),I 0,I 0]) U71 O z0s O (NM.cells (i:=0) (n:=7) aH O) O)$ NP O (OA (news:=[I (P.fr:Int),I P.h,I P.mi,I P.wr,I ((SD P.l).length:Int),I 0,I 0]) z0s O O O O cN (by simp)) ?_
 rintro w5 ⟨aC,ai⟩
 refine NB$ O9 func23 (.cell U71 O z0s O (NM.cells (n:=7) aC (news:=[_,_,_,_,_,_,_]) O) O .nil) ?_
 exact⟨_,rfl,_,_,_,_,_,rfl,(cI.Nv ao (λj e=>by omega)).Nv ai (λj e=>by omega)⟩
theorem TX {L:List Bool}{s n:Nat}{b:Bool}(h:s+n<=L.length)(i:Nat):(Pf L s n b)[i]? =if s<=i/\i<s+n then some b else L[i]? :=by
 unfold Pf
 have hl:(L.take s).length=s:=by rw[List.length_take];omega
 by_cases h1:i<s
 ·rw[if_neg (by omega),List.getElem?_append_left (by omega),List.getElem?_take_of_lt h1]
 ·rw[List.getElem?_append_right (by omega),hl];by_cases h2:i<s+n
  ·rw[if_pos (by omega),List.getElem?_append_left (by rw[List.length_replicate];omega),List.getElem?_replicate,if_pos (by omega)]
  ·rw[if_neg (by omega),List.getElem?_append_right (by rw[List.length_replicate];omega),List.length_replicate,List.getElem?_drop]
   congr 1
   omega
theorem z2W {L:List Bool}{a n:Nat}(h:Pre L a)(hn:a+n<=L.length):Pre (Pf L a n true) (a+n):=by
 have h2:=h.a2
 refine⟨by omega,by rw[PU hn];exact hn,λi h1 h3=>?_,λi h1 h3=>?_⟩
 ·rw[TX hn];split
  ·rfl
  ·exact h.tk i h1 (by omega)
 ·rw[PU hn] at h3;rw[TX hn,if_neg (by omega)];exact h.fr i (by omega) h3
theorem z7w {L:List Bool}{a n:Nat}(h:Pre L a)(hn:a+n<=L.length):Pf (Pf L a n true) a n false=L:=by
 have h1:=PU (b:=true) hn
 have h4:=PU (b:=false) (L:=Pf L a n true) (s:=a) (n:=n) (by omega)
 apply List.ext_getElem?
 intro i
 rw[TX (by omega),TX hn]
 by_cases hi:a<=i/\i<a+n
 ·rw[if_pos hi];exact(h.fr i hi.1 (by omega)).symm
 ·rw[if_neg hi,if_neg hi]
theorem z2K {Q:Qn}{txt:Int->NH}{K:Nat}{X:Nat->Prop}{w:World}(hP:Sp Q txt K X w)(hX:∀b,X b->b<w.heap.size)(hK:K<=90000000000)(x1:X 0)(x2:X 1)(hG:NM w 0 (QX .gamma) 260)(hU:NM w 1 (QX .unary) 260){g:List (List Nat)}(ay:QQ g)(av:1<=g.length)(iU:g.length<=40){ga:Option Addr}{gc:Nat}(ln:GrM w (.slice ga g.length gc) g){p:Pa}(hp:p.Pk)(hz:p.zeta<=3){a:Nat}(ha:Pre Q.L a)(fJ:a+72<=Q.L.length):
  Oa prog 30 [ptr Q.s 0,.slice ga g.length gc,bpV p] w λv w'=>∃(G:GwP) (txt':Int->NH),v= .tuple #[ptr G.k 0,.bool true]/\G.g=g/\G.st=a/\G.len<=72/\1<=G.len/\(w.heap.size<=G.k/\w.heap.size<=G.x/\w.heap.size<=G.rb)/\QL G (Q.P5 (Pf Q.L a G.len true)) txt' (K+200) (λj=>X j\/j=G.x\/j=G.k) w'/\(∀y:Int,y<(a:Int)\/(a:Int)+(G.len:Int)<=y->txt' y=txt y)/\Kp (λb=>¬X b) w w':=by
 have dY:=hP.n
 refine Nu (e:=[(0,_),(1,_),(2,_)]) func30 O ntmps30 O O$ qN O$ NK O O (PW O (cs:=TR p) O) ?_
 rintro _ w1 ⟨bp,rfl,Nd,ad,rK⟩
 refine NQ O$ NQ O$ qM O$ Nz O$ qV (Oh (news:=TR p) U88 O Qm O (NM.cells (i:=0) (n:=5) rK O) O)$ NZ zic O (z4U hp ay av (ln.ext ad) (ad.ND hG) (ad.ND hU)) ?_
 rintro _ w2 ⟨E,Lt,rfl,ag⟩
 have AX:RA p g E:=⟨hp,ay,av,Lt⟩
 have Lu:=z9v AX iU hz
 obtain⟨T,hT⟩:∃T,Wu p g E=T:=⟨_,rfl⟩
 rw[hT] at Lu⊢
 have aJ:=ad.trans ag
 have er:=hP.ext' aJ
 refine Nz O$ ON O O$ ON O O$ NQ O$ NF O$ py$ qN O$ Nz O$ P3 O O$ NB$ It O$ An$ qN O$ Nz O ?_
 refine NZ z2s O (er.size) ?_
 rintro _ w2 ⟨rfl,rfl⟩
 refine Nz O$ qV (SG U9 O)$ NZ ziH O (z1P T.length (by omega) _) ?_
 rintro _ w2 ⟨rfl,rfl⟩
 obtain⟨N,hN⟩:∃N,(T.length+523) / 512=N:=⟨_,rfl⟩
 rw[hN]
 have iS:1<=N/\N<=72/\T.length<=N*512-12:=by omega
 refine Nz O$ ON O O$ ON O O$ NQ O$ NF O$ Of.qb (e:=[(0,_),(6,_),(7,_),(8,_),(9,_),(10,_)]) ?_
 refine py$ qN O$ Nz O$ P3 O O ?_
 have gS:∀b,X b->b<w2.heap.size:=λb hb=>by have:=hX b hb;have:=aJ.size;omega
 refine NB$ It O$ An$ qN O$ NT O O$ NZ zgz O (er.take gS ha iS.1 (by omega)) ?_
 rintro _ w3 ⟨rfl,fW,aw⟩
 have fG:(Pf Q.L a N true).length=Q.L.length:=PU (by omega)
 obtain⟨Q3,Bl⟩:∃Q3,Q.P5 (Pf Q.L a N true)=Q3:=⟨_,rfl⟩
 rw[Bl] at fW
 have Cg:Q3.s=Q.s:=by rw[<-Bl];rfl
 have Nf:Q3.L.length=Q.L.length:=by rw[<-Bl];exact fG
 rw[<-Cg]
 have z3:=aw.size
 have jL:∀b,X b->b<w3.heap.size:=λb hb=>by have:=gS b hb;omega
 refine Nz O$ ON O O$ ON O O$ NK O O (Qk (cs:=[_,_]) PN O) ?_
 rintro _ w4 ⟨be,rfl,yV,aB,fk⟩
 refine NP O (OA (news:=[I (a:Int),I (N:Int)]) PN O O O O fk (by simp)) ?_
 rintro w5 ⟨oM,ai⟩
 replace oM:NM w5 be [I (a:Int),I (N:Int)] 108:=oM
 have cn:Ext w3 w5:=aB.Nv ai (λj e=>by omega)
 refine NF O$ py$ qN O$ Nz O$ P3 O O ?_
 have gR:Sp Q3 txt K (λb=>X b\/b=be) w5:=fW.ext cn (λb e=>e.imp id λe=>by omega)
 refine NB$ It O$ An$ qN O$ Nz O$ qV (Oh (news:=[I (a:Int),I (N:Int)]) VQ O PN O (NM.cells (i:=0) (n:=2) oM O) O)$ NZ zhY O (z1M gR iS.1 (by omega)) ?_
 rintro _ w6 ⟨wb,bs,bx,bw,sum,rfl,gX,A4,⟨z1',z2',z3',z4'⟩,aK⟩
 have z5:=cn.size
 have z6:=aK.size
 have lbe:=oM.lt
 obtain⟨X6,mX⟩:∃X6:Nat->Prop,(λb=>X b\/b=be\/b=wb\/b=bs\/b=bx\/b=bw)=X6:=⟨_,rfl⟩
 have fK:∀b,X b->X6 b:=λb hb=>by rw[<-mX];exact .inl hb
 have aY:X6 wb/\X6 bs/\X6 bx/\X6 bw:=by rw[<-mX];exact⟨.inr (.inr (.inl O)),.inr (.inr (.inr (.inl O))),.inr (.inr (.inr (.inr (.inl O)))),.inr (.inr (.inr (.inr (.inr O))))⟩
 have Fo:X6 be:=by rw[<-mX];exact .inr (.inl O)
 have rh:Sp Q3 txt K X6 w6:=gR.ext aK (λb e=>by
  rw[<-mX] at e;rcases e with e|e| e
  ·exact .inl (.inl e)
  ·exact .inl (.inr e)
  ·exact .inr (by omega))
 have l1:=A4.wr.lt
 have l2:=A4.sb.lt
 have l3:=A4.xb.lt
 have l4:=A4.pb.lt
 have rl:∀b,X6 b->b<w6.heap.size:=λb e=>by
  rw[<-mX] at e;rcases e with e| e
  ·have:=jL b e;omega
  ·omega
 have Fp:be≠wb:=by omega
 refine Nz O$ ON O O$ ON O O$ NQ O$ NF O$ py$ qN O$ Nz O$ P3 O O$ NT O O$ Nz O$ NZ zj7 O (z2V rh rl (by omega) A4 gX aY (by omega) iS.1 iS.2.2) ?_
 rintro _ w7 ⟨rfl,sum7,su,txt7,rest,zU,iA,iu,Fr,Fs,ax,sW⟩
 have z7:=ax.size
 refine P3 O O$ OC O O$ NT O O$ NZ zir O (z2z zU (λb e=>by have:=rl b e;omega) (by omega) iA su aY (by omega) hN.symm (by rw[show T.length%512=T.length-512*(T.length / 512) by omega];exact iu) (λb hb e=>by have:=rl b e;have:=sW b hb;omega) Fr) ?_
 rintro _ w8 ⟨rfl,txt8,px,Ft,Fu,Bm,aV⟩
 have z8:=aV.size
 have pP:Kp (λb=>¬X6 b\/b=wb) w6 w8:=ax.trans aV
 have Fv:=pP.ND (aK.ND oM) (λe=>e.elim (λe=>e Fo) Fp)
 refine P3 O O$ OC O O$ NB$ Of.qb (e:=[(0,_),(6,_),(7,_),(9,_),(11,_),(59,_)]) ?_
 refine It O$ An$ qN O$ Nz O$ qV (Oh (news:=[I (a:Int),I (N:Int)]) VQ O PN O (NM.cells (i:=0) (n:=2) Fv O) O)$ NZ zjf O (z4z px (λb e=>by have:=rl b e;omega) (by omega) iS.1 (by omega) iS.2.2 su Fu) ?_
 rintro _ w9 ⟨rb,rfl,A7,H0,vZ,aS⟩
 have z9:=aS.size
 have lrb:=A7.lt
 have hL:Laid txt8 a T:=Laid.of λk hk=>⟨vZ.Yk (by omega) (by omega),Ft k hk⟩
 subst hT
 have hO:StO Q3 txt8 (K+(Wu p g E).length / 512+2) a N (Wu p g E):=⟨by omega,by omega,hL,by omega⟩
 have ta:Kp (λb=>¬X b) w w6:=(aJ.kp.trans aw).trans (cn.trans aK).kp
 have nv:Kp (λb=>¬X b) w w8:=ta.Nv pP λb e=>by
  rcases e with e| e
  ·exact .inr λe2=>e (fK b e2)
  ·exact .inl (by have:=aJ.size;omega)
 have oN:Kp (λb=>¬X b) w w9:=nv.trans (aS.NR λb e e2=>e (fK b e2))
 have z2:=aJ.size
 have uy:¬X rb:=λe=>by have:=hX rb e;omega
 have hI:(z89 hO rb sum7).inv X w9:=⟨vZ.less (λb e=>e.imp (fK b) id),A7,uy⟩
 refine Nz O$ ON O O$ ON O O$ NQ O$ NF O$ py$ qN O$ Nz O$ P3 O O$ NB$ It O$ An$ qN O$ Nz O ?_
 refine NZ zji O (z54 AX hO hI (λb e=>by have:=hX b e;omega) x1 x2 (oN.ND hG (λe=>e x1)) (oN.ND hU (λe=>e x2))) ?_
 rintro _ w10 ⟨k,x,rfl,Et,ik,Lv,au⟩
 refine Nz O$ ON O O$ ON O O$ NQ O$ NQ O$ qM O$ NT O O$ Px O O$ PE$ NT O O$ qV (z2M U29 O O)$ Pc O O$ NQ O$ NF O ?_
 refine Of.qb (e:=[(6,_),(7,_)]) ?_
 refine NA func30 O (⟨_,rfl,⟨p,g,E,a,N,rb,sum7,k,x⟩,txt8,rfl,rfl,rfl,iS.2.1,iS.1,⟨by show w.heap.size<=k;omega,by show w.heap.size<=x;omega,by show w.heap.size<=rb;omega⟩,?_,λy hy=>?_,oN.trans au⟩)
 ·rw[Bl];exact QL.more (G:=⟨p,g,E,a,N,rb,sum7,k,x⟩) ⟨hO,Lv⟩ (by omega) (by omega)
 ·show txt8 y=txt y;have hy:y<(a:Int)\/(a:Int)+(N:Int)<=y:=hy;rw[Bm y hy,Fs y (by omega)]
structure Wd where
 d:Nat
 Q:Qn
 txt:Int->NH
 K:Nat
 G:GwP
 T:GwP
 a:Nat
def Wd.v (W:Wd):List Value:=[ptr W.d 0,ptr W.Q.s 0,ptr W.G.k 0,ptr W.T.k 0,I ((200-W.a:Nat):Int)]
structure WdM (W:Wd)(g:List (List Nat))(XX:Nat->Prop)(w:World):Prop where
 hg:QL W.G W.Q W.txt W.K (λb=>XX b/\b≠W.G.rb) w
 ht:QL W.T W.Q W.txt W.K (λb=>XX b/\b≠W.T.rb) w
 gg:W.G.g=g
 tg:W.T.g=Wa g
 pre:Pre W.Q.L W.a
 a:W.a<=146
 L:W.Q.L.length=200
 K:W.K<=400
 gs:W.G.st+W.G.len<=W.T.st
 ts:W.T.st+W.T.len<=W.a
theorem z3C {w:World}{g:List (List Nat)}(ay:QQ g)(av:1<=g.length)(iU:g.length<=40){ga:Option Addr}{gc:Nat}(ln:GrM w (.slice ga g.length gc) g)(hG:NM w 0 (QX .gamma) 260)(hU:NM w 1 (QX .unary) 260)(fr fo:Int)(iZ: -9223372036854775808<=fr/\fr<=9223372036854775807)(uI: -9223372036854775808<=fo/\fo<=9223372036854775807):
  Oa prog 7 [.slice ga g.length gc,I fr,I fo] w λv w'=>∃(W:Wd) (XX:Nat->Prop),v= .tuple #[.agg W.v.toArray,.bool true]/\WdM W g XX w'/\Ext w w'/\(∀b,b<w.heap.size->XX b/\b≠W.G.rb/\b≠W.T.rb)/\w.heap.size<=W.G.k/\w.heap.size<=W.G.x:=by
 have r1:=Un fr 12 (by decide)
 have r2:=Y0 fr 12 (by decide)
 have l1:=hG.lt
 have l2:=hU.lt
 refine Nu (e:=[(0,_),(1,_),(2,_)]) func7 O ntmps7 O O$ qN O$ NK O O (Qk (cs:=[_,_,_,_,_]) Tv O) ?_
 rintro _ w1 ⟨bW,rfl,Ng,ad,HX⟩
 have z1:=ad.size
 have lW:=HX.lt
 refine NQ O$ qM O$ qV (QP (cs:=[_,_]) z9P O zj9 O O)$ NZ ziF O (zby 200 1 _ (by unfold YQ;decide)) ?_
 rintro _ w2 ⟨d,Fd,rfl,hD,ag,Lw⟩
 refine Nz O$ ON O O$ ON O O$ NQ O$ NQ O$ qM O$ NZ ziy O (z7O 200 (by decide) _) ?_
 rintro _ w3 ⟨m,gi,rfl,hE,hm,tV,ah⟩
 have z2:=ag.size
 have z3:=ah.size
 have Lx:=hD.ext ah
 refine Nz O$ ON O O$ ON O O$ NQ O$ NQ O$ qM O$ NT O O$ qV (yrt O O (by decide))$ OI O O$ qV (yrt O O (by decide)) ?_
 rw[show(fr.tmod 12+12).tmod 12=nrm fr 12 from rfl]
 obtain⟨nf,Ly,Fw,Lz⟩:∃nf:Nat,1+nrm fr 12=(nf:Int)/\1<=nf/\nf<=12:=⟨(1+nrm fr 12).toNat,by omega,by omega,by omega⟩
 refine OI O O ?_
 rw[Ly]
 have ic:(List.replicate 200 false).length=200:=List.length_replicate
 have LA:¬Fd m/\¬Fd gi:=⟨λe=>by have:=hD.lt _ e;omega,λe=>by have:=hD.lt _ e;omega⟩
 refine Nz O$ NZ ziu O (z8j (L:=List.replicate 200 false) (by rw[ic];exact Lx) hE LA nf Fw (by omega)) ?_
 rintro _ w4 ⟨P,rfl,hM,hI,LB,LC,HY,LD,aB⟩
 have z4:=aB.size
 have bU:Ext w w4:=((ad.trans ag).trans ah).trans aB
 have Fx:=((ag.trans ah).trans aB).ND HX
 obtain⟨X,hX⟩:∃X:Nat->Prop,(λb=>b<w.heap.size\/b=bW)=X:=⟨_,rfl⟩
 have Fy:∀b,X b->b<w1.heap.size:=λb e=>by rw[<-hX] at e;omega
 have oO:∀b,b<w.heap.size->X b:=λb e=>by rw[<-hX];exact .inl e
 have Bn:X bW:=by rw[<-hX];exact .inr O
 have ji:Sp P (λ_=>zeros 512) 0 X w4:=⟨P,hM,hI,⟨rfl,rfl,rfl,rfl,rfl,rfl,rfl,rfl,rfl⟩,λb hb e=>by
  have:=Fy b e;rcases LD b hb with e|e|e| e
  ·have:=Lw b e;omega
  ·omega
  ·omega
  ·omega⟩
 have eQ:Pre P.L 2:=by
  rw[HY];exact⟨Nat.le_refl _,by rw[ic];omega,λi h1 h2=>by omega,λi h1 h2=>by rw[ic] at h2;rw[List.getElem?_replicate,if_pos h2]⟩
 have Nh:P.L.length=200:=by rw[HY,ic]
 refine Nz O$ ON O O$ ON O O$ NQ O$ NF O$ Of.qb (e:=[(0,_),(2,_),(6,_),(7,_),(8,_),(9,_),(10,_),(11,_),(12,_),(13,_)]) ?_
 refine py$ qN O$ Nz O$ P3 O O$ Ox$ NT O O$ P3 O O$ Ox$ OC O O$ NT O O$ P3 O O$ Ox$ OC O O$ NT O O ?_
 refine qV (OP UM O O)$ OC O O$ NB$ It O$ An$ qN O$ NT O O$ Nz O$ NZ zgT O (z3l fo uI _) ?_
 rintro _ w5 ⟨p1,rfl,pT,mK,aT⟩
 have z5:=aT.size
 have bM:=bU.trans aT
 have LE:∀b,X b->b<w5.heap.size:=λb e=>by have:=Fy b e;omega
 refine NZ zgH O (z2K (ji.ext' aT) LE (by omega) (oO 0 l1) (oO 1 l2) (bM.ND hG) (bM.ND hU) ay av iU (ln.ext bM) pT mK eQ (by omega)) ?_
 rintro _ w6 ⟨G,txt6,rfl,LF,Ni,Nj,LG,⟨n1,n2,n3⟩,dq,HZ,aP⟩
 have iI:Ext w w6:=bM.Nv aP (λb e=>by
  rcases Nat.lt_or_ge b w.heap.size with h| h
  ·exact absurd (oO b h) e
  ·exact h)
 have z6:=aP.size
 have Fz:=aP.ND (aT.ND Fx) (λe=>e Bn)
 have wj:(Pf P.L 2 G.len true).length=P.L.length:=PU (by omega)
 have oP:Pre (Pf P.L 2 G.len true) (2+G.len):=z2W eQ (by omega)
 obtain⟨Q6,FA⟩:∃Q6,P.P5 (Pf P.L 2 G.len true)=Q6:=⟨_,rfl⟩
 have FB:Q6.L=Pf P.L 2 G.len true:=by rw[<-FA];rfl
 have uJ:Q6.s=P.s/\Q6.d=P.d/\Q6.m=P.m:=by rw[<-FA];exact⟨rfl,rfl,rfl⟩
 rw[FA] at dq
 rw[<-FB] at wj oP
 obtain⟨gb,go,gc',jb,mG⟩:=ln.r av
 cases jb
 refine Nz O$ ON O O$ ON O O$ NQ O$ NF O$ Of.qb (e:=[(0,_),(2,_),(6,_),(7,_),(8,_),(10,_),(12,_),(14,_),(15,_)]) ?_
 refine qN O$ NT O O$ NZ zih O (z5I ay (mG.ext iI)) ?_
 rintro _ w7 ⟨bt,rfl,LH,bV⟩
 have jY:=iI.trans bV
 have z7:=bV.size
 have uK:=dq.ext bV
 have kS:=Xe g
 refine Nz O$ qV (za9 O O) ?_
 obtain⟨fo2,A8⟩:∃z,IntKind.i64.wrap (fo+1)=z:=⟨_,rfl⟩
 have A9: -9223372036854775808<=fo2/\fo2<=9223372036854775807:=by
  rw[<-A8,IntKind.wrap_i64];omega
 rw[A8]
 refine NZ zgT O (z3l fo2 A9 _) ?_
 rintro _ w8 ⟨p2,rfl,lT,mO,dC⟩
 have z8:=dC.size
 have bG:=uK.ext dC
 have oQ:=jY.trans dC
 obtain⟨X2,gS⟩:∃X2:Nat->Prop,(λb=>(X b\/b=G.x\/b=G.k)\/b=G.rb)=X2:=⟨_,rfl⟩
 have iE:∀b,X b->X2 b:=λb e=>by rw[<-gS];exact .inl (.inl e)
 have px:Sp Q6 txt6 (0+200) X2 w8:=by rw[<-gS];exact bG.sp
 have FC:∀b,X2 b->b<w8.heap.size:=λb e=>bG.lt1 b (by rw[<-gS] at e;exact e)
 have FD:GrM w8 (.slice (some ⟨bt,0,none⟩) (Wa g).length (Wa g).length) (Wa g):=(LH.ext dC).gr
 have pi:=z2K px FC (by omega) (iE _ (oO 0 l1)) (iE _ (oO 1 l2)) (oQ.ND hG) (oQ.ND hU) (z9c ay) (by omega) (by omega) FD lT mO oP (by omega)
 rw[uJ.1,kS] at pi
 refine NZ zgH O (pi) ?_
 rintro _ w9 ⟨T,txt9,rfl,LI,Nk,Nl,LJ,⟨t1,t2,t3⟩,gB,wk,aS⟩
 have z9:=aS.size
 have gy:Ext w w9:=oQ.Nv aS (λb e=>by
  rcases Nat.lt_or_ge b w.heap.size with h| h
  ·exact absurd (iE b (oO b h)) e
  ·exact h)
 have FE:=aS.ND ((bV.trans dC).ND Fz) (λe=>e (iE _ Bn))
 have I0:(Pf Q6.L (2+G.len) T.len true).length=Q6.L.length:=PU (by omega)
 have oR:Pre (Pf Q6.L (2+G.len) T.len true) (2+G.len+T.len):=z2W oP (by omega)
 obtain⟨Q9,FF⟩:∃Q9,Q6.P5 (Pf Q6.L (2+G.len) T.len true)=Q9:=⟨_,rfl⟩
 have FG:Q9.L=Pf Q6.L (2+G.len) T.len true:=by rw[<-FF];rfl
 have uL:Q9.s=Q6.s/\Q9.d=Q6.d/\Q9.m=Q6.m:=by rw[<-FF];exact⟨rfl,rfl,rfl⟩
 rw[FF] at gB
 rw[<-FG] at I0 oR
 have Aa:=gB.sp
 have uM:=gB.lt1
 have LK:QL G Q9 txt9 (0+200+200) (λb=>(X b\/b=G.x\/b=G.k)\/b=T.x\/b=T.k\/b=T.rb) w9:=bG.zgb aS (λb e=>by rw[<-gS] at e;exact e) (λj e=> .inl e) (λj e=>e.imp id λe=>by
   have h1:=uM T.x (.inl (.inr (.inl O)));have h2:=uM T.k (.inl (.inr (.inr O)));have h3:=uM T.rb (.inr O)
   omega) (Aa.less λb e=>by
   rw[<-gS];rcases e with(e|e|e|e)| e
   ·exact .inl (.inl (.inl e))
   ·exact .inl (.inr (.inl e))
   ·exact .inl (.inr (.inr e))
   ·exact .inr e
   ·exact .inl (.inl (.inr e))) uL.1 I0 (by omega) (λy h1 h2=>wk y (.inl (by omega)))
 have fJ:=Aa.room oR (by omega)
 rw[uL.2.2,uJ.2.2,LB] at fJ
 refine Nz O$ ON O O$ ON O O$ NQ O$ NQ O$ qM O$ NT O O$ NT O O$ Nz O$ NZ zgO O (fJ) ?_
 rintro _ w10 ⟨rfl,bE⟩
 have Ab:=bE.ND FE
 rw[show Q9.L.length-(2+G.len+T.len)=200-(2+G.len+T.len) by omega]
 refine qV (QP (cs:=[_,_,_,_,_]) Tv O ziU O O)$ NT O O$ Nz O$ Pc O O$ NP O (OA (news:=[_,_,_,_,_]) Tv O O O O Ab (by simp)) ?_
 rintro w11 ⟨Ac,bu⟩
 refine NF O$ Of.qb (e:=[(6,_),(7,_)]) ?_
 refine O9 func7 (.cell U31 O Tv O (NM.cells (n:=5) Ac (news:=[_,_,_,_,_]) O) O (.tmp O .nil)) ?_
 obtain⟨XX,fK⟩:∃XX:Nat->Prop,(λb=>X b\/b=G.x\/b=G.k\/b=G.rb\/b=T.x\/b=T.k\/b=T.rb)=XX:=⟨_,rfl⟩
 have I1:=bG.rbX
 have I2:=gB.rbX
 have Ad:=bG.xk
 have I3:=gB.xk
 have zG:=bG.lt1 _ (.inr O)
 have zGk:=bG.lt1 _ (.inl Ad.1)
 have zGx:=bG.lt1 _ (.inl Ad.2.1)
 have mz:∀b,X b->b<w1.heap.size:=Fy
 have FH:QL G Q9 txt9 400 (λb=>XX b/\b≠G.rb) w11:=by
  refine QL.less (Y:=λb=>(X b\/b=G.x\/b=G.k)\/b=T.x\/b=T.k\/b=T.rb) ((LK.ext bE).own bu λj e=>?_) (λb e=>?_) ?_
  ·subst e;exact⟨.inl (.inl Bn),by omega,by omega,by omega,by omega⟩
  ·rw[<-fK] at e;rcases e with⟨e|e|e|e|e,h⟩
   ·exact .inl (.inl e)
   ·exact .inl (.inr (.inl e))
   ·exact .inl (.inr (.inr e))
   ·exact absurd e h
   ·exact .inr e
  ·rw[<-fK];exact⟨⟨.inr (.inr (.inl O)),λe=>I1 (e▸Ad.1)⟩,⟨.inr (.inl O),λe=>I1 (e▸Ad.2.1)⟩,⟨.inl (oO 0 l1),by omega⟩,⟨.inl (oO 1 l2),by omega⟩⟩
 have FI:QL T Q9 txt9 400 (λb=>XX b/\b≠T.rb) w11:=by
  refine QL.less (Y:=λj=>X2 j\/j=T.x\/j=T.k) ((gB.ext bE).own bu λj e=>?_) (λb e=>?_) ?_
  ·subst e;exact⟨.inl (iE _ Bn),by omega,by omega,by omega,by omega⟩
  ·rw[<-fK] at e;rw[<-gS];rcases e with⟨e|e|e|e|e|e|e,h⟩
   ·exact .inl (.inl (.inl e))
   ·exact .inl (.inl (.inr (.inl e)))
   ·exact .inl (.inl (.inr (.inr e)))
   ·exact .inl (.inr e)
   ·exact .inr (.inl e)
   ·exact .inr (.inr e)
   ·exact absurd e h
  ·rw[<-fK];exact⟨⟨.inr (.inr (.inr (.inr (.inr (.inl O))))),λe=>I2 (e▸I3.1)⟩,⟨.inr (.inr (.inr (.inr (.inl O)))),λe=>I2 (e▸I3.2.1)⟩,⟨.inl (oO 0 l1),by omega⟩,⟨.inl (oO 1 l2),by omega⟩⟩
 refine⟨_,rfl,⟨d,Q9,txt9,400,G,T,2+G.len+T.len⟩,XX,?_,⟨FH,FI,LF,LI,oR,?_,?_,?_,?_,?_⟩,?_,λb hb=>⟨by rw[<-fK];exact .inl (oO b hb),λe=>?_,λe=>?_⟩,?_,?_⟩
 ·unfold Wd.v;rw[uL.1,uJ.1]
  rfl
 ·show 2+G.len+T.len<=146;omega
 ·show Q9.L.length=200;omega
 ·exact Nat.le_refl _
 ·show G.st+G.len<=T.st;omega
 ·show T.st+T.len<=2+G.len+T.len;omega
 ·exact(gy.trans bE).Nv bu λb e=>by omega
 ·have e:b=G.rb:=e;omega
 ·have e:b=T.rb:=e;omega
 ·show w.heap.size<=G.k;omega
 ·show w.heap.size<=G.x;omega
theorem z5Q {w:World}{g:List (List Nat)}(ay:QQ g)(av:1<=g.length)(iU:g.length<=40){ga:Option Addr}{gc:Nat}(ln:GrM w (.slice ga g.length gc) g)(hG:NM w 0 (QX .gamma) 260)(hU:NM w 1 (QX .unary) 260)(fr fo:Int)(iZ: -9223372036854775808<=fr/\fr<=9223372036854775807)(uI: -9223372036854775808<=fo/\fo<=9223372036854775807):
  Oa prog 7 [.slice ga g.length gc,I fr,I fo] w λv w'=>∃(W:Wd) (XX:Nat->Prop),v= .tuple #[.agg W.v.toArray,.bool true]/\WdM W g XX w'/\Ext w w'/\∀b,b<w.heap.size->XX b/\b≠W.G.rb/\b≠W.T.rb:=by
 refine(z3C ay av iU ln hG hU fr fo iZ uI).mono ?_
 rintro v w' ⟨W,XX,h1,h2,h3,h4,-⟩
 exact⟨W,XX,h1,h2,h3,h4⟩
end Go.Proofs.YtfgjaafcgghnoaaGreatDoor
namespace Go.Proofs.YtfgjaafcgghnoaaGreatDoor
open Go Go.RowKit
structure RvK (σ:Type) where
 T:TypeId
 cs:σ->Nat->Nat->List Value
 xs:σ->List Nat
 tm:σ->Nat
structure QR {σ:Type}(R:RvK σ)(G:GwP)(Q:Qn)(txt:Int->NH)(K:Nat)(X:Nat->Prop)(rr vb sv:Nat)(s:σ)(w:World):Prop where
 g:QL G Q txt K X w
 run:NM w rr (R.cs s G.k vb) R.T
 vec:Wc Q txt vb 4 sv (R.xs s) w
 xr:X rr/\X vb
 ne:rr≠vb/\rr≠G.k/\rr≠G.x/\rr≠0/\rr≠1/\vb≠G.k/\vb≠G.x/\vb≠0/\vb≠1
 UA:G.st+G.len<=sv
 len:(R.xs s).length=G.g.length
 n:G.g.length<=40
section
variable {σ:Type}{R:RvK σ}{J:σ->Prop}{w0 w w' w3 w4 w5:World}{g:List (List Nat)}{G G1 G2 G3:GwP}{Q Q1 Q2 Q3 Q':Qn}{txt txt1 txt2 txt3 txt':Int->NH}{K K1 K2 K3 K':Nat}{X X1 X2 X3 Y S':Nat->Prop}{rr vb sv r1 v1 a1 r2 v2 a2 a B:Nat}{s s1 s2:σ}
theorem QR.lts (h:QR R G Q txt K X rr vb sv s w):rr<w.heap.size/\vb<w.heap.size/\G.k<w.heap.size/\G.x<w.heap.size/\0<w.heap.size/\1<w.heap.size:=by
 have h1:=h.g.lt
 have h2:=h.g.xk
 exact⟨h1 _ h.xr.1,h1 _ h.xr.2,h1 _ h2.1,h1 _ h2.2.1,h1 _ h2.2.2.1,h1 _ h2.2.2.2⟩
end
section
variable {σ:Type}{R:RvK σ}{J:σ->Prop}{w0 w w' w3 w4 w5:World}{g:List (List Nat)}{G G1 G2 G3:GwP}{Q Q1 Q2 Q3 Q':Qn}{txt txt1 txt2 txt3 txt':Int->NH}{K K1 K2 K3 K':Nat}{X X1 X2 X3 Y S':Nat->Prop}{r1 v1 a1 r2 v2 a2 a B:Nat}{s s0 s1 s2:σ}
theorem zbc (h3:QL G3 Q3 txt3 K3 X3 w3)(hz:w.heap.size<=w3.heap.size)(jL:∀j,j<w.heap.size->X3 j)(aw:w.heap.size<=G3.k/\w.heap.size<=G3.x)(h1:QR R G1 Q1 txt1 K1 (λj=>X1 j\/(w.heap.size<=j/\j<w3.heap.size)) r1 v1 a1 s1 w3)(hr:r1<w.heap.size/\v1<w.heap.size)(hk:Kp (λb=>¬(X1 b\/(w.heap.size<=b/\b<w3.heap.size))\/b=r1\/b=v1) w3 w4):QL G3 Q3 txt3 K3 (λj=>X3 j\/(w3.heap.size<=j/\j<w4.heap.size)) w4/\Kp (λb=>b<w.heap.size) w3 w4:=by
 have hx:=h1.g.xk
 obtain⟨e1,e2,e3,e4,e5,e6,e7,e8,e9⟩:=h1.ne
 have hS:∀j,j<w3.heap.size/\(¬(X1 j\/(w.heap.size<=j/\j<w3.heap.size))\/j=r1\/j=v1)->j<w.heap.size/\j≠0/\j≠1:=λj e=>by
  rcases e with⟨hj,e|e|e⟩
  ·refine⟨?_,λh=>e (h▸hx.2.2.1),λh=>e (h▸hx.2.2.2)⟩;rcases Nat.lt_or_ge j w.heap.size with h| h
   ·exact h
   ·exact absurd (.inr ⟨h,hj⟩) e
  ·subst e;exact⟨hr.1,e4,e5⟩
  ·subst e;exact⟨hr.2,e8,e9⟩
 have I4:Kp (λj=>j<w3.heap.size/\(¬(X1 j\/(w.heap.size<=j/\j<w3.heap.size))\/j=r1\/j=v1)) w3 w4:=hk.mono λj h1 h2=>⟨h1,h2⟩
 refine⟨h3.step I4 (λj e=>?_) (λj e=>e) (λj e=> .inl e),I4.NR λj e=>(hS j e).1⟩
 obtain⟨h1,h2,h3⟩:=hS j e
 exact⟨jL j h1,by omega,by omega,h2,h3⟩
end
section
variable {σ:Type}{R:RvK σ}{w w':World}{G:GwP}{Q Q':Qn}{txt txt':Int->NH}{K K':Nat}{X Y S':Nat->Prop}{rr vb sv:Nat}{s s':σ}
theorem VcW.kpX {vb width st:Nat}{ys:List Nat}(h:VcW Q txt K X vb width st ys w w'):Kp (λb=>¬X b) w w':=by
 obtain⟨txt',-,-,-,hk⟩:=h
 exact hk
theorem QR.ext (h:QR R G Q txt K X rr vb sv s w)(hx:Ext w w'):QR R G Q txt K X rr vb sv s w':=⟨h.g.ext hx,hx.ND h.run,h.vec.ext hx,h.xr,h.ne,h.UA,h.len,h.n⟩
theorem QR.grow (h:QR R G Q txt K X rr vb sv s w)(hx:Ext w w')(hY:∀j,Y j->X j\/(w.heap.size<=j/\j<w'.heap.size))(bS:∀j,X j->Y j):QR R G Q txt K Y rr vb sv s w':=⟨h.g.grow hx hY bS,hx.ND h.run,h.vec.ext hx,⟨bS _ h.xr.1,bS _ h.xr.2⟩,h.ne,h.UA,h.len,h.n⟩
theorem QR.less (h:QR R G Q txt K Y rr vb sv s w)(bS:∀j,X j->Y j)(hx:X G.k/\X G.x/\X 0/\X 1)(hr:X rr/\X vb):QR R G Q txt K X rr vb sv s w:=⟨h.g.less bS hx,h.run,h.vec,hr,h.ne,h.UA,h.len,h.n⟩
theorem QR.more (h:QR R G Q txt K X rr vb sv s w)(hK:K<=K')(Fg:K'<1000000000000):QR R G Q txt K' X rr vb sv s w:=⟨h.g.more hK Fg,h.run,h.vec,h.xr,h.ne,h.UA,h.len,h.n⟩
theorem QR.own (h:QR R G Q txt K X rr vb sv s w)(hk:Kp S' w w')(hS:∀j,S' j->X j/\j≠G.k/\j≠G.x/\j≠0/\j≠1/\j≠rr/\j≠vb):QR R G Q txt K X rr vb sv s w':=
 ⟨h.g.own hk (λj e=>⟨(hS j e).1,(hS j e).2.1,(hS j e).2.2.1,(hS j e).2.2.2.1,(hS j e).2.2.2.2.1⟩),hk.ND h.run (λe=>(hS _ e).2.2.2.2.2.1 O),h.vec.kp hk (λe=>(hS _ e).2.2.2.2.2.2 O),h.xr,h.ne,h.UA,h.len,h.n⟩
theorem QR.read (h:QR R G Q txt K X rr vb sv s w)(hk:Kp (λb=>¬(X b\/b=G.rb)) w w')(hP:Sp Q txt K (λb=>X b\/b=G.rb) w'):QR R G Q txt K X rr vb sv s w':=
 ⟨h.g.UX hk (λb e=> .inl e) hP O O h.g.z1X (λ_ _ _=>rfl),hk.ND h.run (λe=>e (.inl h.xr.1)),h.vec.kp hk (λe=>e (.inl h.xr.2)),h.xr,h.ne,h.UA,h.len,h.n⟩
theorem QR.wrote (h:QR R G Q txt K X rr vb sv s w)(hK:K'<1000000000000)(hc:∀a b,R.cs s' a b=R.cs s a b)(hl:(R.xs s').length=(R.xs s).length)(hW:VcW Q txt K' (λb=>X b\/b=G.rb) vb 4 sv (R.xs s') w w'):∃txt',QR R G Q txt' K' X rr vb sv s' w'/\(∀y:Int,y<(sv:Int)\/(sv:Int)+1<=y->txt' y=txt y)/\Kp (λb=>¬(X b\/b=G.rb)) w w':=by
 obtain⟨txt',hP,hv,ht,hk⟩:=hW
 have hd:=h.UA
 have js:TQ (R.xs s').length 128=1:=by
  rw[hl,h.len];have:=h.n;unfold TQ;omega
 rw[show 512 / 4=128 from rfl,js] at ht
 exact⟨txt',⟨h.g.UX hk (λb e=> .inl e) hP O O hK (λy h1 h2=>ht y (.inl (by omega))),by rw[hc];exact hk.ND h.run (λe=>e (.inl h.xr.1)),hv,h.xr,h.ne,h.UA,by rw[hl];exact h.len,h.n⟩,ht,hk⟩
theorem QR.set (h:QR R G Q txt K X rr vb sv s w)(hk:Kp (λb=>b=rr) w w')(hB:NM w' rr (R.cs s' G.k vb) R.T)(og:R.xs s'=R.xs s):QR R G Q txt K X rr vb sv s' w':=
 ⟨h.g.own hk (λj e=>by rw[e];exact⟨h.xr.1,h.ne.2.1,h.ne.2.2.1,h.ne.2.2.2.1,h.ne.2.2.2.2.1⟩),hB,by rw[og];exact h.vec.kp hk (λe=>h.ne.1 e.symm),h.xr,h.ne,h.UA,by rw[og];exact h.len,h.n⟩
theorem QR.list (h:QR R G Q txt K X rr vb sv s w)(hg:QL G Q txt K Y w')(hk:Kp (λj=>¬X j) w w')(bS:∀j,X j->Y j):QR R G Q txt K Y rr vb sv s w':=
 ⟨hg,hk.ND h.run (λe=>e h.xr.1),h.vec.kp hk (λe=>e h.xr.2),⟨bS _ h.xr.1,bS _ h.xr.2⟩,h.ne,h.UA,h.len,h.n⟩
end
abbrev pl:Nat:=2147483648
def lessC (xs:List Nat)(u:Nat):List Nat:=match xs[u]? with
 |some d=>if pl<=d\/d=0 then xs else xs.set u (d-1)
 |none=>xs
def UY (g:List (List Nat))(L:Nat)(xs:List Nat)(v:Nat):List Nat:=(NS g v).foldl lessC (xs.set v (pl+L))
def Y1 (g:List (List Nat))(L:Nat)(p:List Nat×Bool×Bool)(v:Nat):List Nat×Bool×Bool:=match p.1[v]? with
 |some d=>if pl<=d then p else if L<d then(p.1,p.2.1,true) else(UY g L p.1 v,true,p.2.2)
 |none=>p
def z0i (g:List (List Nat))(L:Nat)(xs:List Nat):List Nat×Bool×Bool:=(List.range g.length).foldl (Y1 g L) (xs,false,false)
structure Sj where
 t:Nat
 level:Nat
 done:Bool
 xs:List Nat
def Sj.new (g:List (List Nat)):Sj:=⟨0,0,false,g.map List.length⟩
def Sj.step (g:List (List Nat))(s:Sj):Sj:=⟨s.t+1,if(z0i g s.level s.xs).2.1 then s.level else s.level+1,!(z0i g s.level s.xs).2.2,(z0i g s.level s.xs).1⟩
structure zdI (g:List (List Nat)):Prop where
 sym:∀u v,u∈NS g v->v∈NS g u
 irr:∀v,v∉NS g v
/-! ### Cores -/
end Go.Proofs.YtfgjaafcgghnoaaGreatDoor
namespace Go.Proofs.YtfgjaafcgghnoaaGreatDoor
open Go Go.RowKit Go.Proofs.Tryz
abbrev SB:RvK Sj:=⟨99,λs k v=>[I (s.t:Int),I (s.level:Int),.bool s.done,ptr k 0,ptr v 0,.bool false],Sj.xs,Sj.t⟩
theorem zfw {P:Program}{e:Env}{d:Option Nat}{ty t t':TypeId}{pos:String}{aft:Array Edge}{g:Option (Nat×Bool)}{x y:Operand}{v:Nat}{w:World}(hv:v<4294967296)(hx:look e x=some (NW v))(hy:look e y=some (.int .u64 2147483648)):Y P e ⟨d,.binOp .andNot t x y t',ty,pos,aft,g⟩ (NW (v%2147483648)) w w:=fun ρ hρ=>by
 have h1:v<2^IntKind.u64.bits:=by simp only[IntKind.bits];omega
 have h3:v&&&18446744071562067967=v%2147483648:=by
  have h4:=Tl (s:=31) (a:=v / 2147483648) (b:=v%2147483648) (c:=8589934590) (d:=2147483647) (Nat.mod_lt _ (by decide)) (by decide);have h5:=Nat.and_two_pow_sub_one_eq_mod (v%2147483648) 31;rw[show(2:Nat)^31-1=2147483647 from rfl,show(2:Nat)^31=2147483648 from rfl,Nat.mod_mod] at h5
  have h6:v / 2147483648&&&8589934590=0:=by
   have:v / 2147483648=0\/v / 2147483648=1:=by omega
   rcases this with e|e<;>rw[e]<;>decide
  rw[h5,h6,show(2:Nat)^31=2147483648 from rfl,show v%2147483648+2147483648*(v / 2147483648)=v by omega,show 2147483647+2147483648*8589934590=18446744071562067967 from rfl] at h4;rw[h4];omega
 have h6:(BitVec.ofInt IntKind.u64.bits (v:Int)&&&~~~(BitVec.ofInt IntKind.u64.bits 2147483648)).toNat=v%2147483648:=by
  rw[BitVec.toNat_and,Pm h1,show(~~~(BitVec.ofInt IntKind.u64.bits 2147483648)).toNat=18446744071562067967 by decide,h3]
 have FJ:look e x=some (.int .u64 (v:Int)):=hx
 simp only[execOp,eqGuard_andNot,binOp_andNot,intBits_andNot,hρ _ _ FJ,hρ _ _ hy,pure_bind,Sem.run_pure,bits,h6]
 rw[Yu (k:= .u64) O (by simp only[IntKind.bits];omega)]
section
variable {G:GwP}{w w':World}{Q Q':Qn}{txt txt':Int->NH}{K K':Nat}{X Y S':Nat->Prop}{rr vb sv:Nat}{s s':Sj}
theorem QR.core (h:QR SB G Q txt K X rr vb sv s w):NM w rr [I (s.t:Int),I (s.level:Int),.bool s.done,ptr G.k 0,ptr vb 0,.bool false] 99:=h.run
theorem z0g (n:Nat)(hn:n<4294967296)(w:World):Oa prog 43 [I (n:Int)] w λv w'=>v=S (Re 4 n)/\Ext w w':=by
 have hb:(Re 4 n).map Rq=[Value.int .u8 ((n / 16777216%256:Nat):Int),Value.int .u8 ((n / 65536%256:Nat):Int),Value.int .u8 ((n / 256%256:Nat):Int),Value.int .u8 ((n%256:Nat):Int)]:=by
  simp[Re,Rq,List.range_succ]
 refine Nu (e:=[(0,_)]) func43 O ntmps43 O O$ qN O$ NQ O$ qM O$ Nz O$ qV (RS 24 16777216 O O (by decide) O)$ qV (YS O U3 U5)$ Nz O$ qV (RS 16 65536 O O (by decide) O)$ qV (YS O U3 U5)$ Nz O$ qV (RS 8 256 O O (by decide) O)$ qV (YS O U3 U5)$ Nz O ?_
 refine qV (YS O U3 U5)$ NK O O (Ur (cs:=[_,_,_,_]) (zs:=[Value.int .u8 0,Value.int .u8 0,Value.int .u8 0,Value.int .u8 0]) P8 VO O (by kernel_rfl) O O O (by decide)) ?_
 rintro _ w1 ⟨b1,rfl,⟨bN,ad,aj⟩,-⟩
 have fx:NM w1 b1 ((Re 4 n).map Rq) 5:=by
  rw[hb];exact aj
 refine qV (z2Z (l:=Re 4 n) P8 U5 U9 O fx (by rw[List.drop_zero];exact List.take_of_length_le (by rw[List.length_map,O4];omega)) (O4 _ _)) ?_
 refine NF O$ NA func43 O ?_
 exact⟨_,rfl,rfl,ad⟩
theorem SA (h:QR SB G Q txt K X rr vb sv s w):Oa prog 38 [ptr rr 0] w λv w'=>v=I 0/\w'=w:=by
 have hB:=h.core
 refine Nu (e:=[(0,_)]) func38 O ntmps38 O O$ qN O$ NF O$ py$ Nw$ qN O$ Nz O$ qV (OP U34 O O)$ NF O$ It O$ qN O$ Nz O$ O8 O$ NO z5z O ?_
 refine qV (NJ U4 O O hB O)$ NF O$ It O$ An$ Ny$ qN O$ NF O$ NA func38 O ?_
 exact⟨_,rfl,rfl,rfl⟩
theorem z5g (b:Bool)(w:World):Oa prog 44 [.bool b] w λv w'=>v=S [if b then 1 else 0]/\w'=w:=by
 refine Nu (e:=[(0,_)]) func44 O ntmps44 O O$ qN O$ NF O$ py$ qN O$ Nz O$ NB ?_
 cases b with
 | true =>
   refine NI O$ qN O$ NF O$ NA func44 O ?_
   exact⟨_,rfl,rfl,rfl⟩
 | false =>
   refine It O$ An$ qN O$ NF O$ NA func44 O ?_;exact⟨_,rfl,rfl,rfl⟩
theorem z19 (s:NH)(h8:s.length<=8)(w:World):Oa prog 45 [S s] w λv w'=>v=NW (Ol (O0 s))/\Ext w w':=by
 refine Nu (e:=[(0,_)]) func45 O ntmps45 O O$ qN O$ NQ O$ qM O$ NF O$ py$ qN O$ Nz O$ NK O O (z8w U9 P8 U5 O) ?_
 rintro _ w3 ⟨b7,c7,rest,rfl,⟨kO,ah,ar⟩,AV⟩
 refine Q0 P8 O$ Nz O$ NB$ Nw$ Qb (α:=Nat) (0) (λi=>[(3,NW (Ol (O0 (s.take i)))),(7,.slice (some ⟨b7,0,none⟩) s.length c7),(8,I (s.length:Int)),(9,I (i:Int))]) (λi w'=>w'=w3/\i<=s.length) (λi=>s.length-i) ?hI ?hround
 case hI=>exact⟨rfl,Nat.zero_le _⟩
 case hround=>
  rintro i w4 ⟨rfl,hi⟩ ih
  try dsimp only
  refine qN O$ Pb O O$ NB$ py$ NN O (λh0=>?_)$ λh0=>?_
  ·obtain⟨c,hc⟩:∃c,s[i]? =some c:=⟨_,List.getElem?_eq_getElem (by omega)⟩;have dx:=c.toNat_lt;have fC:=Sy hc
   have aU:Ol (O0 (s.take i))<72057594037927936:=by
    have h1:=Pw (O0 (s.take i));rw[bitsT_length,List.length_take] at h1;have h2:2^(8*min i s.length)<=2^56:=Nat.pow_le_pow_right (by decide) (by omega);omega
   have aX:w4.cell? ⟨b7,0+i*1,none⟩=some (Rq c):=by
    rw[ar.cell,Nat.zero_add,Nat.mul_one,List.getElem?_append_left (by rw[List.length_map];omega),List.getElem?_map,hc];rfl
   refine An$ py$ Nw$ qN O$ qV (OH P8 VO O O (by omega))$ qV (Oi U5 O O aX) ?_
   generalize Ol (O0 (s.take i))=q at fC aU
   refine NF O$ NC O$ Nz O$ qV (PV 8 256 O O (by decide) O)$ Nz O$ qV ((z0x O U5 Qe (by decide)))$ qV (XZ O O (by omega) (by omega)) ?_
   have mM:(q*256%18446744073709551616 |||c.toNat)=Ol (O0 (s.take (i+1))):=by
    rw[fC,Nat.mod_eq_of_lt (by omega),Nat.mul_comm q];exact(Nat.two_pow_add_eq_or_of_lt (i:=8) dx q).symm
   rw[mM];refine NF O$ Ny$ NC O$ OI O O$ Nz O$ NB ?_;exact(ih (i+1) _ ⟨rfl,by omega⟩ (by omega)).qb
  ·have cu:i=s.length:=by omega
   subst cu;rw[List.take_length];refine NL O$ qN O$ Nz O$ NF O$ NA func45 O ?_;exact⟨_,rfl,rfl,ah⟩
theorem YL (h:QR SB G Q txt K X rr vb sv s w):Oa prog 18 [ptr rr 0] w λv w'=>v=I (s.t:Int)/\w'=w:=by
 have hB:=h.core
 refine Nu (e:=[(0,_)]) func18 O ntmps18 O O$ qN O$ NF O$ py$ qN O$ Nz O$ qV (OP U34 O O)$ NB$ It O$ An$ qN O$ Nz O$ O8 O$ NO QT O ?_
 refine NO z2h O$ qV (NJ U3 O O hB O)$ NF O$ NA func18 O ?_
 exact⟨_,rfl,rfl,rfl⟩
theorem z3X (h:QR SB G Q txt K X rr vb sv s w):Oa prog 22 [ptr rr 0] w λv w'=>v=I (G.g.length:Int)/\w'=w:=by
 have hB:=h.core
 refine Nu (e:=[(0,_)]) func22 O ntmps22 O O$ qN O$ NF O$ py$ qN O$ Nz O$ qV (OP U34 O O)$ NB$ It O$ An$ qN O$ Nz O$ O8 O$ NO z0l O ?_
 refine qV (NJ U29 O O hB O)$ NZ z7u O (VB h.g) ?_
 rintro _ w ⟨rfl,rfl⟩
 refine NF O$ NA func22 O ?_
 exact⟨_,rfl,rfl,rfl⟩
theorem z4F {width:Nat}{xs:List Nat}(hv:Wc Q txt vb width sv xs w){i:Int}(hi:i<0\/(xs.length:Int)<=i):Oa prog 40 [ptr vb 0,I i] w λv w'=>v= .tuple #[NW 0,I 1]/\w'=w:=by
 have hB:=hv.cells
 refine Nu (e:=[(0,_),(1,_)]) func40 O ntmps40 O O$ qN O$ NQ O$ NF O$ py$ qN O$ Nz O$ NZ z58 O (QY hv) ?_
 rintro _ w ⟨rfl,rfl⟩
 refine NQ O$ qM O$ Nz O$ P3 O O ?_
 by_cases h0:i<0
 ·refine NB$ It O$ An$ py$ qN O$ Nz O$ Pb O O$ PE$ Nz O$ qS$ qS$ qS$ qS$ qS ?_;refine qS$ qS$ Pc O O$ NB$ NI O$ qN O$ NQ O$ NF O$ NA func40 O ?_;exact⟨_,rfl,rfl,rfl⟩
 ·have h1:(xs.length:Int)<=i:=hi.resolve_left h0;refine NB$ It O$ An$ py$ qN O$ Nz O$ Pb O O$ Ox$ NT O O$ Nz O$ O8 O$ NO PM O$ NO VK O$ qV (NJ U3 O O hB O) ?_;refine RN O O$ PE$ OC O O$ NB$ NI O$ qN O$ NQ O$ NF O$ NA func40 O ?_;exact⟨_,rfl,rfl,rfl⟩
def XT (s:Sj)(i:Int):Value:=if s.done=false then .tuple #[NW 0,I 16] else if i<0\/(s.xs.length:Int)<=i then .tuple #[NW 0,I 1] else .tuple #[NW ((s.xs[i.toNat]?).getD 0%2147483648),I 0]
theorem Yh (h:QR SB G Q txt K X rr vb sv s w)(i:Int):Oa prog 10 [ptr rr 0,I i] w λv w'=>v=XT s i/\QR SB G Q txt K X rr vb sv s w'/\Kp (λb=>¬(X b\/b=G.rb)) w w':=by
 have hB:=h.core
 refine Nu (e:=[(0,_),(1,_)]) func10 O ntmps10 O O$ qN O$ NQ O$ NF O$ py$ qN O$ Nz O$ NZ z2d O (SA h) ?_
 rintro _ w ⟨rfl,rfl⟩
 refine NQ O$ qM O$ Nz O$ P3 O O$ NB$ It O$ An$ py$ qN O$ Nz O$ O8 O$ NO QT O$ NO Wf O ?_
 by_cases hd:s.done=false
 ·rw[hd] at hB;refine qV (NJ U4 O O hB O)$ qV ((Qr O))$ NB$ NI O$ qN O$ NQ O$ NF O$ NA func10 O ?_;unfold XT;rw[if_pos hd];exact⟨_,rfl,rfl,h,Kp.refl _ _⟩
 ·have wm:s.done=true:=by simpa using hd
  rw[wm] at hB;refine qV (NJ U4 O O hB O)$ qV ((Qr O))$ NB$ It O$ An$ qN O$ Nz O$ O8 O$ NO T4 O$ qV (NJ U90 O O hB O)$ Nz O ?_;by_cases hi:i<0\/(s.xs.length:Int)<=i
  ·refine NZ zbf O (z4F h.vec hi) ?_;rintro _ w ⟨rfl,rfl⟩;refine Nz O$ ON O O$ ON O O$ NQ O$ NF O$ Of.qb (e:=[(4,_),(5,_),(7,_),(8,_)]) ?_;refine qN O$ Nz O$ qV (zfw (v:=0) (by decide) O O)$ Nz O$ NQ O$ NF O$ NA func10 O ?_;unfold XT;rw[if_neg hd,if_pos hi];exact⟨_,rfl,rfl,h,Kp.refl _ _⟩
  ·obtain⟨n,rfl⟩:∃n:Nat,i=(n:Int):=⟨i.toNat,by omega⟩;obtain⟨x,hx⟩:∃x,s.xs[n]? =some x:=⟨_,List.getElem?_eq_getElem (by omega)⟩;have aB:=(h.vec.zaO (xs:=s.xs) hx).1;refine NZ zbf O (XO h.g.sp h.g.lt1 h.g.z1X h.vec (.inl h.xr.2) (i:=n) hx) ?_;rintro _ w1 ⟨rfl,j8,aM⟩;have h1:=h.read aM j8;refine Nz O$ ON O O$ ON O O$ NQ O$ NF O$ Of.qb (e:=[(4,_),(5,_),(7,_),(8,_)]) ?_;refine qN O$ Nz O$ qV (zfw (v:=x) aB O O)$ Nz O$ NQ O$ NF O$ NA func10 O ?_;unfold XT;rw[if_neg hd,if_neg hi,show((n:Int)).toNat=n by omega,hx];exact⟨_,rfl,rfl,h1,aM⟩
def Sj.put (s:Sj)(xs:List Nat):Sj:={s with xs:=xs}
theorem z7o (xs:List Nat)(u:Nat):(lessC xs u).length=xs.length:=by
 unfold lessC
 split
 ·split
  ·rfl
  ·exact List.length_set
 ·rfl
theorem z5C (h:QR SB G Q txt K X rr vb sv s w)(hK:K+1<1000000000000){u:Nat}(hu:u<G.g.length):Oa prog 76 [ptr rr 0,I (u:Int)] w λv w'=>v=I 0/\∃txt',QR SB G Q txt' (K+1) X rr vb sv (s.put (lessC s.xs u)) w'/\(∀y:Int,y<(sv:Int)\/(sv:Int)+1<=y->txt' y=txt y)/\Kp (λb=>¬(X b\/b=G.rb)) w w':=by
 have hB:=h.core
 have aA:s.xs.length=G.g.length:=h.len
 obtain⟨x,hx⟩:∃x,s.xs[u]? =some x:=⟨_,List.getElem?_eq_getElem (by omega)⟩
 have aB:=(h.vec.zaO (xs:=s.xs) hx).1
 refine Nu (e:=[(0,_),(1,_)]) func76 O ntmps76 O O$ qN O$ NQ O$ qM O$ Nz O$ O8 O$ NO T4 O$ qV (NJ U90 O O hB O)$ Nz O$ NZ zbf O (XO h.g.sp h.g.lt1 h.g.z1X h.vec (.inl h.xr.2) (i:=u) hx) ?_
 rintro _ w1 ⟨rfl,j8,aM⟩
 have h1:=h.read aM j8
 have aj:=h1.core
 by_cases hc:pl<=x\/x=0
 ·have hl:lessC s.xs u=s.xs:=by
   unfold lessC;rw[hx];exact if_pos hc
  rw[hl];refine Nz O$ ON O O$ ON O O$ NQ O$ NF O$ py$ qN O$ Nz O$ P3 O O$ NT O O ?_;rcases hc with hc|hc
  ·have Nm:2147483648<=x:=hc;refine RN O O$ PE$ OC O O$ Nz O$ qS$ qS$ Pc O O$ NB$ NI O$ qN O$ Nz O$ NF O$ Of.qb (e:=[(0,_),(1,_),(4,_),(5,_)]) ?_;refine NA func76 O ?_;exact⟨_,rfl,rfl,txt,h1.more (Nat.le_succ _) hK,λ_ _=>rfl,aM⟩
  ·subst hc;refine RN O O$ Ox$ OC O O$ NT O O$ Px O O$ PE$ OC O O$ NB$ NI O$ qN O$ Nz O$ NF O$ Of.qb (e:=[(0,_),(1,_),(4,_),(5,_)]) ?_;refine NA func76 O ?_;exact⟨_,rfl,rfl,txt,h1.more (Nat.le_succ _) hK,λ_ _=>rfl,aM⟩
 ·have hl:lessC s.xs u=s.xs.set u (x-1):=by
   unfold lessC;rw[hx];exact if_neg hc
  have dH:x<2147483648/\x≠0:=by have e:pl=2147483648:=rfl;omega
  rw[hl];refine Nz O$ ON O O$ ON O O$ NQ O$ NF O$ py$ qN O$ Nz O$ P3 O O$ Ox$ NT O O$ RN O O$ Ox$ OC O O ?_;refine NT O O$ Px O O$ Ox$ OC O O$ NB$ It O$ An$ qN O$ Nz O$ O8 O$ NO T4 O$ qV (NJ U90 O O aj O)$ NT O O$ qV (Uh (k:= .u64) (m:=x) (n:=1) O O O (by show x<2^64;omega) (by omega)) ?_;refine NZ zdb O (XC h1.g.sp h1.g.lt1 h1.g.z1X h1.vec (.inl h.xr.2) (i:=u) (x:=x-1) (by show u<s.xs.length;omega) (by omega)) ?_;rintro _ w2 ⟨rfl,hW⟩;obtain⟨txt2,h2,o7,aq⟩:=h1.wrote (s':=s.put (s.xs.set u (x-1))) hK (λ_ _=>rfl) (List.length_set) hW;refine NF O$ Of.qb (e:=[(4,_)]) ?_;refine NA func76 O ?_;exact⟨_,rfl,rfl,txt2,h2,o7,aM.trans aq⟩
theorem z8n (h:QL G Q txt K X w){v:Nat}(hv:v<G.g.length):Oa prog 35 [ptr G.k 0,I (v:Int)] w λr w'=>r= .tuple #[I ((NS G.g v).length:Int),I 0]/\QL G Q txt K X w'/\Kp (λj=>¬X j) w w':=by
 obtain⟨o,h⟩:=h
 refine Nu (e:=[(0,_),(1,_)]) func35 O ntmps35 O O$ qN O$ NQ O$ NF O$ py$ qN O$ NT O O$ NK O O (Ur (cs:=[_]) (zs:=[Value.int .i64 0]) Qd OL O (by kernel_rfl) O O O (by decide)) ?_
 rintro _ w1 ⟨vb1,rfl,⟨dl,ad,aj⟩,j7⟩
 have h1:=h.ext ad
 refine NZ zft O (ZP h1 hv j7.rd) ?_
 rintro _ w1 ⟨rfl,rfl⟩
 refine NQ O$ qM O$ Nz O$ P3 O O$ NB$ It O$ An$ qN O$ NT O O$ NZ zhu O (z0o h1 hv) ?_
 rintro _ w2 ⟨b,a,s,rest,rfl,cA,lM,bQ,h2,aq⟩
 refine Nz O$ qV (Q8 (v:= .agg #[I ((NS G.g v).length:Int),I (Oj G.g G.E v:Int)]) O O)$ qV (Q8 (v:=ptr b 0) O O)$ qV (Q8 (v:=I ((a+(O5 (RX G.p G.g G.E v)).length:Nat):Int)) O O)$ qV (Q8 (v:=I 0) O O)$ NK O O (Qk (cs:=[_,_]) QD O) ?_
 rintro _ w3 ⟨b9,rfl,mS,ah,ar⟩
 refine NP O (OA (news:=[I ((NS G.g v).length:Int),I (Oj G.g G.E v:Int)]) QD O O O O ar (by simp)) ?_
 rintro w4 ⟨aH,ao⟩
 replace aH:NM w4 b9 [I ((NS G.g v).length:Int),I (Oj G.g G.E v:Int)] 157:=aH
 have cU:Ext w2 w4:=ah.Nv ao (λj e=>by omega)
 have h4:=(h2.ext cU).less (X:=X) (λj hj=> .inl hj) h.xk h.xx h.x1 h.x2
 refine NQ O$ NQ O$ NQ O$ qM O$ NO Ru O$ qV (NJ U3 O O aH O)$ Nz O$ NQ O$ NF O$ Of.qb (e:=[(4,_),(5,_)]) ?_
 refine NA func35 O ?_
 exact⟨_,rfl,rfl,⟨o,h4⟩,(ad.kp.trans aq).trans cU.kp⟩
end
section
variable {G:GwP}{w w':World}{Q Q':Qn}{txt txt':Int->NH}{K K':Nat}{X Y S':Nat->Prop}{rr vb sv:Nat}{s s':Sj}
theorem Zl:∀(l:List Nat) (xs:List Nat),(l.foldl lessC xs).length=xs.length
 |[],xs=>rfl
 |u::l,xs=>by rw[List.foldl_cons,Zl l,z7o]
structure PeI (G:GwP)(Q:Qn)(txt:Int->NH)(K:Nat)(X Y:Nat->Prop)(rr vb sv:Nat)(s:Sj)(br b3:Nat)(w:World)(ys:List Nat)(w':World):Prop where
 ex:∃txt',QR SB G Q txt' K Y rr vb sv (s.put ys) w'/\∀y:Int,y<(sv:Int)\/(sv:Int)+1<=y->txt' y=txt y
 br:NM w' br [ptr rr 0] 34
 b3:NM w' b3 [I 0] 35
 k:Kp (λb=>¬X b) w w'
theorem PeI.own {br b3:Nat}{ys:List Nat}{w0:World}(h:PeI G Q txt K X Y rr vb sv s br b3 w0 ys w)(hk:Kp S' w w')(hS:∀j,S' j->Y j/\j≠G.k/\j≠G.x/\j≠0/\j≠1/\j≠rr/\j≠vb/\j≠br/\j≠b3/\w0.heap.size<=j):PeI G Q txt K X Y rr vb sv s br b3 w0 ys w':=by
 obtain⟨⟨txt',h1,h2⟩,h3,h5,h6⟩:=h
 refine⟨⟨txt',h1.own hk (λj e=>?_),h2⟩,hk.ND h3 (λe=>?_),hk.ND h5 (λe=>?_),h6.Nv hk λj e=> .inl ?_⟩
 ·obtain⟨a1,a2,a3,a4,a5,a6,a7,-⟩:=hS j e;exact⟨a1,a2,a3,a4,a5,a6,a7⟩
 ·exact(hS _ e).2.2.2.2.2.2.2.1 O
 ·exact(hS _ e).2.2.2.2.2.2.2.2.1 O
 ·exact(hS _ e).2.2.2.2.2.2.2.2.2
theorem z5i {br v:Nat}(h:QR SB G Q txt K X rr vb sv s w)(hK:K<=900000000000)(rO:NM w br [ptr rr 0] 34)(LL:X br)(mY:s.level<=1000000)(hv:v<G.g.length):Oa prog 74 [I (v:Int),ptr br 0] w λr w'=>r=I 0/\∃txt',QR SB G Q txt' (K+64) X rr vb sv (s.put (UY G.g s.level s.xs v)) w'/\(∀y:Int,y<(sv:Int)\/(sv:Int)+1<=y->txt' y=txt y)/\Kp (λb=>¬X b) w w':=by
 have fS:=h.n
 have ro:=h.g.ok.gr
 have aA:s.xs.length=G.g.length:=h.len
 have aU:=h.g.lt1
 have fP:(NS G.g v).length<=G.g.length:=by
  unfold NS;rw[List.getElem?_eq_getElem hv];exact ro.len (List.getElem_mem hv)
 refine Nu (e:=[(0,_),(1,_)]) func74 O ntmps74 O O$ qN O$ NK O O (Qk (cs:=[_]) z8A O) ?_
 rintro _ w1 ⟨b3,rfl,dF,ad,ar⟩
 have z1:=ad.size
 have l3:=ar.lt
 have lbr:=rO.lt
 obtain⟨X0,uN⟩:∃X0:Nat->Prop,(λj=>X j\/j=b3)=X0:=⟨_,rfl⟩
 have fK:∀j,X j->X0 j:=λj hj=>by rw[<-uN];exact .inl hj
 have aY:X0 br/\X0 b3:=by rw[<-uN];exact⟨.inl LL,.inr O⟩
 have h1:QR SB G Q txt K X0 rr vb sv s w1:=h.grow ad (λj hj=>by rw[<-uN] at hj;exact hj.imp id λe=>by omega) fK
 have LM:=aU rr (.inl h.xr.1)
 have GJ:=aU vb (.inl h.xr.2)
 have Ad:=aU _ (.inl h.g.xk.1)
 have Nn:=aU _ (.inl h.g.xk.2.1)
 have Ae:=aU _ (.inl h.g.xk.2.2.1)
 have No:=aU _ (.inl h.g.xk.2.2.2)
 have kJ:=ad.ND rO
 have rp:=h1.core
 have av:=Ext.NY w1
 refine NB$ py$ py$ PK (λw'=>Kp (λj=>¬(X0 j\/j=G.rb)) w1 w') O$ qT 0 O (λ_ hS=>(NJ U34 O O (hS.ND kJ (λe=>e (.inl aY.1))) O)) (av.kp)$ NG 1 O (OQ O) (av.kp)$ NG 2 O (Og T4 O) (av.kp)$ qT 3 O (λ_ hS=>(NJ U90 O O (hS.ND rp (λe=>e (.inl h1.xr.1))) O)) (av.kp)$ NX 4 O O (av.kp)$ qT 5 O (λ_ hS=>(NJ U34 O O (hS.ND kJ (λe=>e (.inl aY.1))) O)) (av.kp)$ NG 6 O (OQ O) (av.kp)$ NG 7 O (Og QT O) (av.kp)$ NG 8 O (Og Zq O) (av.kp)$ qT 9 O (λ_ hS=>(NJ U3 O O (hS.ND rp (λe=>e (.inl h1.xr.1))) O)) (av.kp) ?_
 refine NG 10 O (SX O O (by omega)) (av.kp)$ NG 11 O ((OM O U3 Qe (by omega))) (av.kp) ?_
 rw[show(2147483648:Int)+(s.level:Int)=((2147483648+s.level:Nat):Int) by omega]
 refine Qv 12 O zdb O (XC ((h1.ext av).g.sp) (h1.ext av).g.lt1 (h1.ext av).g.z1X (h1.ext av).vec (.inl h1.xr.2) (i:=v) (x:=2147483648+s.level) (by show v<s.xs.length;omega) (by omega)) ?_
 rintro _ w2 ⟨rfl,hW⟩
 refine⟨av.kp.trans hW.kpX,?_⟩
 obtain⟨txt2,h2,o7,aq⟩:=(h1.ext av).wrote (s':=s.put (s.xs.set v (pl+s.level))) (K':=K+1) (by omega) (λ_ _=>rfl) (List.length_set) hW
 have aL:=av.kp.trans aq
 have Af:=aL.ND kJ (λe=>e (.inl aY.1))
 have da:=aL.ND ar (λe=>e (.inl aY.2))
 have FK:=h2.core
 have dK:Kp (λb=>¬X b) w w2:=ad.kp.trans (aL.NR λb e e2=>e (.inl (fK b e2)))
 obtain⟨xs2,uO⟩:∃xs2,s.xs.set v (pl+s.level)=xs2:=⟨_,rfl⟩
 rw[uO] at h2
 have LN:xs2.length=G.g.length:=by rw[<-uO,List.length_set];exact aA
 have z2:=aL.size
 refine NG 13 O (PO O) (av.kp.trans hW.kpX)$ qE$ qN O$ Nz O$ P3 O O$ NB$ It O$ An$ py$ qN O$ qV ((NJ U34 O O Af O))$ O8 O$ NO z0l O$ qV ((NJ U29 O O FK O)) ?_
 refine Nz O$ NZ zj0 O (z47 G.k v _) ?_
 rintro _ w6 ⟨bk,bi,rfl,vN,wc,gW,zW,aK⟩
 have z6:=aK.size
 refine NB$ Of.qb (e:=[(1,_),(3,_),(29,_)]) ?_
 refine Nw$ Sq (ps:=[30,31]) (p:=[]) (q:=[_,_]) O zey ?_
 rintro l wl fF fG cH hD Rc dS fA
 have zl:=fF.size
 have sw:=aK.trans fF
 obtain⟨X1,lw⟩:∃X1:Nat->Prop,(λj=>X0 j\/j=w6.heap.size\/j=l)=X1:=⟨_,rfl⟩
 have rq:∀j,X0 j->X1 j:=λj hj=>by rw[<-lw];exact .inl hj
 have lu:X1 l/\X1 w6.heap.size:=by rw[<-lw];exact⟨.inr (.inr O),.inr (.inl O)⟩
 have I5:QR SB G Q txt2 (K+1) X1 rr vb sv (s.put xs2) wl:=h2.grow sw (λj hj=>by rw[<-lw] at hj;exact hj.imp id λe=>by omega) rq
 have uP:∀j,j=l\/j=w6.heap.size->j≠G.k/\j≠G.x/\j≠0/\j≠1/\j≠rr/\j≠vb/\j≠br/\j≠b3/\w.heap.size<=j:=λj hj=>by omega
 refine Oa.mono (z4n (by omega) hv I5.g (fF.ND vN) (fF.ND wc) (λj=>j=l) (λj hj=>hj▸lu.1)
  (λY i w'=>Rc .ready none w'/\PeI G Q txt (K+1+i) X Y rr vb sv s br b3 w (((NS G.g v).take i).foldl lessC xs2) w'/\w'.heap[w6.heap.size]? =some (.deferred (some [])))
  (λ_=>False) ?_ ?_) ?_
 ·intro Y w7 bS wg uK ax;have kE:Kp (λj=>¬X1 j) w2 w7:=sw.kp.trans ax;exact⟨ax.rc dS fA (λe=>e lu.1),⟨⟨txt2,I5.list uK ax bS,o7⟩,kE.ND Af (λe=>e (rq _ aY.1)),kE.ND da (λe=>e (rq _ aY.2)),dK.trans (kE.NR λb e e2=>e (rq _ (fK b e2)))⟩,ax.heap hD (λe=>e lu.2)⟩
 ·rintro Y i u w7 bS wg hs ⟨I6,jJ,LO⟩;have j3:u<G.g.length:=RY ro v u (List.mem_of_getElem? hs)
  have cu:i<(NS G.g v).length:=by
   rcases Nat.lt_or_ge i (NS G.g v).length with h| h
   ·exact h
   ·rw[List.getElem?_eq_none h] at hs;cases hs
  have ek:((NS G.g v).take (i+1)).foldl lessC xs2=lessC (((NS G.g v).take i).foldl lessC xs2) u:=by
   rw[OB hs,List.foldl_append];rfl
  rw[ek];obtain⟨q,hq⟩:∃q,((NS G.g v).take i).foldl lessC xs2=q:=⟨_,rfl⟩;rw[hq] at jJ⊢;have Ag:Y br/\Y b3:=⟨bS _ (rq _ aY.1),bS _ (rq _ aY.2)⟩;have Bo:Y l/\Y w6.heap.size:=⟨bS _ lu.1,bS _ lu.2⟩;have FM:∀j,X j->Y j:=λj hj=>bS _ (rq _ (fK j hj));refine Tx dS I6 O O$ qN O$ NF O$ NC O$ NF O$ run_beginRound O dS I6 ?_;rintro w8 Ed aV;obtain⟨⟨txt8,h8,Bm⟩,Ah,nt,nv⟩:=jJ.own aV (λj e=>⟨e▸Bo.1,uP j (.inl e)⟩);have LP:=aV.heap LO (by omega);refine Nw$ py$ qN O$ Nz O$ P3 O O$ NB$ It O$ An$ qN O$ qV (NJ U34 O O Ah O)$ Nz O$ qV (Ow O OX U3 (by omega))$ NZ ziW O (z5C h8 (by omega) j3) ?_;rintro _ w9 ⟨rfl,txt9,h9,wk,aS⟩;have FN:=aS.ND Ah (λe=>e (.inl Ag.1));have qG:=aS.ND nt (λe=>e (.inl Ag.2));have LQ:=aS.heap LP (λe=>e (.inl Bo.2));have LR:=aS.rc dS Ed (λe=>e (.inl Bo.1));have oN:Kp (λb=>¬X b) w w9:=nv.trans (aS.NR λb e e2=>e (.inl (FM b e2)));have FO:Kp (λj=>¬Y j\/j=l) w7 w9:=(aV.NR λj e=> .inr e).trans (aS.NR λj e=> .inl λe2=>e (.inl e2));refine NQ O$ qM O$ Nz O$ P3 O O$ NB$ It O$ An$ Ny$ Uv dS LR ?_;intro w12 FP aL;exact .inl ⟨rfl,⟨FP,PeI.own ⟨⟨txt9,h9,λy hy=>by rw[wk y hy];exact Bm y hy⟩,FN,qG,oN⟩ aL (λj e=>⟨e▸Bo.1,uP j (.inl e)⟩),aL.heap LQ (by omega)⟩,FO.trans (aL.NR λj e=> .inr e)⟩
 ·rintro v' wz ⟨rfl,⟨Y,bS,wg,LS,LU,LV⟩|hF⟩
  ·refine⟨_,_,LS,by simp,λwy iO=>?_⟩;obtain⟨⟨txty,hy,Bh⟩,LW,FQ,FS⟩:=LU.own iO (λj e=>⟨e▸bS _ lu.1,uP j (.inl e)⟩);have zh:=iO.heap LV (by omega);have zy:=iO.size;rw[List.take_length] at hy;refine Ny$ qN O$ NP O (PA z8A O O O FQ (by simp)) ?_;rintro wx ⟨FT,i6⟩;have LX:=i6.heap zh (by omega);have gY:Kp (λk=>k=w6.heap.size) wx (S5 [.mk w6.heap.size] wx):=Pu wx w6.heap.size (.deferred none);have qP:=gY.ND FT (by omega);refine NB$ Vv (by simp) (WY LX) func74 (.cell1 U35 O O ((qP).cell _) .nil) ?_;have FU:∀j,X j->Y j:=λj hj=>bS _ (rq _ (fK j hj));have FJ:=hy.own i6 (λj e=>by rw[e];exact⟨bS _ (rq _ aY.2),by omega,by omega,by omega,by omega,by omega,by omega⟩);have oo:=FJ.own gY (λj e=>by rw[e];exact⟨bS _ lu.2,by omega,by omega,by omega,by omega,by omega,by omega⟩);have tr:UY G.g s.level s.xs v=(NS G.g v).foldl lessC xs2:=by unfold UY;rw[uO]
   rw[tr];refine⟨_,rfl,rfl,txty,(oo.less FU h.g.xk h.xr).more (by omega) (by omega),Bh,?_⟩;exact(FS.Nv i6 λb e=> .inl (by omega)).Nv gY λb e=> .inl (by omega)
  ·exact hF.elim
theorem z0R (g:List (List Nat))(L:Nat)(xs:List Nat)(v:Nat):(UY g L xs v).length=xs.length:=by
 unfold UY
 rw[Zl,List.length_set]
theorem z97 (g:List (List Nat))(L:Nat)(p:List Nat×Bool×Bool)(v:Nat):(Y1 g L p v).1.length=p.1.length:=by
 unfold Y1
 split
 ·split
  ·rfl
  ·split
   ·rfl
   ·exact z0R ..
 ·rfl
structure zi3 (G:GwP)(Q:Qn)(txt:Int->NH)(K:Nat)(X Y:Nat->Prop)(rr vb sv:Nat)(s:Sj)(br:Nat)(w:World)(ys:List Nat)(w':World):Prop where
 ex:∃txt',QR SB G Q txt' K Y rr vb sv (s.put ys) w'/\∀y:Int,y<(sv:Int)\/(sv:Int)+1<=y->txt' y=txt y
 br:NM w' br [ptr rr 0] 34
 k:Kp (λb=>¬X b) w w'
theorem z3K (h:QR SB G Q txt K X rr vb sv s w)(hK:K<=800000000000)(mY:s.level<=100000)(ht:s.t<=100000):Oa prog 39 [ptr rr 0] w λr w'=>r=I 0/\∃txt',QR SB G Q txt' (K+3200) X rr vb sv (s.step G.g) w'/\(∀y:Int,y<(sv:Int)\/(sv:Int)+1<=y->txt' y=txt y)/\Kp (λb=>¬X b\/b=rr) w w':=by
 have fS:=h.n
 have aA:s.xs.length=G.g.length:=h.len
 have aU:=h.g.lt1
 refine Nu (e:=[(0,_)]) func39 O ntmps39 O O$ qN O$ NK O O (PW O (cs:=[ptr rr 0]) O) ?_
 rintro _ w1 ⟨br,rfl,CX,ad,kJ⟩
 have z1:=ad.size
 have lbr:=kJ.lt
 obtain⟨X0,uN⟩:∃X0:Nat->Prop,(λj=>X j\/j=br)=X0:=⟨_,rfl⟩
 have fK:∀j,X j->X0 j:=λj hj=>by rw[<-uN];exact .inl hj
 have aY:X0 br:=by rw[<-uN];exact .inr O
 have h1:QR SB G Q txt K X0 rr vb sv s w1:=h.grow ad (λj hj=>by rw[<-uN] at hj;exact hj.imp id λe=>by omega) fK
 have LM:=aU rr (.inl h.xr.1)
 have rp:=h1.core
 refine NQ O$ qM O$ NQ O$ NQ O$ qM O$ qV (ymf (first:=[]) (caps:=[.tmp 1]) O O)$ NF O$ py$ qN O$ qV ((NJ U34 O O kJ O))$ O8 O$ NO z0l O$ qV ((NJ U29 O O rp O))$ NZ z7u O (VB h1.g) ?_
 rintro _ w1 ⟨rfl,rfl⟩
 refine Nz O$ NB$ Nw$ Qb (α:=Nat×(List Nat×Bool×Bool)) ((0,(s.xs,false,false))) (λy=>[(1,ptr br 0),(3,.bool y.2.2.1),(4,.bool y.2.2.2),(5,.func (.func 74) #[] #[ptr br 0]),(15,I (G.g.length:Int)),(16,I (y.1:Int))]) (λy w'=>y.1<=G.g.length/\y.2=(List.range y.1).foldl (Y1 G.g s.level) (s.xs,false,false)/\y.2.1.length=G.g.length/\zi3 G Q txt (K+64*y.1) X X0 rr vb sv s br w y.2.1 w') (λy=>G.g.length-y.1) ?hI ?hround
 case hI=>exact⟨Nat.zero_le _,rfl,aA,⟨⟨txt,h1,λy _=>rfl⟩,kJ,ad.kp⟩⟩
 case hround=>
  rintro⟨v,p⟩ w4 ⟨hv,hp,et,ky⟩ ih;dsimp only at hv hp et ky ih⊢;obtain⟨⟨txt4,h4,ng⟩,rt,ao⟩:=id ky;have uQ:NM w4 rr [I (s.t:Int),I (s.level:Int),.bool s.done,ptr G.k 0,ptr vb 0,.bool false] 99:=h4.core
  try dsimp only
  refine qN O$ Pb O O$ NB$ py$ NN O (λhq=>?_)$ λhq=>?_
  ·have fR:v<G.g.length:=by omega
   obtain⟨x,hx⟩:∃x,p.1[v]? =some x:=⟨_,List.getElem?_eq_getElem (by omega)⟩;have uR:=(h4.vec.zaO (xs:=p.1) hx).1;have eR:(List.range (v+1)).foldl (Y1 G.g s.level) (s.xs,false,false)=Y1 G.g s.level p v:=by rw[List.range_succ,List.foldl_append,<-hp];rfl
   have js:=z97 G.g s.level p v
   have eF:Y1 G.g s.level p v=if pl<=x then p else if s.level<x then(p.1,p.2.1,true) else(UY G.g s.level p.1 v,true,p.2.2):=by
    unfold Y1;rw[hx]
   refine An$ py$ Nw$ qN O$ Nz O$ NQ O$ qM O$ qV ((NJ U34 O O rt O))$ O8 O$ NO T4 O$ qV ((NJ U90 O O uQ O))$ Nz O$ NZ zbf O (XO h4.g.sp h4.g.lt1 h4.g.z1X h4.vec (.inl h4.xr.2) (i:=v) hx) ?_;rintro _ w5 ⟨rfl,gR,ai⟩;have h5:=h4.read ai gR;have iV:=ai.ND rt (λe=>e (.inl aY));have oS:NM w5 rr [I (s.t:Int),I (s.level:Int),.bool s.done,ptr G.k 0,ptr vb 0,.bool false] 99:=h5.core;have bX:Kp (λb=>¬X b) w w5:=ao.trans (ai.NR λb e e2=>e (.inl (fK b e2)));refine Nz O$ ON O O$ ON O O$ NQ O$ NF O$ Nw$ qN O$ Nz O$ P3 O O$ NF O$ It O$ qN O$ Nz O ?_;by_cases pT:2147483648<=x
   ·rw[if_pos pT] at eF;refine RN O O$ PE$ NF O$ NI O$ An$ Ny$ Ny$ NC O$ OI O O$ Nz O$ NB ?_;exact(ih (v+1,p) w5 ⟨by omega,by rw[eR,eF],et,⟨⟨txt4,h5.more (by omega) (by omega),ng⟩,iV,bX⟩⟩ (by omega)).qb
   ·rw[if_neg pT] at eF;refine RN O O$ Ox$ NF O$ It O$ qN O$ Nz O$ qV ((NJ U34 O O iV O))$ O8 O$ NO QT O$ NO Zq O$ qV ((NJ U3 O O oS O))$ qV ((OM O U3 Qe (by omega))) ?_;by_cases lT:s.level<x
    ·rw[if_pos lT] at eF;refine P9 O O$ PE$ NF O$ NI O$ NC O$ NF O$ Ny$ Ny$ NC O$ OI O O$ Nz O$ NB ?_;exact(ih (v+1,(p.1,p.2.1,true)) w5 ⟨by omega,by rw[eR,eF],et,⟨⟨txt4,h5.more (by omega) (by omega),ng⟩,iV,bX⟩⟩ (by omega)).qb
    ·rw[if_neg lT] at eF;refine P9 O O$ Ox$ NF O$ It O$ qN O$ NQ O$ qM O$ NT O O$ Pv O O (QH zhX O O) (z5i h5 (by omega) iV aY (by show s.level<=1000000;omega) fR) ?_;rintro _ w6 ⟨rfl,txt6,h6,HZ,aP⟩;refine NQ O$ qM O$ Nz O$ P3 O O$ NB$ It O$ An$ Ny$ Ny$ NC O$ OI O O$ Nz O$ NB ((ih (v+1,(UY G.g s.level p.1 v,true,p.2.2)) w6 ⟨by omega,by rw[eR,eF],by show(UY G.g s.level p.1 v).length=_;rw[z0R];exact et,⟨⟨txt6,?_,λy hy=>by rw[HZ y hy];exact ng y hy⟩,aP.ND iV (λe=>e aY),bX.trans (aP.NR λb e e2=>e (fK b e2))⟩⟩ (by omega)).qb);exact h6.more (by omega) (by omega)
  ·have fR:v=G.g.length:=by omega
   subst fR;have FW:p=z0i G.g s.level s.xs:=hp;refine NL O$ qN O$ qV ((NJ U34 O O rt O))$ O8 O$ NO QT O$ NO z2h O$ qV ((NJ U3 O O uQ O))$ OI O O$ O8 O$ NO QT O$ NO z2h O ?_;rw[show(s.t:Int)+1=((s.t+1:Nat):Int) by omega];refine NP O (PA OL O O O uQ (by simp)) ?_;rintro w5 ⟨aC,ai⟩;have h5:=h4.set (s':=⟨s.t+1,s.level,s.done,p.1⟩) ai (show NM w5 rr (SB.cs (⟨s.t+1,s.level,s.done,p.1⟩:Sj) G.k vb) SB.T from aC) O;have iV:=ai.ND rt (by omega);have bX:Kp (λb=>¬X b\/b=rr) w w5:=(ao.NR λb e=> .inl e).trans (ai.NR λb e=> .inr e);have oS:NM w5 rr [I ((s.t+1:Nat):Int),I (s.level:Int),.bool s.done,ptr G.k 0,ptr vb 0,.bool false] 99:=h5.core
   have gA:∀(L:Nat) (w6:World),L=(if p.2.1 then s.level else s.level+1)->QR SB G Q txt4 (K+64*G.g.length) X0 rr vb sv ⟨s.t+1,L,s.done,p.1⟩ w6->∀w7,NM w7 rr [I ((s.t+1:Nat):Int),I (L:Int),.bool (!p.2.2),ptr G.k 0,ptr vb 0,.bool false] 99->Kp (λb=>b=rr) w6 w7->QR SB G Q txt4 (K+3200) X rr vb sv (s.step G.g) w7:=λL w6 hL h6 w7 bj ax=>by
    have h7:=h6.set (s':=⟨s.t+1,L,!p.2.2,p.1⟩) ax (show NM w7 rr (SB.cs (⟨s.t+1,L,!p.2.2,p.1⟩:Sj) G.k vb) SB.T from bj) O
    have e:s.step G.g=⟨s.t+1,L,!p.2.2,p.1⟩:=by
     unfold Sj.step;rw[<-FW,hL]
    rw[e];exact(h7.less fK h.g.xk h.xr).more (by omega) (by omega)
   refine NB$ py$ qN O$ Nz O ?_
   cases hs:p.2.1 with
   | true =>
     rw[hs] at gA;refine qV ((Qr O)) ?_;rw[show(!true)=false from rfl];refine NB$ It O$ An$ qN O$ qV ((NJ U34 O O iV O))$ Nz O$ qV ((Qr O))$ O8 O$ NO QT O$ NO Wf O$ NP O (PA Tf O O O oS (by simp)) ?_;rintro w7 ⟨bj,ax⟩;refine qM O$ NF O$ Of.qb (e:=[(2,_)]) ?_;refine NA func39 O ?_
     exact⟨_,rfl,rfl,txt4,gA s.level _ O h5 _ bj ax,ng,bX.trans (ax.NR λb e=> .inr e)⟩
   | false =>
     rw[hs] at gA;refine qV ((Qr O)) ?_;rw[show(!false)=true from rfl];refine NB$ NI O$ NC O$ qV ((NJ U34 O O iV O))$ O8 O$ NO QT O$ NO Zq O$ qV ((NJ U3 O O oS O))$ OI O O$ O8 O$ NO QT O$ NO Zq O ?_;rw[show(s.level:Int)+1=((s.level+1:Nat):Int) by omega];refine NP O (PA OL O O O oS (by simp)) ?_;rintro w6 ⟨aR,aP⟩;have h6:=h5.set (s':=⟨s.t+1,s.level+1,s.done,p.1⟩) aP (show NM w6 rr (SB.cs (⟨s.t+1,s.level+1,s.done,p.1⟩:Sj) G.k vb) SB.T from aR) O;have FX:=aP.ND iV (by omega);have FY:NM w6 rr [I ((s.t+1:Nat):Int),I ((s.level+1:Nat):Int),.bool s.done,ptr G.k 0,ptr vb 0,.bool false] 99:=h6.core;refine NB$ Of.qb (e:=[(1,_),(4,_)]) ?_;refine qN O$ qV ((NJ U34 O O FX O))$ Nz O$ qV ((Qr O))$ O8 O$ NO QT O$ NO Wf O$ NP O (PA Tf O O O FY (by simp)) ?_;rintro w7 ⟨bj,ax⟩;refine qM O$ NF O$ NA func39 O ?_;exact⟨_,rfl,rfl,txt4,gA (s.level+1) _ O h6 _ bj ax,ng,(bX.trans (aP.NR λb e=> .inr e)).trans (ax.NR λb e=> .inr e)⟩
end
section
variable {G:GwP}{w w':World}{Q Q':Qn}{txt txt':Int->NH}{K K':Nat}{X Y S':Nat->Prop}{rr vb sv:Nat}{s s':Sj}
theorem z0b (h:QR SB G Q txt K X rr vb sv s w)(hK:K<=800000000000)(mY:s.level<=100000)(ht:s.t<=100000)(hd:s.done=false):Oa prog 9 [ptr rr 0] w λv w'=>v= .tuple #[.bool (s.step G.g).done,I 0]/\∃txt',QR SB G Q txt' (K+3200) X rr vb sv (s.step G.g) w'/\(∀y:Int,y<(sv:Int)\/(sv:Int)+1<=y->txt' y=txt y)/\Kp (λb=>¬X b\/b=rr) w w':=by
 have hB:=h.core
 rw[hd] at hB
 refine Nu (e:=[(0,_)]) func9 O ntmps9 O O$ qN O$ NQ O$ NF O$ py$ qN O$ Nz O$ NZ z2d O (SA h) ?_
 rintro _ w ⟨rfl,rfl⟩
 refine NQ O$ qM O$ Nz O$ P3 O O$ NB$ It O$ An$ py$ qN O$ Nz O$ O8 O$ NO QT O$ NO Wf O$ qV (NJ U4 O O hB O) ?_
 refine NB$ It O$ An$ py$ qN O$ Nz O$ NZ ziR O (z3K h hK mY ht) ?_
 rintro _ w1 ⟨rfl,txt1,h1,rW,aM⟩
 have aj:=h1.core
 refine NQ O$ qM O$ Nz O$ P3 O O$ NB$ It O$ An$ qN O$ Nz O$ O8 O$ NO QT O$ NO Wf O$ qV (NJ U4 O O aj O)$ NQ O ?_
 refine NF O$ NA func9 O ?_
 exact⟨_,rfl,rfl,txt1,h1,rW,aM⟩
theorem z2j (h:QR SB G Q txt K X rr vb sv s w)(hd:s.done=true):Oa prog 9 [ptr rr 0] w λv w'=>v= .tuple #[.bool false,I 5]/\w'=w:=by
 have hB:=h.core
 rw[hd] at hB
 refine Nu (e:=[(0,_)]) func9 O ntmps9 O O$ qN O$ NQ O$ NF O$ py$ qN O$ Nz O$ NZ z2d O (SA h) ?_
 rintro _ w ⟨rfl,rfl⟩
 refine NQ O$ qM O$ Nz O$ P3 O O$ NB$ It O$ An$ py$ qN O$ Nz O$ O8 O$ NO QT O$ NO Wf O$ qV (NJ U4 O O hB O) ?_
 refine NB$ NI O$ qN O$ NQ O$ NF O$ NA func9 O ?_
 exact⟨_,rfl,rfl,rfl⟩
def crT (s:Sj):NH:=Re 4 s.t++[if s.done then 1 else 0]++Re 4 s.level++Tt 4 s.xs
theorem ZF (h:QR SB G Q txt K X rr vb sv s w)(mY:s.level<=1000000)(ht:s.t<=1000000):Oa prog 16 [ptr rr 0] w λv w'=>v= .tuple #[S (crT s),I 0]/\QR SB G Q txt K X rr vb sv s w'/\Kp (λb=>¬(X b\/b=G.rb)) w w':=by
 have hB:=h.core
 have fS:=h.n
 have hl:s.xs.length=G.g.length:=h.len
 have ev:=O4 4 s.t
 have ff:=O4 4 s.level
 have js:=RM 4 s.xs
 refine Nu (e:=[(0,_)]) func16 O ntmps16 O O$ qN O$ NQ O$ NF O$ py$ qN O$ Nz O$ NZ z2d O (SA h) ?_
 rintro _ w ⟨rfl,rfl⟩
 refine NQ O$ qM O$ Nz O$ P3 O O$ NB$ It O$ An$ qN O$ Nz O$ O8 O$ NO T4 O$ qV (NJ U90 O O hB O)$ NZ ziO O (z43 h.g.sp h.g.lt1 h.g.z1X h.vec (.inl h.xr.2)) ?_
 rintro _ w1 ⟨rfl,j8,aM⟩
 have h1:=h.read aM j8
 have aj:=h1.core
 refine Nz O$ ON O O$ ON O O$ NQ O$ NF O$ py$ qN O$ Nz O$ P3 O O ?_
 have av:=Ext.NY w1
 obtain⟨xs,og⟩:∃xs,SB.xs s=xs:=⟨_,rfl⟩
 have FZ:(Tt 4 xs).length=xs.length*4:=RM 4 xs
 have H9:xs.length=G.g.length:=by rw[<-og];exact hl
 have LY:crT s=Re 4 s.t++[if s.done then 1 else 0]++Re 4 s.level++Tt 4 xs:=by rw[<-og];rfl
 rw[og]
 refine NB$ It O$ An$ py$ PK (λw'=>Ext w1 w') O$ NX 0 O O (av)$ NG 1 O (OQ O) av$ NG 2 O (Og QT O) av$ NG 3 O (Og z2h O) av$ qT 4 O (λ_ h=>NJ U3 O O (h.ND aj) O) av$ NX 6 O O (av)$ NG 7 O (OQ O) av$ NG 8 O (Og QT O) av$ NG 9 O (Og Wf O) av ?_
 refine qT 10 O (λ_ h=>NJ U4 O O (h.ND aj) O) av$ NX 13 O O (av)$ NG 14 O (OQ O) av$ NG 15 O (Og QT O) av$ NG 16 O (Og Zq O) av$ qT 17 O (λ_ h=>NJ U3 O O (h.ND aj) O) av$ NX 20 O O (av)$ Qv 5 O zhT O (z0g s.t (by omega) _) ?_
 rintro _ w2 ⟨rfl,ag⟩
 refine⟨av.trans ag,?_⟩
 have aa:=av.trans ag
 refine Qv 11 O ziX O (z5g s.done _) ?_
 rintro _ w3 ⟨rfl,rfl⟩
 refine⟨aa,?_⟩
 refine NG 12 O (S9 O O (by rw[ev];cases s.done<;>decide)) aa ?_
 refine Qv 18 O zhT O (z0g s.level (by omega) _) ?_
 rintro _ w4 ⟨rfl,aB⟩
 refine⟨aa.trans aB,?_⟩
 have af:=aa.trans aB
 refine NG 19 O (S9 O O (by rw[List.length_append,ev,ff];cases s.done<;>decide)) (aa.trans aB) ?_
 refine NG 21 O (S9 O O (by rw[List.length_append,List.length_append,ev,ff,FZ];cases s.done<;>simp<;>omega)) (aa.trans aB) ?_
 refine NG 22 O (PO O) (aa.trans aB)$ NG 23 O (PO O) (aa.trans aB)$ qE$ Of.qb (e:=[(2,_),(3,_)]) ?_
 refine NA func16 O ?_
 rw[LY]
 exact⟨_,rfl,rfl,h1.ext af,aM.trans af.kp⟩
def nB (t:NH):Nat:=Ol (O0 t)
def RJ (n:Nat)(t:NH):Option Sj:=if t.length=9+4*n/\nB (t.take 4)<=2*n+2/\(t.getD 4 0).toNat<=1/\nB ((t.drop 5).take 4)<=n+1 then some ⟨nB (t.take 4),nB ((t.drop 5).take 4),decide ((t.getD 4 0).toNat=1),Ro 4 n (t.drop 9)⟩ else none
theorem z3T {t:NH}{k:Nat}(h:t.length<=4):nB t<4294967296:=by
 have h1:=Pw (O0 t)
 rw[bitsT_length] at h1
 have h2:2^(8*t.length)<=2^32:=Nat.pow_le_pow_right (by decide) (by omega)
 show Ol (O0 t)<_
 omega
theorem Zh (h:QR SB G Q txt K X rr vb sv s w)(hK:K<=800000000000)(tx:NH):Oa prog 17 [ptr rr 0,S tx] w λv w'=>v=I (if(RJ G.g.length tx).isSome then 0 else 4)/\∃txt',QR SB G Q txt' (K+1) X rr vb sv ((RJ G.g.length tx).getD s) w'/\(∀y:Int,y<(sv:Int)\/(sv:Int)+1<=y->txt' y=txt y)/\Kp (λb=>¬X b\/b=rr) w w':=by
 have hB:=h.core
 have fS:=h.n
 have hl:s.xs.length=G.g.length:=h.len
 have Bc:QR SB G Q txt (K+1) X rr vb sv s w:=h.more (Nat.le_succ _) (by omega)
 refine Nu (e:=[(0,_),(1,_)]) func17 O ntmps17 O O$ qN O$ NF O$ py$ qN O$ Nz O$ NZ z2d O (SA h) ?_
 rintro _ w ⟨rfl,rfl⟩
 refine NQ O$ qM O$ Nz O$ P3 O O$ NB$ It O$ An$ qN O$ Nz O$ O8 O$ NO z0l O$ qV (NJ U29 O O hB O)$ NZ z7u O (VB h.g) ?_
 rintro _ w ⟨rfl,rfl⟩
 refine NF O$ py$ qN O$ Nz O$ qV (SG U9 O)$ Nz O$ qV (TT O O (by omega))$ OI O O ?_
 by_cases aA:tx.length=9+4*G.g.length
 ·refine P3 O O$ Ox ?_;have hg:=Ext.NY w;have kS:(tx.take 4).length=4:=by rw[List.length_take];omega
  have Ai:((tx.drop 5).take 4).length=4:=by rw[List.length_take,List.length_drop];omega
  have bN:=z3T (k:=0) (show(tx.take 4).length<=4 by omega);have bQ:=z3T (k:=0) (show((tx.drop 5).take 4).length<=4 by omega);have dF:=(tx.getD 4 0).toNat_lt;have gK:=λw1=>z19 (tx.take 4) (by omega) w1;have gL:=λw1=>z19 ((tx.drop 5).take 4) (by omega) w1;rw[show Ol (O0 (tx.take 4))=nB (tx.take 4) from rfl] at gK;rw[show Ol (O0 ((tx.drop 5).take 4))=nB ((tx.drop 5).take 4) from rfl] at gL
  have g9:∀(c:Prop) [Decidable c],c=(nB (tx.take 4)<=2*G.g.length+2/\(tx.getD 4 0).toNat<=1/\nB ((tx.drop 5).take 4)<=G.g.length+1)->RJ G.g.length tx=if c then some ⟨nB (tx.take 4),nB ((tx.drop 5).take 4),decide ((tx.getD 4 0).toNat=1),Ro 4 G.g.length (tx.drop 9)⟩ else none:=λc _ hc=>by
   unfold RJ;by_cases h1:c
   ·rw[if_pos h1,if_pos ⟨aA,hc▸h1⟩]
   ·rw[if_neg h1,if_neg (λe=>h1 (hc▸e.2))]
  obtain⟨N1,iS⟩:∃N1,nB (tx.take 4)=N1:=⟨_,rfl⟩;obtain⟨N2,G0⟩:∃N2,nB ((tx.drop 5).take 4)=N2:=⟨_,rfl⟩;obtain⟨N3,wo⟩:∃N3,(tx.getD 4 0).toNat=N3:=⟨_,rfl⟩;rw[iS] at gK bN g9;rw[G0] at gL bQ g9;rw[wo] at dF g9;refine NB$ It O$ An$ py$ PK (λw'=>Ext w w') O$ NX 0 O O (hg)$ NG 1 O (YA U9 O O (by omega)) hg$ NX 3 O O (hg)$ NG 4 O (z1Y U9 O O (by omega)) hg$ NX 5 O O (hg)$ NG 6 O (zdv U9 O O O (by omega)) hg$ Qv 2 O zgK O (gK _) ?_;rintro _ w1 ⟨rfl,ad⟩;refine⟨hg.trans ad,?_⟩;have av:=hg.trans ad;rw[wo];refine Qv 7 O zgK O (gL _) ?_;rintro _ w2 ⟨rfl,ag⟩;refine⟨av.trans ag,?_⟩;have aa:=av.trans ag;have am:=aa.ND hB;refine NG 8 O (PO O) (av.trans ag)$ NG 9 O (PO O) (av.trans ag)$ NG 10 O (PO O) (av.trans ag)$ qE$ Of.qb (e:=[(0,_),(1,_),(4,_),(6,_),(7,_),(8,_),(9,_)]) ?_;refine py$ qN O$ NT O O$ qV (TT O O (by omega))$ OI O O$ qV ((OM O U3 Qe (by omega))) ?_;by_cases hc:N1<=2*G.g.length+2/\N3<=1/\N2<=G.g.length+1
  ·have dp:=g9 _ O;rw[if_pos hc] at dp;rw[dp];obtain⟨c1,c2,c3⟩:=hc;refine P9 O O$ Ox$ NT O O$ P9 O O$ Ox$ OC O O$ NT O O$ Nz O$ OI O O$ qV ((OM O U3 Qe (by omega)))$ P9 O O$ Ox$ OC O O ?_;have ae:=Ext.NY w2;have dj:=aa.trans ae;have zZ:=z4W (h.ext dj).g.sp (h.ext dj).g.lt1 (by omega) (h.ext dj).vec (.inl h.xr.2) (s:=tx.drop 9) (by rw[List.length_drop];show _=s.xs.length*4;omega);rw[show TQ (SB.xs s).length (512 / 4)=1 by show TQ s.xs.length 128=1;rw[hl];unfold TQ;omega] at zZ;rw[show Ro 4 (SB.xs s).length (tx.drop 9)=Ro 4 G.g.length (tx.drop 9) by show Ro 4 s.xs.length _=_;rw[hl]] at zZ;refine NB$ It O$ An$ py$ py$ PK (λw'=>Kp (λb=>¬(X b\/b=G.rb)) w2 w') O$ NX 0 O O (ae.kp)$ NG 1 O (OQ O) (ae.kp)$ NG 2 O (Og T4 O) (ae.kp)$ qT 3 O (λ_ hS=>NJ U90 O O (hS.ND am (λe=>e (.inl h.xr.1))) O) (ae.kp)$ NX 4 O O (ae.kp)$ NG 5 O (UQ U9 O O (by omega)) (ae.kp)$ Qv 6 O zjl O (zZ) ?_;rintro _ w3 ⟨rfl,hW⟩;refine⟨ae.kp.trans hW.kpX,?_⟩;obtain⟨txt3,h3,F9,aw⟩:=(h.ext dj).wrote (s':=s.put (Ro 4 G.g.length (tx.drop 9))) (K':=K+1) (by omega) (λ_ _=>rfl) (by show(Ro 4 G.g.length _).length=s.xs.length;rw[Ux,hl]) hW;have ar:=h3.core;refine NG 7 O (PO O) (ae.kp.trans hW.kpX)$ qE$ Of.qb (e:=[(0,_),(4,_),(7,_),(8,_),(9,_),(10,_)]) ?_;refine qN O$ Nz O$ P3 O O$ NB$ It O$ An$ qN O$ NT O O$ qV (Ow O Qe U3 (by omega))$ Nz O$ qV (Ow O Qe U3 (by omega))$ Nz O$ Px O O ?_;rw[show decide ((N3:Int)=1)=decide (N3=1) from decide_eq_decide.2 (by omega)];refine qV (QP (cs:=[_,_,_]) zbi O zia O O)$ O8 O$ NO QT O$ NP O (OA (news:=[I (N1:Int),I (N2:Int),.bool (decide (N3=1))]) zbi O O O O ar (by simp)) ?_;rintro w4 ⟨aH,ao⟩;have h4:=h3.set (s':=⟨N1,N2,decide (N3=1),Ro 4 G.g.length (tx.drop 9)⟩) ao (show NM w4 rr (SB.cs (⟨N1,N2,decide (N3=1),Ro 4 G.g.length (tx.drop 9)⟩:Sj) G.k vb) SB.T from aH) O;refine qM O$ NF O$ NA func17 O ?_;exact⟨_,rfl,rfl,txt3,h4,F9,((dj.kp.trans aw).NR λb e=> .inl λe2=>e (.inl e2)).trans (ao.NR λb e=> .inr e)⟩
  ·have dp:=g9 _ O;rw[if_neg hc] at dp;rw[dp];have dA:QR SB G Q txt (K+1) X rr vb sv s w2/\Kp (λb=>¬X b\/b=rr) w w2:=⟨Bc.ext aa,aa.kp⟩;by_cases c1:N1<=2*G.g.length+2
   ·refine P9 O O$ Ox$ NT O O ?_;by_cases c2:N3<=1
    ·have c3:¬N2<=G.g.length+1:=λe=>hc ⟨c1,c2,e⟩;refine P9 O O$ Ox$ OC O O$ NT O O$ Nz O$ OI O O$ qV ((OM O U3 Qe (by omega)))$ P9 O O$ PE$ OC O O$ NB$ NI O$ qN O$ NF O ?_;refine NA func17 O ?_;exact⟨_,rfl,rfl,txt,dA.1,λ_ _=>rfl,dA.2⟩
    ·refine P9 O O$ PE$ OC O O$ Nz O$ qS$ qS$ qS$ qS$ qS$ Pc O O$ NB$ NI O$ qN O$ NF O ?_;refine NA func17 O ?_;exact⟨_,rfl,rfl,txt,dA.1,λ_ _=>rfl,dA.2⟩
   ·refine P9 O O$ PE$ Nz O$ qS$ qS$ Pc O O$ Nz O$ qS$ qS$ qS$ qS$ qS$ Pc O O$ NB ?_;refine NI O$ qN O$ NF O$ NA func17 O ?_;exact⟨_,rfl,rfl,txt,dA.1,λ_ _=>rfl,dA.2⟩
 ·have g9:RJ G.g.length tx=none:=by
   unfold RJ;rw[if_neg (λe=>aA e.1)]
  rw[g9];refine P3 O O$ PE$ NB$ NI O$ qN O$ NF O$ NA func17 O ?_;exact⟨_,rfl,rfl,txt,Bc,λ_ _=>rfl,Kp.refl _ _⟩
end
section
variable {G:GwP}{w w':World}{Q Q':Qn}{txt txt':Int->NH}{K K':Nat}{X Y S':Nat->Prop}{rr vb sv:Nat}{s s':Sj}
def ZH (s:Sj)(k:Nat):List Value:=[I (s.t:Int),I (s.level:Int),.bool s.done,ptr k 0,.pointer none,.bool true]
theorem Yv (h:QR SB G Q txt K X rr vb sv s w)(dc:2<=sv)(hc:Q.L[sv]? =some true):Oa prog 12 [ptr rr 0] w λv w'=>v=I 0/\∃txt',QL G (Q.P5 (Pf Q.L sv 1 false)) txt' K X w'/\NM w' rr (ZH s G.k) 99/\(∀y:Int,y<(sv:Int)\/(sv:Int)+1<=y->txt' y=txt y)/\Kp (λb=>¬X b\/b=rr\/b=vb) w w':=by
 have hB:=h.core
 have hd:=h.UA
 have cj:=h.vec.fit
 have fS:=h.n
 have hl:s.xs.length=G.g.length:=h.len
 have js:TQ (SB.xs s).length 128=1:=by
  show TQ s.xs.length 128=1;rw[hl];unfold TQ;omega
 obtain⟨n1,n2,n3,n4,n5,n6,n7,n8,n9⟩:=h.ne
 have dx:=z2S h.g.sp h.g.lt1 h.vec (.inl h.xr.2) dc (λi e1 e2=>by rw[show 512 / 4=128 from rfl,js] at e2;rw[show i=sv by omega];exact hc)
 rw[show 512 / 4=128 from rfl,js] at dx cj
 refine Nu (e:=[(0,_)]) func12 O ntmps12 O O$ qN O$ NF O$ py$ Nw$ qN O$ Nz O$ qV (OP U34 O O)$ NF O$ It O$ qN O$ Nz O$ O8 O$ NO T4 O ?_
 refine qV (NJ U90 O O hB O)$ qV (OP U90 O O)$ NF O$ It O$ An$ Ny$ py$ qN O$ Nz O$ O8 O$ NO T4 O$ qV (NJ U90 O O hB O)$ NZ zhV O (dx) ?_
 rintro _ w1 ⟨rfl,txt1,j8,rW,aM⟩
 have aj:=aM.ND hB (λe=>e.elim (λe=>e (.inl h.xr.1)) n1)
 refine NQ O$ qM O$ Nz O$ P3 O O$ NB$ It O$ An$ qN O$ NT O O$ O8 O$ NO T4 O$ NP O (PA zdQ O O O aj (by simp)) ?_
 rintro w2 ⟨am,aq⟩
 replace am:NM w2 rr [I (s.t:Int),I (s.level:Int),.bool s.done,ptr G.k 0,.pointer none,.bool false] 99:=am
 refine O8 O$ NO z5z O$ NP O (PA Tf O O O am (by simp)) ?_
 rintro w3 ⟨ar,aw⟩
 refine NB$ Of.qb (e:=[(2,_)]) ?_
 refine qN O$ NF O$ NA func12 O ?_
 have av:QL G (Q.P5 (Pf Q.L sv 1 false)) txt1 K X w1:=h.g.UX aM (λb e=>e.elim .inl (λe=> .inr (by rw[e];exact⟨h.xr.2,n6,n7,n8,n9⟩))) j8 O (PU cj) h.g.z1X (λy h1 h2=>rW y (.inl (by omega)))
 refine⟨_,rfl,rfl,txt1,(av.own aq (λj e=>by rw[e];exact⟨h.xr.1,n2,n3,n4,n5⟩)).own aw (λj e=>by rw[e];exact⟨h.xr.1,n2,n3,n4,n5⟩),ar,rW,?_⟩
 exact((aM.NR λb e=>e.elim (λe=> .inl λe2=>e (.inl e2)) (λe=> .inr (.inr e))).trans (aq.NR λb e=> .inr (.inl e))).trans (aw.NR λb e=> .inr (.inl e))
theorem XP (h:QL G Q txt K X w)(hK:K<=700000000000)(fS:G.g.length<=40){a:Nat}(hp:Pre Q.L a)(cj:a+1<=Q.L.length)(LZ:G.st+G.len<=a):Oa prog 8 [ptr Q.s 0,ptr G.k 0] w λv w'=>∃rr vb txt',v= .tuple #[ptr rr 0,I 0]/\w.heap.size<=rr/\w.heap.size<=vb/\QR SB G (Q.P5 (Pf Q.L a 1 true)) txt' (K+50) (λb=>X b\/b=rr\/b=vb) rr vb a (Sj.new G.g) w'/\(∀y:Int,y<(a:Int)\/(a:Int)+1<=y->txt' y=txt y)/\Kp (λb=>¬X b) w w':=by
 have ro:=h.ok.gr
 have uS:TQ G.g.length 128=1:=by
  unfold TQ;omega
 have fG:(Pf Q.L a 1 true).length=Q.L.length:=PU cj
 have I7:=z8z h.sp h.lt1 (by omega) hp G.g.length 4 (by omega) (by omega) (by rw[show 512 / 4=128 from rfl,uS];exact cj)
 rw[show 512 / 4=128 from rfl,uS] at I7
 refine Nu (e:=[(0,_),(1,_)]) func8 O ntmps8 O O$ qN O$ NQ O$ NF O$ py$ qN O$ Nz O$ qV (OP UM O O)$ NT O O$ qV (OP U29 O O)$ OC O O$ NB$ It O$ An ?_
 refine qN O$ NT O O$ NZ z7u O (VB h) ?_
 rintro _ w ⟨rfl,rfl⟩
 refine NZ ziM O (I7) ?_
 rintro _ w1 ⟨vb,txt1,rfl,dl,j8,fM,rW,aM⟩
 have z1:=aM.size
 have lv:=fM.lt
 have bS:∀j,X j->(X j\/j=vb):=λj hj=> .inl hj
 have av:QL G (Q.P5 (Pf Q.L a 1 true)) txt1 (K+1) (λb=>X b\/b=vb) w1:=h.zgb aM (λb e=>e) bS (λj hj=>hj.imp id λe=>by omega) (j8.less λb e=>by rcases e with(e|e)|e;exact .inl (.inl e);exact .inr e;exact .inl (.inr e)) O fG (by omega) (λy h1 h2=>rW y (.inl (by omega)))
 have gQ:(List.replicate G.g.length 0).length=G.g.length:=List.length_replicate
 refine Nz O$ ON O O$ ON O O$ NQ O$ NF O$ py$ qN O$ Nz O$ P3 O O$ NB$ It O$ An$ py$ qN O ?_
 refine Nz O$ NZ z7u O (VB av) ?_
 rintro _ w1 ⟨rfl,rfl⟩
 refine Nz O$ NB$ Nw$ Qb (α:=Nat×List Nat) ((0,List.replicate G.g.length 0)) (λy=>[(1,ptr G.k 0),(6,ptr vb 0),(28,I (G.g.length:Int)),(29,I (y.1:Int))]) (λy w'=>y.1<=G.g.length/\y.2.length=G.g.length/\(∀j,j<y.1->y.2[j]? =some (NS G.g j).length)/\(∃txt',QL G (Q.P5 (Pf Q.L a 1 true)) txt' (K+1+y.1) (λb=>X b\/b=vb) w'/\Wc (Q.P5 (Pf Q.L a 1 true)) txt' vb 4 a y.2 w'/\∀y:Int,y<(a:Int)\/(a:Int)+1<=y->txt' y=txt y)/\Kp (λb=>¬X b) w w'/\w1.heap.size<=w'.heap.size) (λy=>G.g.length-y.1) ?hI ?hround
 case hI=>exact⟨Nat.zero_le _,gQ,λj hj=>absurd hj (Nat.not_lt_zero _),⟨txt1,av,fM,rW⟩,aM.NR λb e e2=>e (.inl e2),Nat.le_refl _⟩
 case hround=>
  rintro⟨i,ys⟩ w2 ⟨hi,nw,AC,⟨txt2,aa,iz,o7⟩,aq,mO⟩ ih;dsimp only at hi nw AC aa iz ih⊢
  try dsimp only
  refine qN O$ Pb O O$ NB$ py$ NN O (λhq=>?_)$ λhq=>?_
  ·have aY:i<G.g.length:=by omega
   have fP:(NS G.g i).length<=G.g.length:=by
    unfold NS;rw[List.getElem?_eq_getElem aY];exact ro.len (List.getElem_mem aY)
   refine An$ py$ Nw$ qN O$ Nz O$ NQ O$ qM O$ NT O O$ NZ zj3 O (z8n aa aY) ?_;rintro _ w3 ⟨rfl,ae,aw⟩;have vF:=iz.kp aw (λe=>e (.inr O));have gU:=XC ae.sp ae.lt1 ae.z1X vF (.inl (.inr O)) (i:=i) (x:=(NS G.g i).length) (by rw[nw];exact aY) (by omega);refine Nz O$ ON O O$ ON O O$ NQ O$ NF O$ py$ qN O$ Nz O$ Px O O$ NB$ NI O$ NC O$ NT O O$ Nz O ?_;refine qV ((OM O U3 Qe (by omega)))$ NZ zdb O (gU) ?_;rintro _ w4 ⟨rfl,txt4,ji,nx,ng,ao⟩;rw[List.length_set,nw,show 512 / 4=128 from rfl,uS] at ng;have af:QL G (Q.P5 (Pf Q.L a 1 true)) txt4 (K+1+i+1) (λb=>X b\/b=vb) w4:=ae.UX ao (λb e=> .inl e) ji O O (by omega) (λy h1 h2=>ng y (.inl (by omega)));refine NQ O$ qM O$ Nz O$ P3 O O$ NB$ It O$ An$ Ny$ NC O$ OI O O$ Nz O$ NB ?_;have z3:=aw.size;have z4:=ao.size;refine(ih (i+1,ys.set i (NS G.g i).length) _ ⟨by omega,by show(ys.set i _).length=_;rw[List.length_set];exact nw,λj hj=>?_,⟨txt4,af,nx,λy hy=>by rw[ng y hy];exact o7 y hy⟩,(aq.trans (aw.NR λb e e2=>e (.inl e2))).trans (ao.NR λb e e2=>e (.inl (.inl e2))),by omega⟩ (by omega)).qb;show(ys.set i _)[j]? =_;by_cases e:i=j
   ·subst e;rw[List.getElem?_set_self (by omega)]
   ·rw[List.getElem?_set_ne e];have hj:j<i+1:=hj;exact AC j (by omega)
  ·have aY:i=G.g.length:=by omega
   subst aY
   have pG:ys=G.g.map List.length:=by
    apply List.ext_getElem?;intro j;by_cases hj:j<G.g.length
    ·rw[AC j hj,List.getElem?_map,List.getElem?_eq_getElem hj];unfold NS;rw[List.getElem?_eq_getElem hj];rfl
    ·rw[List.getElem?_eq_none (by omega),List.getElem?_eq_none (by rw[List.length_map];omega)]
   subst pG;have lt2:=aa.lt;have lv2:=lt2 vb (.inr O);refine NL O$ qN O$ NT O O$ qV (QP (cs:=[_,_,_,_,_,_]) ziN O zi1 O O)$ NK O O (PW O (cs:=[I 0,I 0,.bool false,ptr G.k 0,ptr vb 0,.bool false]) O) ?_;rintro _ w4 ⟨rr,rfl,lY,aB,aH⟩;refine NQ O$ NF O$ NA func8 O ?_;have lr:=aH.lt;have af:=aa.grow aB (Y:=λb=>X b\/b=rr\/b=vb) (λj hj=>by rcases hj with e|e|e;exact .inl (.inl e);exact .inr (by omega);exact .inl (.inr e)) (λj hj=>hj.elim .inl λe=> .inr (.inr e));have aU:=h.lt;have b1:=aU _ h.xk.1;have b2:=aU _ h.xk.2.1;have b3:=aU _ h.xk.2.2.1;have b4:=aU _ h.xk.2.2.2;refine⟨_,rfl,rr,vb,txt2,rfl,by omega,dl,⟨af.more (by omega) (by omega),aH,iz.ext aB,⟨.inr (.inl O),.inr (.inr O)⟩,⟨by omega,by omega,by omega,by omega,by omega,by omega,by omega,by omega,by omega⟩,LZ,nw,fS⟩,o7,aq.trans aB.kp⟩
theorem SR {k:Nat}(hB:NM w rr (ZH s k) 99):Oa prog 38 [ptr rr 0] w λv w'=>v=I 16/\w'=w:=by
 replace hB:NM w rr [I (s.t:Int),I (s.level:Int),.bool s.done,ptr k 0,.pointer none,.bool true] 99:=hB
 refine Nu (e:=[(0,_)]) func38 O ntmps38 O O$ qN O$ NF O$ py$ Nw$ qN O$ Nz O$ qV (OP U34 O O)$ NF O$ It O$ qN O$ Nz O$ O8 O$ NO z5z O ?_
 refine qV (NJ U4 O O hB O)$ NF O$ NI O$ qN O$ NF O$ NA func38 O ?_
 exact⟨_,rfl,rfl,rfl⟩
theorem z2k {k:Nat}(hB:NM w rr (ZH s k) 99):Oa prog 9 [ptr rr 0] w λv w'=>v= .tuple #[.bool false,I 16]/\w'=w:=by
 refine Nu (e:=[(0,_)]) func9 O ntmps9 O O$ qN O$ NQ O$ NF O$ py$ qN O$ Nz O$ NZ z2d O (SR hB) ?_
 rintro _ w ⟨rfl,rfl⟩
 refine NQ O$ qM O$ Nz O$ P3 O O$ NB$ NI O$ qN O$ Nz O$ NQ O$ NF O$ NA func9 O ?_
 exact⟨_,rfl,rfl,rfl⟩
theorem z2D {k:Nat}(hB:NM w rr (ZH s k) 99):Oa prog 16 [ptr rr 0] w λv w'=>v= .tuple #[S [],I 16]/\w'=w:=by
 refine Nu (e:=[(0,_)]) func16 O ntmps16 O O$ qN O$ NQ O$ NF O$ py$ qN O$ Nz O$ NZ z2d O (SR hB) ?_
 rintro _ w ⟨rfl,rfl⟩
 refine NQ O$ qM O$ Nz O$ P3 O O$ NB$ NI O$ qN O$ Nz O$ NQ O$ NF O$ NA func16 O ?_
 exact⟨_,rfl,rfl,rfl⟩
theorem z4Q {k:Nat}(hB:NM w rr (ZH s k) 99)(i:Int):Oa prog 10 [ptr rr 0,I i] w λv w'=>v= .tuple #[NW 0,I 16]/\w'=w:=by
 refine Nu (e:=[(0,_),(1,_)]) func10 O ntmps10 O O$ qN O$ NQ O$ NF O$ py$ qN O$ Nz O$ NZ z2d O (SR hB) ?_
 rintro _ w ⟨rfl,rfl⟩
 refine NQ O$ qM O$ Nz O$ P3 O O$ NB$ NI O$ qN O$ Nz O$ NQ O$ NF O$ NA func10 O ?_
 exact⟨_,rfl,rfl,rfl⟩
theorem z39 {k:Nat}(hB:NM w rr (ZH s k) 99)(tx:NH):Oa prog 17 [ptr rr 0,S tx] w λv w'=>v=I 16/\w'=w:=by
 refine Nu (e:=[(0,_),(1,_)]) func17 O ntmps17 O O$ qN O$ NF O$ py$ qN O$ Nz O$ NZ z2d O (SR hB) ?_
 rintro _ w ⟨rfl,rfl⟩
 refine NQ O$ qM O$ Nz O$ P3 O O$ NB$ NI O$ qN O$ Nz O$ NF O$ NA func17 O ?_
 exact⟨_,rfl,rfl,rfl⟩
theorem z1r {k:Nat}(hB:NM w rr (ZH s k) 99):Oa prog 12 [ptr rr 0] w λv w'=>v=I 16/\w'=w:=by
 replace hB:NM w rr [I (s.t:Int),I (s.level:Int),.bool s.done,ptr k 0,.pointer none,.bool true] 99:=hB
 refine Nu (e:=[(0,_)]) func12 O ntmps12 O O$ qN O$ NF O$ py$ Nw$ qN O$ Nz O$ qV (OP U34 O O)$ NF O$ It O$ qN O$ Nz O$ O8 O$ NO T4 O ?_
 refine qV (NJ U90 O O hB O)$ qV (OP U90 O O)$ NF O$ NI O$ qN O$ NF O$ NA func12 O ?_
 exact⟨_,rfl,rfl,rfl⟩
theorem z1N (h:QL G Q txt K X w)(hB:NM w rr (ZH s G.k) 99):Oa prog 22 [ptr rr 0] w λv w'=>v=I (G.g.length:Int)/\w'=w:=by
 replace hB:NM w rr [I (s.t:Int),I (s.level:Int),.bool s.done,ptr G.k 0,.pointer none,.bool true] 99:=hB
 refine Nu (e:=[(0,_)]) func22 O ntmps22 O O$ qN O$ NF O$ py$ qN O$ Nz O$ qV (OP U34 O O)$ NB$ It O$ An$ qN O$ Nz O$ O8 O$ NO z0l O ?_
 refine qV (NJ U29 O O hB O)$ NZ z7u O (VB h) ?_
 rintro _ w ⟨rfl,rfl⟩
 refine NF O$ NA func22 O ?_
 exact⟨_,rfl,rfl,rfl⟩
end
theorem Sz (n:Nat)(hn:n<4294967296)(w:World):Oa prog 82 [Oe n] w λv w'=>v=S (Re 4 n)/\Ext w w':=by
 have hb:(Re 4 n).map Rq=[Value.int .u8 ((n / 16777216%256:Nat):Int),Value.int .u8 ((n / 65536%256:Nat):Int),Value.int .u8 ((n / 256%256:Nat):Int),Value.int .u8 ((n%256:Nat):Int)]:=by
  simp[Re,Rq,List.range_succ]
 refine Nu (e:=[(0,_)]) func82 O ntmps82 O O$ qN O$ NQ O$ qM O$ Nz O$ qV (RS 24 16777216 O O (by decide) O)$ qV (YS O OX U5)$ Nz O$ qV (RS 16 65536 O O (by decide) O)$ qV (YS O OX U5)$ Nz O$ qV (RS 8 256 O O (by decide) O)$ qV (YS O OX U5)$ Nz O ?_
 refine qV (YS O OX U5)$ NK O O (Ur (cs:=[_,_,_,_]) (zs:=[Value.int .u8 0,Value.int .u8 0,Value.int .u8 0,Value.int .u8 0]) P8 VO O (by kernel_rfl) O O O (by decide)) ?_
 rintro _ w1 ⟨b1,rfl,⟨bN,ad,aj⟩,-⟩
 have fx:NM w1 b1 ((Re 4 n).map Rq) 5:=by
  rw[hb];exact aj
 refine qV (z2Z (l:=Re 4 n) P8 U5 U9 O fx (by rw[List.drop_zero];exact List.take_of_length_le (by rw[List.length_map,O4];omega)) (O4 _ _)) ?_
 refine NF O$ NA func82 O ?_
 exact⟨_,rfl,rfl,ad⟩
theorem zdk {l:NH}(h:4<=l.length):nB (l.take 4)=Sums.num l:=by
 match l,h with
 | a :: b :: c :: d :: l, _ =>
   have h0:=Sy (s:=a::b::c::d::l) (i:=0) (c:=a) O;have h1:=Sy (s:=a::b::c::d::l) (i:=1) (c:=b) O;have h2:=Sy (s:=a::b::c::d::l) (i:=2) (c:=c) O;have h3:=Sy (s:=a::b::c::d::l) (i:=3) (c:=d) O;have hz:Ol (O0 (List.take 0 (a::b::c::d::l)))=0:=rfl;show Ol (O0 (List.take (3+1) (a::b::c::d::l)))=_;rw[h3,h2,h1,h0,hz];show(((0*256+a.toNat)*256+b.toNat)*256+c.toNat)*256+d.toNat=a.toNat*16777216+b.toNat*65536+c.toNat*256+d.toNat;omega
theorem XI (l:NH)(w:World)(h:4<=l.length):Oa prog 83 [S l] w λv w'=>v=Oe (nB (l.take 4))/\Ext w w':=by
 have h0:=(l.getD 0 0).toNat_lt
 have h1:=(l.getD 1 0).toNat_lt
 have h2:=(l.getD 2 0).toNat_lt
 have h3:=(l.getD 3 0).toNat_lt
 obtain⟨e1,e2,e3⟩:=or3 _ _ _ _ h0 h1 h2 h3
 rw[zdk h]
 refine Nu (e:=[(0,_)]) func83 O ntmps83 O O ?_
 rw[e1] at e2 e3
 rw[e2] at e3
 refine qN O$ NF O$ py$ PK (λ_=>True) O$ NX 0 O O (trivial)$ NG 1 O (z1Y U9 O O (by omega)) trivial$ NG 2 O ((z0x O U5 OX (by decide))) trivial$ NG 3 O (z8Z 24 16777216 O O (by decide) O) trivial$ NX 4 O O (trivial)$ NG 5 O (z1Y U9 O O (by omega)) trivial$ NG 6 O ((z0x O U5 OX (by decide))) trivial$ NG 7 O (z8Z 16 65536 O O (by decide) O) trivial$ NX 9 O O (trivial)$ NG 10 O (z1Y U9 O O (by omega)) trivial ?_
 refine NG 11 O ((z0x O U5 OX (by decide))) trivial$ NG 12 O (z8Z 8 256 O O (by decide) O) trivial$ NX 14 O O (trivial)$ NG 15 O (z1Y U9 O O (by omega)) trivial$ NG 16 O ((z0x O U5 OX (by decide))) trivial ?_
 rw[Nat.mod_eq_of_lt (show(l.getD 0 0).toNat*16777216<4294967296 by omega),Nat.mod_eq_of_lt (show(l.getD 1 0).toNat*65536<4294967296 by omega),Nat.mod_eq_of_lt (show(l.getD 2 0).toNat*256<4294967296 by omega)]
 refine NG 8 O (z8D O O (by omega) (by omega)) trivial ?_
 rw[e1]
 refine NG 13 O (z8D O O (by omega) (by omega)) trivial ?_
 rw[e2]
 refine NG 17 O (z8D O O (by omega) (by omega)) trivial ?_
 rw[e3]
 refine NG 18 O (PO O) trivial$ qE$ NA func83 O ?_
 exact⟨_,rfl,rfl,Ext.NY w⟩
structure TM (B:Nat)(GS:Value)(n mb vb cap:Nat)(s:Sj)(cl:Bool)(w:World):Prop where
 run:NM w mb [GS,.slice (some ⟨vb,0,none⟩) n cap,I (s.level:Int),I (s.t:Int),.bool s.done,.bool cl] 66
 vec:∃rest,NM w vb (s.xs.map Oe++rest) 46
 len:s.xs.length=n
 lt:∀x∈s.xs,x<4294967296
 ne:mb≠vb
 lo:B<=mb/\B<=vb
section
variable {B n mb vb cap:Nat}{GS:Value}{s s':Sj}{cl:Bool}{w w':World}{S':Nat->Prop}
theorem TM.kp (h:TM B GS n mb vb cap s cl w)(hk:Kp S' w w')(hS:¬S' mb/\¬S' vb):TM B GS n mb vb cap s cl w':=by
 obtain⟨r,hr⟩:=h.vec
 exact⟨hk.ND h.run hS.1,⟨r,hk.ND hr hS.2⟩,h.len,h.lt,h.ne,h.lo⟩
theorem TM.ext (h:TM B GS n mb vb cap s cl w)(hx:Ext w w'):TM B GS n mb vb cap s cl w':=h.kp (S':=λ_=>False) hx ⟨id,id⟩
theorem TM.lts (h:TM B GS n mb vb cap s cl w):mb<w.heap.size/\vb<w.heap.size:=by
 obtain⟨r,hr⟩:=h.vec
 exact⟨h.run.lt,hr.lt⟩
theorem TM.cell (h:TM B GS n mb vb cap s cl w){v x:Nat}(hx:s.xs[v]? =some x):w.cell? ⟨vb,0+v*1,none⟩=some (Oe x):=by
 obtain⟨r,hr⟩:=h.vec
 have hv:v<s.xs.length:=by
  rcases Nat.lt_or_ge v s.xs.length with h| h
  ·exact h
  ·rw[List.getElem?_eq_none h] at hx;cases hx
 rw[hr.cell,Nat.zero_add,Nat.mul_one,List.getElem?_append_left (by rw[List.length_map];exact hv),List.getElem?_map,hx];rfl
theorem TM.put (h:TM B GS n mb vb cap s cl w){v y:Nat}(hv:v<n)(hy:y<4294967296)(hk:Kp (λb=>b=vb) w w')(hB:∀cs,NM w vb cs 46->NM w' vb (cs.set (0+v*1) (Oe y)) 46):TM B GS n mb vb cap (s.put (s.xs.set v y)) cl w':=by
 obtain⟨r,hr⟩:=h.vec
 have hl:=h.len
 have hb:=hB _ hr
 rw[Nat.zero_add,Nat.mul_one,List.set_append_left _ _ (by rw[List.length_map,hl];exact hv),<-List.map_set] at hb
 refine⟨hk.ND h.run h.ne,⟨r,hb⟩,by show(s.xs.set v y).length=n;rw[List.length_set];exact hl,λx hx=>?_,h.ne,h.lo⟩
 rcases List.mem_or_eq_of_mem_set (show x∈s.xs.set v y from hx) with e| e
 ·exact h.lt x e
 ·rw[e];exact hy
end
theorem z1m {g:List (List Nat)}(ay:QQ g)(av:1<=g.length){w:World}{gb go gc:Nat}(hg:GrR w gb go g):Oa prog 19 [.slice (some ⟨gb,go,none⟩) g.length gc] w λv w'=>∃mb vb cap,v=ptr mb 0/\TM w.heap.size (.slice (some ⟨gb,go,none⟩) g.length gc) g.length mb vb cap (Sj.new g) false w'/\Ext w w':=by
 have eJ:maxLen=9223372036854775807:=rfl
 have hn:=ay.n
 refine Nu (e:=[(0,_)]) func19 O ntmps19 O O$ qN O$ NQ O$ qM O$ Nz O$ qV (QP (cs:=[_,_,_,_,_,_]) zin O ziq O O)$ NK O O (PW O (cs:=[.slice (some ⟨gb,go,none⟩) g.length gc,.slice none 0 0,I 0,I 0,.bool false,.bool false]) O) ?_
 rintro _ w1 ⟨mb,rfl,GL,ad,aj⟩
 have lmb:=aj.lt
 refine NF O$ py$ qN O$ NF O$ Nw$ Qb (α:=Nat×Value) ((0,.slice none 0 0)) (λy=>[(0,.slice (some ⟨gb,go,none⟩) g.length gc),(3,ptr mb 0),(4,I (y.1:Int))]) (λy w'=>y.1<=g.length/\NM w' mb [.slice (some ⟨gb,go,none⟩) g.length gc,y.2,I 0,I 0,.bool false,.bool false] 66/\Sl w' y.2 46 1 y.1 (((List.range y.1).map λu=>(NS g u).length).map Oe)/\(∀b,y.2.ownBlock=some b->w.heap.size<=b/\b≠mb)/\Ext w w') (λy=>g.length-y.1) ?hI ?hround
 case hI=>exact⟨Nat.zero_le _,aj,Sl.nil _ _ _,λb hb=>(by cases hb),ad⟩
 case hround=>
  rintro⟨i,v⟩ w2 ⟨hi,am,cm,jP,ag⟩ ih;dsimp only at hi am cm jP ih⊢;have aa:=Ext.NY w2
  try dsimp only
  refine py$ qN O$ NT O O$ Q0 SH O$ Pb O O$ NB$ NN O (λhq=>?_)$ λhq=>?_
  ·have aY:i<g.length:=by omega
   have dL:g[i]? =some (NS g i):=by unfold NS;rw[List.getElem?_eq_getElem aY];rfl
   have fP:(NS g i).length<=g.length:=ay.len (List.mem_of_getElem? dL);obtain⟨a,c,dH,-⟩:=hg i _ dL;have z2:=ag.size;have mF:∀{w':World},Kp (λb=>v.ownBlock=some b) w2 w'->Ext w w':=λhk=>ag.Nv hk (λb e=>(jP b e).1);refine An$ py$ Nw$ O3 [15] (λw'=>Kp (λb=>v.ownBlock=some b) w2 w') (by kernel_rfl) O$ qL [13,14,15] 0 O (λ_ h=>Oq O) (aa.kp)$ qL [2,3,4,12,13,14,15] 1 O (λ_ h=>Oq O) (aa.kp)$ qL [3,4,12,13,14,15] 2 O (λ_ h=>OQ O) (aa.kp)$ qL [4,12,13,14,15] 3 O (λ_ h=>Og SE O) (aa.kp)$ qL [12,13,14,15] 4 O (λ_ hS=>NJ Ob O O (hS.ND am (λe=>(jP _ e).2 O)) O) (aa.kp)$ qL [7,8,9,10,11,12,13,14,15] 5 O (λ_ h=>Oq O) (aa.kp)$ qL [7,8,9,10,11,12,13,14,15] 6 O (λ_ h=>Oq O) (aa.kp)$ qL [8,9,10,11,12,13,14,15] 7 O (λ_ h=>OH SH QC O O (by omega)) (aa.kp)$ qL [9,10,11,12,13,14,15] 8 O (λ_ h=>Oi Ob O O (Oz (mF h) dH)) (aa.kp)$ qL [10,11,12,13,14,15] 9 O (λ_ h=>R7 Ob O) (aa.kp) ?_;refine qL [11,12,13,14,15] 10 O (λ_ h=>SJ O U3 OX) (aa.kp) ?_;rw[Nat.mod_eq_of_lt (show(NS g i).length<4294967296 by omega)];refine PC (i:=11) (by kernel_rfl)$ P4 (i:=11) O O O (Ur (cs:=[_]) (zs:=[Value.int .u32 0]) Ob NV O (by kernel_rfl) O O O (by decide)) ?_;rintro _ w3 ⟨b3,rfl,⟨dF,ah,ar⟩,cz⟩;refine⟨aa.kp.trans ah.kp,?_⟩;have cD:=aa.trans ah;refine PC (i:=12) (by kernel_rfl)$ P4 (i:=12) O O O (pap Ob NV O (by decide) O O (cm.ext cD) cz.rd (λc hc=>by obtain⟨z,-,rfl⟩:=List.mem_map.1 (show c∈[(NS g i).length].map Oe from hc);rfl) (by omega) (by omega)) ?_;rintro v5 w5 ⟨fE,ai,nO,-⟩;refine⟨cD.kp.trans ai,?_⟩;have pI:Kp (λb=>v.ownBlock=some b) w2 w5:=cD.kp.trans ai;have z23:=cD.size;have aC:=pI.ND am (λe=>(jP _ e).2 O);refine qL [14,15] 13 O (λ_ h=>OQ O) (cD.kp.trans ai)$ qL [15] 14 O (λ_ h=>Og SE O) (cD.kp.trans ai)$ Rs [15]$ qO 15$ Ou (i:=15) O O (PA QC O O (Uq fE) aC (by simp)) ?_;rintro w6 ⟨aR,aP⟩;refine⟨trivial,?_⟩
   have AL:∀b,v5.ownBlock=some b->w.heap.size<=b/\b≠mb:=λb hb=>by
    rcases nO b hb with e| e
    ·exact jP b e
    ·have:=am.lt;omega
   refine qE$ Ny$ NC O$ Nz O$ OI O O$ NF O ((ih (i+1,v5) _ ⟨by show i+1<=g.length;omega,aR,?_,AL,(mF pI).Nv aP (λb e=>by omega)⟩ (by show g.length-(i+1)<g.length-i;omega)).qb);have:=fE.kp aP (λb hb e=>(AL b hb).2 e);show Sl w6 v5 _ 1 (i+1) _;rw[List.range_succ,List.map_append,List.map_append];exact this
  ·have aY:i=g.length:=by omega
   subst aY
   have og:((List.range g.length).map λu=>(NS g u).length)=(Sj.new g).xs:=by
    show _=g.map List.length;apply List.ext_getElem?;intro j;by_cases hj:j<g.length
    ·rw[List.getElem?_map,List.getElem?_range hj,List.getElem?_map,List.getElem?_eq_getElem hj];show some (NS g j).length=_;unfold NS;rw[List.getElem?_eq_getElem hj];rfl
    ·rw[List.getElem?_eq_none (by simp;omega),List.getElem?_eq_none (by rw[List.length_map];omega)]
   rw[og] at cm;refine NL O$ qN O$ Nz O$ NF O$ NA func19 O ?_;rcases cm.shape with⟨-,e⟩|⟨vb,cap,rfl,ja⟩
   ·omega
   obtain⟨cur,h1,-,-,h4,h5⟩:=cm.row;obtain⟨o1,o2⟩:=jP vb O;have aA:(Sj.new g).xs.length=g.length:=by show(g.map List.length).length=_;rw[List.length_map]
   refine⟨_,rfl,mb,vb,cap,rfl,⟨am,⟨cur.drop (g.length*1),?_⟩,aA,λx hx=>?_,λe=>o2 e.symm,⟨by omega,o1⟩⟩,ag⟩
   ·rw[<-h5,List.take_append_drop];exact h1.ND
   ·obtain⟨l,hl,rfl⟩:=List.mem_map.1 (show x∈g.map List.length from hx);have:=ay.len hl;omega
section
variable {B mb vb cap:Nat}{GS:Value}{s s':Sj}{cl:Bool}{w w':World}{g:List (List Nat)}{ga:Option Addr}{gc:Nat}
theorem z8m (h:TM B (.slice ga g.length gc) g.length mb vb cap s false w)(i:Int):Oa prog 50 [ptr mb 0,I i] w λv w'=>v=XT s i/\w'=w:=by
 have hB:=h.run
 have hl:=h.len
 refine Nu (e:=[(0,_),(1,_)]) func50 O ntmps50 O O ?_
 by_cases hd:s.done=false
 ·rw[hd] at hB;refine qN O$ NQ O$ NF O$ py$ qN O$ Nz O$ O8 O$ NO QI O$ qV (NJ U4 O O hB O)$ NT O O$ O8 O$ NO Ta O$ qV (NJ U4 O O hB O)$ qV ((Qr O)) ?_;refine OC O O$ NB$ NI O$ qN O$ NQ O$ NF O$ NA func50 O ?_;unfold XT;rw[if_pos hd];exact⟨_,rfl,rfl,rfl⟩
 ·have wm:s.done=true:=by simpa using hd
  rw[wm] at hB;refine qN O$ NQ O$ NF O$ py$ qN O$ Nz O$ O8 O$ NO QI O$ qV (NJ U4 O O hB O)$ NT O O$ O8 O$ NO Ta O$ qV (NJ U4 O O hB O)$ qV ((Qr O)) ?_;refine OC O O$ NB$ It O$ An$ py$ qN O$ Nz O ?_;by_cases h0:i<0
  ·refine Pb O O$ PE$ Nz O$ qS$ qS$ qS$ qS$ qS$ qS$ qS$ Pc O O$ NB$ Of.qb (e:=[(0,_),(1,_),(4,_),(5,_),(27,_)]) ?_;refine NI O$ qN O$ NQ O$ NF O$ NA func50 O ?_;unfold XT;rw[if_neg hd,if_pos (.inl h0)];exact⟨_,rfl,rfl,rfl⟩
  ·refine Pb O O$ Ox$ NT O O$ Nz O$ O8 O$ NO Wl O$ qV (NJ SH O O hB O)$ Q0 SH O ?_;by_cases h1:(s.xs.length:Int)<=i
   ·refine RN O O$ PE$ OC O O$ NB$ Of.qb (e:=[(0,_),(1,_),(4,_),(5,_),(27,_)]) ?_;refine NI O$ qN O$ NQ O$ NF O$ NA func50 O ?_;unfold XT;rw[if_neg hd,if_pos (.inr h1)];exact⟨_,rfl,rfl,rfl⟩
   ·obtain⟨n,rfl⟩:∃n:Nat,i=(n:Int):=⟨i.toNat,by omega⟩;obtain⟨x,hx⟩:∃x,s.xs[n]? =some x:=⟨_,List.getElem?_eq_getElem (by omega)⟩;have fF:=h.lt x (List.mem_of_getElem? hx);refine RN O O$ Ox$ OC O O$ NB$ Of.qb (e:=[(0,_),(1,_),(4,_),(5,_),(27,_)]) ?_;refine It O$ An$ qN O$ Nz O$ O8 O$ NO SE O$ qV (NJ Ob O O hB O)$ Nz O$ qV (OH Ob NV O O (by omega))$ qV (Oi OX O O (h.cell hx))$ qV (zi7 (n:=2147483648) O O (by decide))$ qV (OM O OX Qe (by omega))$ NQ O$ NF O ?_;refine NA func50 O ?_;unfold XT;rw[if_neg hd,if_neg (by omega),show((n:Int)).toNat=n by omega,hx];exact⟨_,rfl,rfl,rfl⟩
theorem z4P (h:TM B GS g.length mb vb cap s true w)(i:Int):Oa prog 50 [ptr mb 0,I i] w λv w'=>v= .tuple #[NW 0,I 16]/\w'=w:=by
 have hB:=h.run
 refine Nu (e:=[(0,_),(1,_)]) func50 O ntmps50 O O$ qN O$ NQ O$ NF O$ py$ qN O$ Nz O$ O8 O$ NO QI O$ qV (NJ U4 O O hB O)$ Nz O$ qS$ qS$ qS ?_
 refine qS$ qS$ Pc O O$ NB$ NI O$ qN O$ NQ O$ NF O$ NA func50 O ?_
 exact⟨_,rfl,rfl,rfl⟩
end
section
variable {B mb vb cap:Nat}{GS:Value}{s s':Sj}{cl:Bool}{w0 w w':World}{g:List (List Nat)}{gb go gc:Nat}
theorem z4B (ay : QQ g)(mG : GrR w0 gb go g)(iv : w0.heap.size <= B)(j5 : Ext w0 w)(h : TM B (.slice (some ⟨gb, go, none⟩) g.length gc) g.length mb vb cap s false w)(hd : s.done = false)(mY : s.level <= 100000)(ht : s.t <= 100000) : Oa prog 49 [ptr mb 0] w λv w' => v = .tuple #[.bool (s.step g).done, I 0] /\ TM B (.slice (some ⟨gb, go, none⟩) g.length gc) g.length mb vb cap (s.step g) false w' /\ Kp (λb => b = mb \/ b = vb) w w' := by
 have hn:=ay.n
 have g9:=h.lo
 have bD:=h.ne
 have hB:=h.run
 rw[hd] at hB
 have G4:∀{w':World},Kp (λb=>b=vb) w w'->Ext w0 w':=λhk=>j5.Nv hk λb e=>by omega
 refine Nu (e:=[(0,_)]) func49 O ntmps49 O O$ qN O$ NQ O$ NF O$ py$ qN O$ Nz O$ O8 O$ NO QI O$ qV (NJ U4 O O hB O)$ NB$ It O$ An$ py ?_
 refine qN O$ Nz O$ O8 O$ NO Ta O$ qV (NJ U4 O O hB O)$ NB$ It O$ An$ qN O$ NQ O$ qM O$ NF O$ py$ qN O ?_
 refine NF O$ Nw$ Qb (α:=Nat×(List Nat×Bool×Bool)) ((0,(s.xs,false,false))) (λy=>[(0,ptr mb 0),(4,.bool y.2.2.1),(5,.bool y.2.2.2),(6,I (y.1:Int))]) (λy w'=>y.1<=g.length/\y.2=(List.range y.1).foldl (Y1 g s.level) (s.xs,false,false)/\y.2.1.length=g.length/\TM B (.slice (some ⟨gb,go,none⟩) g.length gc) g.length mb vb cap (s.put y.2.1) false w'/\Kp (λb=>b=vb) w w') (λy=>g.length-y.1) ?hI ?hround
 case hI=>exact⟨Nat.zero_le _,rfl,h.len,h,Kp.refl _ _⟩
 case hround =>
  rintro⟨v,p⟩ w4 ⟨hv,hp,et,dz,ao⟩ ih;dsimp only at hv hp et dz ih⊢;have aH:NM w4 mb [.slice (some ⟨gb,go,none⟩) g.length gc,.slice (some ⟨vb,0,none⟩) g.length cap,I (s.level:Int),I (s.t:Int),.bool s.done,.bool false] 66:=dz.run;have af:=Ext.NY w4;have l4:=dz.lts
  try dsimp only
  refine py$ qN O$ NT O O$ O8 O$ NO Wl O$ qV (NJ SH O O aH O)$ Q0 SH O$ Pb O O$ NB$ NN O (λhq=>?_)$ λhq=>?_
  ·have fR : v < g.length := by omega
   obtain⟨x,hx⟩:∃x,p.1[v]? =some x:=⟨_,List.getElem?_eq_getElem (by omega)⟩;have uR:=dz.lt x (List.mem_of_getElem? (show(s.put p.1).xs[v]? =some x from hx));have na:=dz.cell (v:=v) (x:=x) hx;have eR:(List.range (v+1)).foldl (Y1 g s.level) (s.xs,false,false)=Y1 g s.level p v:=by rw[List.range_succ,List.foldl_append,<-hp];rfl
   have eF:Y1 g s.level p v=if pl<=x then p else if s.level<x then(p.1,p.2.1,true) else(UY g s.level p.1 v,true,p.2.2):=by
    unfold Y1;rw[hx]
   refine An$ py$ Nw$ py$ qN O$ Nz O$ O8 O$ NO SE O$ qV (NJ Ob O O aH O)$ Nz O$ qV (OH Ob NV O O (by omega))$ qV (Oi OX O O na) ?_;by_cases pT:2147483648<=x
   ·rw[if_pos pT] at eF;refine RN O O$ PE$ NB$ NI O$ NL O$ NC O$ Nz O$ OI O O$ NF O ?_;exact(ih (v+1,p) w4 ⟨by omega,by rw[eR,eF],et,dz,ao⟩ (by omega)).qb
   ·rw [if_neg pT] at eF; refine RN O O (Ox (NB (It O (An (py (py (PK (λw' => Ext w4 w') O (NX 0 O O (af) (NG 1 O (OQ O) af (NG 2 O (Og SE O) af (qT 3 O (λ_ h=>NJ Ob O O (h.ND aH) O) af (NX 4 O O (af) (NG 5 O (OH Ob NV O O (by omega)) af ?_))))))))))))); refine NX 7 O O (af) (NG 8 O (OQ O) af (NG 9 O (Og Wx O) af (qT 10 O (λ_ h=>NJ U3 O O (h.ND aH) O) af (NG 11 O (SJ O U3 OX) af (qT 6 O (λ_ h=>Oi OX O O (Oz h na)) af ?_))))); rw [Nat.mod_eq_of_lt (show s.level < 4294967296 by omega)]; by_cases lT : s.level < x
    ·rw[if_pos lT] at eF;refine NG 12 O (VP O O) af$ SC$ qE$ NI O$ qN O$ NF O$ NL O$ NC O$ Nz O$ OI O O$ NF O ?_;exact(ih (v+1,(p.1,p.2.1,true)) _ ⟨by omega,by rw[eR,eF],et,dz.ext af,ao.trans af.kp⟩ (by omega)).qb
    ·rw [if_neg lT] at eF; have aC := af.ND aH; have cw := Ext.NY w4.drew; have uT := af.trans cw; obtain ⟨rest, i8⟩ := (dz.ext uT).vec; have dL : g[v]? = some (NS g v) := by unfold NS; rw [List.getElem?_eq_getElem fR]; rfl
     have fP:(NS g v).length<=g.length:=ay.len (List.mem_of_getElem? dL);obtain⟨a,c,dH,eM⟩:=mG v _ dL;refine NG 12 O (VP O O) af$ S4$ qE$ It O$ An$ qN O$ NF O$ py$ O3 [12] (λw'=>Ext w4.drew w') (by kernel_rfl) O$ qL [1,2,3,11,12] 0 O (λ_ h=>Oq O) cw$ qL [2,3,11,12] 1 O (λ_ h=>OQ O) cw$ qL [3,11,12] 2 O (λ_ h=>Og SE O) cw$ qL [11,12] 3 O (λ_ h=>NJ Ob O O (h.ND aC) O) cw$ qL [11,12] 4 O (λ_ h=>Oq O) cw ?_;refine qL [6,7,8,9,10,11,12] 5 O (λ_ h=>Oq O) cw$ qL [7,8,9,10,11,12] 6 O (λ_ h=>OQ O) cw$ qL [8,9,10,11,12] 7 O (λ_ h=>Og Wx O) cw$ qL [9,10,11,12] 8 O (λ_ h=>NJ U3 O O (h.ND aC) O) cw$ qL [10,11,12] 9 O (λ_ h=>SJ O U3 OX) cw$ qL [11,12] 10 O (λ_ h=>zcN O O) cw$ qL [12] 11 O (λ_ h=>OH Ob NV O O (by omega)) cw ?_;rw[Nat.mod_eq_of_lt (show s.level<4294967296 by omega),Nat.mod_eq_of_lt (show 2147483648+s.level<4294967296 by omega)];refine Rs [12]$ qO 12$ Ou (i:=12) O O (PA NV O O O i8 (by rw[List.length_append,List.length_map];show 0+v*1<p.1.length+_;omega)) ?_;rintro w6 ⟨aR,aP⟩;refine⟨trivial,?_⟩;have jN:TM B (.slice (some ⟨gb,go,none⟩) g.length gc) g.length mb vb cap (s.put (p.1.set v (pl+s.level))) false w6:=(dz.ext uT).put (y:=pl+s.level) fR (by show 2147483648+s.level<_;omega) aP (λcs eL=>by rw[NM.uniq eL i8];exact aR);have G5:Kp (λb=>b=vb) w w6:=(ao.trans uT.kp).trans aP;refine qE$ qN O$ NF O$ Nw$ Qb (α:=Nat×List Nat) ((0,p.1.set v (pl+s.level))) (λy=>[(0,ptr mb 0),(4,.bool true),(5,.bool p.2.2),(6,I (v:Int)),(7,I (y.1:Int))]) (λy w'=>y.1<=(NS g v).length/\y.2=((NS g v).take y.1).foldl lessC (p.1.set v (pl+s.level))/\TM B (.slice (some ⟨gb,go,none⟩) g.length gc) g.length mb vb cap (s.put y.2) false w'/\Kp (λb=>b=vb) w w') (λy=>(NS g v).length-y.1) ?hI ?hround
     case hI=>exact⟨Nat.zero_le _,rfl,jN,G5⟩
     case hround=>
      rintro⟨i,ys⟩ w7 ⟨hi,pG,lA,ax⟩ ih2;dsimp only at hi pG lA ih2⊢;have bj:NM w7 mb [.slice (some ⟨gb,go,none⟩) g.length gc,.slice (some ⟨vb,0,none⟩) g.length cap,I (s.level:Int),I (s.t:Int),.bool s.done,.bool false] 66:=lA.run;have nw:ys.length=g.length:=lA.len
      try dsimp only
      refine py$ qN O$ NT O O$ O8 O$ NO Wl O$ qV (NJ SH O O bj O)$ Nz O$ qV (OH SH QC O O (by omega))$ qV (Oi Ob O O (Oz (G4 ax) dH))$ Q0 Ob O$ Pb O O$ NB$ NN O (λfO=>?_)$ λfO=>?_
      ·obtain⟨u,hu⟩:∃u,(NS g v)[i]? =some u:=⟨_,List.getElem?_eq_getElem (by omega)⟩;obtain⟨lb,lo,rfl,Fk⟩:=eM i u hu;have mZ:u<g.length:=RY ay v u (List.mem_of_getElem? hu);obtain⟨d,lM⟩:∃d,ys[u]? =some d:=⟨_,List.getElem?_eq_getElem (by omega)⟩;have M0:=lA.lt d (List.mem_of_getElem? (show(s.put ys).xs[u]? =some d from lM));have sF:=lA.cell (v:=u) (x:=d) lM
       have fC:((NS g v).take (i+1)).foldl lessC (p.1.set v (pl+s.level))=lessC ys u:=by
        rw[OB hu,List.foldl_append,<-pG];rfl
       have gO:lessC ys u=if pl<=d\/d=0 then ys else ys.set u (d-1):=by
        unfold lessC;rw[lM]
       obtain⟨rest7,sx⟩:=lA.vec;refine An$ py$ Nw$ qN O$ Nz O$ O8 O$ NO Wl O$ qV (NJ SH O O bj O)$ Nz O$ qV (OH SH QC O O (by omega))$ qV (Oi Ob O O (Oz (G4 ax) dH))$ Nz O$ qV (OH Ob NV O O (by omega))$ qV (Oi OX O O (Oz (G4 ax) Fk)) ?_;refine NQ O$ qM O$ Nz O$ O8 O$ NO SE O$ qV (NJ Ob O O bj O)$ Nz O$ qV (OH Ob NV O O (by omega))$ qV (Oi OX O O sF) ?_;by_cases Hc:d<2147483648
       ·refine Pb O O$ z6n (by omega)$ NT O O$ O8 O$ NO SE O$ qV (NJ Ob O O bj O)$ Nz O$ qV (OH Ob NV O O (by omega))$ qV (Oi OX O O sF) ?_;by_cases CI:0<d
        ·rw[if_neg (by intro e;have e2:pl=2147483648:=rfl;omega)] at gO;refine P9 O O$ z6n (by omega)$ Pc O O$ NB$ NI O$ NC O$ Nz O$ O8 O$ NO SE O$ qV (NJ Ob O O bj O)$ Nz O$ qV (OH Ob NV O O (by omega))$ qV (Oi OX O O sF)$ qV (Uh (k:= .u32) (m:=d) (n:=1) O O O (by show d<2^32;omega) (by omega)) ?_;refine qV (OH Ob NV O O (by omega))$ NP O (PA NV O O O sx (by rw[List.length_append,List.length_map];show 0+u*1<ys.length+_;omega)) ?_;rintro w8 ⟨ck,aV⟩;have jV:TM B (.slice (some ⟨gb,go,none⟩) g.length gc) g.length mb vb cap (s.put (ys.set u (d-1))) false w8:=lA.put (y:=d-1) mZ (by omega) aV (λcs eL=>by rw[NM.uniq eL sx];exact ck);refine NB$ Ny$ NC O$ Nz O$ OI O O$ NF O ?_;exact(ih2 (i+1,ys.set u (d-1)) _ ⟨by show i+1<=_;omega,by show ys.set u (d-1)=_;rw[fC,gO],jV,ax.trans aV⟩ (by show(NS g v).length-(i+1)<(NS g v).length-i;omega)).qb
        ·rw[if_pos (.inr (by omega))] at gO;refine P9 O O$ Ox$ Pc O O$ NB$ It O$ An$ Ny$ NC O$ Nz O$ OI O O$ NF O ?_;exact(ih2 (i+1,ys) _ ⟨by show i+1<=_;omega,by show ys=_;rw[fC,gO],lA,ax⟩ (by show(NS g v).length-(i+1)<(NS g v).length-i;omega)).qb
       ·rw[if_pos (.inl (by show 2147483648<=d;omega))] at gO;refine Pb O O$ Ox$ Nz O$ qS$ qS$ qS$ qS$ qS$ qS$ qS$ qS$ OC O O$ NB$ It O ?_;refine An$ Ny$ NC O$ Nz O$ OI O O$ NF O ?_;exact(ih2 (i+1,ys) _ ⟨by show i+1<=_;omega,by show ys=_;rw[fC,gO],lA,ax⟩ (by show(NS g v).length-(i+1)<(NS g v).length-i;omega)).qb
      ·have cu:i=(NS g v).length:=by omega
       subst cu;rw[List.take_length] at pG;have tr:UY g s.level p.1 v=ys:=pG.symm;refine NL O$ Ny$ NC O$ Nz O$ OI O O$ NF O ?_;exact(ih (v+1,(ys,true,p.2.2)) _ ⟨by omega,by rw[eR,eF,tr],nw,lA,ax⟩ (by omega)).qb
  ·have fR:v=g.length:=by omega
   subst fR;have FW:p=z0i g s.level s.xs:=hp;obtain⟨rest,i8⟩:=dz.vec
   have dA:∀(L:Nat) (dn:Bool) (w7:World),L=(if p.2.1 then s.level else s.level+1)->NM w7 mb [.slice (some ⟨gb,go,none⟩) g.length gc,.slice (some ⟨vb,0,none⟩) g.length cap,I (L:Int),I ((s.t+1:Nat):Int),.bool (!p.2.2),.bool false] 66->Kp (λb=>b=mb) w4 w7->TM B (.slice (some ⟨gb,go,none⟩) g.length gc) g.length mb vb cap (s.step g) false w7/\(s.step g).done= !p.2.2:=λL dn w7 hL bj ax=>by
    have e:s.step g=⟨s.t+1,L,!p.2.2,p.1⟩:=by
     unfold Sj.step;rw[<-FW,hL]
    rw[e];exact⟨⟨bj,⟨rest,ax.ND i8 (λe=>bD e.symm)⟩,dz.len,dz.lt,bD,g9⟩,rfl⟩
   have dg:∀{w7:World},Kp (λb=>b=mb) w4 w7->Kp (λb=>b=mb\/b=vb) w w7:=λhk=>(ao.NR λb e=> .inr e).trans (hk.NR λb e=> .inl e);refine NL O$ qN O$ Nz O$ O8 O$ NO Xw O$ qV (NJ U3 O O aH O)$ OI O O$ O8 O$ NO Xw O ?_;rw[show(s.t:Int)+1=((s.t+1:Nat):Int) by omega];refine NP O (PA OL O O O aH (by simp)) ?_;rintro w5 ⟨aC,ai⟩;replace aC:NM w5 mb [.slice (some ⟨gb,go,none⟩) g.length gc,.slice (some ⟨vb,0,none⟩) g.length cap,I (s.level:Int),I ((s.t+1:Nat):Int),.bool s.done,.bool false] 66:=aC;refine NB$ py$ qN O$ Nz O ?_
   cases hs:p.2.1 with
   | true =>
     rw[hs] at dA;refine qV ((Qr O)) ?_;rw[show(!true)=false from rfl];refine NB$ It O$ An$ qN O$ NT O O$ qV ((Qr O))$ O8 O$ NO Ta O$ NP O (PA Tf O O O aC (by simp)) ?_;rintro w7 ⟨bj,ax⟩;obtain⟨f1,f2⟩:=dA s.level false w7 O bj (ai.trans ax);replace bj:NM w7 mb [.slice (some ⟨gb,go,none⟩) g.length gc,.slice (some ⟨vb,0,none⟩) g.length cap,I (s.level:Int),I ((s.t+1:Nat):Int),.bool (!p.2.2),.bool false] 66:=bj;refine NB$ Of.qb (e:=[(0,_)]) ?_;refine qN O$ Nz O$ O8 O$ NO Ta O$ qV (NJ U4 O O bj O)$ NQ O$ NF O$ NA func49 O ?_;rw[f2]
     exact⟨_,rfl,rfl,f1,dg (ai.trans ax)⟩
   | false =>
     rw[hs] at dA;refine qV ((Qr O)) ?_;rw[show(!false)=true from rfl];refine NB$ NI O$ NC O$ Nz O$ O8 O$ NO Wx O$ qV (NJ U3 O O aC O)$ OI O O$ O8 O$ NO Wx O ?_;rw[show(s.level:Int)+1=((s.level+1:Nat):Int) by omega];refine NP O (PA OL O O O aC (by simp)) ?_;rintro w6 ⟨aR,aP⟩;replace aR:NM w6 mb [.slice (some ⟨gb,go,none⟩) g.length gc,.slice (some ⟨vb,0,none⟩) g.length cap,I ((s.level+1:Nat):Int),I ((s.t+1:Nat):Int),.bool s.done,.bool false] 66:=aR;refine NB$ Of.qb (e:=[(0,_),(5,_)]) ?_;refine qN O$ NT O O$ qV ((Qr O))$ O8 O$ NO Ta O$ NP O (PA Tf O O O aR (by simp)) ?_;rintro w7 ⟨bj,ax⟩;obtain⟨f1,f2⟩:=dA (s.level+1) false w7 O bj ((ai.trans aP).trans ax);replace bj:NM w7 mb [.slice (some ⟨gb,go,none⟩) g.length gc,.slice (some ⟨vb,0,none⟩) g.length cap,I ((s.level+1:Nat):Int),I ((s.t+1:Nat):Int),.bool (!p.2.2),.bool false] 66:=bj;refine qM O$ Nz O$ O8 O$ NO Ta O$ qV (NJ U4 O O bj O)$ NQ O$ NF O$ NA func49 O ?_;rw[f2];exact⟨_,rfl,rfl,f1,dg ((ai.trans aP).trans ax)⟩
theorem z2w {n:Nat}(h:TM B GS n mb vb cap s false w)(hd:s.done=true):Oa prog 49 [ptr mb 0] w λv w'=>v= .tuple #[.bool false,I 5]/\w'=w:=by
 have hB:=h.run
 rw[hd] at hB
 refine Nu (e:=[(0,_)]) func49 O ntmps49 O O$ qN O$ NQ O$ NF O$ py$ qN O$ Nz O$ O8 O$ NO QI O$ qV (NJ U4 O O hB O)$ NB$ It O$ An$ py ?_
 refine qN O$ Nz O$ O8 O$ NO Ta O$ qV (NJ U4 O O hB O)$ NB$ NI O$ qN O$ NQ O$ NF O$ NA func49 O ?_
 exact⟨_,rfl,rfl,rfl⟩
theorem z38 {n:Nat}(h:TM B GS n mb vb cap s true w):Oa prog 49 [ptr mb 0] w λv w'=>v= .tuple #[.bool false,I 16]/\w'=w:=by
 have hB:=h.run
 refine Nu (e:=[(0,_)]) func49 O ntmps49 O O$ qN O$ NQ O$ NF O$ py$ qN O$ Nz O$ O8 O$ NO QI O$ qV (NJ U4 O O hB O)$ NB$ NI O$ qN O$ NQ O ?_
 refine NF O$ NA func49 O ?_
 exact⟨_,rfl,rfl,rfl⟩
end
theorem z88 {w:Nat}{xs:List Nat}{i x:Nat}(h:xs[i]? =some x):Tt w (xs.take (i+1))=Tt w (xs.take i)++Re w x:=by
 unfold Tt
 rw[OB h,List.flatMap_append]
 simp
def crH (s:Sj):NH:=Re 4 s.t++[if s.done then 1 else 0]++Re 4 s.level
theorem zbT (s:Sj):(crH s).length=9:=by
 unfold crH
 rw[List.length_append,List.length_append,O4,O4];rfl
section
variable {B mb vb cap n:Nat}{GS:Value}{s s':Sj}{cl:Bool}{w0 w w':World}{ga:Option Addr}{gc:Nat}
theorem z0n (h:TM B GS n mb vb cap s false w)(hn:n<=60)(mY:s.level<=1000000)(ht:s.t<=1000000):Oa prog 47 [ptr mb 0] w λv w'=>v= .tuple #[S (crT s),I 0]/\Ext w w':=by
 have hB:=h.run
 have hl:=h.len
 have ev:=O4 4 s.t
 have ff:=O4 4 s.level
 have hg:=Ext.NY w
 obtain⟨d,hd⟩:∃d,s.done=d:=⟨_,rfl⟩
 have hH:crH s=Re 4 s.t++[if d then 1 else 0]++Re 4 s.level:=by rw[<-hd];rfl
 rw[hd] at hB
 refine Nu (e:=[(0,_)]) func47 O ntmps47 O O$ qN O$ NQ O$ NF O$ py$ qN O$ Nz O$ O8 O$ NO QI O$ qV (NJ U4 O O hB O)$ NB$ It O$ An$ py ?_
 refine PK (λw'=>Ext w w') O$ NX 0 O O (hg)$ NG 1 O (OQ O) hg$ NG 2 O (Og Xw O) hg$ qT 3 O (λ_ h=>NJ U3 O O (h.ND hB) O) hg$ NG 4 O (SJ O U3 OX) hg$ NX 7 O O (hg)$ NG 8 O (OQ O) hg$ NG 9 O (Og Wx O) hg$ qT 10 O (λ_ h=>NJ U3 O O (h.ND hB) O) hg$ NG 11 O (SJ O U3 OX) hg ?_
 rw[Nat.mod_eq_of_lt (show s.t<4294967296 by omega),Nat.mod_eq_of_lt (show s.level<4294967296 by omega)]
 refine Qv 5 O z99 O (Sz s.t (by omega) _) ?_
 rintro _ w1 ⟨rfl,ad⟩
 refine⟨hg.trans ad,?_⟩
 have av:=hg.trans ad
 refine NG 6 O (S9 (l:=Re 4 s.t) (l':=[0]) O O (by rw[ev];decide)) (hg.trans ad) ?_
 refine Qv 12 O z99 O (Sz s.level (by omega) _) ?_
 rintro _ w2 ⟨rfl,ag⟩
 refine⟨av.trans ag,?_⟩
 have aa:=av.trans ag
 refine NG 13 O (S9 O O (by rw[List.length_append,ev,ff];decide)) (av.trans ag) ?_
 refine NG 14 O (PO O) (av.trans ag)$ qE$ py$ Oy (λe' w'=>e'=[(0,ptr mb 0),(4,S (crH s))]/\Ext w w') ?G6$ λG6=>?G7
 case G6=>
  rintro e' w3 ⟨rfl,ah⟩;have ar:=ah.ND hB;have jO:=h.ext ah;refine py$ qN O$ NF O$ Nw$ Qb (α:=Nat) (0) (λi=>[(0,ptr mb 0),(4,S (crH s++Tt 4 (s.xs.take i))),(5,I (i:Int))]) (λi w'=>i<=n/\Ext w3 w') (λi=>n-i) ?hI ?hround
  case hI=>exact⟨Nat.zero_le _,Ext.refl _⟩
  case hround=>
   rintro i w4 ⟨hi,aB⟩ ih;have aH:=aB.ND ar
   try dsimp only
   refine py$ qN O$ NT O O$ O8 O$ NO SE O$ qV (NJ Ob O O aH O)$ Q0 Ob O$ Pb O O$ NB$ NN O (λhq=>?_)$ λhq=>?_
   ·have aY:i<n:=by omega
    obtain⟨x,hx⟩:∃x,s.xs[i]? =some x:=⟨_,List.getElem?_eq_getElem (by omega)⟩;have uR:=h.lt x (List.mem_of_getElem? hx);have js:(Tt 4 (s.xs.take i)).length<=240:=by rw[RM,List.length_take];omega
    have M1:=zbT s;have eX:=O4 4 x;refine An$ py$ Nw$ NC O$ NT O O$ O8 O$ NO SE O$ qV (NJ Ob O O aH O)$ Nz O$ qV (OH Ob NV O O (by omega))$ qV (Oi OX O O ((jO.ext aB).cell hx))$ NZ z99 O (Sz x uR _) ?_;rintro _ w5 ⟨rfl,aT⟩;refine qV (S9 O O (by rw[List.length_append,M1,eX];omega)) ?_;rw[List.append_assoc,<-z88 hx];refine NF O$ Ny$ NC O$ Nz O$ OI O O$ NF O ?_;exact(ih (i+1) _ ⟨by omega,aB.trans aT⟩ (by omega)).qb
   ·have aY:i=n:=by omega
    subst aY;rw[show s.xs.take i=s.xs by rw[<-hl,List.take_length]];refine NL O$ qN O$ Nz O$ NQ O$ NF O$ NA func47 O ?_;exact⟨_,rfl,rfl,ah.trans aB⟩
 case G7=>
  have am:=aa.ND hB
  cases d with
  | false =>
    refine qN O$ Nz O$ O8 O$ NO Ta O$ qV (NJ U4 O O am O)$ NB$ Of.qb (e:=[(0,_),(2,_),(3,_),(4,_),(27,_)]) ?_;refine It O$ An ?_
    exact(G6 _ _ ⟨by rw[hH],aa⟩).qb
  | true =>
    have ae:=Ext.NY w2;refine qN O$ Nz O$ O8 O$ NO Ta O$ qV (NJ U4 O O am O)$ NB$ Of.qb (e:=[(0,_),(2,_),(3,_),(4,_),(27,_)]) ?_;refine NI O$ PK (λw'=>Ext w2 w') O$ NX 0 O O (ae)$ NG 1 O (OQ O) ae$ NG 2 O (Og Xw O) ae$ qT 3 O (λ_ h=>NJ U3 O O (h.ND am) O) ae$ NG 4 O (SJ O U3 OX) ae$ NX 7 O O (ae)$ NG 8 O (OQ O) ae$ NG 9 O (Og Wx O) ae$ qT 10 O (λ_ h=>NJ U3 O O (h.ND am) O) ae$ NG 11 O (SJ O U3 OX) ae ?_;rw[Nat.mod_eq_of_lt (show s.t<4294967296 by omega),Nat.mod_eq_of_lt (show s.level<4294967296 by omega)];refine Qv 5 O z99 O (Sz s.t (by omega) _) ?_;rintro _ w5 ⟨rfl,aT⟩;refine⟨ae.trans aT,?_⟩;have cw:=ae.trans aT;refine NG 6 O (S9 (l:=Re 4 s.t) (l':=[1]) O O (by rw[ev];decide)) (ae.trans aT) ?_;refine Qv 12 O z99 O (Sz s.level (by omega) _) ?_;rintro _ w6 ⟨rfl,aK⟩;refine⟨cw.trans aK,?_⟩;have dq:=cw.trans aK;refine NG 13 O (S9 O O (by rw[List.length_append,ev,ff];decide)) (cw.trans aK) ?_;refine NG 14 O (PO O) (cw.trans aK)$ qE ?_;exact(G6 _ _ ⟨by rw[hH],aa.trans dq⟩).qb
theorem z3k (h:TM B GS n mb vb cap s true w):Oa prog 47 [ptr mb 0] w λv w'=>v= .tuple #[S [],I 16]/\w'=w:=by
 have hB:=h.run
 refine Nu (e:=[(0,_)]) func47 O ntmps47 O O$ qN O$ NQ O$ NF O$ py$ qN O$ Nz O$ O8 O$ NO QI O$ qV (NJ U4 O O hB O)$ NB$ NI O$ qN O$ NQ O ?_
 refine NF O$ NA func47 O ?_
 exact⟨_,rfl,rfl,rfl⟩
theorem z3m (h:TM B GS n mb vb cap s true w)(tx:NH):Oa prog 48 [ptr mb 0,S tx] w λv w'=>v=I 16/\w'=w:=by
 have hB:=h.run
 refine Nu (e:=[(0,_),(1,_)]) func48 O ntmps48 O O$ qN O$ NF O$ py$ qN O$ Nz O$ O8 O$ NO QI O$ qV (NJ U4 O O hB O)$ NB$ NI O$ qN O$ NF O$ NA func48 O ?_
 exact⟨_,rfl,rfl,rfl⟩
theorem ZY (h : TM B (.slice ga n gc) n mb vb cap s false w)(hn : n <= 60)(tx : NH) : Oa prog 48 [ptr mb 0, S tx] w λv w' => v = I (if (RJ n tx).isSome then 0 else 4) /\ TM B (.slice ga n gc) n mb vb cap ((RJ n tx).getD s) false w' /\ Kp (λb => b = mb \/ b = vb) w w' := by
 have hB:=h.run
 have hl:=h.len
 have bD:=h.ne
 have g9:=h.lo
 refine Nu (e:=[(0,_),(1,_)]) func48 O ntmps48 O O$ qN O$ NF O$ py$ qN O$ Nz O$ O8 O$ NO QI O$ qV (NJ U4 O O hB O)$ NB$ It O$ An$ qN O$ Nz O ?_
 refine O8 O$ NO Wl O$ qV (NJ SH O O hB O)$ Q0 SH O$ NF O$ py$ qN O$ Nz O$ qV (SG U9 O)$ Nz O$ qV (TT O O (by omega))$ OI O O ?_
 by_cases aA:tx.length=9+4*n
 ·have kS : (tx.take 4).length <= 4 := by rw [List.length_take]; omega
  have Ai:((tx.drop 5).take 4).length<=4:=by rw[List.length_take];omega
  have bN:=z3T (k:=0) kS;have bQ:=z3T (k:=0) Ai;have dF:=(tx.getD 4 0).toNat_lt;have gK:=λw1=>XI tx w1 (by omega);have gL:=λw1=>XI (tx.drop 5) w1 (by rw[List.length_drop];omega)
  have i9:∀(c:Prop) [Decidable c],c=(nB (tx.take 4)<=2*n+2/\(tx.getD 4 0).toNat<=1/\nB ((tx.drop 5).take 4)<=n+1)->RJ n tx=if c then some ⟨nB (tx.take 4),nB ((tx.drop 5).take 4),decide ((tx.getD 4 0).toNat=1),Ro 4 n (tx.drop 9)⟩ else none:=λc _ hc=>by
   unfold RJ;by_cases h1:c
   ·rw[if_pos h1,if_pos ⟨aA,hc▸h1⟩]
   ·rw[if_neg h1,if_neg (λe=>h1 (hc▸e.2))]
  obtain⟨N1,iS⟩:∃N1,nB (tx.take 4)=N1:=⟨_,rfl⟩;obtain⟨N2,G0⟩:∃N2,nB ((tx.drop 5).take 4)=N2:=⟨_,rfl⟩;obtain⟨N3,wo⟩:∃N3,(tx.getD 4 0).toNat=N3:=⟨_,rfl⟩;rw[iS] at gK bN i9;rw[G0] at gL bQ i9;rw[wo] at dF i9;refine P3 O O$ Ox$ NT O O$ NZ z9Y O (gK _) ?_;rintro _ w1 ⟨rfl,ad⟩;refine Nz O$ qV (TT O O (by omega))$ OI O O$ qV (SJ O U3 OX) ?_;by_cases c1:N1<=2*n+2
  ·refine P9 O O$ Ox$ OC O O$ NT O O$ qV (z1Y U9 O O (by omega)) ?_;rw[wo];by_cases c2:N3<=1
   ·refine P9 O O$ Ox$ OC O O$ NT O O$ qV (UQ U9 O O (by omega))$ NZ z9Y O (gL _) ?_;rintro _ w2 ⟨rfl,ag⟩;refine Nz O$ OI O O$ qV (SJ O U3 OX) ?_;by_cases c3:N2<=n+1
    ·have dp:=i9 _ O;rw[if_pos ⟨c1,c2,c3⟩] at dp;rw[dp];have aJ:=ad.trans ag;have am:=aJ.ND hB;obtain⟨rest,i8⟩:=(h.ext aJ).vec;refine P9 O O$ Ox$ OC O O$ NB$ Of.qb (e:=[(0,_),(1,_),(4,_),(5,_),(44,_)]) ?_;refine It O$ An$ qN O$ NT O O$ NZ z9Y O (gK _) ?_;rintro _ w3 ⟨rfl,ah⟩;have ar:=ah.ND am;refine qV (Ow O OX U3 (by omega))$ O8 O$ NO Xw O$ NP O (PA OL O O O ar (by simp)) ?_;rintro w4 ⟨aH,ao⟩;replace aH:NM w4 mb [.slice ga n gc,.slice (some ⟨vb,0,none⟩) n cap,I (s.level:Int),I (N1:Int),.bool s.done,.bool false] 66:=aH;refine qM O$ NT O O$ qV (z1Y U9 O O (by omega)) ?_;rw[wo];refine Px O O ?_;rw[show decide ((N3:Int)=1)=decide (N3=1) from decide_eq_decide.2 (by omega)];refine O8 O$ NO Ta O$ NP O (PA Tf O O O aH (by simp)) ?_;rintro w5 ⟨aC,ai⟩;replace aC:NM w5 mb [.slice ga n gc,.slice (some ⟨vb,0,none⟩) n cap,I (s.level:Int),I (N1:Int),.bool (decide (N3=1)),.bool false] 66:=aC;refine qM O$ NT O O$ qV (UQ U9 O O (by omega))$ NZ z9Y O (gL _) ?_;rintro _ w6 ⟨rfl,aK⟩;have aR:=aK.ND aC;refine qV (Ow O OX U3 (by omega))$ O8 O$ NO Wx O$ NP O (PA OL O O O aR (by simp)) ?_;rintro w7 ⟨bj,ax⟩;replace bj:NM w7 mb [.slice ga n gc,.slice (some ⟨vb,0,none⟩) n cap,I (N2:Int),I (N1:Int),.bool (decide (N3=1)),.bool false] 66:=bj;have sP:Kp (λb=>b=mb) w w7:=(((((aJ.trans ah).kp.trans ao).trans ai).trans aK.kp).trans ax);have lA:TM B (.slice ga n gc) n mb vb cap ⟨N1,N2,decide (N3=1),s.xs⟩ false w7:=⟨bj,⟨rest,((((ah.kp.trans ao).trans ai).trans aK.kp).trans ax).ND i8 (λe=>bD e.symm)⟩,hl,h.lt,bD,g9⟩;refine NB$ py$ qN O$ NF O$ Of.qb (e:=[(0,_),(1,_),(4,_),(5,_),(6,_)]) ?_;refine Nw$ Qb (α:=Nat×List Nat) ((0,s.xs)) (λy=>[(0,ptr mb 0),(1,S tx),(5,I (n:Int)),(6,I (y.1:Int))]) (λy w'=>y.1<=n/\(∀j,j<y.1->y.2[j]? =(Ro 4 n (tx.drop 9))[j]?)/\TM B (.slice ga n gc) n mb vb cap ⟨N1,N2,decide (N3=1),y.2⟩ false w'/\Kp (λb=>b=mb\/b=vb) w w') (λy=>n-y.1) ?hI ?hround
     case hI=>exact⟨Nat.zero_le _,λj hj=>absurd hj (Nat.not_lt_zero _),lA,sP.NR λb e=> .inl e⟩
     case hround=>
      rintro⟨i,ys⟩ w8 ⟨hi,pG,jV,aV⟩ ih;dsimp only at hi pG jV ih⊢;have nw:ys.length=n:=jV.len
      try dsimp only
      refine py$ qN O$ NT O O$ Pb O O$ NB$ NN O (λhq=>?_)$ λhq=>?_
      ·have aY:i<n:=by omega
       have ck:NM w8 mb [.slice ga n gc,.slice (some ⟨vb,0,none⟩) n cap,I (N2:Int),I (N1:Int),.bool (decide (N3=1)),.bool false] 66:=jV.run;have bG:=Ext.NY w8;refine An$ py$ Nw$ O3 [12] (λw'=>Ext w8 w') (by kernel_rfl) O$ qL [1,2,3,11,12] 0 O (λ_ h=>Oq O) bG$ qL [2,3,11,12] 1 O (λ_ h=>OQ O) bG$ qL [3,11,12] 2 O (λ_ h=>Og SE O) bG$ qL [11,12] 3 O (λ_ h=>NJ Ob O O (h.ND ck) O) bG$ qL [11,12] 4 O (λ_ h=>Oq O) bG$ qL [9,10,11,12] 5 O (λ_ h=>Oq O) bG$ qL [7,8,9,10,11,12] 6 O (λ_ h=>Oq O) bG$ qL [8,9,10,11,12] 7 O (λ_ h=>TT O O (by omega)) bG$ qL [9,10,11,12] 8 O (λ_ h=>SX O O (by omega)) bG ?_;rw[show 9+4*(i:Int)=((9+4*i:Nat):Int) by omega];refine qL [10,11,12] 9 O (λ_ h=>UQ (m:=9+4*i) U9 O O (by omega)) bG$ PC (i:=10) (by kernel_rfl)$ Qh (i:=10) O O O (yc z9Y O) (XI (tx.drop (9+4*i)) _ (by rw[List.length_drop];omega)) ?_;rintro _ w9 ⟨rfl,dE⟩;refine⟨bG.trans dE,?_⟩;have gB:=bG.trans dE;obtain⟨rest9,sy⟩:=(jV.ext gB).vec;have G8:((tx.drop (9+4*i)).take 4).length<=4:=by rw[List.length_take];omega
       have wk:=z3T (k:=0) G8;refine qL [12] 11 O (λ_ h=>OH Ob NV O O (by omega)) (bG.trans dE)$ Rs [12]$ qO 12$ Ou (i:=12) O O (PA NV O O O sy (by rw[List.length_append,List.length_map];show 0+i*1<ys.length+_;omega)) ?_;rintro wa ⟨Fa,cJ⟩;refine⟨trivial,?_⟩;have M2:TM B (.slice ga n gc) n mb vb cap ⟨N1,N2,decide (N3=1),ys.set i (nB ((tx.drop (9+4*i)).take 4))⟩ false wa:=(jV.ext gB).put aY wk cJ (λcs eL=>by rw[NM.uniq eL sy];exact Fa);refine qE$ Ny$ NC O$ Nz O$ OI O O$ NF O ((ih (i+1,ys.set i (nB ((tx.drop (9+4*i)).take 4))) _ ⟨by show i+1<=n;omega,λj hj=>?_,M2,(aV.trans gB.kp).trans (cJ.NR λb e=> .inr e)⟩ (by show n-(i+1)<n-i;omega)).qb);show(ys.set i _)[j]? =_;by_cases e:i=j
       ·subst e;rw[List.getElem?_set_self (by omega)];unfold Ro;rw[List.getElem?_map,List.getElem?_range aY];show some _=some (Ol (O0 (((tx.drop 9).drop (i*4)).take 4)));rw[List.drop_drop,show 9+i*4=9+4*i by omega];rfl
       ·rw[List.getElem?_set_ne e];have hj:j<i+1:=hj;exact pG j (by omega)
      ·have aY:i=n:=by omega
       subst aY
       have sH:ys=Ro 4 i (tx.drop 9):=by
        apply List.ext_getElem?;intro j;by_cases hj:j<i
        ·exact pG j hj
        ·rw[List.getElem?_eq_none (by omega),List.getElem?_eq_none (by rw[Ux];omega)]
       subst sH;refine NL O$ qN O$ NF O$ NA func48 O ?_;exact⟨_,rfl,rfl,jV,aV⟩
    ·have dp:=i9 _ O;rw[if_neg (λe=>c3 e.2.2)] at dp;rw[dp];have aJ:=ad.trans ag;refine P9 O O$ PE$ OC O O$ NB$ Of.qb (e:=[(0,_),(1,_),(4,_),(5,_),(44,_)]) ?_;refine NI O$ qN O$ NF O$ NA func48 O ?_;exact⟨_,rfl,rfl,h.ext aJ,aJ.kp⟩
   ·have dp:=i9 _ O;rw[if_neg (λe=>c2 e.2.1)] at dp;rw[dp];refine P9 O O$ PE$ OC O O$ Nz O$ qS$ qS$ qS$ qS$ qS$ qS$ qS$ Pc O O$ NB$ Of.qb (e:=[(0,_),(1,_),(4,_),(5,_),(44,_)]) ?_;refine NI O$ qN O$ NF O$ NA func48 O ?_;exact⟨_,rfl,rfl,h.ext ad,ad.kp⟩
  ·have dp:=i9 _ O;rw[if_neg (λe=>c1 e.1)] at dp;rw[dp];refine P9 O O$ PE$ OC O O$ Nz O$ qS$ qS$ qS$ Pc O O$ Nz O$ qS$ qS$ qS$ qS$ qS ?_;refine qS$ qS$ Pc O O$ NB$ Of.qb (e:=[(0,_),(1,_),(4,_),(5,_),(44,_)]) ?_;refine NI O$ qN O$ NF O$ NA func48 O ?_;exact⟨_,rfl,rfl,h.ext ad,ad.kp⟩
 ·have dp:RJ n tx=none:=by
   unfold RJ;rw[if_neg (λe=>aA e.1)]
  rw[dp];refine P3 O O$ PE$ Nz O$ qS$ qS$ qS$ qS$ qS$ qS$ qS$ Pc O O$ Nz O$ qS$ qS ?_;refine qS$ Pc O O$ Nz O$ qS$ qS$ qS$ qS$ qS$ qS$ qS$ Pc O O$ NB$ Of.qb (e:=[(0,_),(1,_),(4,_),(5,_),(44,_)]) ?_;refine NI O$ qN O$ NF O$ NA func48 O ?_;exact⟨_,rfl,rfl,h,Kp.refl _ _⟩
end
end Go.Proofs.YtfgjaafcgghnoaaGreatDoor
namespace Go.Proofs.YtfgjaafcgghnoaaGreatDoor
open Go Go.RowKit
theorem zav {n:Nat}{s:Sj}(hl:s.xs.length=n)(ht:s.t<4294967296)(mY:s.level<4294967296)(hx:∀x∈s.xs,x<4294967296):RJ n (crT s)=if s.t<=2*n+2/\s.level<=n+1 then some s else none:=by
 have e1:(crT s).length=9+4*n:=by
  unfold crT;rw[List.length_append,List.length_append,List.length_append,O4,O4,RM,List.length_singleton];omega
 have e2:(crT s).take 4=Re 4 s.t:=by
  unfold crT;rw[List.append_assoc,List.append_assoc];exact List.take_left' (O4 _ _)
 have e3:((crT s).getD 4 0).toNat=if s.done then 1 else 0:=by
  unfold crT;rw[List.append_assoc,List.append_assoc,List.getD,List.getElem?_append_right (by rw[O4];omega),O4];cases s.done<;>rfl
 have e4:((crT s).drop 5).take 4=Re 4 s.level:=by
  unfold crT;rw[List.append_assoc,List.drop_left' (by rw[List.length_append,O4];rfl)];exact List.take_left' (O4 _ _)
 have e5:(crT s).drop 9=Tt 4 s.xs:=by
  unfold crT;exact List.drop_left' (by rw[List.length_append,List.length_append,O4,O4];rfl)
 have n1:nB (Re 4 s.t)=s.t:=VF (by omega)
 have n2:nB (Re 4 s.level)=s.level:=VF (by omega)
 have n3:Ro 4 n (Tt 4 s.xs)=s.xs:=by rw[<-hl];exact ZU hx
 have n4:decide ((if s.done=true then 1 else 0:Nat)=1)=s.done:=by cases s.done<;>rfl
 have n5:(if s.done=true then 1 else 0:Nat)<=1:=by cases s.done<;>decide
 unfold RJ
 rw[e1,e2,e3,e4,e5,n1,n2,n3,n4]
 by_cases h:s.t<=2*n+2/\s.level<=n+1
 ·rw[if_pos h,if_pos ⟨rfl,h.1,n5,h.2⟩]
 ·rw[if_neg h,if_neg (λe=>h ⟨e.2.1,e.2.2.2⟩)]
section
variable {w0 w w' w3:World}{g:List (List Nat)}{r1 r2:Nat}{s1 s2:Sj}
end
end Go.Proofs.YtfgjaafcgghnoaaGreatDoor
namespace Go.Proofs.YtfgjaafcgghnoaaGreatDoor
open Go Go.RowKit Go.Proofs.Tryz
structure PcC (w1:World)(g:List (List Nat))(GS:Value)(W:Wd)(Y:Nat->Prop)(mb vb2 cap rr vb:Nat)(s:Sj)(cl:Bool)(k:Nat)(w:World):Prop where
 gg:W.G.g=g
 n:g.length<=40
 pre:Pre W.Q.L W.a
 a:W.a<=146
 L:W.Q.L.length=200
 st:W.G.st+W.G.len<=W.a
 rf:TM w1.heap.size GS g.length mb vb2 cap s cl w
 ym:Y mb/\Y vb2
 nm:∀j,j=mb\/j=vb2->j≠W.G.k/\j≠W.G.x/\j≠0/\j≠1/\j≠rr/\j≠vb
 top:∀b,b<w1.heap.size->Y b
 lo:w1.heap.size<=rr/\w1.heap.size<=vb
 b:s.t<=100+k/\s.level<=100+k
 k:k<=120
 x:Y rr/\Y vb
inductive Y9 (w1:World) (g:List (List Nat)) (GS:Value) (W:Wd) (Y:Nat->Prop) (mb vb2 cap rr vb:Nat) (s:Sj) (k:Nat) (w:World):Bool->Prop
 |op (txt:Int->NH) (K:Nat) (c:PcC w1 g GS W Y mb vb2 cap rr vb s false k w) (hK:K<=1000+3300*k) (m:QR SB W.G (W.Q.P5 (Pf W.Q.L W.a 1 true)) txt K Y rr vb W.a s w):Y9 w1 g GS W Y mb vb2 cap rr vb s k w false
 |cl (txt:Int->NH) (K:Nat) (Q':Qn) (s0:Sj) (c:PcC w1 g GS W Y mb vb2 cap rr vb s true k w) (hK:K<=1000+3300*k) (hs:Q'.s=W.Q.s) (m:QL W.G Q' txt K Y w) (hB:NM w rr (ZH s0 W.G.k) 99):Y9 w1 g GS W Y mb vb2 cap rr vb s k w true
def pcD (Y:Nat->Prop)(mb vb2 rr vb:Nat)(b:Nat):Prop:=¬Y b\/b=rr\/b=vb\/b=mb\/b=vb2
section
variable {w1 w w' w2:World}{g:List (List Nat)}{GS:Value}{W:Wd}{Y:Nat->Prop}{mb vb2 cap rr vb k:Nat}{s s':Sj}{cl cl':Bool}{S':Nat->Prop}
theorem PcC.run (h:PcC w1 g GS W Y mb vb2 cap rr vb s cl k w)(hk:Kp (λb=>¬Y b\/b=rr\/b=vb) w w'):TM w1.heap.size GS g.length mb vb2 cap s cl w':=by
 have n1:=h.nm mb (.inl O)
 have n2:=h.nm vb2 (.inr O)
 exact h.rf.kp hk ⟨λe=>e.elim (λe=>e h.ym.1) (λe=>e.elim n1.2.2.2.2.1 n1.2.2.2.2.2),λe=>e.elim (λe=>e h.ym.2) (λe=>e.elim n2.2.2.2.2.1 n2.2.2.2.2.2)⟩
theorem PcC.UX (h:PcC w1 g GS W Y mb vb2 cap rr vb s cl k w)(hr:TM w1.heap.size GS g.length mb vb2 cap s' cl' w')(hb:s'.t<=100+(k+1)/\s'.level<=100+(k+1))(hk:k<120):PcC w1 g GS W Y mb vb2 cap rr vb s' cl' (k+1) w':=
 ⟨h.gg,h.n,h.pre,h.a,h.L,h.st,hr,h.ym,h.nm,h.top,h.lo,hb,hk,h.x⟩
theorem PcC.ext (h:PcC w1 g GS W Y mb vb2 cap rr vb s cl k w)(hx:Ext w w'):PcC w1 g GS W Y mb vb2 cap rr vb s cl k w':=
 ⟨h.gg,h.n,h.pre,h.a,h.L,h.st,h.rf.ext hx,h.ym,h.nm,h.top,h.lo,h.b,h.k,h.x⟩
theorem Y9.ext (h:Y9 w1 g GS W Y mb vb2 cap rr vb s k w cl)(hx:Ext w w'):Y9 w1 g GS W Y mb vb2 cap rr vb s k w' cl:=by
 cases h with
 |op txt K c hK m=>exact .op txt K (c.ext hx) hK (m.ext hx)
 |cl txt K Q' s0 c hK hs m hB=>exact .cl txt K Q' s0 (c.ext hx) hK hs (m.ext hx) (hx.ND hB)
theorem Y9.c (h:Y9 w1 g GS W Y mb vb2 cap rr vb s k w cl):PcC w1 g GS W Y mb vb2 cap rr vb s cl k w:=by
 cases h with
 |op txt K c hK m=>exact c
 |cl txt K Q' s0 c hK hs m hB=>exact c
theorem QR.ref {txt:Int->NH}{K a:Nat}{Q:Qn}(h:QR SB W.G Q txt K Y rr vb a s w)(c:PcC w1 g GS W Y mb vb2 cap rr vb s' cl k w2)(hk:Kp (λb=>b=mb\/b=vb2) w w'):QR SB W.G Q txt K Y rr vb a s w':=
 h.own hk (λj e=>⟨by rcases e with rfl|rfl;exact c.ym.1;exact c.ym.2,c.nm j e⟩)
theorem QL.ref {txt:Int->NH}{K:Nat}{Q:Qn}(h:QL W.G Q txt K Y w)(c:PcC w1 g GS W Y mb vb2 cap rr vb s' cl k w2)(hk:Kp (λb=>b=mb\/b=vb2) w w'):QL W.G Q txt K Y w':=
 h.own hk (λj e=>⟨by rcases e with rfl|rfl;exact c.ym.1;exact c.ym.2,(c.nm j e).1,(c.nm j e).2.1,(c.nm j e).2.2.1,(c.nm j e).2.2.2.1⟩)
theorem z33 (h:Kp (λb=>¬Y b\/b=rr\/b=vb) w w'):Kp (pcD Y mb vb2 rr vb) w w':=h.NR λb e=>e.imp id λe=>e.imp id .inl
theorem z5V (h:Kp (λb=>b=mb\/b=vb2) w w'):Kp (pcD Y mb vb2 rr vb) w w':=h.NR λb e=> .inr (.inr (.inr e))
theorem zf4 (h:Kp (λb=>¬(Y b\/b=W.G.rb)) w w'):Kp (λb=>¬Y b\/b=rr\/b=vb) w w':=h.NR λb e=> .inl λe2=>e (.inl e2)
theorem z7t (s:Sj)(i:Int):∃(x:Nat) (e:Int),XT s i= .tuple #[NW x,I e]:=by
 unfold XT
 split
 ·exact⟨0,16,rfl⟩
 ·split
  ·exact⟨0,1,rfl⟩
  ·exact⟨_,0,rfl⟩
theorem zbV {n:Nat}{t:NH}{s s':Sj}(h:RJ n t=some s'):s'.t<=2*n+2/\s'.level<=n+1:=by
 unfold RJ at h
 split at h
 ·rename_i hc
  cases h;exact⟨hc.2.1,hc.2.2.2⟩
 ·cases h
theorem z90 {gb go gc : Nat}(ay : QQ g)(mG : GrR w1 gb go g)(ad : Ext w1 w)(h : Y9 w1 g (.slice (some ⟨gb, go, none⟩) g.length gc) W Y mb vb2 cap rr vb s k w cl)(eB : k < 120)(kind n fr fo : Int)(tx : NH)(fit : Bool)(hn : -9223372036854775808 <= n /\ n <= 9223372036854775807)(iL : tx.length <= 4611686018427387904) : Oa prog 21 [ptr rr 0, ptr mb 0, .agg #[I kind, I n, I fr, I fo, S tx, .bool fit]] w λv w' => v = .bool true /\ (∃ s' cl', Y9 w1 g (.slice (some ⟨gb, go, none⟩) g.length gc) W Y mb vb2 cap rr vb s' (k + 1) w' cl') /\ Kp (pcD Y mb vb2 rr vb) w w' := by
 refine Nu (e:=[(0,_),(1,_),(2,_)]) func21 O ntmps21 O O$ qN O$ NK O O (PW O (cs:=[I kind,I n,I fr,I fo,S tx,.bool fit]) O) ?_
 rintro _ w3 ⟨b5,rfl,ff,ah,aC⟩
 have h3:=h.ext ah
 have aO:=ad.trans ah
 have fS:=h.c.n
 refine NF O$ py$ qN O$ NO z4L O$ qV (NJ U3 O O aC O)$ NB$ Nw$ qN O ?_
 by_cases k0:kind=0
 ·refine Px O O$ PE$ NF O$ NI O$ qN O$ Nz O ?_
  cases h3 with
  | op txt K c hK m =>
    have hb:=c.b;have ak:=c.gg;by_cases hd:s.done=false
    ·have s1:=z0b m (by omega) (by omega) (by omega) hd;rw[ak] at s1;refine NZ cf9 O (s1) ?_;rintro _ w4 ⟨rfl,txt4,m4,ng,ao⟩;have eG:Kp (λb=>¬Y b\/b=rr\/b=vb) w3 w4:=ao.NR λb e=>e.imp id .inl;have f4:=c.run eG
     have cE:Ext w1 w4:=aO.Nv eG λb e=>by
      have:=c.lo;rcases Nat.lt_or_ge b w1.heap.size with h| h
      ·rcases e with e|e| e
       ·exact absurd (c.top b h) e
       ·omega
       ·omega
      ·exact h
     refine Nz O$ ON O O$ ON O O$ NQ O$ NQ O$ qM O$ Nz O$ NZ zdo O (z4B ay mG (Nat.le_refl _) cE f4 hd (by omega) (by omega)) ?_;rintro _ w5 ⟨rfl,f5,ai⟩;refine Nz O$ ON O O$ ON O O$ NQ O$ NQ O$ qM O$ NT O O$ qV (zdX O O U4) ?_;rw[beq_self_eq_true];refine NT O O$ Nz O$ Px O O$ PE$ Pc O O$ NF O$ Of.qb (e:=[(0,_),(1,_),(6,_)]) ?_;refine NA func21 O ?_;have mY:(s.step g).level<=s.level+1:=by unfold Sj.step;dsimp only;split<;>omega
     exact⟨_,rfl,rfl,⟨_,false,.op txt4 (K+3200) (c.UX f5 ⟨by show s.t+1<=_;omega,by omega⟩ eB) (by omega) (m4.ref c ai)⟩,(ah.kp.trans (z33 eG)).trans (z5V ai)⟩
    ·have wm:s.done=true:=by simpa using hd
     refine NZ cf9 O (z2j m wm) ?_;rintro _ w3 ⟨rfl,rfl⟩;refine Nz O$ ON O O$ ON O O$ NQ O$ NQ O$ qM O$ Nz O$ NZ zdo O (z2w c.rf wm) ?_;rintro _ w3 ⟨rfl,rfl⟩;refine Nz O$ ON O O$ ON O O$ NQ O$ NQ O$ qM O$ NT O O$ qV (zdX O O U4) ?_;rw[beq_self_eq_true];refine NT O O$ Nz O$ Px O O$ PE$ Pc O O$ NF O$ Of.qb (e:=[(0,_),(1,_),(6,_)]) ?_;refine NA func21 O ?_
     exact⟨_,rfl,rfl,⟨s,false,.op txt K (c.UX c.rf ⟨by omega,by omega⟩ eB) (by omega) m⟩,ah.kp⟩
  | cl txt K Q' s0 c hK hs m hB =>
    have hb:=c.b;refine NZ cf9 O (z2k hB) ?_;rintro _ w3 ⟨rfl,rfl⟩;refine Nz O$ ON O O$ ON O O$ NQ O$ NQ O$ qM O$ Nz O$ NZ zdo O (z38 c.rf) ?_;rintro _ w3 ⟨rfl,rfl⟩;refine Nz O$ ON O O$ ON O O$ NQ O$ NQ O$ qM O$ NT O O$ qV (zdX O O U4) ?_;rw[beq_self_eq_true];refine NT O O$ Nz O$ Px O O$ PE$ Pc O O$ NF O$ Of.qb (e:=[(0,_),(1,_),(6,_)]) ?_;refine NA func21 O ?_;exact⟨_,rfl,rfl,⟨s,true,.cl txt K Q' s0 (c.UX c.rf ⟨by omega,by omega⟩ eB) (by omega) hs m hB⟩,ah.kp⟩
 ·refine Px O O$ Ox$ NF O$ It O$ qN O ?_; by_cases k1 : kind = 1
  ·refine Px O O$ PE$ NF O$ NI O$ qN O$ Nz O$ NO z4C O$ qV (NJ U3 O O aC O) ?_
   cases h with
   | op txt K c0 hK m0 =>
     have hb:=c0.b;have c:=c0.ext ah;have l5:=aC.lt;have m:=m0.grow ah (Y:=λj=>Y j\/j=b5) (λj e=>e.imp id λe=>by omega) (λj e=> .inl e);have hv:=Yh m n;obtain⟨x,ex,wO⟩:=z7t s n;rw[wO] at hv;refine NZ zbp O (hv) ?_;rintro _ w4 ⟨rfl,m4,ao⟩;have eG:Kp (λb=>¬Y b\/b=rr\/b=vb) w3 w4:=ao.NR λb e=> .inl λe2=>e (.inl (.inl e2));have f4:=c.run eG;have eS:=ao.ND aC (λe=>e (.inl (.inr O)));have iz:=z8m f4 n;rw[wO] at iz;refine Nz O$ ON O O$ ON O O$ NQ O$ NQ O$ qM O$ Nz O$ NO z4C O$ qV (NJ U3 O O eS O)$ NZ zg2 O (iz) ?_;rintro _ w4 ⟨rfl,rfl⟩;refine Nz O$ ON O O$ ON O O$ NQ O$ NF O$ Of.qb (e:=[(0,_),(1,_),(6,_),(11,_),(12,_),(13,_),(14,_)]) ?_;refine qN O$ NT O O$ Px O O$ PE$ NT O O$ Nz O$ Px O O$ PE$ Pc O O$ NF O$ NA func21 O ?_
     exact⟨_,rfl,rfl,⟨s,false,.op txt K (c.UX f4 ⟨by omega,by omega⟩ eB) (by omega) (m4.less (λj e=> .inl e) m0.g.xk m0.xr)⟩,ah.kp.trans (z33 eG)⟩
   | cl txt K Q' s0 c0 hK hs m0 iv =>
     have c:=c0.ext ah;have m:=m0.ext ah;have hB:=ah.ND iv;have hb:=c.b;refine NZ zbp O (z4Q hB n) ?_;rintro _ w3 ⟨rfl,rfl⟩;refine Nz O$ ON O O$ ON O O$ NQ O$ NQ O$ qM O$ Nz O$ NO z4C O$ qV (NJ U3 O O aC O)$ NZ zg2 O (z4P c.rf n) ?_;rintro _ w3 ⟨rfl,rfl⟩;refine Nz O$ ON O O$ ON O O$ NQ O$ NF O$ Of.qb (e:=[(0,_),(1,_),(6,_),(11,_),(12,_),(13,_),(14,_)]) ?_;refine qN O$ NT O O$ Px O O$ PE$ NT O O$ Nz O$ Px O O$ PE$ Pc O O$ NF O$ NA func21 O ?_;exact⟨_,rfl,rfl,⟨s,true,.cl txt K Q' s0 (c.UX c.rf ⟨by omega,by omega⟩ eB) (by omega) hs m hB⟩,ah.kp⟩
  ·refine Px O O$ Ox$ NF O$ It O$ qN O ?_; by_cases k4 : kind = 4
   ·refine Px O O$ PE$ NF O$ NI O$ qN O$ NO z9u O$ qV (NJ U9 O O aC O)$ NF O$ py$ Oy (λe' w'=>∃ty:NH,e'=[(0,ptr rr 0),(1,ptr mb 0),(15,S ty)]/\w'=w3) ?ig$ λig=>?G9
    case ig=>
     rintro e' w4 ⟨ty,rfl,rfl⟩;refine qN O$ NT O O ?_
     cases h3 with
     | op txt K c hK m =>
       have hb:=c.b;have ak:=c.gg;have l1:=Zh m (by omega) ty;rw[ak] at l1;refine NZ zdL O (l1) ?_;rintro _ w5 ⟨rfl,txt5,m5,Fb,ai⟩;have oT:Kp (λb=>¬Y b\/b=rr\/b=vb) w4 w5:=ai.NR λb e=>e.imp id .inl;have f5:=c.run oT;refine NT O O$ NZ zaY O (ZY f5 (by omega) ty) ?_;rintro _ w6 ⟨rfl,f6,aP⟩;refine Px O O$ PE$ NF O$ NA func21 O ?_
       have pu:((RJ g.length ty).getD s).t<=100+(k+1)/\((RJ g.length ty).getD s).level<=100+(k+1):=by
        cases hl:RJ g.length ty with
        |none=>exact⟨by show s.t<=_;omega,by show s.level<=_;omega⟩
        | some s' =>
          have:=zbV (s:=s) hl;exact⟨by show s'.t<=_;omega,by show s'.level<=_;omega⟩
       exact⟨_,rfl,rfl,⟨_,false,.op txt5 (K+1) (c.UX f6 pu eB) (by omega) (m5.ref c aP)⟩,(ah.kp.trans (z33 oT)).trans (z5V aP)⟩
     | cl txt K Q' s0 c hK hs m hB =>
       have hb:=c.b;refine NZ zdL O (z39 hB ty) ?_;rintro _ w4 ⟨rfl,rfl⟩;refine NT O O$ NZ zaY O (z3m c.rf ty) ?_;rintro _ w4 ⟨rfl,rfl⟩;refine Px O O$ PE$ NF O$ NA func21 O ?_;exact⟨_,rfl,rfl,⟨s,true,.cl txt K Q' s0 (c.UX c.rf ⟨by omega,by omega⟩ eB) (by omega) hs m hB⟩,ah.kp⟩
    case G9 =>
     have jz:=h3.c.rf.run
     cases fit with
     | false =>
       refine qN O$ NO z8Q O$ qV (NJ U4 O O aC O)$ Nz O$ qS$ qS$ qS$ OC O O$ NB$ It O$ An ?_
       exact(ig _ _ ⟨tx,rfl,rfl⟩).qb
     | true =>
       refine qN O$ NO z8Q O$ qV (NJ U4 O O aC O)$ NT O O$ qV (SG U9 O) ?_;by_cases h0:0<tx.length
       ·refine P9 O O$ z6n (by omega)$ Pc O O$ NB$ NI O$ py$ Nw$ Qb (α:=NH) (tx) (λy=>[(0,ptr rr 0),(1,ptr mb 0),(5,ptr b5 0),(15,S y)]) (λy w'=>w'=w3/\y.length<=4611686018427388904) (λy=>400-y.length) ?hI ?hround
        case hI=>exact⟨rfl,by omega⟩
        case hround=>
         rintro y w4 ⟨rfl,hy⟩ ih
         try dsimp only
         refine py$ qN O$ Nz O$ qV (SG U9 O)$ Nz O$ O8 O$ NO Wl O$ qV ((NJ SH O O jz O))$ Q0 SH O$ qV (TT O O (by omega))$ OI O O$ Pb O O$ NB$ NN O (λhq=>?_)$ λhq=>?_
         ·refine An$ Nw$ NC O$ Nz O$ NO z9u O$ qV ((NJ U9 O O aC O))$ qV (S9 O O (by first|omega|(simp;done)|(simp;omega))) ?_;refine NF O$ Ny ?_;exact(ih (y++tx) _ ⟨rfl,by rw[List.length_append];omega⟩ (by rw[List.length_append];omega)).qb
         ·refine NL O$ NC O$ NT O O$ O8 O$ NO Wl O$ qV ((NJ SH O O jz O))$ Q0 SH O$ qV (TT O O (by omega))$ OI O O ?_;rw[show 9+4*(g.length:Int)=((9+4*g.length:Nat):Int) by omega];refine qV (YA (m:=9+4*g.length) U9 O O (by omega))$ NF O ?_;exact(ig _ _ ⟨_,rfl,rfl⟩).qb
       ·refine P9 O O$ zaw (by omega)$ Pc O O$ NB$ It O$ An ?_;exact(ig _ _ ⟨tx,rfl,rfl⟩).qb
   ·refine Px O O$ Ox$ NF O$ It O$ qN O ?_;by_cases k5:kind=5
    ·refine Px O O$ PE ?_
     cases h3 with
     | op txt K c hK m =>
       have hb:=c.b;have g9:=c.lo;have I8:=c.nm mb (.inl O);have jz:=c.rf.run;have bD:=c.rf.ne;obtain⟨rest,i8⟩:=c.rf.vec;refine NF O$ NI O$ qN O$ NF O$ py$ qN O$ Nz O$ O8 O$ NO QI O$ qV ((NJ U4 O O jz O))$ NB$ It O$ An$ qN O ?_;refine Nz O$ O8 O$ NO QI O$ NP O (PA Tf O O O jz (by simp)) ?_;rintro w4 ⟨aH,ao⟩;have eG:Kp (λb=>b=mb\/b=vb2) w3 w4:=ao.NR λb e=> .inl e;have f4:TM w1.heap.size (.slice (some ⟨gb,go,none⟩) g.length gc) g.length mb vb2 cap s true w4:=⟨aH,⟨rest,ao.ND i8 (λe=>bD e.symm)⟩,c.rf.len,c.rf.lt,bD,c.rf.lo⟩;have m4:=m.ref c eG;have Ga:=c.pre.a2;have sA:=c.a;have hL:=c.L;have dx:=Yv m4 Ga (by show(Pf W.Q.L W.a 1 true)[W.a]? =some true;rw[TX (by omega),if_pos ⟨by omega,by omega⟩]);refine qM O$ Nz O$ NZ zdZ O (dx) ?_;rintro _ w5 ⟨rfl,txt5,g5,dT,Fb,ai⟩;have oT:Kp (λb=>¬Y b\/b=rr\/b=vb) w4 w5:=ai;have c4:=c.UX f4 ⟨by omega,by omega⟩ eB;obtain⟨Q5,I9⟩:∃Q5,(W.Q.P5 (Pf W.Q.L W.a 1 true)).P5 (Pf (W.Q.P5 (Pf W.Q.L W.a 1 true)).L W.a 1 false)=Q5:=⟨_,rfl⟩;have mQ:Q5.s=W.Q.s:=by rw[<-I9];rfl
       rw[I9] at g5;refine Nz O$ Px O O$ PE$ NF O$ Of.qb (e:=[(0,_),(1,_),(6,_)]) ?_;refine NA func21 O ?_
       exact⟨_,rfl,rfl,⟨s,true,.cl txt5 K Q5 s (c.UX (c4.run oT) ⟨by omega,by omega⟩ eB) (by omega) mQ g5 dT⟩,(ah.kp.trans (z5V eG)).trans (z33 oT)⟩
     | cl txt K Q' s0 c hK hs m hB =>
       have hb:=c.b;have I8:=c.nm mb (.inl O);have jz:=c.rf.run;have bD:=c.rf.ne;obtain⟨rest,i8⟩:=c.rf.vec;refine NF O$ NI O$ qN O$ NF O$ py$ qN O$ Nz O$ O8 O$ NO QI O$ qV ((NJ U4 O O jz O))$ NB$ NI O$ NC O$ NQ O ?_;refine qM O$ Nz O$ O8 O$ NO QI O$ NP O (PA Tf O O O jz (by simp)) ?_;rintro w4 ⟨aH,ao⟩;have eG:Kp (λb=>b=mb\/b=vb2) w3 w4:=ao.NR λb e=> .inl e;have f4:TM w1.heap.size (.slice (some ⟨gb,go,none⟩) g.length gc) g.length mb vb2 cap s true w4:=⟨aH,⟨rest,ao.ND i8 (λe=>bD e.symm)⟩,c.rf.len,c.rf.lt,bD,c.rf.lo⟩;have rO:=ao.ND hB (λe=>I8.2.2.2.2.1 e.symm);refine qM O$ Nz O$ NZ zdZ O (z1r rO) ?_;rintro _ w4 ⟨rfl,rfl⟩;refine Nz O$ Px O O$ PE$ NF O$ Of.qb (e:=[(0,_),(1,_),(6,_)]) ?_;refine NA func21 O ?_;exact⟨_,rfl,rfl,⟨s,true,.cl txt K Q' s0 (c.UX f4 ⟨by omega,by omega⟩ eB) (by omega) hs (m.ref c eG) rO⟩,ah.kp.trans (z5V eG)⟩
    ·refine Px O O$ Ox$ NF O$ It O$ An$ Ny$ qN O$ Nz O ?_
     cases h3 with
     | op txt K c hK m =>
       have hb:=c.b;refine NZ zda O (ZF m (by omega) (by omega)) ?_;rintro _ w4 ⟨rfl,m4,ao⟩;have eG:Kp (λb=>¬Y b\/b=rr\/b=vb) w3 w4:=zf4 ao;have f4:=c.run eG;refine Nz O$ ON O O$ ON O O$ NQ O$ NQ O$ qM O$ Nz O$ NZ zdG O (z0n f4 (by omega) (by omega) (by omega)) ?_;rintro _ w5 ⟨rfl,aT⟩;refine Nz O$ ON O O$ ON O O$ NQ O$ NF O$ Of.qb (e:=[(6,_),(17,_),(18,_),(19,_),(20,_)]) ?_;refine qN O$ NT O O$ qV (zec O O)$ PE$ NT O O$ Nz O$ Px O O$ PE$ Pc O O$ NF O$ NA func21 O ?_
       exact⟨_,rfl,rfl,⟨s,false,.op txt K (c.UX (f4.ext aT) ⟨by omega,by omega⟩ eB) (by omega) (m4.ext aT)⟩,(ah.kp.trans (z33 eG)).trans aT.kp⟩
     | cl txt K Q' s0 c hK hs m hB =>
       have hb:=c.b;refine NZ zda O (z2D hB) ?_;rintro _ w3 ⟨rfl,rfl⟩;refine Nz O$ ON O O$ ON O O$ NQ O$ NQ O$ qM O$ Nz O$ NZ zdG O (z3k c.rf) ?_;rintro _ w3 ⟨rfl,rfl⟩;refine Nz O$ ON O O$ ON O O$ NQ O$ NF O$ Of.qb (e:=[(6,_),(17,_),(18,_),(19,_),(20,_)]) ?_;refine qN O$ NT O O$ qV (zec O O)$ PE$ NT O O$ Nz O$ Px O O$ PE$ Pc O O$ NF O$ NA func21 O ?_;exact⟨_,rfl,rfl,⟨s,true,.cl txt K Q' s0 (c.UX c.rf ⟨by omega,by omega⟩ eB) (by omega) hs m hB⟩,ah.kp⟩
end
end Go.Proofs.YtfgjaafcgghnoaaGreatDoor
