/- Texts Lst, Num, LiA, LiB, LiC, LiD, LiE, LiF, LiG, LiH, LiI, LiJ, LiK, BvA, SoA, SoB, SoC, one behind the other (what the statement BfsAlong does not use is left out). -/
import Derived.Test.YtpldpcjdjcgicaaGreatDoorBAp2
import Derived.Sort.AssemblyPlain
set_option maxHeartbeats 16000000
namespace Go.Proofs.YtpldpcjdjcgicaaGreatDoor
open Go Go.RowKit
set_option linter.all false
/-! ### Runs -/
def expand:Bool→List Nat→List Bool
 |_,[]=>[]
 |b,n::r=>List.replicate n b++expand (!b) r
theorem S9:∀(b:Bool) (r s:List Nat),expand b (r++s)=expand b r++expand (if r.length%2=0 then b else !b) s
 |b,[],s=>by simp[expand]
 | b, n :: r, s => by
   rw[List.cons_append,expand,expand,S9 (!b) r s,List.append_assoc]
   congr 2
   rcases Nat.mod_two_eq_zero_or_one r.length with e| e
   ·rw[if_pos e,if_neg (by rw[List.length_cons];omega)]
   ·rw[if_neg (by omega),if_pos (by rw[List.length_cons];omega)];simp
theorem NC:∀(b:Bool) (r:List Nat),(expand b r).length=r.sum
 |_,[]=>rfl
 |b,n::r=>by rw[expand,List.length_append,List.length_replicate,NC (!b) r,List.sum_cons]
def Mh (rs:List Nat)(f:Bool):List Nat:=
 let rs':=if f !=(rs.length%2==1) then rs++[0] else rs
 rs'.modify (rs'.length-1) (·+1)
theorem QS (l:List Nat)(n:Nat):(l++[n]).modify ((l++[n]).length-1) (·+1)=l++[n+1]:=by
 have key:∀l:List Nat,(l++[n]).modify l.length (·+1)=l++[n+1]:=fun l=>by
  induction l with
  |nil=>rfl
  |cons a l ih=>simpa using ih
 have:(l++[n]).length-1=l.length:=by simp
 rw[this,key]
structure Og (rs:List Nat)(fs:List Bool):Prop where
 ne:rs≠[]
 exp:expand true rs=fs
 pos:∀n∈rs.drop 1,1≤n
theorem Og.zero:Og [0] []:=⟨by simp,rfl,by simp⟩
theorem Og.step {rs:List Nat}{fs:List Bool}(h:Og rs fs)(f:Bool):Og (Mh rs f) (fs++[f]):=by
 obtain⟨h1,h2,h3⟩:=h
 obtain⟨l,n,rfl⟩:∃l n,rs=l++[n]:=⟨rs.dropLast,rs.getLast h1,(List.dropLast_concat_getLast h1).symm⟩
 unfold Mh
 dsimp only
 have hlen:(l++[n]).length=l.length+1:=by simp
 rw[hlen]
 split
 ·rename_i hf
  rw[QS];refine⟨by simp,?_,fun k hk=>?_⟩
  ·rw[S9,h2,hlen]
   congr 1
   rcases Nat.mod_two_eq_zero_or_one l.length with e|e<;>cases f<;>simp[expand,e,Nat.add_mod] at hf⊢
  ·rw[List.drop_append_of_le_length (by rw[hlen];omega)] at hk;rcases List.mem_append.1 hk with hk|hk
   ·exact h3 k hk
   ·simp at hk;omega
 ·rename_i hf
  rw[QS];refine⟨by simp,?_,fun k hk=>?_⟩
  ·rw[S9] at h2⊢;rw[←h2,List.append_assoc]
   congr 1
   simp only[expand,List.append_nil,List.replicate_succ']
   congr 1
   rcases Nat.mod_two_eq_zero_or_one l.length with e|e<;>cases f<;>simp[e,Nat.add_mod] at hf⊢
  ·cases l with
   |nil=>simp at hk
   | cons a l =>
     rw[List.cons_append,List.drop_succ_cons,List.drop_zero] at hk h3;rcases List.mem_append.1 hk with hk|hk
     ·exact h3 k (List.mem_append_left _ hk)
     ·simp at hk;omega
def copyL:Bool→List Nat→List Nat→List Nat
 |b,[],ref=>if b then ref else []
 |b,n::r,ref=>(if b then ref.take n else [])++copyL (!b) r (ref.drop n)
def sel:List Nat→List Bool→List Nat
 |x::l,f::fs=>if f then x::sel l fs else sel l fs
 |_,_=>[]
theorem z1e:∀{a b:List Nat} {fs gs:List Bool},a.length=fs.length→sel (a++b) (fs++gs)=sel a fs++sel b gs
 |[],b,[],gs,_=>rfl
 | x :: a, b, f :: fs, gs, h => by
   have h':a.length=fs.length:=by simpa using h
   rw[List.cons_append,List.cons_append,sel,sel,z1e h'];cases f<;>simp
theorem Xt:∀(l:List Nat) (b:Bool),sel l (List.replicate l.length b)=if b then l else []
 |[],b=>by cases b<;>rfl
 | x :: l, b => by
   rw[List.length_cons,List.replicate_succ,sel,Xt l b];cases b<;>rfl
theorem Ze:∀(b:Bool) (rs:List Nat) (m:Nat) (ref:List Nat),ref.length=(rs++[m]).sum→copyL b rs ref=sel ref (expand b (rs++[m]))
 | b, [], m, ref, h => by
   have hm:m=ref.length:=by simpa using h.symm
   subst hm;simp only[copyL,List.nil_append,expand,List.append_nil]
   rw[Xt]
 | b, n :: rs, m, ref, h => by
   rw[List.cons_append,List.sum_cons] at h;have hl:(ref.take n).length=n:=by rw[List.length_take];omega
   rw[copyL,List.cons_append,expand,Ze (!b) rs m (ref.drop n) (by rw[List.length_drop];omega)]
   conv=>rhs;rw[←List.take_append_drop n ref,z1e (by rw[hl,List.length_replicate])]
   congr 1
   have:=Xt (ref.take n) b;rw[hl] at this;exact this.symm
/-! ### Rows of numbers that follow one another -/
def runLen:Nat→List Nat→Nat
 |_,[]=>0
 |x,y::l=>if y=x+1 then runLen y l+1 else 0
theorem Rv:∀(x:Nat) (l:List Nat),runLen x l≤l.length
 |_,[]=>Nat.le_refl _
 | x, y :: l => by
   unfold runLen;split
   ·have:=Rv y l;simp;omega
   ·exact Nat.zero_le _
theorem Qb:∀(x:Nat) (l:List Nat) (i:Nat),i<runLen x l→l[i]? =some (x+1+i)
 |_,[],i,h=>by simp[runLen] at h
 | x, y :: l, i, h => by
   unfold runLen at h;split at h
   ·rename_i e
    subst e
    cases i with
    |zero=>rfl
    |succ i=>rw[List.getElem?_cons_succ,Qb (x+1) l i (by omega)];congr 1;omega
   ·omega
theorem R4:∀(x:Nat) (l:List Nat) (y:Nat),l[runLen x l]? =some y→y≠x+1+runLen x l
 |_,[],y,h=>by simp at h
 | x, z :: l, y, h => by
   unfold runLen at h⊢;split
   ·rename_i e
    rw[if_pos e,List.getElem?_cons_succ] at h;have:=R4 z l y h;omega
   ·rename_i e
    rw[if_neg e,List.getElem?_cons_zero] at h;cases h;omega
def rowsN (least:Nat):List Nat→List (Nat×Nat)×List Nat
 |[]=>([],[])
 | x :: l =>
   let n:=runLen x l+1
   let q:=rowsN least (l.drop (runLen x l))
   if 0<least∧least≤n then((x,n)::q.1,q.2) else(q.1,x::l.take (runLen x l)++q.2)
termination_by l=>l.length
decreasing_by simp[List.length_drop];omega
def Me (l:List (Nat×Nat)):List Nat:=l.flatMap fun p=>(List.range p.2).map (p.1+·)
abbrev Ris (l:List Nat):Prop:=l.Pairwise (·<·)
theorem z3K (x:Nat)(l:List Nat):x::l.take (runLen x l)=(List.range (runLen x l+1)).map (x+·):=by
 apply List.ext_getElem?
 intro i
 have hle:=Rv x l
 cases i with
 |zero=>simp
 | succ i =>
   rw[List.getElem?_cons_succ,List.getElem?_take,List.getElem?_map];split
   ·rename_i h
    rw[Qb x l i h,List.getElem?_range (by omega)];simp;omega
   ·rw[List.getElem?_eq_none (by simp;omega)];rfl
theorem Ot (least:Nat):∀(l:List Nat),(Me (rowsN least l).1++(rowsN least l).2).Perm l
 |[]=>by simp[rowsN,Me]
 | x :: l => by
   have ih:=Ot least (l.drop (runLen x l));have hx:=z3K x l;have hc:x::l=(x::l.take (runLen x l))++l.drop (runLen x l):=by rw[List.cons_append,List.take_append_drop]
   rw[rowsN];split
   ·rw[show Me ((x,runLen x l+1)::(rowsN least (l.drop (runLen x l))).1)=(List.range (runLen x l+1)).map (x+·)++Me (rowsN least (l.drop (runLen x l))).1 by simp[Me]];rw[←hx,List.append_assoc]
    conv=>rhs;rw[hc]
    exact ih.append_left _
   ·conv=>rhs;rw[hc]
    refine List.Perm.trans ?_ (ih.append_left _);rw[←List.append_assoc,←List.append_assoc];exact(List.perm_append_comm).append_right _
 termination_by l=>l.length
 decreasing_by simp[List.length_drop];omega
def XT (z:Int):Nat:=if 0≤z then(2*z).toNat else(-2*z-1).toNat
def zag (n:Nat):Int:=if n%2=0 then((n / 2:Nat):Int) else -((n / 2:Nat):Int)-1
theorem z1v (z:Int):zag (XT z)=z:=by
 unfold XT zag
 split
 ·rw[if_pos (by omega)];omega
 ·rw[if_neg (by omega)];omega
theorem TC {z:Int}{n:Nat}(h1: -(n:Int)≤z)(h2:z<(n:Int)):XT z<2*n:=by
 unfold XT
 split<;>omega
structure MX where
 L6:Nat
 interval:Nat
 zeta:Nat
def Mm (succ ref:List Nat):List Nat:=ref.foldl (fun rs y=>Mh rs (decide (y∈succ))) [0]
theorem NT (succ ref:List Nat):Og (Mm succ ref) (ref.map fun y=>decide (y∈succ)):=by
 unfold Mm
 have key:∀(l:List Nat) (rs:List Nat) (fs:List Bool),Og rs fs→Og (l.foldl (fun rs y=>Mh rs (decide (y∈succ))) rs) (fs++l.map fun y=>decide (y∈succ)):=by
  intro l
  induction l with
  |nil=>intro rs fs h;simpa using h
  | cons y l ih =>
    intro rs fs h;have:=ih _ _ (h.step (decide (y∈succ)))
    simpa using this
 simpa using key ref [0] [] Og.zero
def leftOf (succ ref:List Nat):List Nat:=succ.filter fun v=>decide (v∉ref)
theorem z1C (P:Nat→Bool):∀l:List Nat,sel l (l.map P)=l.filter P
 |[]=>rfl
 | x :: l => by
   rw[List.map_cons,sel,z1C P l];cases h:P x<;>simp[h]
theorem z2V (succ ref:List Nat):copyL true (Mm succ ref).dropLast ref=ref.filter fun y=>decide (y∈succ):=by
 have h:=NT succ ref
 obtain⟨l,n,e⟩:∃l n,Mm succ ref=l++[n]:=⟨_,_,(List.dropLast_concat_getLast h.ne).symm⟩
 rw[e,List.dropLast_concat]
 have he:=h.exp
 rw[e] at he
 have hl:ref.length=(l++[n]).sum:=by
  have:=congrArg List.length he;rw[NC,List.length_map] at this;exact this.symm
 rw[Ze true l n ref hl,he,z1C]
def runNums:Nat→List Nat→List (Cd×Nat)
 |_,[]=>[]
 |i,n::r=>(.gamma,n-min i 1)::runNums (i+1) r
def longNums (x least:Nat):Option Nat→List (Nat×Nat)→List (Cd×Nat)
 |_,[]=>[]
 |none,p::r=>(.gamma,XT ((p.1:Int)-x))::(.gamma,p.2-least)::longNums x least (some (p.1+p.2-1)) r
 |some e,p::r=>(.gamma,p.1-e-2)::(.gamma,p.2-least)::longNums x least (some (p.1+p.2-1)) r
def restNums (x k:Nat):Option Nat→List Nat→List (Cd×Nat)
 |_,[]=>[]
 |none,v::r=>(.zeta k,XT ((v:Int)-x))::restNums x k (some v) r
 |some u,v::r=>(.zeta k,v-u-1)::restNums x k (some v) r
def My (p:MX)(x:Nat)(succ ref:List Nat)(r:Nat):List (Cd×Nat):=
 (.gamma,succ.length)::if succ=[] then [] else
  (if 0<p.L6 then [(.unary,r)] else [])++
  ((if 0<r then(.gamma,(Mm succ ref).length-1)::runNums 0 (Mm succ ref).dropLast else [])++
  (if leftOf succ ref=[] then [] else
   (if 0<p.interval then(.gamma,(rowsN p.interval (leftOf succ ref)).1.length)::longNums x p.interval none (rowsN p.interval (leftOf succ ref)).1 else [])++
   restNums x p.zeta none (rowsN p.interval (leftOf succ ref)).2))
def L3 (l:List (Cd×Nat)):List Bool:=l.flatMap fun p=>p.1.enc p.2
theorem z0P {succ ref:List Nat}(hs:Ris succ)(hr:Ris ref)(p:Nat):(ref.filter (fun y=>decide (y∈succ))++(Me (rowsN p (leftOf succ ref)).1++(rowsN p (leftOf succ ref)).2)).Perm succ:=by
 have h1:(ref.filter fun y=>decide (y∈succ)).Perm (succ.filter fun v=>decide (v∈ref)):=by
  refine(List.perm_ext_iff_of_nodup (hr.imp (fun h=>by omega) |>.filter _) (hs.imp (fun h=>by omega) |>.filter _)).2 fun a=>?_;simp only[List.mem_filter,decide_eq_true_eq];exact And.comm
 refine(h1.append (Ot p _)).trans ?_
 unfold leftOf
 have:=List.filter_append_perm (fun v=>decide (v∈ref)) succ
 refine List.Perm.trans ?_ this
 refine List.Perm.append_left _ ?_
 simp
theorem ZZ {a b:List Nat}(h:a.Perm b)(ha:a.Pairwise (·≤·))(hb:Ris b):a=b:=
 h.eq_of_pairwise (le:=(·≤·)) (fun x y _ _ h1 h2=>by omega) ha (hb.imp (fun h=>by omega))
def NI (least:Nat):Nat→List (Nat×Nat)→Prop
 |_,[]=>True
 |lo,p::r=>lo≤p.1∧1≤p.2∧least≤p.2∧NI least (p.1+p.2+1) r
theorem NI.mono {least:Nat}:∀{r:List (Nat×Nat)} {a b:Nat},NI least b r→a≤b→NI least a r
 |[],_,_,_,_=>trivial
 |p::r,a,b,h,hab=>⟨Nat.le_trans hab h.1,h.2⟩
theorem z0R {x:Nat}{l:List Nat}(h:Ris (x::l)):∀y∈l.drop (runLen x l),x+runLen x l+2≤y:=by
 intro y hy
 obtain⟨j,hj,e⟩:=List.mem_iff_getElem.1 hy
 rw[List.getElem_drop] at e
 rw[List.length_drop] at hj
 obtain⟨h1,h2⟩:=List.pairwise_cons.1 h
 have hle:=Rv x l
 have h0:runLen x l<l.length:=by omega
 obtain⟨z,hz⟩:∃z,l[runLen x l]? =some z:=⟨_,List.getElem?_eq_getElem h0⟩
 have hs:=R4 x l z hz
 have hz':=(List.getElem?_eq_some_iff.1 hz).2
 have hzx:x+runLen x l<z:=by
  by_cases e0:runLen x l=0
  ·have:=h1 z (List.mem_of_getElem? hz);omega
  ·have hg:=Qb x l (runLen x l-1) (by omega);obtain⟨g1,g2⟩:=List.getElem?_eq_some_iff.1 hg;have:=List.pairwise_iff_getElem.1 h2 (runLen x l-1) (runLen x l) g1 h0 (by omega);rw[g2,hz'] at this;omega
 have hzy:z≤y:=by
  by_cases e0:j=0
  ·subst e0;simp at e;rw[←e,←hz'];exact Nat.le_refl _
  ·have:=List.pairwise_iff_getElem.1 h2 (runLen x l) (runLen x l+j) h0 (by omega) (by omega);rw[e,hz'] at this;omega
 omega
theorem PF (least:Nat):∀(l:List Nat) (lo:Nat),Ris l→(∀y∈l,lo≤y)→NI least lo (rowsN least l).1
 |[],lo,_,_=>by rw[rowsN];trivial
 | x :: l, lo, h, hl => by
   have hb:=z0R h;have h2:Ris (l.drop (runLen x l)):=(List.pairwise_cons.1 h).2.sublist (List.drop_sublist _ _);rw[rowsN];split
   ·rename_i hc
    refine⟨hl x (by simp),by omega,hc.2,PF least _ _ h2 fun y hy=>?_⟩;have:=hb y hy;omega
   ·refine PF least _ _ h2 fun y hy=>?_;have:=hb y hy;have:=hl x (by simp);omega
 termination_by l=>l.length
 decreasing_by all_goals (simp[List.length_drop];omega)
theorem Pa (least:Nat):∀(l:List Nat),(rowsN least l).2.Sublist l
 |[]=>by rw[rowsN];exact List.Sublist.refl _
 | x :: l => by
   have ih:=Pa least (l.drop (runLen x l));rw[rowsN];split
   ·exact(ih.trans (List.drop_sublist _ _)).cons x
   ·have hc:x::l=(x::l.take (runLen x l))++l.drop (runLen x l):=by rw[List.cons_append,List.take_append_drop]
    conv=>rhs;rw[hc]
    exact ih.append_left _
 termination_by l=>l.length
 decreasing_by simp[List.length_drop];omega
set_option maxRecDepth 100000
abbrev Lg (n:Nat):Value:= .int .u32 (n:Int)
theorem Zc (m:Nat)(h:m<18446744073709551616):m^^^18446744073709551615=18446744073709551615-m:=by
 have h1:=congrArg BitVec.toNat (BitVec.xor_allOnes (x:=BitVec.ofNat 64 m))
 rw[BitVec.toNat_xor,BitVec.toNat_not,BitVec.toNat_allOnes,BitVec.toNat_ofNat] at h1
 rw[show(2:Nat)^64=18446744073709551616 from rfl,Nat.mod_eq_of_lt h] at h1
 exact h1
section
variable {P:Program}{e:Env}{d:Option Nat}{ty t t':TypeId}{pos:String}{aft:Array Edge}{g:Option (Nat×Bool)}{x y:Operand}{w:World}{m:Nat}
theorem zap (hx:look e x=some (I (m:Int)))(hy:look e y=some (I 0))(hm:m<2^63):Y P e ⟨d,.binOp .xor t x y t',ty,pos,aft,g⟩ (I (m:Int)) w w:=fun ρ hρ=>by
 have h1:m<2^IntKind.i64.bits:=by simp only[IntKind.bits];omega
 have h2:(BitVec.ofInt IntKind.i64.bits 0).toNat=0:=by decide
 simp only[execOp,eqGuard_xor,binOp_xor,intBits_xor,hρ _ _ hx,hρ _ _ hy,pure_bind,Sem.run_pure,bits,BitVec.toNat_xor,M5 h1,h2,Nat.xor_zero]
 rw[wrap_i64 ⟨by omega,by omega⟩]
theorem z9L (hx:look e x=some (I (m:Int)))(hy:look e y=some (I (-1)))(hm:m<2^63):Y P e ⟨d,.binOp .xor t x y t',ty,pos,aft,g⟩ (I (-(m:Int)-1)) w w:=fun ρ hρ=>by
 have h1:m<2^IntKind.i64.bits:=by simp only[IntKind.bits];omega
 have h2:(BitVec.ofInt IntKind.i64.bits (-1)).toNat=18446744073709551615:=by decide
 simp only[execOp,eqGuard_xor,binOp_xor,intBits_xor,hρ _ _ hx,hρ _ _ hy,pure_bind,Sem.run_pure,bits,BitVec.toNat_xor,M5 h1,h2]
 rw[Zc m (by omega)]
 congr 2
 have h3:((18446744073709551615-m:Nat):Int)=-(m:Int)-1+18446744073709551616:=by omega
 rw[h3]
 simp only[IntKind.wrap,IntKind.bits,IntKind.signed]
 simp
 omega
end
/-! ### Numbers with a sign -/
theorem z1V (z:Int)(h: -4611686018427387904≤z∧z<4611686018427387904)(w:World):Le Tryz.prog 199 [I z] w fun u w'=>u=KV (XT z)∧w'=w:=by
 rcases Int.lt_or_le z 0 with h0|h0
 ·obtain⟨n,rfl⟩:∃n:Nat,z=-(n:Int)-1:=⟨(-z-1).toNat,by omega⟩;refine KA (e:=[(0,_)]) Tryz.func199 rfl Tryz.ntmps199 rfl rfl (qN rfl (KE rfl (qM rfl (An rfl (qV (ycv (b:=((18446744073709551615-n:Nat):Int)) rfl U2 M3 (by simp only[IntKind.wrap,IntKind.bits,IntKind.signed];simp;omega)) ?_)))));refine qV (Mq 1 2 rfl rfl (by decide) rfl) (An rfl (qV (ysr 63 rfl rfl (by decide)) ?_));rw[show(-(n:Int)-1) / 2^63=-1 by omega];refine qV (ycv (b:=((18446744073709551615:Nat):Int)) rfl U2 M3 (by decide)) (qV (UL rfl rfl (by omega) (by omega)) (KE rfl (py (KG Tryz.func199 rfl (⟨_,rfl,?_,rfl⟩)))));rw[Zc _ (by omega)];simp only[resVal]
  congr 2
  unfold XT;rw[if_neg (by omega)];omega
 ·obtain⟨n,rfl⟩:∃n:Nat,z=(n:Int):=⟨z.toNat,by omega⟩;refine KA (e:=[(0,_)]) Tryz.func199 rfl Tryz.ntmps199 rfl rfl (qN rfl (KE rfl (qM rfl (An rfl (qV ((by first|exact Lw rfl U2 M3 (by omega)|exact MI rfl U2 M3)) ?_)))));refine qV (Mq 1 2 rfl rfl (by decide) rfl) (An rfl (qV (Ps 63 9223372036854775808 rfl rfl (by decide) rfl) (qV ((by first|exact Lw rfl U2 M3 (by omega)|exact MI rfl U2 M3)) ?_)));refine qV (UL rfl rfl (by omega) (by omega)) (KE rfl (py (KG Tryz.func199 rfl (⟨_,rfl,?_,rfl⟩))));rw[show n / 9223372036854775808=0 by omega,Nat.xor_zero];simp only[resVal]
  congr 2
  unfold XT;rw[if_pos (by omega)];omega
theorem z1H (n:Nat)(h:n<9223372036854775808)(w:World):Le Tryz.prog 212 [KV n] w fun u w'=>u=I (zag n)∧w'=w:=by
 refine KA (e:=[(0,_)]) Tryz.func212 rfl Tryz.ntmps212 rfl rfl (qN rfl (KE rfl (qM rfl (An rfl (qV (Ps 1 2 rfl rfl (by decide) rfl) (qV (Ln rfl M3 U2 (by omega)) (An rfl (qV (Ph rfl rfl (by omega) (by omega)) ?_))))))))
 rw[Nat.and_one_is_mod]
 refine qV (Ln rfl M3 U2 (by omega)) ?_
 rcases Nat.mod_two_eq_zero_or_one n with h0|h0
 ·rw[h0];refine qV (yng rfl (by decide) (by decide)) (qV (zap rfl rfl (by omega)) (KE rfl (py (KG Tryz.func212 rfl (⟨_,rfl,?_,rfl⟩)))));simp only[resVal];unfold zag;rw[if_pos h0]
 ·rw[h0];refine qV (yng rfl (by decide) (by decide)) (qV (z9L rfl rfl (by omega)) (KE rfl (py (KG Tryz.func212 rfl (⟨_,rfl,?_,rfl⟩)))));simp only[resVal];unfold zag;rw[if_neg (by omega)]
/-! ### The parameters -/
def Um (p:MX):List Value:=[I (p.L6:Int),I (p.interval:Int),I (p.zeta:Int)]
abbrev lpV (p:MX):Value:= .agg (Um p).toArray
def MX.LS (p:MX):Prop:=p.L6≤16∧(p.interval=0∨2≤p.interval∧p.interval≤64)∧1≤p.zeta∧p.zeta≤16
theorem OI (p:MX)(hp:p.LS)(w:World):Le Tryz.prog 168 [lpV p] w fun u w'=>u=I 0∧Ext w w':=by
 obtain⟨h1,h2,h3,h4⟩:=hp
 refine KA (e:=[(0,_)]) Tryz.func168 rfl Tryz.ntmps168 rfl rfl (qN rfl (KL rfl rfl (Mz rfl (cs:=Um p) rfl) ?_))
 rintro _ w1 ⟨b1,rfl,bT,ad,ai⟩
 replace ai:KP w1 b1 [I (p.L6:Int),I (p.interval:Int),I (p.zeta:Int)] 245:=ai
 refine KE rfl (py (run_seq (KB (run_seq (qN rfl (qV (KK NY rfl) (qV (KJ U3 rfl rfl ai rfl) (qV (LW rfl rfl) (Lq (An rfl (qV (KK NY rfl) (qV (KJ U3 rfl rfl ai rfl) (qV (LH rfl rfl) ?_)))))))))))))
 refine Lq (qV (Lk rfl rfl) (KE rfl (py (Kx rfl (qN rfl (qV (KK Ut rfl) (qV (KJ U3 rfl rfl ai rfl) (qV (LW rfl rfl) (Lq (An rfl (qV (KK Ut rfl) (qV (KJ U3 rfl rfl ai rfl) (qV (LH rfl rfl) ?_)))))))))))))
 refine Lq (qV (Lk rfl rfl) (KE rfl (py (Kx rfl (KF rfl (qV (KK OW rfl) (qV (KJ U3 rfl rfl ai rfl) (qV (LQ rfl rfl) (Ng (fun e1=>?_) (fun e1=>?_))))))))))
 ·refine An rfl (qV (KK OW rfl) (qV (KJ U3 rfl rfl ai rfl) (qV (LW rfl rfl) (Lq (An rfl (qV (KK OW rfl) (qV (KJ U3 rfl rfl ai rfl) (qV (LH rfl rfl) (Lq (qV (Lk rfl rfl) (qV (LK rfl rfl) (KE rfl (py ?_)))))))))))));refine Lc.qb (e:=[(2,_),(3,_)]) ?_;refine Kx rfl (It (KC (qN rfl (KE rfl (py (KG Tryz.func168 rfl ?_))))));exact⟨_,rfl,rfl,ad⟩
 ·refine An rfl (qS (qS (qS (qS (qS (qS (qS (qS (qV (Lk rfl rfl) (KE rfl (py (Lc.qb (e:=[(2,_),(3,_)]) ?_))))))))))));refine Kx rfl (It (KC (qN rfl (KE rfl (py (KG Tryz.func168 rfl ?_))))));exact⟨_,rfl,rfl,ad⟩
theorem Qg (n:Nat)(h:n<65536)(w:World):Le Tryz.prog 169 [I (n:Int)] w fun u w'=>u= .bool true∧w'=w:=by
 refine KA (e:=[(0,_)]) Tryz.func169 rfl Tryz.ntmps169 rfl rfl (qN rfl (KE rfl (qM rfl (An rfl (qV (OL rfl rfl) (MC (An rfl (An rfl (qV (LW rfl rfl) (MC (qV (LK rfl rfl) (KE rfl (py ?_)))))))))))))
 refine KG Tryz.func169 rfl ?_
 exact⟨_,rfl,rfl,rfl⟩
structure Lj (l:List Nat):Prop where
 Vw:Ris l
 lt:∀y∈l,y<65536
theorem Xa:∀(l:List Nat) (lo hi:Nat),Ris l→(∀y∈l,lo≤y∧y<hi)→lo≤hi→lo+l.length≤hi
 |[],lo,hi,_,_,h=>h
 | x :: l, lo, hi, hr, hm, h => by
   have h1:=(List.pairwise_cons.1 hr);have h2:=hm x List.mem_cons_self;have:=Xa l (x+1) hi h1.2 (fun y hy=>⟨h1.1 y hy,(hm y (List.mem_cons_of_mem _ hy)).2⟩) (by omega);rw[List.length_cons];omega
theorem Lj.len {l:List Nat}(h:Lj l):l.length≤65536:=by
 have:=Xa l 0 65536 h.Vw (fun y hy=>⟨Nat.zero_le _,h.lt y hy⟩) (by decide)
 omega
theorem Lj.sub {l m:List Nat}(h:Lj l)(hs:m.Sublist l):Lj m:=⟨h.Vw.sublist hs,fun y hy=>h.lt y (hs.subset hy)⟩
theorem QI (v:Value)(l:List Nat)(hl:Lj l)(w:World)(hr:Rd w v 1 l.length (l.map Lg)):
  Le Tryz.prog 170 [v] w fun u w'=>u= .bool true∧w'=w:=by
 have aD:=hl.len
 obtain⟨a,cap,rfl,ha⟩:=hr.shape
 refine KA (e:=[(0,_)]) Tryz.func170 rfl Tryz.ntmps170 rfl rfl (qN rfl (KE rfl (py (run_seq (qN rfl (An rfl (qV (LG L9 rfl) (An rfl (py (KB (MQ (α:=Nat) (0) (fun i=>[(0,.slice a l.length cap),(5,.slice a l.length cap),(6,I (l.length:Int)),(7,I (i:Int))]) (fun i w'=>w'=w∧i≤l.length) (fun i=>l.length-i) ?hI ?hround)))))))))))
 case hI=>exact⟨rfl,by omega⟩
 case hround=>
  rintro i _ ⟨rfl,hi⟩ ih
  try dsimp only
  refine qN rfl (qV (LW rfl rfl) (py (run_seq (KQ rfl (fun aQ=>?_) (fun aQ=>?_)))))
  ·have fk:i<l.length:=by omega
   have hy:=hl.lt l[i] (List.getElem_mem fk);rcases hr.2 with⟨c,-,h⟩|⟨b,off,cap',kw,bh⟩
   ·omega
   cases kw;refine It (run_seq (KB (qN rfl (An rfl (qV (Lt L9 KY rfl rfl (by omega)) (qV (Lb Mg rfl rfl (bh (i*1) (Lg l[i]) (by simp[fk]))) ?_))))));refine KE rfl (KE rfl (qM rfl (An rfl (qV (OL rfl rfl) (Lq (An rfl (An rfl (qV (LH rfl rfl) (Ng (fun e1=>?_) (fun e1=>?_))))))))))
   ·have hp:l[i-1]<l[i]:=(List.pairwise_iff_getElem.1 hl.Vw) (i-1) i (by omega) fk (by omega);refine An rfl (An rfl (An rfl (An rfl (qV (M8 rfl rfl (by omega)) ?_))));rw[show(i:Int)-1=((i-1:Nat):Int) by omega];refine qV (Lt L9 KY rfl rfl (by omega)) (qV (Lb Mg rfl rfl (bh ((i-1)*1) (Lg l[i-1]) (by simp[show i-1<l.length by omega]))) ?_);refine qV (Qh rfl rfl) (Lq (qV (LK rfl rfl) (qV (Lk rfl rfl) (py (Kx rfl (It (KC (KF rfl (Lz rfl rfl (An rfl (py ?_)))))))))));exact(ih (i+1) _ ⟨rfl,by omega⟩ (by omega)).qb
   ·refine An rfl (qS (qS (qS (qS (qS (qS (qS (qV (Lk rfl rfl) (qV (Lk rfl rfl) (py (Kx rfl (It (KC ?_)))))))))))));refine KF rfl (Lz rfl rfl (An rfl (py ?_)));exact(ih (i+1) _ ⟨rfl,by omega⟩ (by omega)).qb
  ·refine KO rfl (qN rfl (KE rfl (py (KG Tryz.func170 rfl ?_))));exact⟨_,rfl,rfl,rfl⟩
theorem z5J (p:MX)(hp:p.LS)(x:Nat)(hx:x<65536)(v u:Value)(l m:List Nat)(r:Nat)(hl:Lj l)(hm:Lj m)(hr:r≤p.L6)(ky:r=0→m=[])(w:World)
  (gz:Rd w v 1 l.length (l.map Lg)) (yg:Rd w u 1 m.length (m.map Lg)):
  Le Tryz.prog 174 [lpV p,I (x:Int),v,u,I (r:Int)] w fun o w'=>o= .bool true∧Ext w w':=by
 obtain⟨h1,h2,h3,h4⟩:=id hp
 refine KA (e:=[(0,_),(1,_),(2,_),(3,_),(4,_)]) Tryz.func174 rfl Tryz.ntmps174 rfl rfl (qN rfl (KL rfl rfl (Mz rfl (cs:=Um p) rfl) ?_))
 rintro _ w1 ⟨b1,rfl,bT,ad,ai⟩
 refine KE rfl (qM rfl (qV (La (news:=Um p) Tj rfl OM rfl (ai.cells (n:=3) rfl) rfl) (L2 [.tmp 11] YE rfl (OI p hp w1) ?_)))
 rintro _ w2 ⟨rfl,af⟩
 have ak:=af.KD ai
 replace ak:KP w2 b1 [I (p.L6:Int),I (p.interval:Int),I (p.zeta:Int)] 245:=ak
 refine qV (Mc rfl rfl) (MC (An rfl (An rfl (L2 [.tmp 15] z1O rfl (Qg x hx w2) ?_))))
 rintro _ w3 ⟨rfl,rfl⟩
 refine qV (LK rfl rfl) (An rfl (An rfl (L2 [.tmp 19] Zk rfl (QI v l hl w3 (gz.ext (ad.trans af))) ?_)))
 rintro _ w4 ⟨rfl,rfl⟩
 refine qV (LK rfl rfl) (An rfl (An rfl (L2 [.tmp 23] Zk rfl (QI u m hm w4 (yg.ext (ad.trans af))) ?_)))
 rintro _ w5 ⟨rfl,rfl⟩
 refine qV (LK rfl rfl) (An rfl ?_)
 obtain⟨ua,uc,rfl,-⟩:=yg.shape
 refine An rfl (qV (OL rfl rfl) (MC (qV (LK rfl rfl) (An rfl (An rfl (qV (KK NY rfl) (qV (KJ U3 rfl rfl ak rfl) (qV (Qh rfl rfl) (MC (qV (LK rfl rfl) (An rfl (An rfl (qV (LH rfl rfl) ?_)))))))))))))
 refine Ng (fun e1=>?_) (fun e1=>?_)
 ·refine An rfl (qS (qS (qS (qV (LK rfl rfl) (qV (LK rfl rfl) (KE rfl (py (Lc.qb (e:=[(10,_)]) ?_))))))));refine KG Tryz.func174 rfl ?_;exact⟨_,rfl,rfl,ad.trans af⟩
 ·have e2:=ky (by omega);subst e2;refine An rfl (An rfl (qV (LG L9 rfl) (qV (Mc rfl rfl) (MC (qV (Lk rfl rfl) (qV (LK rfl rfl) (KE rfl (py (Lc.qb (e:=[(10,_)]) ?_)))))))));refine KG Tryz.func174 rfl ?_;exact⟨_,rfl,rfl,ad.trans af⟩
theorem Sh (l:List Nat):∀c∈l.map Lg,c.oneCell'=true:=by
 intro c hc
 obtain⟨x,-,rfl⟩:=List.mem_map.1 hc
 rfl
def Wj (p:Nat×Nat):List Value:=[I (p.1:Int),I (p.2:Int)]
theorem z2C (l:List (Nat×Nat)):(l.flatMap Wj).length=l.length*2:=by
 induction l with
 |nil=>rfl
 |cons p l ih=>rw[List.flatMap_cons,List.length_append,ih,List.length_cons,show(Wj p).length=2 from rfl];omega
theorem Sl.oneV {w:World}{v:Value}{e size n:Nat}{cs:List Value}(h:Sl w v e size n cs):oneV v=true:=by
 rcases h.shape with⟨rfl,-⟩|⟨g,cap,rfl,-⟩<;>rfl
structure z63 (w:World)(l:List Nat)(least:Nat)(r:List Nat)(a:Option Addr)(cap:Nat)(v4 v5:Value)(R:List (Nat×Nat))(O:List Nat)(w':World):Prop where
 ext:Ext w w'
 cl:r.length≤cap
 rd:Rd w (.slice a r.length cap) 1 r.length (r.map Lg)
 s4:Sl w' v4 325 2 R.length (R.flatMap Wj)
 s5:Sl w' v5 46 1 O.length (O.map Lg)
 f4:∀g,v4.ownBlock=some g→w.heap.size≤g
 f5:∀g,v5.ownBlock=some g→w.heap.size≤g
 ne:∀g,v4.ownBlock=some g→v5.ownBlock≠some g
 ok:Lj r
 eq:rowsN least l=(R++(rowsN least r).1,O++(rowsN least r).2)
 len:R.length+O.length+r.length≤65536
theorem OP {w:World}{a:Option Addr}{n cap i:Nat}{cs:List Value}(h:Rd w (.slice a n cap) 1 n cs)(hi:i≤n)(hc:n≤cap):Rd w (.slice (if cap=i then a else a.map (·.add (i*1))) (n-i) (cap-i)) 1 (n-i) (cs.drop i):=by
 have hl:=h.1
 refine⟨by rw[List.length_drop,hl];omega,?_⟩
 rcases h.2 with⟨c,hv,h0⟩|⟨b,off,cap',hv,bh⟩
 ·refine .inl ⟨((if cap=i then a else a.map (·.add (i*1))),cap-i),?_,by omega⟩;rw[show n-i=0 by omega]
 ·cases hv;by_cases e:cap=i
  ·rw[if_pos e];refine .inl ⟨(some ⟨b,off,none⟩,cap-i),?_,by omega⟩;rw[show n-i=0 by omega]
  ·rw[if_neg e];refine .inr ⟨b,off+i*1,cap-i,?_,fun j u hu=>?_⟩
   ·simp only[Option.map_some,Mr]
   ·rw[List.getElem?_drop] at hu;have:=bh (i+j) u hu;rw[show off+i*1+j=off+(i+j) by omega];exact this
theorem Qp {w:World}{a:Option Addr}{n cap i:Nat}{cs:List Value}(h:Rd w (.slice a n cap) 1 n cs)(hi:i≤n):Rd w (.slice a i cap) 1 i (cs.take i):=by
 have hl:=h.1
 refine⟨by rw[List.length_take,hl];omega,?_⟩
 rcases h.2 with⟨c,hv,h0⟩|⟨b,off,cap',hv,bh⟩
 ·refine .inl ⟨(a,cap),?_,by omega⟩;rw[show i=0 by omega]
 ·cases hv;refine .inr ⟨b,off,cap,rfl,fun j u hu=>?_⟩;rw[List.getElem?_take] at hu;split at hu
  ·exact bh j u hu
  ·cases hu
theorem z63.grow {w w1 w2:World}{l r:List Nat}{least cap:Nat}{a:Option Addr}{v4 v5:Value}{R:List (Nat×Nat)}{O:List Nat}(h:z63 w l least r a cap v4 v5 R O w1)(hx:Ext w1 w2):z63 w l least r a cap v4 v5 R O w2:=
 ⟨h.ext.trans hx,h.cl,h.rd,h.s4.ext hx,h.s5.ext hx,h.f4,h.f5,h.ne,h.ok,h.eq,h.len⟩
theorem z5o (a : Option Addr)(cap : Nat)(l : List Nat)(least : Nat)(te : Lj l)(jd : l.length ≤ cap)(jh : least ≤ 64)(w : World)(hr : Rd w (.slice a l.length cap) 1 l.length (l.map Lg)) :
  Le Tryz.prog 198 [.slice a l.length cap,I (least:Int)] w fun u w'=>∃v4 v5,u= .tuple #[v4,v5]∧Sl w' v4 325 2 (rowsN least l).1.length ((rowsN least l).1.flatMap Wj)∧
   Sl w' v5 46 1 (rowsN least l).2.length ((rowsN least l).2.map Lg)∧Ext w w'∧(∀g,v4.ownBlock=some g→w.heap.size≤g)∧(∀g,v5.ownBlock=some g→w.heap.size≤g)∧∀g,v4.ownBlock=some g→v5.ownBlock≠some g:=by
 refine KA (e:=[(0,_),(1,_)]) Tryz.func198 rfl Tryz.ntmps198 rfl rfl (qN rfl (KE rfl (KE rfl (py (run_seq (KB (MQ (α:=List Nat×Option Addr×Nat×Value×Value×List (Nat×Nat)×List Nat) ((l,a,cap,.slice none 0 0,.slice none 0 0,[],[])) (fun x=>[(0,.slice x.2.1 x.1.length x.2.2.1),(1,I (least:Int)),(4,x.2.2.2.1),(5,x.2.2.2.2.1)]) (fun x w'=>z63 w l least x.1 x.2.1 x.2.2.1 x.2.2.2.1 x.2.2.2.2.1 x.2.2.2.2.2.1 x.2.2.2.2.2.2 w') (fun x=>x.1.length) ?hI ?hround)))))))
 case hI=>exact⟨Ext.refl _,jd,hr,Sl.nil _ _ _,Sl.nil _ _ _,(fun g h=>by cases h),(fun g h=>by cases h),(fun g h=>by cases h),te,rfl,by have:=te.len;simp;omega⟩
 case hround =>
  rintro⟨r,a1,c1,v4,v5,R,O⟩ w6 hI ih;dsimp only at hI
  try dsimp only
  refine run_seq (qN rfl (An rfl (qV (LG L9 rfl) (qV (LH rfl rfl) (py (KQ rfl (fun h0=>?_) (fun h0=>?_)))))))
  ·obtain⟨y,r',rfl⟩:∃y r',r=y::r':=by
    cases r with
    |nil=>exact absurd h0 (by simp)
    |cons y r'=>exact⟨y,r',rfl⟩
   have gz:=Rv y r';have G8:=hI.ok.lt y List.mem_cons_self;have iq:=hI.ok.len;rw[List.length_cons] at iq
   obtain⟨b,off,kw,bh⟩:∃b off,a1=some ⟨b,off,none⟩∧∀j u,((y::r').map Lg)[j]? =some u→w6.cell? ⟨b,off+j,none⟩=some u:=by
    rcases (hI.rd.ext hI.ext).2 with⟨c,-,h⟩|⟨b,off,cap',kw,bh⟩
    ·exact absurd h (by simp)
    ·cases kw;exact⟨b,off,rfl,bh⟩
   subst kw
   have ji:∀w',Ext w w'→∀j u,((y::r').map Lg)[j]? =some u→w'.cell? ⟨b,off+j,none⟩=some u:=fun w' hx=>by
    rcases (hI.rd.ext hx).2 with⟨c,-,h⟩|⟨b',off',cap',kw,hc⟩
    ·exact absurd h (by simp)
    ·cases kw;exact hc
   clear bh;refine It (KB (qN rfl (KE rfl (py (run_seq (KB (Nz (fun e' w'=>Ext w6 w'∧e'=[(0,.slice (some ⟨b,off,none⟩) (y::r').length c1),(1,I (least:Int)),(4,v4),(5,v5),(6,I ((runLen y r'+1:Nat):Int))]) ?qF (fun qF=>?zV))))))))
   case qF=>
    rintro e' w6z ⟨aK,rfl⟩;replace hI:=hI.grow aK;have bh:=ji _ hI.ext
    generalize hn:runLen y r'+1=n
    have tf:=hI.cl;rw[List.length_cons] at tf;have dt:=hI.eq;have aD:=hI.len;rw[List.length_cons] at aD;have du:1≤n∧n≤r'.length+1:=by omega
    have Ee:r'.drop (runLen y r')=(y::r').drop n:=by rw[←hn];rfl
    have lX:y::r'.take (runLen y r')=(y::r').take n:=by rw[←hn];rfl
    rw[rowsN] at dt;simp only[hn,Ee,lX] at dt;have aw:Lj ((y::r').drop n):=hI.ok.sub (List.drop_sublist _ _);have dX:=OP hI.rd (i:=n) (by rw[List.length_cons];omega) hI.cl;rw[←List.map_drop,show(y::r').length-n=((y::r').drop n).length by rw[List.length_drop]] at dX;have jN:((y::r').drop n).length=r'.length+1-n:=by rw[List.length_drop,List.length_cons]
    by_cases hL:0<least∧least≤n
    ·obtain⟨yi,Ef⟩:=hL;rw[if_pos ⟨yi,Ef⟩] at dt;refine run_seq (qN rfl (An rfl (qV (LH rfl rfl) (MC (An rfl (An rfl (An rfl (qV (OL rfl rfl) (MC (qV (LK rfl rfl) (py (KS rfl (KF rfl ?_)))))))))))));refine An rfl (An rfl (qV (Lt L9 KY rfl rfl (by omega)) (qV (Lb Mg rfl rfl (bh (0*1) (Lg y) rfl)) (qV (Ln rfl Mg U3 (by omega)) (An rfl (qV (Nc (parts:=[(0,.tmp 40),(1,.tmp 41)]) (cs:=[_,_]) Vb rfl z8W rfl rfl) (KL rfl rfl (Tb (parts:=[(0,.tmp 42)]) (cs:=[_,_]) (zs:=[Value.int .i64 0,Value.int .i64 0]) z4S Vb rfl (by kernel_rfl) rfl rfl rfl (by decide)) ?_)))))));rintro _ w7 ⟨b7,rfl,⟨kr,bL,bG⟩,gK⟩;refine KL rfl rfl (pap z4S Vb rfl (by decide) rfl rfl (hI.s4.ext bL) gK.rd (by intro c hc;simp at hc;rcases hc with rfl|rfl<;>rfl) (by omega) (by simp only[maxLen];omega)) ?_;rintro v4' w8 ⟨er,bj,jR,-⟩;have lI:=er.oneV;have hz:=hI.ext.size;have yj:=bL.size;have cE:Ext w w8:=(hI.ext.trans bL).Kz bj (fun i hi=>hI.f4 i hi);have nH:Sl w8 v5 46 1 O.length (O.map Lg):=(hI.s5.ext bL).kp bj (fun g hg e=>hI.ne g e hg);refine KE rfl (py (KF rfl (An rfl (An rfl (qV (Si L9 KY rfl rfl (by rw[List.length_cons];omega) hI.cl) ?_)))));refine KE rfl (py (KC ?_));rw[show(y::r').length-n=((y::r').drop n).length by rw[List.length_drop]];refine(ih ((y::r').drop n,_,c1-n,v4',v5,R++[(y,n)],O) _ ⟨cE,by dsimp only;rw[jN];omega,dX,?_,nH,?_,hI.f5,?_,aw,?_,?_⟩ ?_).qb
     ·dsimp only;rw[List.length_append,List.flatMap_append];exact er
     ·intro g hg;rcases jR g hg with h| h
      ·exact hI.f4 g h
      ·omega
     ·intro g hg e;rcases jR g hg with h| h
      ·exact hI.ne g h e
      ·have:=hI.s5.lt e;omega
     ·dsimp only;rw[dt,List.append_assoc];rfl
     ·dsimp only;rw[List.length_append,List.length_singleton,jN];omega
     ·dsimp only;rw[jN,List.length_cons];omega
    ·rw[if_neg hL] at dt;rcases Nat.eq_zero_or_pos least with e0|e0
     ·refine run_seq (qN rfl (An rfl (qV (LH rfl rfl) (Lq (An rfl (qS (qS (qS (qV (Lk rfl rfl) (py (Kx rfl (KF rfl (An rfl ?_)))))))))))));refine An rfl (An rfl (qV (z3Q L9 KY rfl rfl (by omega)) (KL rfl rfl (pap L9 KY rfl (by decide) rfl rfl hI.s5 (Qp (hI.rd.ext hI.ext) (i:=n) (by rw[List.length_cons];omega)) (by rw[←List.map_take];exact Sh _) (by omega) (by simp only[maxLen];omega)) ?_)));rintro v5' w8 ⟨er,bj,jR,-⟩;have lI:=er.oneV;have hz:=hI.ext.size;have cE:Ext w w8:=hI.ext.Kz bj (fun i hi=>hI.f5 i hi);have th:Sl w8 v4 325 2 R.length (R.flatMap Wj):=hI.s4.kp bj (fun g hg e=>hI.ne g hg e);refine KE rfl (py (KF rfl (An rfl (An rfl (qV (Si L9 KY rfl rfl (by rw[List.length_cons];omega) hI.cl) ?_)))));refine KE rfl (py (KC ?_));rw[show(y::r').length-n=((y::r').drop n).length by rw[List.length_drop]];have m9:((y::r').take n).length=n:=by rw[List.length_take,List.length_cons];omega
      refine(ih ((y::r').drop n,_,c1-n,v4,v5',R,O++(y::r').take n) _ ⟨cE,by dsimp only;rw[jN];omega,dX,th,?_,hI.f4,?_,?_,aw,?_,?_⟩ ?_).qb
      ·dsimp only;rw[List.length_append,List.map_append,m9,List.map_take];exact er
      ·intro g hg;rcases jR g hg with h| h
       ·exact hI.f5 g h
       ·omega
      ·intro g hg e;rcases jR g e with h| h
       ·exact hI.ne g hg h
       ·have:=hI.s4.lt hg;omega
      ·dsimp only;rw[dt,List.append_assoc]
      ·dsimp only;rw[List.length_append,m9,jN];omega
      ·dsimp only;rw[jN,List.length_cons];omega
     ·have Ef:¬least≤n:=fun h=>hL ⟨e0,h⟩;refine run_seq (qN rfl (An rfl (qV (LH rfl rfl) (MC (An rfl (An rfl (An rfl (qV (OL rfl rfl) (Lq (qV (LK rfl rfl) (py (Kx rfl (KF rfl ?_)))))))))))));refine An rfl (An rfl (An rfl (qV (z3Q L9 KY rfl rfl (by omega)) (KL rfl rfl (pap L9 KY rfl (by decide) rfl rfl hI.s5 (Qp (hI.rd.ext hI.ext) (i:=n) (by rw[List.length_cons];omega)) (by rw[←List.map_take];exact Sh _) (by omega) (by simp only[maxLen];omega)) ?_))));rintro v5' w8 ⟨er,bj,jR,-⟩;have lI:=er.oneV;have hz:=hI.ext.size;have cE:Ext w w8:=hI.ext.Kz bj (fun i hi=>hI.f5 i hi);have th:Sl w8 v4 325 2 R.length (R.flatMap Wj):=hI.s4.kp bj (fun g hg e=>hI.ne g hg e);refine KE rfl (py (KF rfl (An rfl (An rfl (qV (Si L9 KY rfl rfl (by rw[List.length_cons];omega) hI.cl) ?_)))));refine KE rfl (py (KC ?_));rw[show(y::r').length-n=((y::r').drop n).length by rw[List.length_drop]];have m9:((y::r').take n).length=n:=by rw[List.length_take,List.length_cons];omega
      refine(ih ((y::r').drop n,_,c1-n,v4,v5',R,O++(y::r').take n) _ ⟨cE,by dsimp only;rw[jN];omega,dX,th,?_,hI.f4,?_,?_,aw,?_,?_⟩ ?_).qb
      ·dsimp only;rw[List.length_append,List.map_append,m9,List.map_take];exact er
      ·intro g hg;rcases jR g hg with h| h
       ·exact hI.f5 g h
       ·omega
      ·intro g hg e;rcases jR g e with h| h
       ·exact hI.ne g hg h
       ·have:=hI.s4.lt hg;omega
      ·dsimp only;rw[dt,List.append_assoc]
      ·dsimp only;rw[List.length_append,m9,jN];omega
      ·dsimp only;rw[jN,List.length_cons];omega
   case zV =>
    refine MQ (α:=Nat) (1) (fun i=>[(0,.slice (some ⟨b,off,none⟩) (y::r').length c1),(1,I (least:Int)),(4,v4),(5,v5),(6,I (i:Int))]) (fun i w'=>Ext w6 w'∧1≤i∧i≤runLen y r'+1) (fun i=>runLen y r'+2-i) ?hI ?hround
    case hI=>exact⟨Ext.refl _,by omega,by omega⟩
    case hround=>
     rintro i w7 ⟨bL,yk,de⟩ ih2
     try dsimp only
     refine run_seq (run_seq ?_);have hg:=(Ext.refl w7).drew;refine KN (fun w'=>Ext w7 w') (by kernel_rfl) rfl (KH 0 rfl (KM rfl) hg (KH 1 rfl (KM rfl) hg (KH 2 rfl (LG L9 rfl) hg (KH 3 rfl (LW rfl rfl) hg (zbA (fun e1=>?_) (fun e1=>?_))))))
     ·have Jz:i<r'.length+1:=by rw[List.length_cons] at e1;omega
      have cL:r'[i-1]? =some (r'[i-1]'(by omega)):=List.getElem?_eq_getElem (by omega);have JA:r'[i-1]'(by omega)<65536:=hI.ok.lt _ (List.mem_cons_of_mem _ (List.getElem_mem _));refine KH 4 rfl (KM rfl) hg (KH 5 rfl (KM rfl) hg (KH 6 rfl (KM rfl) hg (KH 7 rfl (Lt L9 KY rfl rfl (by omega)) hg (KH 9 rfl (KM rfl) hg (KH 10 rfl (Lt L9 KY rfl rfl (by omega)) hg (KH 12 rfl (KM rfl) hg (KH 13 rfl (YR rfl U3 Mg) hg (qT 8 rfl (fun _ hS=>Lb Mg rfl rfl (by exact ji _ ((hI.ext.trans bL).trans hS) (i*1) (Lg (r'[i-1]'(by omega))) (by rw[List.getElem?_map,show i*1=(i-1)+1 by omega,List.getElem?_cons_succ,cL];rfl))) hg ?_))))))));refine qT 11 rfl (fun _ hS=>Lb Mg rfl rfl (by exact ji _ ((hI.ext.trans bL).trans hS) (0*1) (Lg y) rfl)) hg ?_;refine KH 14 rfl (zaX rfl rfl) hg (KH 15 rfl (Mc rfl rfl) hg (KH 16 rfl (LK rfl rfl) hg (qE (KQ rfl (fun e2=>?_) (fun e2=>?_)))))
      ·refine It (KB (KF rfl (An rfl (Lz rfl rfl (KE rfl (py (KC ?_)))))))
       have bE:i≠runLen y r'+1:=fun e=>by
        subst e;have:=R4 y r' (r'[runLen y r'+1-1]'(by omega)) (by rw[←cL];simp);omega
       exact(ih2 (i+1) _ ⟨bL.trans hg,by omega,by omega⟩ (by omega)).qb
      ·have zW:i=runLen y r'+1:=by
        rcases Nat.lt_or_ge (i-1) (runLen y r') with h| h
        ·have h1:=Qb y r' (i-1) h;rw[cL] at h1;have h2:=MA h1;exact absurd (by omega) e2
        ·omega
       refine KO rfl ?_;subst zW;exact(qF _ _ ⟨bL.trans hg,rfl⟩).qb
     ·have zW:i=runLen y r'+1:=by rw[List.length_cons] at e1;omega
      refine KH 4 rfl (KM rfl) hg (qJ 5 rfl (hg) (qJ 6 rfl (hg) (qJ 7 rfl (hg) (qJ 8 rfl (hg) (qJ 9 rfl (hg) (qJ 10 rfl (hg) (qJ 11 rfl (hg) (qJ 12 rfl (hg) (qJ 13 rfl (hg) (qJ 14 rfl (hg) (qJ 15 rfl (hg) (KH 16 rfl (Lk rfl rfl) hg (qE ?_)))))))))))));refine Kx rfl (KO rfl ?_);subst zW;exact(qF _ _ ⟨bL.trans hg,rfl⟩).qb
  ·have ez:r=[]:=List.eq_nil_of_length_eq_zero (by omega);subst ez;refine KO rfl (qN rfl (An rfl (An rfl (KE rfl (KE rfl (py (KG Tryz.func198 rfl ?_)))))));have dt:=hI.eq;simp only[rowsN,List.append_nil] at dt;rw[dt];exact⟨_,rfl,v4,v5,rfl,hI.s4,hI.s5,hI.ext,hI.f4,hI.f5,hI.ne⟩
structure VsM (w:World)(p:Nat)(v:Value)(T el:TypeId)(size n:Nat)(cs:List Value):Prop where
 KD:KP w p [v] T
 sl:Sl w v el size n cs
 ne:v.ownBlock≠some p
def VsA (w:World)(p:Nat)(T el:TypeId)(size n:Nat)(cs:List Value)(F:Nat→Prop):Prop:=∃v,VsM w p v T el size n cs∧∀k,F k↔WN p v k
section
variable {w w':World}{p:Nat}{T el:TypeId}{size n:Nat}{cs:List Value}{F S:Nat→Prop}
theorem VsA.lt (h:VsA w p T el size n cs F){k:Nat}(hk:F k):k<w.heap.size:=by
 obtain⟨bv,hM,hF⟩:=h
 rcases (hF k).1 hk with e| e
 ·rw[e];exact hM.KD.lt
 ·exact hM.sl.lt e
theorem VsA.kp (h:VsA w p T el size n cs F)(k:Kp S w w')(hn:∀i,F i→¬S i):VsA w' p T el size n cs F:=by
 obtain⟨bv,hM,hF⟩:=h
 exact⟨bv,⟨k.KD hM.KD (hn p ((hF p).2 (.inl rfl))),hM.sl.kp k (fun g hg=>hn g ((hF g).2 (.inr hg))),hM.ne⟩,hF⟩
theorem VsA.ext (h:VsA w p T el size n cs F)(k:Ext w w'):VsA w' p T el size n cs F:=h.kp k.kp fun _ _=>id
end
theorem YW {P:Program}{e:Env}{d:Option Nat}{ty t t':TypeId}{pos:String}{aft:Array Edge}{g:Option (Nat×Bool)}{x y:Operand}{w:World}{p q:Bool}(hx:look e x=some (.bool p))(hy:look e y=some (.bool q))(ht:P.underlying t=some .bool):Y P e ⟨d,.binOp .neq t x y t',ty,pos,aft,g⟩ (.bool (!(p==q))) w w:=fun ρ hρ=>by
 simp[execOp,hρ _ _ hx,hρ _ _ hy,eqGuard_at_bool,run_neq_bool w t p q ht]
def z09 (q:Cd×Nat):List Value:=Nu q.1++[KV q.2]
abbrev Zm (w:World)(p:Nat)(L:List (Cd×Nat))(F:Nat→Prop):Prop:=VsA w p 295 300 3 L.length (L.flatMap z09) F
abbrev X7 (w:World)(p:Nat)(L:List Nat)(F:Nat→Prop):Prop:=VsA w p 45 46 1 L.length (L.map Lg) F
abbrev W4 (w:World)(p:Nat)(L:List Nat)(F:Nat→Prop):Prop:=VsA w p 51 3 1 L.length (L.map fun n:Nat=>I (n:Int)) F
theorem NV {w:World}{p:Nat}{L:List (Cd×Nat)}{F:Nat→Prop}(h:Zm w p L F)(hl:L.length≤1000000)(c:Cd)(v:Nat)(hv:v<9223372036854775808):
  Le Tryz.prog 195 [XJ c,I (v:Int),ptr p 0] w fun u w'=>u= .tuple #[]∧∃F',Zm w' p (L++[(c,v)]) F'∧Kp F w w'∧∀k,F' k→F k∨w.heap.size≤k:=by
 obtain⟨x,y,cZ,zX,zY⟩:∃x y,Nu c=[x,y]∧x.oneCell'=true∧y.oneCell'=true:=by cases c<;>exact⟨_,_,rfl,rfl,rfl⟩
 obtain⟨bv,hM,hF⟩:=h
 have eZ:XJ c= .agg [x,y].toArray:=by rw[XJ,cZ]
 rw[eZ]
 have G9:∀c∈[x,y,KV v],c.oneCell'=true:=by
  intro c hc;rcases List.mem_cons.1 hc with rfl|hc
  ·exact zX
  rcases List.mem_cons.1 hc with rfl|hc
  ·exact zY
  rcases List.mem_cons.1 hc with rfl|hc
  ·rfl
  ·simp at hc
 refine KA (e:=[(0,_),(1,_),(2,_)]) Tryz.func195 rfl Tryz.ntmps195 rfl rfl (qN rfl (KL rfl rfl (Mz rfl (cs:=[x,y]) rfl) ?_))
 rintro _ w1 ⟨b3,rfl,eL,ad,ar⟩
 have iV:=ad.KD hM.KD
 refine py (KF rfl (qV (KJ Un rfl rfl iV rfl) (qV (La (news:=[x,y]) Nb rfl Ma rfl (ar.cells (n:=2) rfl) rfl) (An rfl (qV ((by first|exact Lw rfl U3 M3 (by omega)|exact MI rfl U3 M3)) ?_)))))
 refine qV (Nc (parts:=[(0,.tmp 6),(1,.tmp 8)]) (cs:=[_,_,_]) PV rfl z7l rfl rfl) (KL rfl rfl (Tb (parts:=[(0,.tmp 9)]) (cs:=[_,_,_]) (zs:=[Value.int .u8 0,Value.int .u64 0,Value.int .u64 0]) Un PV rfl (by kernel_rfl) rfl rfl rfl (by decide)) ?_)
 rintro _ w2 ⟨b2,rfl,⟨bM,af,ak⟩,cH⟩
 refine KL rfl rfl (pap Un PV rfl (by decide) rfl rfl ((hM.sl.ext ad).ext af) cH.rd G9 (by omega) (by simp only[maxLen];omega)) ?_
 rintro v3 w3 ⟨cI,ax,jO,-⟩
 have lI:=cI.oneV
 have aI:=ax.KD (af.KD iV) hM.ne
 refine KR rfl (Mn z4m rfl rfl lI aI (by simp)) ?_
 rintro w4 ⟨aG,av⟩
 replace aG:KP w4 p [v3] 295:=aG
 have z1:=ad.size
 have z2:=af.size
 have lp:=hM.KD.lt
 have eB:v3.ownBlock≠some p:=fun e=>by
  rcases jO p e with e| e
  ·exact hM.ne e
  ·omega
 have dP:=cI.kp av (fun g hg e=>eB (e▸hg))
 refine py (LZ Tryz.func195 rfl (⟨_,rfl,rfl,WN p v3,⟨v3,⟨aG,?_,eB⟩,fun _=>Iff.rfl⟩,?_,?_⟩))
 ·rw[List.length_append,List.flatMap_append];have e1:[(c,v)].flatMap z09=[x,y,KV v]:=by simp[z09,cZ]
  rw[e1];exact dP
 ·exact((ad.trans af).kp.trans (ax.KT fun k e=>(hF k).2 (.inr e))).trans (av.KT fun k e=>(hF k).2 (.inl e))
 ·intro k hk;rcases hk with e| e
  ·exact .inl ((hF k).2 (.inl e))
  ·rcases jO k e with e| e
   ·exact .inl ((hF k).2 (.inr e))
   ·exact .inr (by omega)
def PM (rs:List Nat)(f:Bool):List Nat:=if f !=(rs.length%2==1) then rs++[0] else rs
theorem UN (rs:List Nat)(f:Bool):Mh rs f=(PM rs f).modify ((PM rs f).length-1) (·+1):=rfl
abbrev ZT (n:Nat):Value:=I (n:Int)
theorem WE {w:World}{lf rn:Nat}{L:List Nat}{F:Nat→Prop}(h:X7 w lf L F)(hl:L.length≤1000000)(x:Nat)(a:Bool):
  Le Tryz.prog 197 [Lg x,.bool a,.bool false,ptr lf 0,ptr rn 0] w fun u w'=>u= .tuple #[]∧∃F',X7 w' lf (L++[x]) F'∧Kp F w w'∧∀k,F' k→F k∨w.heap.size≤k:=by
 obtain⟨bv,hM,hF⟩:=h
 refine KA (e:=[(0,_),(1,_),(2,_),(3,_),(4,_)]) Tryz.func197 rfl Tryz.ntmps197 rfl rfl ?_
 have iV:=hM.KD
 refine run_seq (KB (qN rfl (An rfl (qV ((by first|exact LP rfl|exact Nq rfl)) ?_))))
 refine KE rfl (py (KS rfl (qN rfl (qV (KJ L9 rfl rfl iV rfl) (An rfl (KL rfl rfl (Tb (parts:=[(0,.tmp 12)]) (cs:=[_]) (zs:=[Value.int .u32 0]) L9 KY rfl (by kernel_rfl) rfl rfl rfl (by decide)) ?_))))))
 rintro _ w2 ⟨b2,rfl,⟨bM,af,ak⟩,cH⟩
 refine KL rfl rfl (pap L9 KY rfl (by decide) rfl rfl (hM.sl.ext af) cH.rd (by intro c hc;simp at hc;subst hc;rfl) (by omega) (by simp only[maxLen];omega)) ?_
 rintro v3 w3 ⟨cI,ax,jO,-⟩
 have lI:=cI.oneV
 have aI:=ax.KD (af.KD iV) hM.ne
 refine KR rfl (Mn OC rfl rfl lI aI (by simp)) ?_
 rintro w4 ⟨aG,av⟩
 replace aG:KP w4 lf [v3] 45:=aG
 have z2:=af.size
 have lp:=hM.KD.lt
 have eB:v3.ownBlock≠some lf:=fun e=>by
  rcases jO lf e with e| e
  ·exact hM.ne e
  ·omega
 have dP:=cI.kp av (fun g hg e=>eB (e▸hg))
 refine py (KG Tryz.func197 rfl (⟨_,rfl,rfl,WN lf v3,⟨v3,⟨aG,?_,eB⟩,fun _=>Iff.rfl⟩,?_,?_⟩))
 ·rw[List.length_append,List.map_append];exact dP
 ·exact(af.kp.trans (ax.KT fun k e=>(hF k).2 (.inr e))).trans (av.KT fun k e=>(hF k).2 (.inl e))
 ·intro k hk;rcases hk with e| e
  ·exact .inl ((hF k).2 (.inl e))
  ·rcases jO k e with e| e
   ·exact .inl ((hF k).2 (.inr e))
   ·exact .inr (by omega)
theorem TE {w:World}{lf rn:Nat}{rs:List Nat}{F:Nat→Prop}(h:W4 w rn rs F)(hl:rs.length≤1000000)(bE:rs≠[])(hb:∀m∈rs,m≤1000000)(x:Nat)(a:Bool):
  Le Tryz.prog 197 [Lg x,.bool a,.bool true,ptr lf 0,ptr rn 0] w fun u w'=>u= .tuple #[]∧∃F',W4 w' rn (Mh rs a) F'∧Kp F w w'∧∀k,F' k→F k∨w.heap.size≤k:=by
 have aQ:∀k,F k→k<w.heap.size:=fun k hk=>h.lt hk
 obtain⟨bv,hM,hF⟩:=id h
 refine KA (e:=[(0,_),(1,_),(2,_),(3,_),(4,_)]) Tryz.func197 rfl Tryz.ntmps197 rfl rfl ?_
 have iV:=hM.KD
 obtain⟨va,vc,rfl,-⟩:=hM.sl.rd.shape
 refine run_seq (KB (qN rfl (An rfl (qV ((by first|exact LP rfl|exact Nq rfl)) ?_))))
 refine KE rfl (py (Kx rfl (qN rfl (An rfl (qV (KJ Mu rfl rfl iV rfl) (qV (LG Mu rfl) (qV (RS rfl rfl (by omega) (by omega)) ?_)))))))
 rw[Nat.and_one_is_mod]
 refine qV (Mc rfl rfl) (qV (YW rfl rfl U4) ?_)
 have hd:decide (((rs.length%2:Nat):Int)=1)=(rs.length%2==1):=by
  rcases Nat.mod_two_eq_zero_or_one rs.length with e|e<;>rw[e]<;>rfl
 rw[hd]
 refine KE rfl (py (Lp (fun e' w'=>e'=[(4,ptr rn 0)]∧∃F',W4 w' rn (PM rs a) F'∧Kp F w w'∧∀k,F' k→F k∨w.heap.size≤k) ?qG (fun qG=>?qH)))
 case qG=>
  rintro e' w1 ⟨rfl,F1,⟨v1,dr,nI⟩,aN,ie⟩
  obtain⟨l,m,gL,eM,hm⟩:∃l m,PM rs a=l++[m]∧l.length≤1000000∧m≤1000000:=by
   unfold PM;split
   ·exact⟨rs,0,rfl,hl,by omega⟩
   ·refine⟨rs.dropLast,rs.getLast bE,(List.dropLast_concat_getLast bE).symm,by rw[List.length_dropLast];omega,hb _ (List.getLast_mem bE)⟩
  rw[gL] at dr;have zZ:(l++[m]).length=l.length+1:=by simp
  rw[zZ] at dr;rcases dr.sl.shape with⟨-,h0⟩|⟨g,c1,rfl,fm⟩
  ·omega
  have ai:=dr.KD;refine KC (KF rfl (qV (KJ Mu rfl rfl ai rfl) (qV (KJ Mu rfl rfl ai rfl) (qV (LG Mu rfl) (qV (M8 rfl rfl (by omega)) ?_)))));rw[show((l.length+1:Nat):Int)-1=(l.length:Int) by omega];refine qV (Lt Mu LC rfl rfl (by omega)) (qV (Lb U3 rfl rfl (LN dr.sl.rd (show((l++[m]).map ZT)[l.length]? =some (ZT m) by simp))) ?_);refine Lz rfl rfl (qV (Lt Mu LC rfl rfl (by omega)) (KR rfl (MM LC rfl rfl rfl dr.sl (by simp)) ?_));rintro w2 ⟨cH,am⟩;have ak:=am.KD ai (fun e=>dr.ne (by rw[e];rfl));refine py (LZ Tryz.func197 rfl (⟨_,rfl,rfl,WN rn (.slice (some ⟨g,0,none⟩) (l.length+1) c1),⟨_,⟨ak,?_,dr.ne⟩,fun _=>Iff.rfl⟩,?_,?_⟩))
  ·rw[UN,gL,QS];have e1:(l++[m+1]).length=l.length+1:=by simp
   rw[e1]
   have e2:((l++[m]).map ZT).set l.length (ZT (m+1))=(l++[m+1]).map ZT:=by
    rw[List.map_append,List.set_append_right _ _ (by simp)];simp
   rw[←e2];have e3:l.length*1=l.length:=Nat.mul_one _
   first|exact cH|(simp only[Nat.zero_add,Nat.mul_one] at cH;exact cH)
  ·exact aN.Kz (am.KT (fun k e=>(nI k).2 (.inr (by rw[e];rfl)))) (fun i hi=>(ie i hi).symm)
  ·intro k hk;exact ie k ((nI k).2 hk)
 case qH=>
  refine LF rfl (fun e1=>?_) (fun e1=>?_)
  ·have kz:PM rs a=rs++[0]:=by unfold PM;exact if_pos e1
   refine KF rfl (qV (KJ Mu rfl rfl iV rfl) (KL rfl rfl (Tb (parts:=[(0,.const (Value.int .i64 0))]) (cs:=[_]) (zs:=[Value.int .i64 0]) Mu LC rfl (by kernel_rfl) rfl rfl rfl (by decide)) ?_));rintro _ w2 ⟨b2,rfl,⟨bM,af,ak⟩,cH⟩;refine KL rfl rfl (pap Mu LC rfl (by decide) rfl rfl (hM.sl.ext af) cH.rd (by intro c hc;simp at hc;subst hc;rfl) (by omega) (by simp only[maxLen];omega)) ?_;rintro v3 w3 ⟨cI,ax,jO,-⟩;have lI:=cI.oneV;have aI:=ax.KD (af.KD iV) hM.ne;refine KR rfl (Mn ZI rfl rfl lI aI (by simp)) ?_;rintro w4 ⟨aG,av⟩;replace aG:KP w4 rn [v3] 51:=aG;have z2:=af.size;have lp:=hM.KD.lt
   have eB:v3.ownBlock≠some rn:=fun e=>by
    rcases jO rn e with e| e
    ·exact hM.ne e
    ·omega
   have dP:=cI.kp av (fun g hg e=>eB (e▸hg));refine py ((qG _ _ ⟨rfl,WN rn v3,⟨v3,⟨aG,?_,eB⟩,fun _=>Iff.rfl⟩,?_,?_⟩).qb)
   ·rw[kz,List.length_append,List.map_append];exact dP
   ·exact(af.kp.trans (ax.KT fun k e=>(hF k).2 (.inr e))).trans (av.KT fun k e=>(hF k).2 (.inl e))
   ·intro k hk;rcases hk with e| e
    ·exact .inl ((hF k).2 (.inl e))
    ·rcases jO k e with e| e
     ·exact .inl ((hF k).2 (.inr e))
     ·exact .inr (by omega)
  ·have kz:PM rs a=rs:=by unfold PM;exact if_neg (by simpa using e1)
   refine It ?_;exact(qG _ _ ⟨rfl,F,by rw[kz];exact h,Kp.refl _ _,fun k hk=> .inl hk⟩).qb
def PZ (s r rs:List Nat):List Nat:=r.foldl (fun rs y=>Mh rs (decide (y∈s))) rs
theorem TX {s t:List Nat}:∀(r rs:List Nat),(∀y∈r,(y∈s↔y∈t))→PZ s r rs=PZ t r rs
 |[],rs,_=>rfl
 | y :: r, rs, h => by
   have h1:decide (y∈s)=decide (y∈t):=decide_eq_decide.2 (h y List.mem_cons_self);show PZ s r (Mh rs (decide (y∈s)))=PZ t r (Mh rs (decide (y∈t)));rw[h1];exact TX r _ (fun z hz=>h z (List.mem_cons_of_mem _ hz))
theorem Qq {x z:Nat}{l:List Nat}(h:x<z):z∈x::l↔z∈l:=by
 rw[List.mem_cons]
 constructor
 ·rintro(e|e)
  ·omega
  ·exact e
 ·exact .inr
theorem WV {x:Nat}{s r:List Nat}(h:∀y∈r,x<y):leftOf (x::s) r=x::leftOf s r∧∀rs,PZ (x::s) r rs=PZ s r rs:=by
 have hx:x∉r:=fun e=>by have:=h x e;omega
 refine⟨?_,fun rs=>TX r rs fun y hy=>Qq (h y hy)⟩
 unfold leftOf
 rw[List.filter_cons,if_pos (by simpa using hx)]
theorem UP {r t:List Nat}(s:List Nat)(h:∀x∈s,(x∈r↔x∈t)):leftOf s r=leftOf s t:=
 List.filter_congr fun x hx=>decide_eq_decide.2 (not_congr (h x hx))
theorem z1Y {x:Nat}{s r:List Nat}(hs:∀z∈s,x<z)(hr:∀y∈r,x<y):leftOf (x::s) (x::r)=leftOf s r∧∀rs,PZ (x::s) (x::r) rs=PZ s r (Mh rs true):=by
 refine⟨?_,fun rs=>?_⟩
 ·have:=UP (r:=x::r) (t:=r) s (fun z hz=>Qq (hs z hz));rw[←this];unfold leftOf;rw[List.filter_cons,if_neg (by simp)]
 ·show PZ (x::s) r (Mh rs (decide (x∈x::s)))=_;rw[decide_eq_true List.mem_cons_self];exact(WV hr).2 _
theorem z1J {y:Nat}{s r:List Nat}(hs:∀z∈s,y<z):leftOf s (y::r)=leftOf s r∧∀rs,PZ s (y::r) rs=PZ s r (Mh rs false):=by
 refine⟨UP s (fun z hz=>Qq (hs z hz)),fun rs=>?_⟩
 show PZ s r (Mh rs (decide (y∈s)))=_
 rw[decide_eq_false fun e=>by have:=hs y e;omega]
theorem YC {x y:Nat}{l:List Nat}(hr:Ris (y::l))(h:x<y):∀z∈y::l,x<z:=fun z hz=>by
 rcases List.mem_cons.1 hz with e| e
 ·omega
 ·have:=(List.pairwise_cons.1 hr).1 z e;omega
theorem UM:∀{l:List Nat} {m:Nat},m∈l→m≤l.sum
 | x :: l, m, h => by
   rw[List.sum_cons];rcases List.mem_cons.1 h with e| e
   ·omega
   ·have:=UM e;omega
theorem Z9 (rs:List Nat)(f:Bool):(Mh rs f).length≤rs.length+1:=by
 rw[UN,List.length_modify]
 unfold PM
 split<;>simp
theorem Og.le {rs:List Nat}{fs:List Bool}(h:Og rs fs):∀m∈rs,m≤fs.length:=fun m hm=>by
 have:=UM hm
 rw[←h.exp,NC];exact this
structure ON (w:World)(succ ref:List Nat)(lf rn:Nat)(FL0 FR0:Nat→Prop)(s:List Nat)(sa:Option Addr)(sc:Nat)(r:List Nat)(ra:Option Addr)(rc:Nat)(L rs:List Nat)(w':World):Prop where
 ex:∃FL FR fs,X7 w' lf L FL∧W4 w' rn rs FR∧Og rs fs∧fs.length+r.length≤65536∧rs.length+r.length≤65537∧(∀k,FL k→FL0 k∨w.heap.size≤k)∧(∀k,FR k→FR0 k∨w.heap.size≤k)∧∀k,FL k→¬FR k
 rdS:∀w2,Kp (fun k=>FL0 k∨FR0 k) w w2→Rd w2 (.slice sa s.length sc) 1 s.length (s.map Lg)
 rdR:∀w2,Kp (fun k=>FL0 k∨FR0 k) w w2→Rd w2 (.slice ra r.length rc) 1 r.length (r.map Lg)
 clS:s.length≤sc
 clR:r.length≤rc
 kp:Kp (fun k=>FL0 k∨FR0 k) w w'
 okS:Lj s
 okR:Lj r
 left:leftOf succ ref=L++leftOf s r
 fold:Mm succ ref=PZ s r rs
 z8K:L.length+s.length≤65536
section
variable {w w1 w2:World}{succ ref:List Nat}{lf rn:Nat}{FL0 FR0:Nat→Prop}{s r L rs:List Nat}{sa ra:Option Addr}{sc rc:Nat}{x y:Nat}
theorem ON.ext (h:ON w succ ref lf rn FL0 FR0 s sa sc r ra rc L rs w1)(hx:Ext w1 w2):ON w succ ref lf rn FL0 FR0 s sa sc r ra rc L rs w2:=by
 obtain⟨FL,FR,fs,h1,h2,h3⟩:=h.ex
 exact⟨⟨FL,FR,fs,h1.ext hx,h2.ext hx,h3⟩,h.rdS,h.rdR,h.clS,h.clR,h.kp.trans hx.kp,h.okS,h.okR,h.left,h.fold,h.z8K⟩
theorem ON.z1k (h:ON w succ ref lf rn FL0 FR0 (x::s) sa sc r ra rc L rs w1):∃b off,sa=some ⟨b,off,none⟩∧∀w2,Kp (fun k=>FL0 k∨FR0 k) w w2→w2.cell? ⟨b,off+0*1,none⟩=some (Lg x):=by
 rcases (h.rdS w1 h.kp).2 with⟨c,-,h0⟩|⟨b,off,cap,hv,-⟩
 ·exact absurd h0 (by simp)
 ·cases hv;exact⟨b,off,rfl,fun w2 k=>LN (h.rdS w2 k) rfl⟩
theorem ON.z1g (h:ON w succ ref lf rn FL0 FR0 s sa sc (y::r) ra rc L rs w1):∃b off,ra=some ⟨b,off,none⟩∧∀w2,Kp (fun k=>FL0 k∨FR0 k) w w2→w2.cell? ⟨b,off+0*1,none⟩=some (Lg y):=by
 rcases (h.rdR w1 h.kp).2 with⟨c,-,h0⟩|⟨b,off,cap,hv,-⟩
 ·exact absurd h0 (by simp)
 ·cases hv;exact⟨b,off,rfl,fun w2 k=>LN (h.rdR w2 k) rfl⟩
theorem ON.z7U (h:ON w succ ref lf rn FL0 FR0 (x::s) sa sc r ra rc L rs w1){FL FR:Nat→Prop}{fs:List Bool}(he:X7 w1 lf L FL∧W4 w1 rn rs FR∧Og rs fs∧fs.length+r.length≤65536∧rs.length+r.length≤65537∧(∀k,FL k→FL0 k∨w.heap.size≤k)∧(∀k,FR k→FR0 k∨w.heap.size≤k)∧∀k,FL k→¬FR k)
  (hr:∀y∈r,x<y) (hw:∃FL',X7 w2 lf (L++[x]) FL'∧Kp FL w1 w2∧∀k,FL' k→FL k∨w1.heap.size≤k):
  ON w succ ref lf rn FL0 FR0 s (if sc=1 then sa else sa.map (·.add (1*1))) (sc-1) r ra rc (L++[x]) rs w2:=by
 obtain⟨-,k1,k2,k3,k4,k5,k6,k7,k8,k9,k10⟩:=h
 obtain⟨h1,h2,h3,h4,h5,h6,h7,h8⟩:=he
 obtain⟨FL',g1,g2,g3⟩:=hw
 have hz:=k5.size
 rw[List.length_cons] at k3 k10
 refine⟨⟨FL',FR,fs,g1,h2.kp g2 (fun i hi e=>h8 i e hi),h3,h4,h5,fun k hk=>?_,h7,fun k hk e=>?_⟩,fun w2 k=>?_,k2,by omega,k4,k5.Kz g2 (fun i hi=>?_),k6.sub (List.sublist_cons_self _ _),k7,?_,?_,?_⟩
 ·rcases g3 k hk with e| e
  ·exact h6 k e
  ·exact .inr (by omega)
 ·rcases g3 k hk with e2|e2
  ·exact h8 k e2 e
  ·have:=h2.lt e;omega
 ·have:=OP (k1 w2 k) (i:=1) (by rw[List.length_cons];omega) (by rw[List.length_cons];omega);exact this
 ·rcases h6 i hi with e| e
  ·exact .inr (.inl e)
  ·exact .inl e
 ·rw[k8,(WV hr).1,List.append_assoc];rfl
 ·rw[k9,(WV hr).2]
 ·rw[List.length_append,List.length_singleton];omega
theorem ON.z5z {s2:List Nat}{sa2:Option Addr}{sc2:Nat}{f:Bool}(h:ON w succ ref lf rn FL0 FR0 s sa sc (y::r) ra rc L rs w1)(hs:(s2=s∧sa2=sa∧sc2=sc∧f=false∧∀z∈s,y<z)∨(s=y::s2∧sa2=(if sc=1 then sa else sa.map (·.add (1*1)))∧sc2=sc-1∧f=true))
  {FL FR:Nat→Prop} {fs:List Bool} (he:X7 w1 lf L FL∧W4 w1 rn rs FR∧Og rs fs∧fs.length+(y::r).length≤65536∧rs.length+(y::r).length≤65537∧(∀k,FL k→FL0 k∨w.heap.size≤k)∧(∀k,FR k→FR0 k∨w.heap.size≤k)∧∀k,FL k→¬FR k)
  (hw:∃FR',W4 w2 rn (Mh rs f) FR'∧Kp FR w1 w2∧∀k,FR' k→FR k∨w1.heap.size≤k):
  ON w succ ref lf rn FL0 FR0 s2 sa2 sc2 r (if rc=1 then ra else ra.map (·.add (1*1))) (rc-1) L (Mh rs f) w2:=by
 obtain⟨-,k1,k2,k3,k4,k5,k6,k7,k8,k9,k10⟩:=h
 obtain⟨h1,h2,h3,h4,h5,h6,h7,h8⟩:=he
 rw[List.length_cons] at h4 h5 k4
 obtain⟨FR',g1,g2,g3⟩:=hw
 have hz:=k5.size
 have gz:=Z9 rs f
 have Eg:∀z∈r,y<z:=(List.pairwise_cons.1 k7.Vw).1
 have Eh:∃FL FR fs,X7 w2 lf L FL∧W4 w2 rn (Mh rs f) FR∧Og (Mh rs f) fs∧fs.length+r.length≤65536∧(Mh rs f).length+r.length≤65537∧(∀k,FL k→FL0 k∨w.heap.size≤k)∧(∀k,FR k→FR0 k∨w.heap.size≤k)∧∀k,FL k→¬FR k:=by
  refine⟨FL,FR',fs++[f],h1.kp g2 (fun i hi e=>h8 i hi e),g1,h3.step f,by rw[List.length_append,List.length_singleton];omega,by omega,h6,fun k hk=>?_,fun k hk e=>?_⟩
  ·rcases g3 k hk with e| e
   ·exact h7 k e
   ·exact .inr (by omega)
  ·rcases g3 k e with e2|e2
   ·exact h8 k hk e2
   ·have:=h1.lt hk;omega
 have Ei:Kp (fun k=>FL0 k∨FR0 k) w w2:=k5.Kz g2 (fun i hi=>by
  rcases h7 i hi with e| e
  ·exact .inr (.inr e)
  ·exact .inl e)
 have dX:∀w2,Kp (fun k=>FL0 k∨FR0 k) w w2→Rd w2 (.slice (if rc=1 then ra else ra.map (·.add (1*1))) r.length (rc-1)) 1 r.length (r.map Lg):=fun w2 k=>
  OP (k2 w2 k) (i:=1) (by rw[List.length_cons];omega) (by rw[List.length_cons];omega)
 rcases hs with⟨rfl,rfl,rfl,rfl,hg⟩|⟨rfl,rfl,rfl,rfl⟩
 ·exact⟨Eh,k1,dX,k3,by omega,Ei,k6,k7.sub (List.sublist_cons_self _ _),by rw[k8,(z1J hg).1],by rw[k9,(z1J hg).2],k10⟩
 ·have Ej:∀z∈s2,y<z:=(List.pairwise_cons.1 k6.Vw).1;rw[List.length_cons] at k3 k10;refine⟨Eh,fun w2 k=>?_,dX,by omega,by omega,Ei,k6.sub (List.sublist_cons_self _ _),k7.sub (List.sublist_cons_self _ _),by rw[k8,(z1Y Ej Eg).1],by rw[k9,(z1Y Ej Eg).2],by omega⟩;exact OP (k1 w2 k) (i:=1) (by rw[List.length_cons];omega) (by rw[List.length_cons];omega)
end
theorem z50 {w:World}{succ ref:List Nat}{lf rn:Nat}{FL0 FR0:Nat→Prop}{sa ra:Option Addr}{sc rc:Nat}(Ga:ON w succ ref lf rn FL0 FR0 succ sa sc ref ra rc [] [0] w):
  Le Tryz.prog 196 [.slice sa succ.length sc,.slice ra ref.length rc,.func (.func 197) #[] #[ptr lf 0,ptr rn 0]] w fun u w'=>u= .tuple #[]∧
   ∃FL FR,X7 w' lf (leftOf succ ref) FL∧W4 w' rn (Mm succ ref) FR∧(∀k,FL k→FL0 k∨w.heap.size≤k)∧(∀k,FR k→FR0 k∨w.heap.size≤k)∧(∀k,FL k→¬FR k)∧Kp (fun k=>FL0 k∨FR0 k) w w':=by
 refine KA (e:=[(0,_),(1,_),(2,_)]) Tryz.func196 rfl Tryz.ntmps196 rfl rfl (KB (MQ (α:=List Nat×Option Addr×Nat×List Nat×Option Addr×Nat×List Nat×List Nat) ((succ,sa,sc,ref,ra,rc,[],[0])) (fun x=>[(0,.slice x.2.1 x.1.length x.2.2.1),(1,.slice x.2.2.2.2.1 x.2.2.2.1.length x.2.2.2.2.2.1),(2,.func (.func 197) #[] #[ptr lf 0,ptr rn 0])]) (fun x w'=>ON w succ ref lf rn FL0 FR0 x.1 x.2.1 x.2.2.1 x.2.2.2.1 x.2.2.2.2.1 x.2.2.2.2.2.1 x.2.2.2.2.2.2.1 x.2.2.2.2.2.2.2 w') (fun x=>x.1.length+x.2.2.2.1.length) ?hI ?hround))
 case hI=>exact Ga
 case hround=>
  rintro⟨s,sa,sc,r,ra,rc,L,rs⟩ w6 hI ih;dsimp only at hI
  try dsimp only
  have hg:=(Ext.refl w6).drew;have aa:=hg.drew;have cG:=hI.ext aa;have p0:([]:List Nat).length=0:=rfl;have iW:=hI.okS.len;have A0:=hI.okR.len;rcases s with _|⟨x,s⟩
  ·rcases r with _|⟨y,r⟩
   ·refine run_seq (qN rfl (An rfl (qV (LG L9 rfl) (qV (LH rfl rfl) (Lq (An rfl (An rfl (qV (LG L9 rfl) (qV (LH rfl rfl) (Lq (qV (Lk rfl rfl) (py (Kx rfl ?_)))))))))))));refine KO rfl (LZ Tryz.func196 rfl ?_);have pE:=hI.left;have ir:=hI.fold;obtain⟨FL,FR,fs,h1,h2,h3,h4,h5,h6,h7,h8⟩:=hI.ex;rw[pE,ir];exact⟨_,rfl,rfl,FL,FR,by simpa[leftOf] using h1,h2,h6,h7,h8,hI.kp⟩
   ·skip
    obtain⟨b2,off2,rfl,lG⟩:=hI.z1g;have p1:0<((y::r:List Nat).length:Int):=by rw[List.length_cons];omega
    have p3:¬(((y::r).length:Int)=0):=by omega
    refine run_seq (qN rfl (An rfl (qV (LG L9 rfl) (qV (LH rfl rfl) (Lq (An rfl (An rfl (qV (LG L9 rfl) (qV (LH rfl rfl) (MC (qV (Lk rfl rfl) (py (KS rfl ?_)))))))))))));refine It (KB (run_seq (KN (fun w'=>Ext w6 w') (by kernel_rfl) rfl (KH 0 rfl (KM rfl) hg (KH 1 rfl (LG L9 rfl) hg (KH 2 rfl (Mc rfl rfl) hg (Pw (KH 3 rfl (KM rfl) hg (KH 4 rfl (KM rfl) hg (KH 5 rfl (LG L9 rfl) hg (KH 6 rfl (LH rfl rfl) hg (Pw (KH 7 rfl (KM rfl) hg ?_)))))))))))));refine qJ 8 rfl (hg) (qJ 9 rfl (hg) (qJ 10 rfl (hg) (qJ 11 rfl (hg) (qJ 12 rfl (hg) (qJ 13 rfl (hg) (qJ 14 rfl (hg) (KH 15 rfl (Lk rfl rfl) hg (KH 16 rfl (Lk rfl rfl) hg (KH 17 rfl (ML rfl) hg (qE (run_seq (KN (fun w'=>Ext w6 w') (by kernel_rfl) rfl (KH 0 rfl (KM rfl) aa ?_)))))))))))));refine KH 1 rfl (LG L9 rfl) aa (KH 2 rfl (Mc rfl rfl) aa (Pf (KH 3 rfl (KM rfl) aa (qJ 4 rfl (aa) (qJ 5 rfl (aa) (qJ 6 rfl (aa) (qJ 7 rfl (aa) (qJ 8 rfl (aa) (qJ 9 rfl (aa) (qJ 10 rfl (aa) (qJ 11 rfl (aa) (qJ 12 rfl (aa) (qJ 13 rfl (aa) ?_)))))))))))));refine qJ 14 rfl (aa) (qJ 15 rfl (aa) (KH 16 rfl (LK rfl rfl) aa (KH 17 rfl (ML rfl) aa (qE (run_seq (qN rfl (An rfl (py (Kx rfl (KF rfl (An rfl (An rfl (qV (Lt L9 KY rfl rfl (by omega)) ?_)))))))))))));refine qV (Lb Mg rfl rfl (lG _ cG.kp)) ?_;obtain⟨FL,FR,fs,h1,h2,h3,h4,h5,h6,h7,h8⟩:=cG.ex;refine Mb rfl rfl (N6 (args:=[.tmp 62,.const (Value.bool false),.const (Value.bool true)]) Zl rfl rfl) (TE h2 (by omega) h3.ne (fun m hm=>by have:=h3.le m hm;omega) y false) ?_;rintro _ w7 ⟨rfl,o7⟩;refine qM rfl (An rfl (py (KS rfl (KF rfl (An rfl (qV (Si L9 KY rfl rfl (by rw[List.length_cons];omega) hI.clR) ?_))))));refine KE rfl (py (KC ?_));exact(ih ([],sa,sc,r,_,rc-1,L,Mh rs false) _ (cG.z5z (.inl ⟨rfl,rfl,rfl,rfl,fun z hz=>by simp at hz⟩) ⟨h1,h2,h3,h4,h5,h6,h7,h8⟩ o7) (by dsimp only;simp only[List.length_cons,List.length_nil];omega)).qb
  ·rcases r with _|⟨y,r⟩
   ·obtain⟨b,off,rfl,lJ⟩:=hI.z1k
    skip
    have p1:0<((x::s:List Nat).length:Int):=by rw[List.length_cons];omega
    have p4:¬(((x::s).length:Int)=0):=by omega
    refine run_seq (qN rfl (An rfl (qV (LG L9 rfl) (qV (LH rfl rfl) (MC (An rfl (qS (qS (qS (qV (LK rfl rfl) (py (KS rfl (It ?_)))))))))))));refine KB (run_seq (KN (fun w'=>Ext w6 w') (by kernel_rfl) rfl (KH 0 rfl (KM rfl) hg (KH 1 rfl (LG L9 rfl) hg (KH 2 rfl (Mc rfl rfl) hg (Pf (KH 3 rfl (KM rfl) hg (qJ 4 rfl (hg) (qJ 5 rfl (hg) (qJ 6 rfl (hg) (qJ 7 rfl (hg) (qJ 8 rfl (hg) (qJ 9 rfl (hg) ?_)))))))))))));refine qJ 10 rfl (hg) (qJ 11 rfl (hg) (qJ 12 rfl (hg) (qJ 13 rfl (hg) (qJ 14 rfl (hg) (qJ 15 rfl (hg) (KH 16 rfl (LK rfl rfl) hg (KH 17 rfl (ML rfl) hg (qE (run_seq (KN (fun w'=>Ext w6 w') (by kernel_rfl) rfl (KH 0 rfl (KM rfl) aa (KH 1 rfl (LG L9 rfl) aa (KH 2 rfl (Mc rfl rfl) aa ?_)))))))))))));refine Pw (KH 3 rfl (KM rfl) aa (KH 4 rfl (KM rfl) aa (KH 5 rfl (LG L9 rfl) aa (KH 6 rfl (LH rfl rfl) aa (Pw (KH 7 rfl (KM rfl) aa (qJ 8 rfl (aa) (qJ 9 rfl (aa) (qJ 10 rfl (aa) (qJ 11 rfl (aa) (qJ 12 rfl (aa) (qJ 13 rfl (aa) (qJ 14 rfl (aa) ?_)))))))))))));refine KH 15 rfl (Lk rfl rfl) aa (KH 16 rfl (Lk rfl rfl) aa (KH 17 rfl (ML rfl) aa (qE (run_seq (qN rfl (An rfl (py (KS rfl (qN rfl (An rfl (An rfl (qV (Lt L9 KY rfl rfl (by omega)) (qV (Lb Mg rfl rfl (lJ _ cG.kp)) ?_)))))))))))));refine An rfl ?_;obtain⟨FL,FR,fs,h1,h2,h3,h4,h5,h6,h7,h8⟩:=cG.ex;have Gb:=cG.z8K;refine Mb rfl rfl (N6 (args:=[.tmp 54,.const (Value.bool true),.tmp 55]) Zl rfl rfl) (WE h1 (by omega) x true) ?_;rintro _ w7 ⟨rfl,o7⟩;refine py (KF rfl (An rfl (qV (Si L9 KY rfl rfl (by rw[List.length_cons];omega) hI.clS) ?_)));refine KE rfl (qM rfl (An rfl (py (Kx rfl (It (KC ?_))))));exact(ih (s,_,sc-1,[],ra,rc,L++[x],rs) _ (cG.z7U ⟨h1,h2,h3,h4,h5,h6,h7,h8⟩ (fun z hz=>by simp at hz) o7) (by dsimp only;simp only[List.length_cons,List.length_nil];omega)).qb
   ·rcases Nat.lt_trichotomy x y with cZ|cZ|cZ
    ·obtain⟨b,off,rfl,lJ⟩:=hI.z1k;obtain⟨b2,off2,rfl,lG⟩:=hI.z1g;have p1:0<((x::s:List Nat).length:Int):=by rw[List.length_cons];omega
     have p2:0<((y::r).length:Int):=by rw[List.length_cons];omega
     have p3:¬(((y::r).length:Int)=0):=by omega
     have p4:¬(((x::s).length:Int)=0):=by omega
     refine run_seq (qN rfl (An rfl (qV (LG L9 rfl) (qV (LH rfl rfl) (MC (An rfl (qS (qS (qS (qV (LK rfl rfl) (py (KS rfl (It ?_)))))))))))));refine KB (run_seq (KN (fun w'=>Ext w6 w') (by kernel_rfl) rfl (KH 0 rfl (KM rfl) hg (KH 1 rfl (LG L9 rfl) hg (KH 2 rfl (Mc rfl rfl) hg (Pw (KH 3 rfl (KM rfl) hg (KH 4 rfl (KM rfl) hg (KH 5 rfl (LG L9 rfl) hg (KH 6 rfl (LH rfl rfl) hg (Pf (KH 7 rfl (KM rfl) hg (KH 8 rfl (KM rfl) hg ?_)))))))))))));refine KH 9 rfl (Lt L9 KY rfl rfl (by omega)) hg (KH 11 rfl (KM rfl) hg (KH 12 rfl (Lt L9 KY rfl rfl (by omega)) hg (qT 10 rfl (fun _ h=>Lb Mg rfl rfl (lJ _ (hI.kp.trans h.kp))) hg (qT 13 rfl (fun _ h=>Lb Mg rfl rfl (lG _ (hI.kp.trans h.kp))) hg (KH 14 rfl (Qh rfl rfl) hg (Pf (KH 15 rfl (LK rfl rfl) hg (KH 16 rfl (Lk rfl rfl) hg (KH 17 rfl (ML rfl) hg (qE (run_seq (KN (fun w'=>Ext w6 w') (by kernel_rfl) rfl (KH 0 rfl (KM rfl) aa ?_)))))))))))));refine KH 1 rfl (LG L9 rfl) aa (KH 2 rfl (Mc rfl rfl) aa (Pw (KH 3 rfl (KM rfl) aa (KH 4 rfl (KM rfl) aa (KH 5 rfl (LG L9 rfl) aa (KH 6 rfl (LH rfl rfl) aa (Pf (KH 7 rfl (KM rfl) aa (KH 8 rfl (KM rfl) aa (KH 9 rfl (Lt L9 KY rfl rfl (by omega)) aa (KH 11 rfl (KM rfl) aa (KH 12 rfl (Lt L9 KY rfl rfl (by omega)) aa (qT 10 rfl (fun _ h=>Lb Mg rfl rfl (lG _ (hI.kp.trans h.kp))) aa ?_)))))))))))));refine qT 13 rfl (fun _ h=>Lb Mg rfl rfl (lJ _ (hI.kp.trans h.kp))) aa (KH 14 rfl (Qh rfl rfl) aa (Pw (KH 15 rfl (LK rfl rfl) aa (KH 16 rfl (Lk rfl rfl) aa (KH 17 rfl (ML rfl) aa (qE (run_seq (qN rfl (An rfl (py (KS rfl (qN rfl (An rfl ?_)))))))))))));refine An rfl (qV (Lt L9 KY rfl rfl (by omega)) (qV (Lb Mg rfl rfl (lJ _ cG.kp)) (An rfl ?_)));obtain⟨FL,FR,fs,h1,h2,h3,h4,h5,h6,h7,h8⟩:=cG.ex;have Gb:=cG.z8K;refine Mb rfl rfl (N6 (args:=[.tmp 54,.const (Value.bool true),.tmp 55]) Zl rfl rfl) (WE h1 (by omega) x true) ?_;rintro _ w7 ⟨rfl,o7⟩;refine py (KF rfl (An rfl (qV (Si L9 KY rfl rfl (by rw[List.length_cons];omega) hI.clS) ?_)));refine KE rfl (qM rfl (An rfl (py (Kx rfl (It (KC ?_))))));exact(ih (s,_,sc-1,y::r,_,rc,L++[x],rs) _ (cG.z7U ⟨h1,h2,h3,h4,h5,h6,h7,h8⟩ (YC hI.okR.Vw cZ) o7) (by dsimp only;simp only[List.length_cons,List.length_nil];omega)).qb
    ·obtain⟨b,off,rfl,lJ⟩:=hI.z1k;obtain⟨b2,off2,rfl,lG⟩:=hI.z1g;have p1:0<((x::s:List Nat).length:Int):=by rw[List.length_cons];omega
     have p2:0<((y::r).length:Int):=by rw[List.length_cons];omega
     have p3:¬(((y::r).length:Int)=0):=by omega
     have p4:¬(((x::s).length:Int)=0):=by omega
     refine run_seq (qN rfl (An rfl (qV (LG L9 rfl) (qV (LH rfl rfl) (MC (An rfl (qS (qS (qS (qV (LK rfl rfl) (py (KS rfl (It ?_)))))))))))));refine KB (run_seq (KN (fun w'=>Ext w6 w') (by kernel_rfl) rfl (KH 0 rfl (KM rfl) hg (KH 1 rfl (LG L9 rfl) hg (KH 2 rfl (Mc rfl rfl) hg (Pw (KH 3 rfl (KM rfl) hg (KH 4 rfl (KM rfl) hg (KH 5 rfl (LG L9 rfl) hg (KH 6 rfl (LH rfl rfl) hg (Pf (KH 7 rfl (KM rfl) hg (KH 8 rfl (KM rfl) hg ?_)))))))))))));refine KH 9 rfl (Lt L9 KY rfl rfl (by omega)) hg (KH 11 rfl (KM rfl) hg (KH 12 rfl (Lt L9 KY rfl rfl (by omega)) hg (qT 10 rfl (fun _ h=>Lb Mg rfl rfl (lJ _ (hI.kp.trans h.kp))) hg (qT 13 rfl (fun _ h=>Lb Mg rfl rfl (lG _ (hI.kp.trans h.kp))) hg (KH 14 rfl (Qh rfl rfl) hg (Pf (KH 15 rfl (LK rfl rfl) hg (KH 16 rfl (Lk rfl rfl) hg (KH 17 rfl (ML rfl) hg (qE (run_seq (KN (fun w'=>Ext w6 w') (by kernel_rfl) rfl (KH 0 rfl (KM rfl) aa ?_)))))))))))));refine KH 1 rfl (LG L9 rfl) aa (KH 2 rfl (Mc rfl rfl) aa (Pw (KH 3 rfl (KM rfl) aa (KH 4 rfl (KM rfl) aa (KH 5 rfl (LG L9 rfl) aa (KH 6 rfl (LH rfl rfl) aa (Pf (KH 7 rfl (KM rfl) aa (KH 8 rfl (KM rfl) aa (KH 9 rfl (Lt L9 KY rfl rfl (by omega)) aa (KH 11 rfl (KM rfl) aa (KH 12 rfl (Lt L9 KY rfl rfl (by omega)) aa (qT 10 rfl (fun _ h=>Lb Mg rfl rfl (lG _ (hI.kp.trans h.kp))) aa ?_)))))))))))));refine qT 13 rfl (fun _ h=>Lb Mg rfl rfl (lJ _ (hI.kp.trans h.kp))) aa (KH 14 rfl (Qh rfl rfl) aa (Pf (KH 15 rfl (LK rfl rfl) aa (KH 16 rfl (Lk rfl rfl) aa (KH 17 rfl (ML rfl) aa (qE (run_seq (qN rfl (An rfl (py (KS rfl (qN rfl (An rfl ?_)))))))))))));refine An rfl (qV (Lt L9 KY rfl rfl (by omega)) (qV (Lb Mg rfl rfl (lJ _ cG.kp)) (An rfl ?_)));obtain⟨FL,FR,fs,h1,h2,h3,h4,h5,h6,h7,h8⟩:=cG.ex;refine Mb rfl rfl (N6 (args:=[.tmp 54,.const (Value.bool true),.tmp 55]) Zl rfl rfl) (TE h2 (by omega) h3.ne (fun m hm=>by have:=h3.le m hm;omega) x true) ?_;rintro _ w7 ⟨rfl,o7⟩;refine py (KF rfl (An rfl (qV (Si L9 KY rfl rfl (by rw[List.length_cons];omega) hI.clS) ?_)));refine KE rfl (qM rfl (An rfl (py (KS rfl (KF rfl (An rfl (qV (Si L9 KY rfl rfl (by rw[List.length_cons];omega) hI.clR) ?_)))))));refine KE rfl (py (KC ?_));subst cZ;exact(ih (s,_,sc-1,r,_,rc-1,L,Mh rs true) _ (cG.z5z (.inr ⟨rfl,rfl,rfl,rfl⟩) ⟨h1,h2,h3,h4,h5,h6,h7,h8⟩ o7) (by dsimp only;simp only[List.length_cons,List.length_nil];omega)).qb
    ·obtain⟨b,off,rfl,lJ⟩:=hI.z1k;obtain⟨b2,off2,rfl,lG⟩:=hI.z1g;have p1:0<((x::s:List Nat).length:Int):=by rw[List.length_cons];omega
     have p2:0<((y::r).length:Int):=by rw[List.length_cons];omega
     have p3:¬(((y::r).length:Int)=0):=by omega
     have p4:¬(((x::s).length:Int)=0):=by omega
     refine run_seq (qN rfl (An rfl (qV (LG L9 rfl) (qV (LH rfl rfl) (MC (An rfl (qS (qS (qS (qV (LK rfl rfl) (py (KS rfl (It ?_)))))))))))));refine KB (run_seq (KN (fun w'=>Ext w6 w') (by kernel_rfl) rfl (KH 0 rfl (KM rfl) hg (KH 1 rfl (LG L9 rfl) hg (KH 2 rfl (Mc rfl rfl) hg (Pw (KH 3 rfl (KM rfl) hg (KH 4 rfl (KM rfl) hg (KH 5 rfl (LG L9 rfl) hg (KH 6 rfl (LH rfl rfl) hg (Pf (KH 7 rfl (KM rfl) hg (KH 8 rfl (KM rfl) hg ?_)))))))))))));refine KH 9 rfl (Lt L9 KY rfl rfl (by omega)) hg (KH 11 rfl (KM rfl) hg (KH 12 rfl (Lt L9 KY rfl rfl (by omega)) hg (qT 10 rfl (fun _ h=>Lb Mg rfl rfl (lJ _ (hI.kp.trans h.kp))) hg (qT 13 rfl (fun _ h=>Lb Mg rfl rfl (lG _ (hI.kp.trans h.kp))) hg (KH 14 rfl (Qh rfl rfl) hg (Pw (KH 15 rfl (LK rfl rfl) hg (KH 16 rfl (Lk rfl rfl) hg (KH 17 rfl (ML rfl) hg (qE (run_seq (KN (fun w'=>Ext w6 w') (by kernel_rfl) rfl (KH 0 rfl (KM rfl) aa ?_)))))))))))));refine KH 1 rfl (LG L9 rfl) aa (KH 2 rfl (Mc rfl rfl) aa (Pw (KH 3 rfl (KM rfl) aa (KH 4 rfl (KM rfl) aa (KH 5 rfl (LG L9 rfl) aa (KH 6 rfl (LH rfl rfl) aa (Pf (KH 7 rfl (KM rfl) aa (KH 8 rfl (KM rfl) aa (KH 9 rfl (Lt L9 KY rfl rfl (by omega)) aa (KH 11 rfl (KM rfl) aa (KH 12 rfl (Lt L9 KY rfl rfl (by omega)) aa (qT 10 rfl (fun _ h=>Lb Mg rfl rfl (lG _ (hI.kp.trans h.kp))) aa ?_)))))))))))));refine qT 13 rfl (fun _ h=>Lb Mg rfl rfl (lJ _ (hI.kp.trans h.kp))) aa (KH 14 rfl (Qh rfl rfl) aa (Pf (KH 15 rfl (LK rfl rfl) aa (KH 16 rfl (Lk rfl rfl) aa (KH 17 rfl (ML rfl) aa (qE (run_seq (qN rfl (An rfl (py (Kx rfl (KF rfl (An rfl ?_)))))))))))));refine An rfl (qV (Lt L9 KY rfl rfl (by omega)) (qV (Lb Mg rfl rfl (lG _ cG.kp)) ?_));obtain⟨FL,FR,fs,h1,h2,h3,h4,h5,h6,h7,h8⟩:=cG.ex;refine Mb rfl rfl (N6 (args:=[.tmp 62,.const (Value.bool false),.const (Value.bool true)]) Zl rfl rfl) (TE h2 (by omega) h3.ne (fun m hm=>by have:=h3.le m hm;omega) y false) ?_;rintro _ w7 ⟨rfl,o7⟩;refine qM rfl (An rfl (py (KS rfl (KF rfl (An rfl (qV (Si L9 KY rfl rfl (by rw[List.length_cons];omega) hI.clR) ?_))))));refine KE rfl (py (KC ?_));exact(ih (x::s,_,sc,r,_,rc-1,L,Mh rs false) _ (cG.z5z (.inl ⟨rfl,rfl,rfl,rfl,YC hI.okS.Vw cZ⟩) ⟨h1,h2,h3,h4,h5,h6,h7,h8⟩ o7) (by dsimp only;simp only[List.length_cons,List.length_nil];omega)).qb
structure Wh (w:World)(t r:Nat)(s:Bytes)(a:Nat):Prop where
 KD:KP w t [ptr r 0,.bool false] 289
 rd:Oz w r s a
 ne:t≠r
theorem Wh.ext {w w':World}{t r a:Nat}{s:Bytes}(h:Wh w t r s a)(hx:Ext w w'):Wh w' t r s a:=⟨hx.KD h.KD,⟨hx.KD h.rd.1,h.rd.2⟩,h.ne⟩
theorem OZ {w:World}{t r a:Nat}{s:Bytes}(h:Wh w t r s a)(c:Cd)(v n:Nat)(hc:c.LS)(hv:v≤c.most)(hn:v≤n)(iX:n<9223372036854775808)(rest:List Bool)(hb:(L0 s).drop a=c.enc v++rest):
  Le Tryz.prog 211 [ptr t 0,XJ c,I (n:Int)] w fun u w'=>u=I (v:Int)∧Wh w' t r s (a+(c.enc v).length)∧Kp (fun k=>k=r) w w':=by
 obtain⟨x,y,cZ⟩:∃x y,Nu c=[x,y]:=by cases c<;>exact⟨_,_,rfl⟩
 have eZ:XJ c= .agg [x,y].toArray:=by rw[XJ,cZ]
 have eJ:=c.Uy
 rw[eZ]
 refine KA (e:=[(0,_),(1,_),(2,_)]) Tryz.func211 rfl Tryz.ntmps211 rfl rfl (qN rfl (KL rfl rfl (Mz rfl (cs:=[x,y]) rfl) ?_))
 rintro _ w1 ⟨b4,rfl,gA,ad,aI⟩
 have h1:=h.ext ad
 have A1:¬b4=r:=by have:=h.rd.1.lt;omega
 have hg:=(Ext.refl w1).drew
 refine KE rfl (py (run_seq (KN (fun w'=>Kp (fun k=>k=r) w1 w') (by kernel_rfl) rfl (KH 0 rfl (KM rfl) (hg.kp) (KH 1 rfl (KZ rfl) (hg.kp) (KH 2 rfl (KK z6x rfl) (hg.kp) (qT 3 rfl (fun _ hS=>KJ Oi rfl rfl (hS.KD h1.KD h.ne) rfl) (hg.kp) (qT 4 rfl (fun _ h=>La (news:=[x,y]) Nb rfl Ma rfl ((h.KD aI A1).cells (n:=2) rfl) rfl) (hg.kp) ?_))))))))
 rw[←eZ]
 refine OJ 5 [.tmp 13,.tmp 14] rfl z5v rfl (Ti (⟨hg.KD h1.rd.1,h1.rd.2⟩:Oz _ r s a) c v hc hv rest hb) ?_
 rintro _ w2 ⟨rfl,df,am⟩
 refine⟨hg.kp.trans am,?_⟩
 have lK:=hg.kp.trans am
 have ar:=lK.KD h1.KD h.ne
 refine KH 6 rfl (KM rfl) (hg.kp.trans am) (KH 7 rfl (Ll rfl rfl) (hg.kp.trans am) (KH 8 rfl (Ll rfl rfl) (hg.kp.trans am) (KH 9 rfl (ML rfl) (hg.kp.trans am) (KH 10 rfl (ML rfl) (hg.kp.trans am) (qE (run_seq (qN rfl (An rfl (qV (LQ rfl rfl) (An rfl (An rfl (An rfl (qV ((by first|exact Lw rfl U3 M3 (by omega)|exact MI rfl U3 M3)) ?_)))))))))))))
 refine qV (LH rfl rfl) (Lq (qV (Lk rfl rfl) (py (Kx rfl (It (qN rfl (An rfl (qV (Ln rfl M3 U3 (by omega)) (KE rfl (py (Lc.qb (e:=[(6,_)]) ?_)))))))))))
 refine KG Tryz.func211 rfl ?_
 exact⟨_,rfl,rfl,⟨ar,df,h.ne⟩,ad.kp.trans lK⟩
theorem Lx (q:Cd×Nat)(l:List (Cd×Nat)):L3 (q::l)=q.1.enc q.2++L3 l:=rfl
theorem N7 {s e rest:List Bool}{a:Nat}(h:s.drop a=e++rest):s.drop (a+e.length)=rest:=by
 rw[←List.drop_drop,h,List.drop_left]
structure CpI (w:World)(t r:Nat)(s:Bytes)(rs ref:List Nat)(rest:List Bool)(aE i:Nat)(rs2 ref2:List Nat)(sa:Option Addr)(sc:Nat)(v5:Value)(O:List Nat)(a:Nat)(w':World):Prop where
 tk:Wh w' t r s a
 kp:Kp (fun k=>k=r) w w'
 sl:Sl w' v5 46 1 O.length (O.map Lg)
 fr:∀g,v5.ownBlock=some g→w.heap.size≤g
 len:rs.length=i+rs2.length
 rd:∀w2,Kp (fun k=>k=r) w w2→Rd w2 (.slice sa ref2.length sc) 1 ref2.length (ref2.map Lg)
 cl:ref2.length≤sc
 sum:rs2.sum≤ref2.length
 pos:∀m∈rs2.drop (1-min i 1),1≤m
 bits:(L0 s).drop a=L3 (runNums i rs2)++rest
 Y5:a+(L3 (runNums i rs2)).length=aE
 eq:copyL true rs ref=O++copyL (i%2==0) rs2 ref2
 tot:O.length+ref2.length≤65536
theorem z2G (a:Addr):a.add 0=a:=by
 unfold Addr.add
 split<;>simp_all
theorem z5W {P:Program}{e:Env}{d:Option Nat}{ty t el:TypeId}{pos:String}{aft:Array Edge}{g:Option (Nat×Bool)}{x u:Operand}{w:World}{z:Value}{size bytes n cap j:Nat}{a:Option Addr}{k:IntKind}{zb:Int}[tT:O3 zb j](ht:P.underlying t=some (.slice el))(hs:TI P el z size bytes)(hx:look e x=some (.slice a n cap))
  (hu:look e u=some (.int k zb)) (h:j≤cap):
  Y P e ⟨d,.slice t x none (some u) none,ty,pos,aft,g⟩ (.slice a j cap) w w:=fun ρ hρ=>by
 obtain⟨rfl⟩:=tT
 have cn:=hs.size (w:=w)
 have h1:∀w,(Instr.sliceBound (.int k (j:Int)) cap .sliceAcap).run P w= .ok j w:=fun w=>by rw[run_sliceBound _ _ _ _ _ (by omega) (by omega)];simp
 cases a with
 |none=>simp[execOp,hρ _ _ hx,hρ _ _ hu,Instr.sliceAt,run_underlying ht,Instr.slice,Instr.sliceBounds,h1,cn]
 |some a=>simp[execOp,hρ _ _ hx,hρ _ _ hu,Instr.sliceAt,run_underlying ht,Instr.slice,Instr.sliceBounds,h1,cn,z2G]
theorem Z5 {w:World}{t r a:Nat}{s:Bytes}(h:Wh w t r s a)(hG:KP w 1 (Nu .gamma) 298)(dw:¬1=r){sa:Option Addr}{sc:Nat}(ref rs:List Nat)
  (dX:∀w2,Kp (fun k=>k=r) w w2→Rd w2 (.slice sa ref.length sc) 1 ref.length (ref.map Lg)) (fY:ref.length≤sc) (A0:ref.length≤65536) (hn:rs.length≤ref.length+1) (ge:rs.sum≤ref.length)
  (gM:∀m∈rs.drop 1,1≤m) (rest:List Bool) (hb:(L0 s).drop a=L3 ((.gamma,rs.length)::runNums 0 rs)++rest):
  Le Tryz.prog 191 [ptr t 0,.slice sa ref.length sc] w fun u w'=>Sl w' u 46 1 (copyL true rs ref).length ((copyL true rs ref).map Lg)∧(∀g,u.ownBlock=some g→w.heap.size≤g)∧
   Wh w' t r s (a+(L3 ((.gamma,rs.length)::runNums 0 rs)).length)∧Kp (fun k=>k=r) w w':=by
 have iY:∀v:Nat,v≤65537→v≤Cd.most .gamma:=fun v hv=>by simp only[Cd.most];omega
 refine KA (e:=[(0,_),(1,_)]) Tryz.func191 rfl Tryz.ntmps191 rfl rfl (qN rfl (KE rfl (qM rfl (KE rfl (qM rfl (An rfl (qV (La (news:=[.int .u8 1,KV 0]) Nb rfl Ma rfl (hG.cells (n:=2) rfl) rfl) (An rfl (qV (LG L9 rfl) ?_)))))))))
 rw[Lx,List.append_assoc] at hb
 rw[show((ref.length:Nat):Int)=((ref.length:Nat):Int) from rfl]
 refine Lz rfl rfl (L2 [.tmp 9,.tmp 10,.tmp 13] WD rfl (OZ h .gamma rs.length (ref.length+1) trivial (iY _ (by omega)) (by omega) (by omega) _ hb) ?_)
 rintro _ w1 ⟨rfl,h1,aN⟩
 have bT:=N7 hb
 refine KE rfl (py (run_seq (qN rfl (An rfl (An rfl (py (KB (MQ (α:=Nat×List Nat×List Nat×Option Addr×Nat×Value×List Nat×Nat) ((0,rs,ref,sa,sc,.slice none 0 0,[],a+(Cd.enc .gamma rs.length).length)) (fun x=>[(0,ptr t 0),(1,.slice x.2.2.2.1 x.2.2.1.length x.2.2.2.2.1),(5,x.2.2.2.2.2.1),(6,I (rs.length:Int)),(15,I (rs.length:Int)),(16,I (x.1:Int))]) (fun x w'=>CpI w t r s rs ref rest (a+(L3 ((.gamma,rs.length)::runNums 0 rs)).length) x.1 x.2.1 x.2.2.1 x.2.2.2.1 x.2.2.2.2.1 x.2.2.2.2.2.1 x.2.2.2.2.2.2.1 x.2.2.2.2.2.2.2 w') (fun x=>x.2.1.length) ?hI ?hround))))))))
 case hI=>exact⟨h1,aN,Sl.nil _ _ _,(fun g h=>by cases h),by simp,dX,fY,ge,gM,bT,by rw[Lx,List.length_append];dsimp only;omega,rfl,by simp;omega⟩
 case hround =>
  rintro⟨i,rs2,ref2,sa2,sc2,v5,O,a2⟩ w6 hI ih;dsimp only at hI;have aD:=hI.len;have ub:=hI.tot
  try dsimp only
  refine qN rfl (qV (LW rfl rfl) (py (run_seq (KQ rfl (fun h0=>?_) (fun h0=>?_)))))
  ·obtain⟨n,rs2,rfl⟩:∃n l,rs2=n::l:=by
    cases rs2 with
    |nil=>simp at aD;omega
    |cons n l=>exact⟨n,l,rfl⟩
   have yl:=hI.kp.KD hG dw;have ge:=hI.sum;rw[List.sum_cons] at ge;rw[List.length_cons] at aD;have bN:=hI.bits;rw[runNums,Lx,List.append_assoc] at bN
   have du:min i 1≤n:=by
    have hp:=hI.pos n;rcases Nat.eq_zero_or_pos i with e| e
    ·subst e;simp
    ·rw[show 1-min i 1=0 by omega] at hp;have:=hp List.mem_cons_self;omega
   refine It (run_seq (KB (qN rfl (An rfl (KE rfl (qM rfl (An rfl (qV (La (news:=[.int .u8 1,KV 0]) Nb rfl Ma rfl (yl.cells (n:=2) rfl) rfl) (An rfl (qV (LG L9 rfl) (L2 [.tmp 19,.tmp 20,.tmp 22] WD rfl (OZ hI.tk .gamma (n-min i 1) ref2.length trivial (iY _ (by omega)) (by omega) (by omega) _ bN) ?_)))))))))));rintro _ w7 ⟨rfl,h7,aA⟩;have gN:=hI.kp.trans aA;have bG:=h7.KD;refine An rfl (qV (ymi rfl rfl) (Lz rfl rfl ?_));rw[show((n-min i 1:Nat):Int)+min (i:Int) 1=(n:Int) by omega];refine KE rfl (py (run_seq (qN rfl (An rfl (qV (KZ rfl) (qV (KK OA rfl) (qV (KJ U4 rfl rfl bG rfl) (An rfl (An rfl (An rfl (qV (LG L9 rfl) (qV (LH rfl rfl) (Lq ?_)))))))))))));refine qV (Lk rfl rfl) (py (Kx rfl (It (run_seq (qN rfl (An rfl (qV (RS rfl rfl (by omega) (by omega)) ?_)))))));rw[Nat.and_one_is_mod];have A3:=hI.rd _ gN;have eC:=N7 bN;have yj:=hI.kp.size;have Ek:=aA.size
   have qI:∀g,v5.ownBlock=some g→¬g=r:=fun g hg e=>by
    have h1:=hI.fr g hg;have h2:=h.rd.1.lt;omega
   have gK:=hI.sl.kp aA qI
   have ft:∀(v5':Value) (w8:World),Sl w8 v5' 46 1 (O++if i%2==0 then ref2.take n else []).length ((O++if i%2==0 then ref2.take n else []).map Lg)→(∀g,v5'.ownBlock=some g→w.heap.size≤g)→Kp (fun k=>v5.ownBlock=some k) w7 w8→
     CpI w t r s rs ref rest (a+(L3 ((.gamma,rs.length)::runNums 0 rs)).length) (i+1) rs2 (ref2.drop n) (if sc2=n then sa2 else sa2.map (·.add (n*1))) (sc2-n) v5' (O++if i%2==0 then ref2.take n else []) (a2+(Cd.enc .gamma (n-min i 1)).length) w8:=by
    intro v5' w8 g1 g2 g3;have lt7:=h7.KD.lt;have lr7:=h7.rd.1.lt;have sX:=h.KD.lt;have dQ:=h.rd.1.lt;have nJ:∀x,x<w.heap.size→¬v5.ownBlock=some x:=fun x hx e=>by have:=hI.fr x e;omega
    refine⟨⟨g3.KD h7.KD (nJ t sX),⟨g3.KD h7.rd.1 (nJ r dQ),h7.rd.2⟩,h7.ne⟩,gN.Kz g3 (fun k hk=> .inl (hI.fr k hk)),g1,g2,by omega,fun w2 k=>?_,by rw[List.length_drop];have:=hI.cl;omega,by rw[List.length_drop];omega,?_,?_,?_,?_,?_⟩
    ·have:=OP (hI.rd w2 k) (i:=n) (by omega) hI.cl;rw[←List.map_drop] at this;rw[List.length_drop];exact this
    ·intro m hm;refine hI.pos m ?_;rw[show 1-min (i+1) 1=0 by omega,List.drop_zero] at hm;rcases Nat.eq_zero_or_pos i with e| e
     ·subst e;exact hm
     ·rw[show 1-min i 1=0 by omega];exact List.mem_cons_of_mem _ hm
    ·exact eC
    ·have:=hI.Y5;rw[runNums,Lx,List.length_append] at this;dsimp only at this;omega
    ·rw[hI.eq,copyL,List.append_assoc]
     have:((i+1)%2==0)= !(i%2==0):=by
      rcases Nat.mod_two_eq_zero_or_one i with e| e
      ·rw[e,show(i+1)%2=1 by omega];rfl
      ·rw[e,show(i+1)%2=0 by omega];rfl
     rw[this]
    ·rw[List.length_append,List.length_drop];split
     ·rw[List.length_take];omega
     ·simp;omega
   refine qV (Mc rfl rfl) (py (KQ rfl (fun e1=>?_) (fun e1=>?_)))
   ·have e2:(i%2==0)=true:=by simp;omega
    simp only[e2,if_true] at ft;refine KF rfl (An rfl (An rfl (An rfl (qV (z5W L9 KY rfl rfl (by have:=hI.cl;omega)) ?_))));have Gc:=hI.cl;refine KL rfl rfl (pap L9 KY rfl (by decide) rfl rfl gK (Qp A3 (i:=n) (by omega)) (by rw[←List.map_take];exact Sh _) (by omega) (by simp only[maxLen];omega)) ?_;rintro v5' w8 ⟨er,bj,jR,-⟩;have lI:=er.oneV;refine KE rfl (py (KF rfl (An rfl (An rfl (qV (Si L9 KY rfl rfl (by omega) hI.cl) (KE rfl (py (KC (KF rfl (Lz rfl rfl (An rfl (py ?_))))))))))));rw[show ref2.length-n=(ref2.drop n).length by rw[List.length_drop]];refine(ih (i+1,rs2,ref2.drop n,_,sc2-n,v5',O++ref2.take n,_) _ (ft v5' _ ?_ ?_ bj) (by dsimp only;simp)).qb
    ·rw[List.length_append,List.map_append,List.length_take,Nat.min_eq_left (by omega),List.map_take];exact er
    ·intro g hg;rcases jR g hg with e| e
     ·exact hI.fr g e
     ·omega
   ·have e2:(i%2==0)=false:=by simp;omega
    simp only[e2,Bool.false_eq_true,if_false,List.append_nil] at ft;refine It (KF rfl (An rfl (An rfl (qV (Si L9 KY rfl rfl (by omega) hI.cl) (KE rfl (py (KC (KF rfl (Lz rfl rfl (An rfl (py ?_)))))))))));rw[show ref2.length-n=(ref2.drop n).length by rw[List.length_drop]];exact(ih (i+1,rs2,ref2.drop n,_,sc2-n,v5,O,_) _ (ft v5 _ gK hI.fr (Kp.refl _ _)) (by dsimp only;simp)).qb
  ·have ez:rs2=[]:=List.eq_nil_of_length_eq_zero (by omega);subst ez;have JB:rs.length=i:=by rw[aD];simp
   have jj:=hI.Y5;have dt:=hI.eq;rw[copyL] at dt;rw[show(L3 (runNums i [])).length=0 from rfl,Nat.add_zero] at jj;refine KO rfl (run_seq (qN rfl (An rfl (qV (RS rfl rfl (by omega) (by omega)) ?_))));rw[Nat.and_one_is_mod];refine qV (Mc rfl rfl) (py (KQ rfl (fun e1=>?_) (fun e1=>?_)))
   ·rw[if_pos (by simp;omega)] at dt;refine KF rfl (An rfl (An rfl (KL rfl rfl (pap L9 KY rfl (by decide) rfl rfl hI.sl (hI.rd _ hI.kp) (Sh _) (by omega) (by simp only[maxLen];omega)) ?_)));rintro v5' w8 ⟨er,bj,jR,-⟩;have lI:=er.oneV;refine KE rfl (qM rfl (An rfl (KE rfl (py (KG Tryz.func191 rfl ?_)))));rw[dt,←jj];have yj:=hI.kp.size;have nJ:∀x,x<w.heap.size→¬v5.ownBlock=some x:=fun x hx e=>by have:=hI.fr x e;omega
    refine⟨_,rfl,?_,fun g hg=>?_,⟨bj.KD hI.tk.KD (nJ t h.KD.lt),⟨bj.KD hI.tk.rd.1 (nJ r h.rd.1.lt),hI.tk.rd.2⟩,hI.tk.ne⟩,hI.kp.Kz bj (fun k hk=> .inl (hI.fr k hk))⟩
    ·rw[List.length_append,List.map_append];exact er
    ·rcases jR g hg with e| e
     ·exact hI.fr g e
     ·omega
   ·rw[if_neg (by simp;omega),List.append_nil] at dt;refine It (qN rfl (An rfl (KE rfl (py (KG Tryz.func191 rfl ?_)))));rw[dt,←jj];exact⟨_,rfl,hI.sl,hI.fr,hI.tk,hI.kp⟩
structure ReI (w w1:World)(t r:Nat)(s:Bytes)(l:List Nat)(x k:Nat)(rest:List Bool)(aE b7:Nat)(dn l2:List Nat)(v9:Value)(a:Nat)(w':World):Prop where
 tk:Wh w' t r s a
 kp:Kp (fun k=>k=t∨k=r) w w'
 b7:KP w' b7 (Nu (.zeta k)) 298
 sl:Sl w' v9 46 1 dn.length (dn.map Lg)
 fr:∀g,v9.ownBlock=some g→w1.heap.size≤g
 eq:l=dn++l2
 bits:(L0 s).drop a=L3 (restNums x k dn.getLast? l2)++rest
 Y5:a+(L3 (restNums x k dn.getLast? l2)).length=aE
 siz:w1.heap.size≤w'.heap.size
theorem z0k {w:World}{t r a:Nat}{s:Bytes}(h:Wh w t r s a)(x k:Nat)(hx:x<65536)(hk:1≤k∧k≤16)(l:List Nat)(hl:Lj l)(rest:List Bool)(hb:(L0 s).drop a=L3 (restNums x k none l)++rest):
  Le Tryz.prog 193 [ptr t 0,I (x:Int),I (l.length:Int),XJ (.zeta k)] w fun u w'=>Sl w' u 46 1 l.length (l.map Lg)∧(∀g,u.ownBlock=some g→w.heap.size≤g)∧
   Wh w' t r s (a+(L3 (restNums x k none l)).length)∧Kp (fun k=>k=t∨k=r) w w':=by
 have aD:=hl.len
 have lt0:=h.KD.lt
 have lr0:=h.rd.1.lt
 refine KA (e:=[(0,_),(1,_),(2,_),(3,_)]) Tryz.func193 rfl Tryz.ntmps193 rfl rfl (qN rfl (KL rfl rfl (Mz rfl (cs:=Nu (.zeta k)) rfl) ?_))
 rintro _ w1 ⟨b7,rfl,kr,ad,bG⟩
 have h1:=h.ext ad
 have z1:=ad.size
 have El:=bG.lt
 refine KE rfl (qM rfl (KE rfl (py (run_seq (qN rfl (An rfl (An rfl (py (KB (MQ (α:=List Nat×List Nat×Value×Nat) (([],l,.slice none 0 0,a)) (fun y=>[(0,ptr t 0),(1,I (x:Int)),(7,ptr b7 0),(9,y.2.2.1),(12,I (l.length:Int)),(13,I (y.1.length:Int))]) (fun y w'=>ReI w w1 t r s l x k rest (a+(L3 (restNums x k none l)).length) b7 y.1 y.2.1 y.2.2.1 y.2.2.2 w') (fun y=>y.2.1.length) ?hI ?hround))))))))))
 case hI=>exact⟨h1,ad.kp,bG,Sl.nil _ _ _,(fun g h=>by cases h),rfl,hb,rfl,Nat.le_refl _⟩
 case hround =>
  rintro⟨dn,l2,v9,a2⟩ w6 hI ih;dsimp only at hI;have dt:=hI.eq;have eM:l.length=dn.length+l2.length:=by rw[dt,List.length_append]
  try dsimp only
  refine qN rfl (qV (LW rfl rfl) (py (run_seq (KQ rfl (fun h0=>?_) (fun h0=>?_)))))
  ·obtain⟨y,l2,rfl⟩:∃y q,l2=y::q:=by
    cases l2 with
    |nil=>simp at eM;omega
    |cons y q=>exact⟨y,q,rfl⟩
   rw[List.length_cons] at eM;have Em:y<65536:=hl.lt y (by rw[dt];simp);have aW:=hI.b7;have bN:=hI.bits;have jj:=hI.Y5
   have key:∃v:Nat,restNums x k dn.getLast? (y::l2)=(.zeta k,v)::restNums x k (dn++[y]).getLast? l2∧v≤262144∧(dn=[]→v=XT ((y:Int)-x))∧∀u q,dn=q++[u]→v+(u+1)=y:=by
    rw[List.getLast?_append,show [y].getLast? =some y from rfl,Option.some_or];rcases List.eq_nil_or_concat dn with rfl|⟨q,u,rfl⟩
    ·refine⟨_,rfl,?_,fun _=>rfl,fun u q e=>by simp at e⟩;have:=TC (z:=(y:Int)-x) (n:=65536) (by omega) (by omega);omega
    ·have hu:u<y:=by
      have hr:=hl.Vw;rw[dt] at hr;exact(List.pairwise_append.1 hr).2.2 u (by simp) y (by simp)
     refine⟨y-u-1,?_,by omega,fun e=>by simp at e,fun u2 q2 e=>?_⟩
     ·have e1:(q.concat u).getLast? =some u:=by simp
      rw[e1];rfl
     ·have e2:q++[u]=q2++[u2]:=by simpa using e
      have:=(List.append_inj' e2 rfl).2;simp at this;omega
   obtain⟨v,eT,jS,A4,ti⟩:=key;rw[eT,Lx,List.append_assoc] at bN;rw[eT,Lx,List.length_append] at jj;refine It (run_seq (KB (qN rfl (An rfl (KE rfl (qM rfl (An rfl (qV (La (news:=Nu (.zeta k)) Nb rfl Ma rfl (aW.cells (n:=2) rfl) rfl) (L2 [.tmp 16,.tmp 17,.const (Value.int .i64 262144)] WD rfl (OZ hI.tk (.zeta k) v 262144 hk (by simp only[Cd.most];omega) jS (by omega) _ bN) ?_)))))))));rintro _ w7 ⟨rfl,h7,aA⟩;have gN:Kp (fun k=>k=t∨k=r) w w7:=hI.kp.trans (aA.KT fun k e=> .inr e);have eC:=N7 bN;have gK:=hI.sl.kp aA (fun g hg e=>by have:=hI.fr g hg;omega);have A7:=aA.KD aW (by omega);have Ek:=hI.siz;have yj:=aA.size;refine KE rfl (py (run_seq (qN rfl (An rfl (qV (Mc rfl rfl) (py (Lp (fun e' w'=>w'=w7∧e'=[(0,ptr t 0),(1,I (x:Int)),(7,ptr b7 0),(9,v9),(11,I (y:Int)),(12,I (l.length:Int)),(13,I (dn.length:Int))]) ?lY (fun lY=>?lZ))))))))
   case lY=>
    rintro e' w7 ⟨rfl,rfl⟩;have iV:=h7.KD;refine run_seq (qN rfl (An rfl (An rfl (qV (KZ rfl) (qV (KK OA rfl) (qV (KJ U4 rfl rfl iV rfl) (An rfl (An rfl (L2 [.tmp 41] z1O rfl (Qg y Em _) ?_)))))))));rintro _ w8 ⟨rfl,rfl⟩;refine qV ((by first|exact LP rfl|exact Nq rfl)) ?_;refine qV (Lk rfl rfl) (qV (KZ rfl) (qV (KK OA rfl) (KR rfl (Mn PS rfl rfl rfl iV (by simp)) ?_)));rintro w8 ⟨bU,bj⟩;replace bU:KP w8 t [ptr r 0,.bool false] 289:=bU;refine qM rfl (An rfl (qV (KZ rfl) (qV (KK OA rfl) (qV (KJ U4 rfl rfl bU rfl) (py (Kx rfl (It (KF rfl (An rfl (An rfl (qV (YR rfl U3 Mg) ?_)))))))))));rw[Nat.mod_eq_of_lt (show y<4294967296 by omega)];refine KL rfl rfl (Tb (parts:=[(0,.tmp 53)]) (cs:=[_]) (zs:=[Value.int .u32 0]) L9 KY rfl (by kernel_rfl) rfl rfl rfl (by decide)) ?_;rintro _ w9 ⟨b9,rfl,⟨nK,eS,cy⟩,ud⟩;have nJ:∀g,v9.ownBlock=some g→¬g=t:=fun g hg e=>by have:=hI.fr g hg;omega
    have lL:∀g,v9.ownBlock=some g→¬g=r:=fun g hg e=>by have:=hI.fr g hg;omega
    have En:=bj.size;have Eo:=eS.size;refine KL rfl rfl (pap L9 KY rfl (by decide) rfl rfl ((gK.kp bj nJ).ext eS) ud.rd (by intro c hc;simp at hc;subst hc;rfl) (by omega) (by simp only[maxLen];omega)) ?_;rintro v10 w10 ⟨bV,au,A8,-⟩;have lI:=bV.oneV;refine KE rfl (py (KC (KF rfl (Lz rfl rfl (An rfl (py ?_))))));have qK:∀g,g<w1.heap.size→¬v9.ownBlock=some g:=fun g hg e=>by have:=hI.fr g e;omega
    rw[show(dn.length:Int)+1=((dn++[y]).length:Int) by simp];refine(ih (dn++[y],l2,v10,a2+(Cd.enc (.zeta k) v).length) _ ⟨⟨au.KD (eS.KD bU) (qK t (by omega)),⟨au.KD (eS.KD (bj.KD h7.rd.1 (fun e=>h7.ne e.symm))) (qK r (by omega)),h7.rd.2⟩,h7.ne⟩,?_,?_,?_,?_,?_,eC,?_,?_⟩ (by dsimp only;simp)).qb
    ·exact((gN.trans (bj.KT fun k e=> .inl e)).trans eS.kp).Kz au (fun g hg=> .inl (by have:=hI.fr g hg;omega))
    ·exact au.KD (eS.KD (bj.KD A7 (by omega))) (qK b7 (by omega))
    ·rw[List.length_append,List.map_append];exact bV
    ·intro g hg;rcases A8 g hg with e| e
     ·exact hI.fr g e
     ·omega
    ·rw[dt,List.append_assoc];rfl
    ·dsimp only at jj⊢;omega
    ·have:=au.size;omega
   case lZ=>
    refine KQ rfl (fun e1=>?_) (fun e1=>?_)
    ·have ez:dn=[]:=List.eq_nil_of_length_eq_zero (by omega);refine KF rfl (An rfl (qV (Lw rfl U3 M3 (by omega)) (L2 [.tmp 22] z7g rfl (z1H v (by omega) _) ?_)));rintro _ w8 ⟨rfl,rfl⟩;rw[A4 ez,z1v];refine An rfl (Lz rfl rfl ?_);rw[show(y:Int)-x+x=(y:Int) by omega];refine KE rfl (py ?_);exact(lY _ _ ⟨rfl,rfl⟩).qb
    ·obtain⟨q,u,rfl⟩:∃q u,dn=q++[u]:=by
      rcases List.eq_nil_or_concat dn with rfl|⟨q,u,rfl⟩
      ·exact absurd rfl e1
      ·exact⟨q,u,by simp⟩
     have Ep:=ti u q rfl;have qD:(q++[u]).length=q.length+1:=by simp
     rw[qD] at gK;rcases gK.shape with⟨-,h0⟩|⟨g,c1,rfl,fm⟩
     ·omega
     refine KF rfl (An rfl (An rfl (An rfl (qV (M8 rfl rfl (by omega)) ?_))));rw[show(((q++[u]).length:Nat):Int)-1=(q.length:Int) by simp];refine qV (Lt L9 KY rfl rfl (by omega)) (qV (Lb Mg rfl rfl (LN gK.rd (show((q++[u]).map Lg)[q.length]? =some (Lg u) by simp))) ?_);refine qV (Ln rfl Mg U3 (by omega)) (Lz rfl rfl (Lz rfl rfl ?_));rw[show(v:Int)+((u:Int)+1)=(y:Int) by omega];refine KE rfl (py ?_);exact(lY _ _ ⟨rfl,rfl⟩).qb
  ·have ez:l2=[]:=List.eq_nil_of_length_eq_zero (by omega);subst ez;refine KO rfl (qN rfl (An rfl (KE rfl (py (KG Tryz.func193 rfl ?_)))));rw[List.append_nil] at dt;subst dt;have jj:=hI.Y5;rw[show(L3 (restNums x k l.getLast? [])).length=0 by cases l.getLast?<;>rfl,Nat.add_zero] at jj;rw[←jj];exact⟨_,rfl,hI.sl,fun g hg=>by have:=hI.fr g hg;omega,hI.tk,hI.kp⟩
section
variable {P:Program}{b:Frame}{a:Act}{k:List Item}{cs:List Frame}{w:World}{C:Cx}{e:Env}
theorem Yj {c:Code}:step P (lone (b.atR a (.code (.scope c)::k)) cs w)= .next (lone (b.atR a (.code c:: .inScope c::k)) cs w):=
 step_lone_go (by simp[stepG,stepG.exec,Frame.atR])
theorem z2r {c:Code}(h:Lc C (.code c:: .inScope c::k) e w):Lc C (.code (.scope c)::k) e w:=fun a ha=>QD.step (fun _ _=>Yj) (h a ha)
end
def loE:Option Nat→Nat
 |none=>0
 |some z=>z+2
def z0Y:Option Nat→Int
 |none=>-1
 |some z=>(z:Int)
def Pl (x:Nat):Option Nat→Nat→Nat
 |none,y=>XT ((y:Int)-x)
 |some e,y=>y-e-2
theorem MG (x least:Nat)(e:Option Nat)(p:Nat×Nat)(R:List (Nat×Nat)):longNums x least e (p::R)=(.gamma,Pl x e p.1)::(.gamma,p.2-least)::longNums x least (some (p.1+p.2-1)) R:=by
 cases e<;>rfl
structure LoI (w:World)(t r:Nat)(s:Bytes)(R:List (Nat×Nat))(x least left:Nat)(rest:List Bool)(aE:Nat)(i:Nat)(R2:List (Nat×Nat))(e:Option Nat)(O:List Nat)(v9:Value)(a:Nat)(w':World):Prop where
 tk:Wh w' t r s a
 kp:Kp (fun k=>k=t∨k=r) w w'
 sl:Sl w' v9 46 1 O.length (O.map Lg)
 fr:∀g,v9.ownBlock=some g→w.heap.size≤g
 len:R.length=i+R2.length
 eq:Me R=O++Me R2
 ok:NI least (loE e) R2
 hi:∀p∈R2,p.1+p.2≤65536
 tot:O.length+(Me R2).length≤left
 bits:(L0 s).drop a=L3 (longNums x least e R2)++rest
 Y5:a+(L3 (longNums x least e R2)).length=aE
 eb:z0Y e<65536
theorem z3l {w : World}{t r a : Nat}{s : Bytes}(h : Wh w t r s a)(hG : KP w 1 (Nu .gamma) 298)(dw : ¬ 1 = r)(o8 : ¬ 1 = t)(x left least : Nat)(hx : x < 65536)(pE : left ≤ 65536)(A9 : least ≤ 64)(R : List (Nat × Nat))(hR : NI least 0 R)(Gd : ∀ p ∈ R, p.1 + p.2 ≤ 65536)
  (ub:(Me R).length≤left) (Ge:R.length≤left) (rest:List Bool) (hb:(L0 s).drop a=L3 ((.gamma,R.length)::longNums x least none R)++rest):
  Le Tryz.prog 192 [ptr t 0,I (x:Int),I (left:Int),I (least:Int)] w fun u w'=>Sl w' u 46 1 (Me R).length ((Me R).map Lg)∧(∀g,u.ownBlock=some g→w.heap.size≤g)∧
   Wh w' t r s (a+(L3 ((.gamma,R.length)::longNums x least none R)).length)∧Kp (fun k=>k=t∨k=r) w w':=by
 have iY:∀v:Nat,v≤262144→v≤Cd.most .gamma:=fun v hv=>by simp only[Cd.most];omega
 have lt0:=h.KD.lt
 have lr0:=h.rd.1.lt
 refine KA (e:=[(0,_),(1,_),(2,_),(3,_)]) Tryz.func192 rfl Tryz.ntmps192 rfl rfl (qN rfl (KE rfl (py (z2r (qN rfl (KE rfl (qM rfl (KE rfl (py (run_seq (z3z (run_seq (qN rfl ?_)))))))))))))
 refine An rfl (qV (La (news:=[.int .u8 1,KV 0]) Nb rfl Ma rfl (hG.cells (n:=2) rfl) rfl) ?_)
 rw[Lx,List.append_assoc] at hb
 refine An rfl (L2 [.tmp 14,.tmp 15,.tmp 16] WD rfl (OZ h .gamma R.length left trivial (iY _ (by omega)) Ge (by omega) _ hb) ?_)
 rintro _ w1 ⟨rfl,h1,aN⟩
 have bT:=N7 hb
 refine An rfl (py (KB (MQ (α:=Nat×List (Nat×Nat)×Option Nat×List Nat×Value×Nat) ((0,R,none,[],.slice none 0 0,a+(Cd.enc .gamma R.length).length)) (fun y=>[(0,ptr t 0),(1,I (x:Int)),(2,I (left:Int)),(3,I (least:Int)),(9,y.2.2.2.2.1),(10,I (z0Y y.2.2.1)),(17,I (R.length:Int)),(18,I (y.1:Int))]) (fun y w'=>LoI w t r s R x least left rest (a+(L3 ((.gamma,R.length)::longNums x least none R)).length) y.1 y.2.1 y.2.2.1 y.2.2.2.1 y.2.2.2.2.1 y.2.2.2.2.2 w') (fun y=>y.2.1.length) ?hI ?hround)))
 case hI=>exact⟨h1,aN.KT fun k e=> .inr e,Sl.nil _ _ _,(fun g h=>by cases h),by simp,rfl,hR,Gd,by simpa using ub,bT,by rw[Lx,List.length_append];dsimp only;omega,(show(-1:Int)<65536 by decide)⟩
 case hround =>
  rintro⟨i,R2,e,O,v9,a2⟩ w6 hI ih;dsimp only at hI;have aD:=hI.len
  try dsimp only
  refine qN rfl (qV (LW rfl rfl) (py (run_seq (KQ rfl (fun h0=>?_) (fun h0=>?_)))))
  ·obtain⟨⟨p1,p2⟩,R2,rfl⟩:∃p q,R2=p::q:=by
    cases R2 with
    |nil=>simp at aD;omega
    |cons p q=>exact⟨p,q,rfl⟩
   rw[List.length_cons] at aD;obtain⟨ok1,ok2,ok3,ok4⟩:loE e≤p1∧1≤p2∧least≤p2∧NI least (p1+p2+1) R2:=hI.ok;have JC:p1+p2≤65536:=hI.hi (p1,p2) List.mem_cons_self;have gz:Me ((p1,p2)::R2)=(List.range p2).map (p1+·)++Me R2:=rfl;have pF:=hI.tot;have ue:=hI.eq;rw[gz] at pF ue;rw[List.length_append,List.length_map,List.length_range] at pF;have bN:=hI.bits;have jj:=hI.Y5;rw[MG,Lx,Lx,List.append_assoc,List.append_assoc] at bN;rw[MG,Lx,Lx,List.length_append,List.length_append] at jj;have Aa:=hI.eb
   have eT:Pl x e p1≤262144:=by
    cases e with
    |none=>have:=TC (z:=(p1:Int)-x) (n:=65537) (by omega) (by omega);show XT _≤_;omega
    |some z=>show p1-z-2≤_;omega
   have gh:∀k,(fun k=>k=t∨k=r) k→k<w.heap.size:=fun k hk=>by rcases hk with e|e<;>omega
   have yl:=hI.kp.KD hG (fun e=>by rcases e with e|e;exact o8 e;exact dw e);refine It (run_seq (KB (qN rfl (An rfl (qV (La (news:=[.int .u8 1,KV 0]) Nb rfl Ma rfl (yl.cells (n:=2) rfl) rfl) (L2 [.tmp 20,.tmp 21,.const (Value.int .i64 262144)] WD rfl (OZ hI.tk .gamma (Pl x e p1) 262144 trivial (iY _ eT) eT (by omega) _ bN) ?_))))));rintro _ w7 ⟨rfl,h7,aA⟩;have eC:=N7 bN;have Ek:=hI.kp.size;have yj:=aA.size;have Eq:∀g,v9.ownBlock=some g→¬g=r:=fun g hg e=>by have:=hI.fr g hg;omega
   have gK:=hI.sl.kp aA Eq;have gN:Kp (fun k=>k=t∨k=r) w w7:=hI.kp.trans (aA.KT fun k e=> .inr e);refine KE rfl (py (run_seq (qN rfl (An rfl (qV (LW rfl rfl) (py (Lp (fun e' w'=>w'=w7∧e'=[(0,ptr t 0),(1,I (x:Int)),(2,I (left:Int)),(3,I (least:Int)),(9,v9),(11,I (p1:Int)),(17,I (R.length:Int)),(18,I (i:Int))]) ?lY (fun lY=>?lZ))))))))
   case lY =>
    rintro e' w7 ⟨rfl,rfl⟩;have Gf:=aA.KD yl dw;refine qN rfl (An rfl (qV (La (news:=[.int .u8 1,KV 0]) Nb rfl Ma rfl (Gf.cells (n:=2) rfl) rfl) (An rfl (L2 [.tmp 34,.tmp 35,.tmp 36] WD rfl (OZ h7 .gamma (p2-least) left trivial (iY _ (by omega)) (by omega) (by omega) _ eC) ?_))));rintro _ w8 ⟨rfl,h8,bj⟩;have qP:=N7 eC;have En:=bj.size;have er:=gK.kp bj Eq;have o9:Kp (fun k=>k=t∨k=r) w w8:=gN.trans (bj.KT fun k e=> .inr e);obtain⟨va,vc,rfl,-⟩:=hI.sl.rd.shape;refine An rfl (Lz rfl rfl ?_);rw[show((p2-least:Nat):Int)+(least:Int)=(p2:Int) by omega];have bU:=h8.KD;refine KE rfl (py (run_seq (qN rfl (An rfl (An rfl (qV (KZ rfl) (qV (KK OA rfl) (qV (KJ U4 rfl rfl bU rfl) (An rfl (An rfl (qV (LW rfl rfl) (Lq (qV (Lk rfl rfl) ?_)))))))))))));refine An rfl (An rfl (An rfl (Lz rfl rfl (qV (LH rfl rfl) (Lq (qV (Lk rfl rfl) (An rfl (An rfl (An rfl (An rfl (qV (LG L9 rfl) (qV (M8 rfl rfl (by omega)) (qV (LH rfl rfl) ?_)))))))))))));refine Lq (qV (Lk rfl rfl) (qV (KZ rfl) (qV (KK OA rfl) (KR rfl (Mn PS rfl rfl rfl bU (by simp)) ?_))));rintro w9 ⟨cy,aJ⟩;replace cy:KP w9 t [ptr r 0,.bool false] 289:=cy;refine qM rfl (An rfl (qV (KZ rfl) (qV (KK OA rfl) (qV (KJ U4 rfl rfl cy rfl) ?_))));have Eo:=aJ.size;have ud:=er.kp aJ (fun g hg e=>by have:=hI.fr g hg;omega);have h9:Wh w9 t r s (a2+(Cd.enc .gamma (Pl x e p1)).length+(Cd.enc .gamma (p2-least)).length):=⟨cy,⟨aJ.KD h8.rd.1 (fun e=>h8.ne e.symm),h8.rd.2⟩,h8.ne⟩;have Ab:Kp (fun k=>k=t∨k=r) w w9:=o9.trans (aJ.KT fun k e=> .inl e);refine py (Kx rfl (It (run_seq (qN rfl (An rfl (An rfl (py (KB (MQ (α:=Nat×Value) ((0,.slice va O.length vc)) (fun y=>[(0,ptr t 0),(1,I (x:Int)),(2,I (left:Int)),(3,I (least:Int)),(9,y.2),(11,I (p1:Int)),(12,I (p2:Int)),(17,I (R.length:Int)),(18,I (i:Int)),(69,I (p2:Int)),(70,I (y.1:Int))]) (fun y w'=>Wh w' t r s (a2+(Cd.enc .gamma (Pl x e p1)).length+(Cd.enc .gamma (p2-least)).length)∧Kp (fun k=>k=t∨k=r) w w'∧Sl w' y.2 46 1 (O.length+y.1) ((O++(List.range y.1).map (p1+·)).map Lg)∧(∀g,y.2.ownBlock=some g→w.heap.size≤g)∧y.1≤p2) (fun y=>p2-y.1) ?hI ?hround)))))))))
    case hI=>exact⟨h9,Ab,by simpa using ud,hI.fr,Nat.zero_le _⟩
    case hround=>
     rintro⟨j,v⟩ w10 ⟨fg,au,bV,bX,hj⟩ ih2;dsimp only at fg au bV bX hj
     try dsimp only
     refine qN rfl (qV (LW rfl rfl) (py (run_seq (KQ rfl (fun jT=>?_) (fun jT=>?_)))))
     ·refine It (run_seq (KB (qN rfl (An rfl (KE rfl (py (KF rfl (An rfl (An rfl (An rfl (Lz rfl rfl (qV (YR rfl U3 Mg) ?_))))))))))));rw[show(p1+j)%4294967296=p1+j by omega];refine KL rfl rfl (Tb (parts:=[(0,.tmp 77)]) (cs:=[_]) (zs:=[Value.int .u32 0]) L9 KY rfl (by kernel_rfl) rfl rfl rfl (by decide)) ?_;rintro _ w11 ⟨b11,rfl,⟨iu,aT,aF⟩,qQ⟩;have Gg:=au.size;have Gh:=aT.size;refine KL rfl rfl (pap L9 KY rfl (by decide) rfl rfl (bV.ext aT) qQ.rd (by intro c hc;simp at hc;subst hc;rfl) (by omega) (by simp only[maxLen];omega)) ?_;rintro v12 w12 ⟨gh,aU,Ac,-⟩;have lI:=gh.oneV;refine KE rfl (py (KC (KF rfl (Lz rfl rfl (An rfl (py ?_))))));have uf:∀g,g<w.heap.size→¬v.ownBlock=some g:=fun g hg e=>by have:=bX g e;omega
      refine(ih2 (j+1,v12) _ ⟨⟨aU.KD (aT.KD fg.KD) (uf t lt0),⟨aU.KD (aT.KD fg.rd.1) (uf r lr0),fg.rd.2⟩,fg.ne⟩,(au.trans aT.kp).Kz aU (fun g hg=> .inl (bX g hg)),?_,fun g hg=>?_,by omega⟩ (by dsimp only;omega)).qb
      ·have e1:(O++(List.range (j+1)).map (p1+·)).map Lg=(O++(List.range j).map (p1+·)).map Lg++[Lg (p1+j)]:=by
        rw[List.range_succ];simp
       dsimp only;rw[e1];exact gh
      ·rcases Ac g hg with e| e
       ·exact bX g e
       ·omega
     ·have Gi:j=p2:=by omega
      subst Gi;refine KO rfl (KF rfl (An rfl (An rfl (Lz rfl rfl (qV (M8 rfl rfl (by omega)) (KE rfl (py (KC (KF rfl (Lz rfl rfl (An rfl (py ?_))))))))))));rw[show(p1:Int)+j-1=z0Y (some (p1+j-1)) by show _=((p1+j-1:Nat):Int);omega,show(i:Int)+1=((i+1:Nat):Int) by omega];refine(ih (i+1,R2,some (p1+j-1),O++(List.range j).map (p1+·),v,_) _ ⟨fg,au,?_,bX,by dsimp only;omega,by rw[ue,List.append_assoc],?_,fun p hp=>hI.hi p (List.mem_cons_of_mem _ hp),?_,qP,?_,?_⟩ (by dsimp only;simp)).qb
      ·dsimp only;rw[List.length_append,List.length_map,List.length_range];exact bV
      ·refine ok4.mono ?_;show p1+j-1+2≤_;omega
      ·dsimp only;rw[List.length_append,List.length_map,List.length_range];omega
      ·dsimp only at jj⊢;omega
      ·show((p1+j-1:Nat):Int)<65536;omega
   case lZ=>
    cases e with
    | none =>
      refine KQ rfl (fun e1=>?_) (fun e1=>?_)
      ·refine KF rfl (An rfl (qV (Lw rfl U3 M3 (by omega)) (L2 [.tmp 26] z7g rfl (z1H _ (by omega) _) ?_)));rintro _ w8 ⟨rfl,rfl⟩;rw[show Pl x none p1=XT ((p1:Int)-x) from rfl,z1v];refine An rfl (Lz rfl rfl ?_);rw[show(p1:Int)-x+x=(p1:Int) by omega];refine KE rfl (py ?_);exact(lY _ _ ⟨rfl,rfl⟩).qb
      ·exact absurd (by decide) e1
    | some z =>
      refine KQ rfl (fun e1=>?_) (fun e1=>?_)
      ·exact absurd e1 (by show ¬((z:Int)<0);omega)
      ·have hz:z+2≤p1:=ok1;refine KF rfl (An rfl (An rfl ?_));rw[show z0Y (some z)=(z:Int) from rfl];refine Lz rfl rfl (Lz rfl rfl ?_);rw[show Pl x (some z) p1=p1-z-2 from rfl,show((p1-z-2:Nat):Int)+((z:Int)+2)=(p1:Int) by omega];refine KE rfl (py ?_);exact(lY _ _ ⟨rfl,rfl⟩).qb
  ·have ez:R2=[]:=List.eq_nil_of_length_eq_zero (by omega);subst ez;refine KO rfl (qN rfl (An rfl (KE rfl (py (KG Tryz.func192 rfl ?_)))));have dt:=hI.eq;rw[show Me []=[] from rfl,List.append_nil] at dt;have jj:=hI.Y5;rw[show(L3 (longNums x least e [])).length=0 by cases e<;>rfl,Nat.add_zero] at jj;rw[dt,←jj];exact⟨_,rfl,hI.sl,hI.fr,hI.tk,hI.kp⟩
def LX (p:MX)(n r:Nat):List (Cd×Nat):=(.gamma,n)::if n=0 then [] else if 0<p.L6 then [(.unary,r)] else []
theorem WU {w:World}{r a:Nat}{s:Bytes}(h:Oz w r s a)(p:MX)(hp:p.LS)(hG:KP w 1 (Nu .gamma) 298)(hU:KP w 2 (Nu .unary) 298)(dw:¬1=r)(et:¬2=r)(n q:Nat)(hn:n≤65536)(hq:q≤p.L6)
  (ma:n=0→q=0) (rest:List Bool) (hb:(L0 s).drop a=L3 (LX p n q)++rest):
  Le Tryz.prog 167 [ptr r 0,lpV p] w fun u w'=>u= .tuple #[.agg #[I (n:Int),I (q:Int)],I 0]∧Oz w' r s (a+(L3 (LX p n q)).length)∧Kp (fun k=>k=r) w w':=by
 obtain⟨g1,g2,g3,g4⟩:=id hp
 have lr0:=h.1.lt
 have mb:p.L6=0→q=0:=fun e=>by omega
 unfold LX at hb⊢
 rw[Lx,List.append_assoc] at hb
 refine KA (e:=[(0,_),(1,_)]) Tryz.func167 rfl Tryz.ntmps167 rfl rfl (qN rfl (KL rfl rfl (Mz rfl (cs:=Um p) rfl) ?_))
 rintro _ w1 ⟨b3,rfl,eL,ad,ar⟩
 refine KL rfl rfl (MN (cs:=[_,_]) N5 rfl) ?_
 rintro _ w2 ⟨b4,rfl,gA,af,aI⟩
 have z1:=ad.size
 have z2:=af.size
 have gO:=af.KD ar
 refine KE rfl (py (run_seq (KB (qN rfl (An rfl (qV (LO Oi rfl rfl) (KE rfl (py (Kx rfl (qN rfl (qV (La (news:=Um p) Tj rfl OM rfl (gO.cells (n:=3) rfl) rfl) (L2 [.tmp 15] YE rfl (OI p hp w2) ?_))))))))))))
 rintro _ w3 ⟨rfl,ah⟩
 refine qV (LQ rfl rfl) (KE rfl ?_)
 have c6:=(ad.trans af).trans ah
 have h3:Oz w3 r s a:=⟨c6.KD h.1,h.2⟩
 refine py (Kx rfl (It (KC (qN rfl (An rfl (L2 [.tmp 19] SZ rfl (OS h3) ?_))))))
 rintro _ w4 ⟨rfl,rfl⟩
 refine KE rfl (qM rfl (An rfl (qV (La (news:=[.int .u8 1,KV 0]) Nb rfl Ma rfl ((c6.KD hG).cells (n:=2) rfl) rfl) (L2 [.tmp 22,.tmp 23] z5v rfl (Ti h3 .gamma n trivial (by simp only[Cd.most];omega) _ hb) ?_))))
 rintro _ w5 ⟨rfl,h5,aj⟩
 have gI:=N7 hb
 have ci:=aj.KD (ah.KD gO) (by omega)
 have aH:=aj.KD (ah.KD aI) (by omega)
 have cq:Kp (fun k=>k=r) w w5:=c6.kp.trans aj
 replace ci:KP w5 b3 [I (p.L6:Int),I (p.interval:Int),I (p.zeta:Int)] 245:=ci
 refine An rfl (qV (Ll rfl rfl) (qV (Ll rfl rfl) (KE rfl (KE rfl (qM rfl (KE rfl (py (run_seq (qN rfl (An rfl (qV (Mc rfl rfl) (An rfl ?_))))))))))))
 rcases Nat.eq_zero_or_pos n with e0|e0
 ·have qR:=ma e0;subst e0;subst qR;refine An rfl (qV (LH rfl rfl) (Lq (qV (LK rfl rfl) (An rfl (qS (qS (qS (qV (Lk rfl rfl) (py (Lc.qb (e:=[(0,_),(3,_),(4,_),(5,_),(6,_),(7,_),(8,_),(9,_),(37,_)]) ?_))))))))));refine Kx rfl (It (run_seq (qN rfl (An rfl (qV (LQ rfl rfl) (An rfl (An rfl (qV (LH rfl rfl) (Lq (qV (Lk rfl rfl) (An rfl (An rfl (qV (KK NY rfl) ?_)))))))))))));refine qV (KJ U3 rfl rfl ci rfl) (qV ((by first|exact Lw rfl U3 M3 (by omega)|exact MI rfl U3 M3)) ?_);refine qV (LH rfl rfl) (Lq (qV (Lk rfl rfl) (py (Kx rfl (It (qN rfl (An rfl (qV (Ln rfl M3 U3 (by omega)) (An rfl (qV (Ln rfl M3 U3 (by omega)) (qV (Nc (parts:=[(0,.tmp 62),(1,.tmp 64)]) (cs:=[_,_]) N5 rfl z5h rfl rfl) (KR rfl (Lo (news:=[I ((0:Nat):Int),I (((0:Nat)):Int)]) N5 rfl rfl rfl rfl aH (by simp)) ?_))))))))))));rintro w9 ⟨bH,aJ⟩;replace bH:KP w9 b4 [I ((0:Nat):Int),I (((0:Nat)):Int)] 239:=bH;refine KE rfl (py (Lc.qb (e:=[(4,_),(5,_)]) ?_));refine L8 Tryz.func167 (.cell Y1 rfl N5 rfl (KP.cells (n:=2) bH (news:=[_,_]) rfl) rfl (.tmp rfl .nil)) ?_;rw[if_pos rfl,show(L3 [((.gamma,0):Cd×Nat)]).length=(Cd.enc .gamma 0).length by rw[Lx,List.length_append];rfl];refine⟨_,rfl,rfl,⟨aJ.KD h5.1 (by omega),h5.2⟩,cq.Kz aJ (fun k e=> .inl (by omega))⟩
 ·rw[if_neg (by omega)] at gI⊢;rcases Nat.eq_zero_or_pos p.L6 with e1|e1
  ·have qR:=mb e1;subst qR;rw[if_neg (by omega)] at gI⊢;refine An rfl (qV (LH rfl rfl) (MC (qV (LK rfl rfl) (An rfl (qV (KK NY rfl) (qV (KJ U3 rfl rfl ci rfl) (qV (LH rfl rfl) (Lq (qV (LK rfl rfl) (py (Lc.qb (e:=[(0,_),(3,_),(4,_),(5,_),(6,_),(7,_),(8,_),(9,_),(37,_)]) ?_)))))))))));refine Kx rfl (It (run_seq (qN rfl (An rfl (qV (LQ rfl rfl) (An rfl (An rfl (qV (LH rfl rfl) (Lq (qV (Lk rfl rfl) (An rfl (An rfl (qV (KK NY rfl) ?_)))))))))))));refine qV (KJ U3 rfl rfl ci rfl) (qV ((by first|exact Lw rfl U3 M3 (by omega)|exact MI rfl U3 M3)) ?_);refine qV (LH rfl rfl) (Lq (qV (Lk rfl rfl) (py (Kx rfl (It (qN rfl (An rfl (qV (Ln rfl M3 U3 (by omega)) (An rfl (qV (Ln rfl M3 U3 (by omega)) (qV (Nc (parts:=[(0,.tmp 62),(1,.tmp 64)]) (cs:=[_,_]) N5 rfl z5h rfl rfl) (KR rfl (Lo (news:=[I (n:Int),I (((0:Nat)):Int)]) N5 rfl rfl rfl rfl aH (by simp)) ?_))))))))))));rintro w9 ⟨bH,aJ⟩;replace bH:KP w9 b4 [I (n:Int),I (((0:Nat)):Int)] 239:=bH;refine KE rfl (py (Lc.qb (e:=[(4,_),(5,_)]) ?_));refine L8 Tryz.func167 (.cell Y1 rfl N5 rfl (KP.cells (n:=2) bH (news:=[_,_]) rfl) rfl (.tmp rfl .nil)) ?_;rw[show(L3 [((.gamma,n):Cd×Nat)]).length=(Cd.enc .gamma n).length by rw[Lx,List.length_append];rfl];refine⟨_,rfl,rfl,⟨aJ.KD h5.1 (by omega),h5.2⟩,cq.Kz aJ (fun k e=> .inl (by omega))⟩
  ·rw[if_pos e1] at gI⊢;rw[Lx,List.append_assoc] at gI;refine An rfl (qV (LH rfl rfl) (MC (qV (LK rfl rfl) (An rfl (qV (KK NY rfl) (qV (KJ U3 rfl rfl ci rfl) (qV (LH rfl rfl) (MC (qV (LK rfl rfl) (py (Lc.qb (e:=[(0,_),(3,_),(4,_),(5,_),(6,_),(7,_),(8,_),(9,_),(37,_)]) ?_)))))))))));refine KS rfl (KF rfl (An rfl (qV (La (news:=[.int .u8 0,KV 0]) Nb rfl Ma rfl ((cq.KD hU et).cells (n:=2) rfl) rfl) (L2 [.tmp 39,.tmp 40] z5v rfl (Ti h5 .unary q trivial (by simp only[Cd.most];omega) _ gI) ?_))));rintro _ w6 ⟨rfl,h6,aS⟩;have jk:=aS.KD ci (by omega);have bI:=aS.KD aH (by omega);have qU:=cq.trans aS;refine An rfl (qV (Ll rfl rfl) (qV (Ll rfl rfl) (KE rfl (KE rfl (py (run_seq (qN rfl (An rfl (qV (LQ rfl rfl) (An rfl (An rfl (qV (LH rfl rfl) (Lq ?_)))))))))))));refine qV (Lk rfl rfl) (An rfl (An rfl (qV (KK NY rfl) (qV (KJ U3 rfl rfl jk rfl) (qV ((by first|exact Lw rfl U3 M3 (by omega)|exact MI rfl U3 M3)) ?_)))));refine qV (LH rfl rfl) (Lq (qV (Lk rfl rfl) (py (Lc.qb (e:=[(0,_),(4,_),(5,_),(6,_),(7,_),(9,_),(56,_)]) ?_))));refine Kx rfl (It (qN rfl (An rfl (qV (Ln rfl M3 U3 (by omega)) (An rfl (qV (Ln rfl M3 U3 (by omega)) (qV (Nc (parts:=[(0,.tmp 62),(1,.tmp 64)]) (cs:=[_,_]) N5 rfl z5h rfl rfl) (KR rfl (Lo (news:=[I (n:Int),I (q:Int)]) N5 rfl rfl rfl rfl bI (by simp)) ?_))))))));rintro w9 ⟨bH,aJ⟩;replace bH:KP w9 b4 [I (n:Int),I (q:Int)] 239:=bH;refine KE rfl (py (L8 Tryz.func167 (.cell Y1 rfl N5 rfl (KP.cells (n:=2) bH (news:=[_,_]) rfl) rfl (.tmp rfl .nil)) ?_));rw[show(L3 [((.gamma,n):Cd×Nat),(.unary,q)]).length=(Cd.enc .gamma n).length+(Cd.enc .unary q).length by rw[Lx,Lx,List.length_append,List.length_append];rfl,←Nat.add_assoc];refine⟨_,rfl,rfl,⟨aJ.KD h6.1 (by omega),h6.2⟩,qU.Kz aJ (fun k e=> .inl (by omega))⟩
structure LJ where
 L6:Nat
 chain:Nat
 interval:Nat
 zeta:Nat
 most:Nat
def LJ.list (p:LJ):MX:=⟨p.L6,p.interval,p.zeta⟩
def LJ.LS (p:LJ):Prop:=p.list.LS∧p.chain≤16∧p.most≤65536
def PO (p:LJ):List Value:=[I (p.L6:Int),I (p.chain:Int),I (p.interval:Int),I (p.zeta:Int),I (p.most:Int)]
abbrev bpV (p:LJ):Value:= .agg (PO p).toArray
theorem NJ (p:LJ)(w:World):Le Tryz.prog 132 [bpV p] w fun u w'=>u=lpV p.list∧Ext w w':=by
 refine KA (e:=[(0,_)]) Tryz.func132 rfl Tryz.ntmps132 rfl rfl (qN rfl (KL rfl rfl (Mz rfl (cs:=PO p) rfl) ?_))
 rintro _ w1 ⟨b1,rfl,bT,ad,ai⟩
 refine KL rfl rfl (MN (cs:=[_,_,_]) OM rfl) ?_
 rintro _ w2 ⟨b2,rfl,bM,af,ak⟩
 have ba:=af.KD ai
 replace ba:KP w2 b1 [I (p.L6:Int),I (p.chain:Int),I (p.interval:Int),I (p.zeta:Int),I (p.most:Int)] 77:=ba
 refine qM rfl (qV (KK UU rfl) (qV (KJ U3 rfl rfl ba rfl) (qV (KK z5s rfl) (qV (KJ U3 rfl rfl ba rfl) (qV (KK z4G rfl) (qV (KJ U3 rfl rfl ba rfl) (qV (Nc (parts:=[(0,.tmp 4),(1,.tmp 6),(2,.tmp 8)]) (cs:=[_,_,_]) OM rfl z9A rfl rfl) (KR rfl (Lo (news:=[I (p.L6:Int),I (p.interval:Int),I (p.zeta:Int)]) OM rfl rfl rfl rfl ak (by simp)) ?_))))))))
 rintro w3 ⟨co,ax⟩
 replace co:KP w3 b2 [I (p.L6:Int),I (p.interval:Int),I (p.zeta:Int)] 245:=co
 refine py (L8 Tryz.func132 (.cell Tj rfl OM rfl (KP.cells (n:=3) co (news:=[_,_,_]) rfl) rfl .nil) ?_)
 have z1:=ad.size
 exact⟨_,rfl,rfl,(ad.trans af).Kz ax (fun k e=>by omega)⟩
theorem Uj (p:LJ)(hp:p.LS)(w:World):Le Tryz.prog 135 [bpV p] w fun u w'=>u=I 0∧Ext w w':=by
 obtain⟨g1,g2,g3⟩:=hp
 refine KA (e:=[(0,_)]) Tryz.func135 rfl Tryz.ntmps135 rfl rfl (qN rfl (KL rfl rfl (Mz rfl (cs:=PO p) rfl) ?_))
 rintro _ w1 ⟨b1,rfl,bT,ad,ai⟩
 have gP:KP w1 b1 [I (p.L6:Int),I (p.chain:Int),I (p.interval:Int),I (p.zeta:Int),I (p.most:Int)] 77:=ai
 refine KE rfl (py (run_seq (qN rfl (qV (KK Tk rfl) (qV (KJ U3 rfl rfl gP rfl) (qV (LW rfl rfl) (Lq (An rfl (qV (KK Tk rfl) (qV (KJ U3 rfl rfl gP rfl) (qV (LH rfl rfl) (Lq (qV (Lk rfl rfl) ?_)))))))))))))
 refine An rfl (qV (KK Oh rfl) (qV (KJ U3 rfl rfl gP rfl) (qV (LW rfl rfl) (Lq (qV (Lk rfl rfl) (An rfl (qV (KK Oh rfl) (qV (KJ U3 rfl rfl gP rfl) (qV (LH rfl rfl) (Lq (qV (Lk rfl rfl) (py (Kx rfl ?_)))))))))))))
 refine It (qN rfl (qV (La Vq rfl ME rfl (KP.cells (n:=5) gP (news:=[_,_,_,_,_]) rfl) rfl) (L2 [.tmp 21] VF rfl (NJ p w1) ?_)))
 rintro _ w2 ⟨rfl,af⟩
 refine L2 [.tmp 22] YE rfl (OI p.list g1 w2) ?_
 rintro _ w3 ⟨rfl,ah⟩
 refine KE rfl (py (KG Tryz.func135 rfl ?_))
 exact⟨_,rfl,rfl,(ad.trans af).trans ah⟩
structure Ns (w:World)(g n cap:Nat)(d:Array Nat):Prop where
 sl:Sl w (.slice (some ⟨g,0,none⟩) n cap) 46 1 n (d.toList.map Lg)
 size:d.size=n
abbrev M4 (x y:Nat):Bool:=decide (x<y)
theorem Sm:Go.Sort.SWO M4:=⟨fun x=>by simp[M4],fun x y z h1 h2=>by simp[M4] at*;omega,fun x y z h1 h2=>by simp[M4] at*;omega⟩
section
variable {w w':World}{g n cap:Nat}{d:Array Nat}{S:Nat→Prop}
theorem Ns.ext (h:Ns w g n cap d)(k:Ext w w'):Ns w' g n cap d:=⟨h.sl.ext k,h.size⟩
theorem Ns.kp (h:Ns w g n cap d)(k:Kp S w w')(hg:¬S g):Ns w' g n cap d:=⟨h.sl.kp k (fun g' e=>by cases e;exact hg),h.size⟩
theorem Ns.get {i:Nat}(h:Ns w g n cap d)(hi:i<n):w.cell? ⟨g,0+i*1,none⟩=some (Lg d[i]!):=by
 have hs:=h.size
 refine LN h.sl.rd ?_
 rw[List.getElem?_map,Array.getElem?_toList,Array.getElem?_eq_getElem (by omega)]
 rw[getElem!_pos d i (by omega)]
 rfl
theorem Ns.UI {j:Nat}(h:Ns w g n cap d)(hj:j<n):j<(d.toList.map Lg).length:=by
 have hs:=h.size
 rw[List.length_map,Array.length_toList];omega
theorem Ns.set {i y:Nat}(h:Ns w g n cap d)(hS:Sl w' (.slice (some ⟨g,0,none⟩) n cap) 46 1 n ((d.toList.map Lg).set (0+i*1) (Lg y))):Ns w' g n cap (d.setIfInBounds i y):=by
 refine⟨?_,by rw[Array.size_setIfInBounds,h.size]⟩
 rw[Array.toList_setIfInBounds,List.map_set]
 rw[show 0+i*1=i by omega] at hS
 exact hS
end
theorem z3p (x:Nat)(w:World):Le Tryz.prog 238 [Lg x] w fun u w'=>u= .bool false∧w'=w:=by
 refine KA (e:=[(0,_)]) Tryz.func238 rfl Tryz.ntmps238 rfl rfl (qN rfl (KE rfl (qM rfl (An rfl (An rfl (qV (LQ rfl rfl) (KE rfl (py (KG Tryz.func238 rfl ?_)))))))))
 exact⟨_,rfl,by simp[resVal],rfl⟩
theorem MY (x y:Nat)(w:World):Le Tryz.prog 229 [Lg x,Lg y] w fun u w'=>u= .bool (M4 x y)∧w'=w:=by
 refine KA (e:=[(0,_),(1,_)]) Tryz.func229 rfl Tryz.ntmps229 rfl rfl (qN rfl (KE rfl (qM rfl (An rfl (L2 [.tmp 5] zbt rfl (z3p x w) ?_)))))
 rintro _ w ⟨rfl,rfl⟩
 refine An rfl (qS (qS (qS (qV (Lk rfl rfl) (An rfl (An rfl (An rfl (qV (LW rfl rfl) (qV (Lk rfl rfl) (KE rfl (py (KG Tryz.func229 rfl ?_))))))))))))
 exact⟨_,rfl,by simp[M4,resVal],rfl⟩
section
variable (a b j i:Nat)(d:Array Nat)
theorem Yo (hj:a<j)(hl:M4 d[j]! d[j-1]! =true):Go.Sort.insInner M4 a j d=Go.Sort.insInner M4 a (j-1) (Go.Sort.swp d j (j-1)):=by
 obtain⟨k,rfl⟩:∃k,j=k+1:=⟨j-1,by omega⟩
 rw[Go.Sort.insInner]
 simp only[Nat.add_sub_cancel] at hl⊢
 rw[if_pos]
 rw[Bool.and_eq_true];exact⟨by simpa using hj,hl⟩
theorem RP (h:j≤a∨M4 d[j]! d[j-1]! =false):Go.Sort.insInner M4 a j d=d:=by
 cases j with
 |zero=>rw[Go.Sort.insInner]
 | succ k =>
   rw[Go.Sort.insInner];simp only[Nat.add_sub_cancel] at h;rw[if_neg];intro hc;rw[Bool.and_eq_true] at hc;rcases h with h| h
   ·have:=of_decide_eq_true hc.1;omega
   ·rw[h] at hc;cases hc.2
theorem Yh (h:i<b):Go.Sort.insOuter M4 a b i d=Go.Sort.insOuter M4 a b (i+1) (Go.Sort.insInner M4 a i d):=by rw[Go.Sort.insOuter,if_pos h]
theorem Wb (h:¬i<b):Go.Sort.insOuter M4 a b i d=d:=by rw[Go.Sort.insOuter,if_neg h]
end
theorem VZ {w:World}{g n cap:Nat}{d:Array Nat}(h:Ns w g n cap d)(a b:Nat)(iS:a≤b)(hb:b≤n)(hn:n≤65536):
  Le Tryz.prog 223 [.slice (some ⟨g,0,none⟩) n cap,I (a:Int),I (b:Int)] w fun u w'=>u= .tuple #[]∧Ns w' g n cap (Go.Sort.insertionSort M4 d a b)∧Kp (fun k=>k=g) w w':=by
 refine KA (e:=[(0,_),(1,_),(2,_)]) Tryz.func223 rfl Tryz.ntmps223 rfl rfl (qN rfl (An rfl (Lz rfl rfl (KE rfl (py (KB (MQ (α:=Nat×Array Nat) ((a+1,d)) (fun y=>[(0,.slice (some ⟨g,0,none⟩) n cap),(1,I (a:Int)),(2,I (b:Int)),(6,I (y.1:Int))]) (fun y w'=>Ns w' g n cap y.2∧Kp (fun k=>k=g) w w'∧Go.Sort.insOuter M4 a b y.1 y.2=Go.Sort.insertionSort M4 d a b∧a<y.1) (fun y=>b-y.1) ?hI ?hround)))))))
 case hI=>exact⟨h,Kp.refl _ _,rfl,Nat.lt_succ_self a⟩
 case hround=>
  rintro⟨i,d4⟩ w4 ⟨dA,av,cj,ym⟩ ih;dsimp only at dA av cj ym
  try dsimp only
  refine run_seq (qN rfl (An rfl (An rfl (qV (LW rfl rfl) (py (KQ rfl (fun h0=>?_) (fun h0=>?_)))))))
  ·rw[Yh _ _ _ _ (by omega)] at cj;refine It (run_seq (KB (qN rfl (An rfl (KE rfl (py (KB (MQ (α:=Nat×Array Nat) ((i,d4)) (fun y=>[(0,.slice (some ⟨g,0,none⟩) n cap),(1,I (a:Int)),(2,I (b:Int)),(6,I (i:Int)),(7,I (y.1:Int))]) (fun y w'=>Ns w' g n cap y.2∧Kp (fun k=>k=g) w w'∧Go.Sort.insInner M4 a y.1 y.2=Go.Sort.insInner M4 a i d4∧y.1≤i∧a≤y.1) (fun y=>y.1) ?hI ?hround))))))))
   case hI=>exact⟨dA,av,rfl,Nat.le_refl _,by dsimp only;omega⟩
   case hround=>
    rintro⟨j,d5⟩ w5 ⟨aO,aj,bJ,Gj,Ad⟩ ih2;dsimp only at aO aj bJ Gj Ad
    try dsimp only
    have hg:=Ext.L4 w5;rcases Nat.lt_or_ge a j with hj|hj
    ·refine run_seq (run_seq (KN (fun w'=>Ext w5 w') (by kernel_rfl) rfl (KH 0 rfl (KM rfl) hg (KH 1 rfl (KM rfl) hg (KH 2 rfl (LH rfl rfl) hg (Pf (KH 3 rfl (KM rfl) hg (KH 4 rfl (KM rfl) hg (KH 5 rfl (KM rfl) hg (KH 6 rfl (Lt L9 KY rfl rfl (by omega)) hg (KH 8 rfl (KM rfl) hg (KH 9 rfl (KM rfl) hg (KH 10 rfl (M8 rfl rfl (by omega)) hg ?_)))))))))))));rw[show(j:Int)-1=((j-1:Nat):Int) by omega];refine qT 7 rfl (fun _ h=>Lb Mg rfl rfl ((aO.ext h).get (i:=j) (by omega))) hg (KH 11 rfl (Lt L9 KY rfl rfl (by omega)) hg (qT 12 rfl (fun _ h=>Lb Mg rfl rfl ((aO.ext h).get (i:=j-1) (by omega))) hg (OJ 13 [.tmp 23,.tmp 28] rfl Qs rfl (MY _ _ _) ?_)));rintro _ w6 ⟨rfl,rfl⟩;refine⟨hg,?_⟩;refine KH 14 rfl (LK rfl rfl) hg (qE ?_);have oa:=aO.ext hg;refine LF rfl (fun h1=>?_) (fun h1=>?_)
     ·refine It (run_seq (KB ?_));have ay:=Ext.L4 w5.drew;refine L5 [15,17] (fun w'=>Ext w5.drew w') (by kernel_rfl) rfl (qL [14,15,16,17] 0 rfl (fun _ h=>KM rfl) ay (qL [14,15,16,17] 1 rfl (fun _ h=>KM rfl) ay (LD (i:=2) rfl (by kernel_rfl) rfl rfl (fun _=>KM rfl) (ay) (LD (i:=3) rfl (by kernel_rfl) rfl rfl (fun _=>KM rfl) (ay) (LD (i:=4) rfl (by kernel_rfl) rfl rfl (fun _=>M8 rfl rfl (by omega)) (ay) (qL [8,9,14,15,16,17] 5 rfl (fun _ h=>KM rfl) ay (qL [7,8,9,14,15,16,17] 6 rfl (fun _ h=>KM rfl) ay (qL [8,9,14,15,16,17] 7 rfl (fun _ h=>M8 rfl rfl (by omega)) ay (qL [12,13,14,15,16,17] 10 rfl (fun _ h=>KM rfl) ay (qL [12,13,14,15,16,17] 11 rfl (fun _ h=>KM rfl) ay (qL [13,14,15,16,17] 12 rfl (fun _ h=>Lt L9 KY rfl rfl (by omega)) ay ?_)))))))))));rw[show(j:Int)-1=((j-1:Nat):Int) by omega];refine qL [9,14,15,16,17] 8 rfl (fun _ h=>Lt L9 KY rfl rfl (by omega)) ay (qL [14,15,16,17] 9 rfl (fun _ h=>Lb Mg rfl rfl ((oa.ext h).get (i:=j-1) (by omega))) ay (qL [14,15,16,17] 13 rfl (fun _ h=>Lb Mg rfl rfl ((oa.ext h).get (i:=j) (by omega))) ay (qL [15,16,17] 14 rfl (fun _ h=>Lt L9 KY rfl rfl (by omega)) ay (Lu [15] (by kernel_rfl) (by kernel_rfl) (qO 15 (Lm (i:=15) rfl rfl (MM KY rfl rfl rfl (oa.ext ay).sl ((oa.ext ay).UI (by omega))) ?_))))));rintro w7a ⟨fu,fw⟩;refine⟨trivial,?_⟩;have ct:=(oa.ext ay).set fu;refine KH 16 rfl (Lt L9 KY rfl rfl (by omega)) trivial (qO 17 (Lm (i:=17) rfl rfl (MM KY rfl rfl rfl ct.sl (ct.UI (by omega))) ?_));rintro w7 ⟨gQ,jl⟩;refine⟨trivial,?_⟩;have jm:=ct.set gQ;have fx:Kp (fun k=>k=g) w5.drew w7:=ay.kp.trans (fw.trans jl);refine qE (KC (KF rfl (An rfl (qV (M8 rfl rfl (by omega)) (KE rfl (py ?_))))));rw[show(j:Int)-1=((j-1:Nat):Int) by omega];refine(ih2 (j-1,Go.Sort.swp d5 j (j-1)) _ ⟨jm,(aj.trans hg.kp).trans fx,?_,by dsimp only;omega,by dsimp only;omega⟩ (by dsimp only;omega)).qb;dsimp only;rw[←bJ,Yo a j d5 hj h1]
     ·refine KO rfl (KC (KF rfl (An rfl (Lz rfl rfl (KE rfl (py ?_))))));rw[RP a j d5 (.inr (by simpa using h1))] at bJ;refine(ih (i+1,d5) _ ⟨oa,aj.trans hg.kp,?_,by dsimp only;omega⟩ (by dsimp only;omega)).qb;dsimp only;rw[bJ];exact cj
    ·refine run_seq (run_seq (KN (fun w'=>Ext w5 w') (by kernel_rfl) rfl (KH 0 rfl (KM rfl) hg (KH 1 rfl (KM rfl) hg (KH 2 rfl (LH rfl rfl) hg (Pw (KH 3 rfl (KM rfl) hg (qJ 4 rfl (hg) (qJ 5 rfl (hg) (qJ 6 rfl (hg) (qJ 7 rfl (hg) (qJ 8 rfl (hg) (qJ 9 rfl (hg) ?_)))))))))))));refine qJ 10 rfl (hg) (qJ 11 rfl (hg) (qJ 12 rfl (hg) (qJ 13 rfl (hg) (KH 14 rfl (Lk rfl rfl) hg (qE (Kx rfl (KO rfl (KC (KF rfl (An rfl (Lz rfl rfl (KE rfl (py ?_)))))))))))));rw[RP a j d5 (.inl hj)] at bJ;refine(ih (i+1,d5) _ ⟨aO.ext hg,aj.trans hg.kp,?_,by dsimp only;omega⟩ (by dsimp only;omega)).qb;dsimp only;rw[bJ];exact cj
  ·rw[Wb _ _ _ _ (by omega)] at cj;refine KO rfl (LZ Tryz.func223 rfl ?_);exact⟨_,rfl,rfl,cj▸dA,av⟩
section
variable (hi first root:Nat)(d:Array Nat)
def Tt:Nat:=if 2*root+1+1<hi&&M4 d[first+(2*root+1)]! d[first+(2*root+1)+1]! then 2*root+2 else 2*root+1
theorem z3i (h:hi≤2*root+1):Go.Sort.siftDown M4 hi first root d=d:=by rw[Go.Sort.siftDown,dif_pos h]
theorem z6u (h:2*root+1<hi):Go.Sort.siftDown M4 hi first root d=if M4 d[first+root]! d[first+Tt hi first root d]! then Go.Sort.siftDown M4 hi first (Tt hi first root d) (Go.Sort.swp d (first+root) (first+Tt hi first root d)) else d:=by
 rw[Go.Sort.siftDown,dif_neg (by omega)]
 unfold Tt
 by_cases h1:(decide (2*root+1+1<hi)&&M4 d[first+(2*root+1)]! d[first+(2*root+1)+1]!)=true
 ·rw[if_pos h1,if_pos h1];rw[Bool.and_eq_true] at h1;have h2:2*root+2<hi:=of_decide_eq_true h1.1;rw[dif_pos h2];cases M4 d[first+root]! d[first+(2*root+2)]!<;>rfl
 ·rw[if_neg h1,if_neg h1];cases M4 d[first+root]! d[first+(2*root+1)]!<;>rfl
theorem z6L (h:2*root+1<hi):root<Tt hi first root d∧Tt hi first root d<hi:=by
 unfold Tt
 split
 ·rename_i h1
  rw[Bool.and_eq_true] at h1;have h2:2*root+2<hi:=of_decide_eq_true h1.1;omega
 ·omega
end
theorem YI {w:World}{g n cap:Nat}{d:Array Nat}(h:Ns w g n cap d)(lo hi first:Nat)(hf:first+hi≤n)(te:lo≤65536)(hn:n≤65536):
  Le Tryz.prog 233 [.slice (some ⟨g,0,none⟩) n cap,I (lo:Int),I (hi:Int),I (first:Int)] w fun u w'=>u= .tuple #[]∧Ns w' g n cap (Go.Sort.siftDown M4 hi first lo d)∧Kp (fun k=>k=g) w w':=by
 refine KA (e:=[(0,_),(1,_),(2,_),(3,_)]) Tryz.func233 rfl Tryz.ntmps233 rfl rfl (qN rfl (An rfl (KE rfl (py (KB (MQ (α:=Nat×Array Nat) ((lo,d)) (fun y=>[(0,.slice (some ⟨g,0,none⟩) n cap),(2,I (hi:Int)),(3,I (first:Int)),(8,I (y.1:Int))]) (fun y w'=>Ns w' g n cap y.2∧Kp (fun k=>k=g) w w'∧Go.Sort.siftDown M4 hi first y.1 y.2=Go.Sort.siftDown M4 hi first lo d∧y.1≤65536) (fun y=>hi-y.1) ?hI ?hround))))))
 case hI=>exact⟨h,Kp.refl _ _,rfl,te⟩
 case hround=>
  rintro⟨root,d4⟩ w4 ⟨dA,av,cj,bO⟩ ih;dsimp only at dA av cj bO
  try dsimp only
  refine KB (qN rfl (An rfl (qV (SD rfl rfl (by omega)) (Lz rfl rfl (KE rfl (py (run_seq (qN rfl ?_))))))));rw[show 2*(root:Int)+1=((2*root+1:Nat):Int) by omega];refine An rfl (An rfl (qV (OL rfl rfl) (py (KQ rfl (fun h0=>?_) (fun h0=>?_)))))
  ·rw[z3i _ _ _ _ (by omega)] at cj;refine KO rfl (LZ Tryz.func233 rfl ?_);exact⟨_,rfl,rfl,cj▸dA,av⟩
  ·have hc:=z6L hi first root d4 (by omega);rw[z6u _ _ _ _ (by omega)] at cj;have hg:=Ext.L4 w4;have qW:=dA.ext hg;refine It (run_seq (run_seq ?_))
   generalize ob:(decide (2*root+1+1<hi)&&M4 d4[first+(2*root+1)]! d4[first+(2*root+1)+1]!)=sel
   refine Lp (fun e' w'=>e'=[(0,.slice (some ⟨g,0,none⟩) n cap),(2,I (hi:Int)),(3,I (first:Int)),(8,I (root:Int)),(9,I ((2*root+1:Nat):Int)),(36,.bool sel)]∧w'=w4.drew) ?ep (fun ep=>?fh)
   case ep=>
    rintro e' w5 ⟨rfl,rfl⟩;refine Lp (fun e' w'=>e'=[(0,.slice (some ⟨g,0,none⟩) n cap),(2,I (hi:Int)),(3,I (first:Int)),(8,I (root:Int)),(9,I (Tt hi first root d4:Int))]∧w'=w4.drew) ?aq (fun aq=>?dD)
    case aq=>
     rintro e' w5 ⟨rfl,rfl⟩
     generalize Tt hi first root d4=c at hc cj
     have dE:=Ext.L4 w4.drew;have kA:=qW.ext dE;refine run_seq (run_seq (KN (fun w'=>Ext w4.drew w') (by kernel_rfl) rfl (KH 0 rfl (KM rfl) dE (KH 1 rfl (KM rfl) dE (KH 2 rfl (KM rfl) dE (KH 3 rfl (PW rfl rfl (by omega)) dE (KH 4 rfl (Lt L9 KY rfl rfl (by omega)) dE (KH 6 rfl (KM rfl) dE (KH 7 rfl (KM rfl) dE (KH 8 rfl (KM rfl) dE (KH 9 rfl (PW rfl rfl (by omega)) dE (KH 10 rfl (Lt L9 KY rfl rfl (by omega)) dE (qT 5 rfl (fun _ h=>Lb Mg rfl rfl ((qW.ext h).get (i:=first+root) (by omega))) dE ?_)))))))))))));refine qT 11 rfl (fun _ h=>Lb Mg rfl rfl ((qW.ext h).get (i:=first+c) (by omega))) dE (OJ 12 [.tmp 44,.tmp 50] rfl Qs rfl (MY _ _ _) ?_);rintro _ w6 ⟨rfl,rfl⟩;refine⟨dE,?_⟩;refine KH 13 rfl ((by first|exact LP rfl|exact Nq rfl)) dE ?_;refine qE (LF rfl (fun h1=>?_) (fun h1=>?_))
     ·rw[if_neg (by simpa using h1)] at cj;refine KG Tryz.func233 rfl ?_;exact⟨_,rfl,rfl,cj▸kA,av.trans (hg.trans dE).kp⟩
     ·rw[if_pos (by simpa using h1)] at cj;refine It (run_seq ?_);have ay:=Ext.L4 w4.drew.drew;refine L5 [21,23] (fun w'=>Ext w4.drew.drew w') (by kernel_rfl) rfl (qL [20,21,22,23] 0 rfl (fun _ h=>KM rfl) ay (qL [3,20,21,22,23] 1 rfl (fun _ h=>KM rfl) ay (qL [3,20,21,22,23] 2 rfl (fun _ h=>KM rfl) ay (qL [20,21,22,23] 3 rfl (fun _ h=>PW rfl rfl (by omega)) ay (LD (i:=4) rfl (by kernel_rfl) rfl rfl (fun _=>KM rfl) (ay) (LD (i:=5) rfl (by kernel_rfl) rfl rfl (fun _=>KM rfl) (ay) (LD (i:=6) rfl (by kernel_rfl) rfl rfl (fun _=>KM rfl) (ay) (LD (i:=7) rfl (by kernel_rfl) rfl rfl (fun _=>PW rfl rfl (by omega)) (ay) (qL [12,13,20,21,22,23] 8 rfl (fun _ h=>KM rfl) ay (qL [11,12,13,20,21,22,23] 9 rfl (fun _ h=>KM rfl) ay (qL [11,12,13,20,21,22,23] 10 rfl (fun _ h=>KM rfl) ay (qL [12,13,20,21,22,23] 11 rfl (fun _ h=>PW rfl rfl (by omega)) ay (qL [13,20,21,22,23] 12 rfl (fun _ h=>Lt L9 KY rfl rfl (by omega)) ay ?_)))))))))))));refine qL [18,19,20,21,22,23] 14 rfl (fun _ h=>KM rfl) ay (qL [17,18,19,20,21,22,23] 15 rfl (fun _ h=>KM rfl) ay (qL [17,18,19,20,21,22,23] 16 rfl (fun _ h=>KM rfl) ay (qL [18,19,20,21,22,23] 17 rfl (fun _ h=>PW rfl rfl (by omega)) ay (qL [19,20,21,22,23] 18 rfl (fun _ h=>Lt L9 KY rfl rfl (by omega)) ay (qL [20,21,22,23] 13 rfl (fun _ h=>Lb Mg rfl rfl ((kA.ext h).get (i:=first+c) (by omega))) ay (qL [20,21,22,23] 19 rfl (fun _ h=>Lb Mg rfl rfl ((kA.ext h).get (i:=first+root) (by omega))) ay (qL [21,22,23] 20 rfl (fun _ h=>Lt L9 KY rfl rfl (by omega)) ay (Lu [21] (by kernel_rfl) (by kernel_rfl) (qO 21 (Lm (i:=21) rfl rfl (MM KY rfl rfl rfl (kA.ext ay).sl ((kA.ext ay).UI (by omega))) ?_))))))))));rintro w7a ⟨fu,fw⟩;refine⟨trivial,?_⟩;have ct:=(kA.ext ay).set fu;refine KH 22 rfl (Lt L9 KY rfl rfl (by omega)) trivial (qO 23 (Lm (i:=23) rfl rfl (MM KY rfl rfl rfl ct.sl (ct.UI (by omega))) ?_));rintro w7 ⟨gQ,jl⟩;refine⟨trivial,?_⟩;have jm:=ct.set gQ;have fx:Kp (fun k=>k=g) w4.drew.drew w7:=ay.kp.trans (fw.trans jl);refine qE (KF rfl (An rfl (KE rfl (py (KC ((ih (c,Go.Sort.swp d4 (first+root) (first+c)) _ ⟨jm,(av.trans (hg.trans dE).kp).trans fx,cj,by dsimp only;omega⟩ (by dsimp only;omega)).qb))))))
    case dD=>
     refine LF rfl (fun h1=>?_) (fun h1=>?_)
     ·refine KF rfl (An rfl (Lz rfl rfl (KE rfl (py ?_))));rw[show((2*root+1:Nat):Int)+1=(Tt hi first root d4:Int) by unfold Tt;rw[ob,if_pos h1];omega];exact(aq _ _ ⟨rfl,rfl⟩).qb
     ·refine It ?_;rw[show((2*root+1:Nat):Int)=(Tt hi first root d4:Int) by unfold Tt;rw[ob,if_neg (by rw[h1];decide)]];exact(aq _ _ ⟨rfl,rfl⟩).qb
   case fh=>
    rcases Nat.lt_or_ge (2*root+1+1) hi with hj|hj
    ·refine KN (fun w'=>Ext w4 w') (by kernel_rfl) rfl (KH 0 rfl (KM rfl) hg (KH 1 rfl (PW rfl rfl (by omega)) hg (KH 2 rfl (KM rfl) hg (KH 3 rfl (LW rfl rfl) hg (Pf (KH 4 rfl (KM rfl) hg (KH 5 rfl (KM rfl) hg (KH 6 rfl (KM rfl) hg (KH 7 rfl (KM rfl) hg (KH 8 rfl (PW rfl rfl (by omega)) hg (KH 9 rfl (Lt L9 KY rfl rfl (by omega)) hg (KH 11 rfl (KM rfl) hg (KH 12 rfl (KM rfl) hg ?_)))))))))))));refine KH 13 rfl (KM rfl) hg (KH 14 rfl (PW rfl rfl (by omega)) hg (KH 15 rfl (PW rfl rfl (by omega)) hg (KH 16 rfl (Lt L9 KY rfl rfl (by omega)) hg (qT 10 rfl (fun _ hS=>Lb Mg rfl rfl ((dA.ext hS).get (i:=first+(2*root+1)) (by omega))) hg (qT 17 rfl (fun _ hS=>Lb Mg rfl rfl ((dA.ext hS).get (i:=first+(2*root+1)+1) (by omega))) hg (OJ 18 [.tmp 27,.tmp 34] rfl Qs rfl (MY _ _ _) ?_))))));rintro _ w6 ⟨rfl,rfl⟩;refine⟨hg,?_⟩;refine KH 19 rfl (LK rfl rfl) hg (qE ?_);rw[show M4 d4[first+(2*root+1)]! d4[first+(2*root+1)+1]! =sel by rw[←ob,decide_eq_true hj,Bool.true_and]];exact(ep _ _ ⟨rfl,rfl⟩).qb
    ·refine KN (fun w'=>Ext w4 w') (by kernel_rfl) rfl (KH 0 rfl (KM rfl) hg (KH 1 rfl (PW rfl rfl (by omega)) hg (KH 2 rfl (KM rfl) hg (KH 3 rfl (LW rfl rfl) hg (Pw (KH 4 rfl (KM rfl) hg (qJ 5 rfl (hg) (qJ 6 rfl (hg) (qJ 7 rfl (hg) (qJ 8 rfl (hg) (qJ 9 rfl (hg) (qJ 10 rfl (hg) (qJ 11 rfl (hg) ?_)))))))))))));refine qJ 12 rfl (hg) (qJ 13 rfl (hg) (qJ 14 rfl (hg) (qJ 15 rfl (hg) (qJ 16 rfl (hg) (qJ 17 rfl (hg) (qJ 18 rfl (hg) (KH 19 rfl (Lk rfl rfl) hg (qE ?_))))))));have mc:sel=false:=by rw[←ob,decide_eq_false (by omega),Bool.false_and]
     subst mc;exact(ep _ _ ⟨rfl,rfl⟩).qb
theorem z4p {w:World}{g n cap:Nat}{d:Array Nat}(h:Ns w g n cap d)(a b:Nat)(iS:a<b)(hb:b≤n)(hn:n≤65536):
  Le Tryz.prog 224 [.slice (some ⟨g,0,none⟩) n cap,I (a:Int),I (b:Int)] w fun u w'=>u= .tuple #[]∧Ns w' g n cap (Go.Sort.heapSort M4 d a b)∧Kp (fun k=>k=g) w w':=by
 refine KA (e:=[(0,_),(1,_),(2,_)]) Tryz.func224 rfl Tryz.ntmps224 rfl rfl (qN rfl (An rfl (KE rfl (qM rfl (KE rfl (qM rfl (An rfl (An rfl (qV (M8 rfl rfl (by omega)) (KE rfl (py (run_seq (qN rfl ?_)))))))))))))
 rw[show(b:Int)-(a:Int)=((b-a:Nat):Int) by omega]
 refine An rfl (qV (M8 rfl rfl (by omega)) ?_)
 rw[show((b-a:Nat):Int)-1=((b-a-1:Nat):Int) by omega]
 refine qV (Ra rfl rfl (by omega)) (KE rfl (py (KB ?_)))
 rw[show((b-a-1:Nat):Int) / 2=(((b-a-1) / 2+1:Nat):Int)-1 by omega]
 have ma:Go.Sort.heapSort M4 d a b=Go.Sort.heapPop M4 a (b-a) (Go.Sort.heapBuild M4 (b-a) a ((b-a-1) / 2+1) d):=rfl
 rw[ma]
 refine MQ (α:=Nat×Array Nat) (((b-a-1) / 2+1,d)) (fun y=>[(0,.slice (some ⟨g,0,none⟩) n cap),(6,I (a:Int)),(7,I 0),(8,I ((b-a:Nat):Int)),(9,I ((y.1:Int)-1))]) (fun y w'=>Ns w' g n cap y.2∧Kp (fun k=>k=g) w w'∧Go.Sort.heapBuild M4 (b-a) a y.1 y.2=Go.Sort.heapBuild M4 (b-a) a ((b-a-1) / 2+1) d∧y.1≤(b-a-1) / 2+1) (fun y=>y.1) ?hI ?hround
 case hI=>exact⟨h,Kp.refl _ _,rfl,Nat.le_refl _⟩
 case hround=>
  rintro⟨k,d4⟩ w4 ⟨dA,av,cj,bO⟩ ih;dsimp only at dA av cj bO
  try dsimp only
  refine run_seq (qN rfl (An rfl (qV (OL rfl rfl) (py (KQ rfl (fun h0=>?_) (fun h0=>?_))))))
  ·obtain⟨k,rfl⟩:∃k',k=k'+1:=⟨k-1,by omega⟩;rw[show((k+1:Nat):Int)-1=(k:Int) by omega];refine It (run_seq (KB (KF rfl (An rfl (An rfl (An rfl (An rfl (L2 [.tmp 22,.tmp 23,.tmp 24,.tmp 25] z7c rfl (YI dA k (b-a) a (by omega) (by omega) hn) ?_))))))));rintro _ w5 ⟨rfl,aO,aj⟩;refine py (KC (KF rfl (An rfl (qV (M8 rfl rfl (by omega)) (KE rfl (py ?_))))));exact(ih (k,Go.Sort.siftDown M4 (b-a) a k d4) _ ⟨aO,av.trans aj,cj,by dsimp only;omega⟩ (by dsimp only;omega)).qb
  ·have iT:k=0:=by omega
   subst iT;rw[←cj];refine KO rfl (qN rfl (An rfl (qV (M8 rfl rfl (by omega)) (KE rfl (py (KB (MQ (α:=Nat×Array Nat) ((b-a,d4)) (fun y=>[(0,.slice (some ⟨g,0,none⟩) n cap),(6,I (a:Int)),(7,I 0),(10,I ((y.1:Int)-1))]) (fun y w'=>Ns w' g n cap y.2∧Kp (fun k=>k=g) w w'∧Go.Sort.heapPop M4 a y.1 y.2=Go.Sort.heapPop M4 a (b-a) (Go.Sort.heapBuild M4 (b-a) a 0 d4)∧y.1≤b-a) (fun y=>y.1) ?hI ?hround)))))))
   case hI=>exact⟨dA,av,rfl,Nat.le_refl _⟩
   case hround=>
    rintro⟨k,d5⟩ w5 ⟨aO,aj,bJ,bY⟩ ih2;dsimp only at aO aj bJ bY
    try dsimp only
    refine run_seq (qN rfl (An rfl (qV (OL rfl rfl) (py (KQ rfl (fun h1=>?_) (fun h1=>?_))))))
    ·obtain⟨k,rfl⟩:∃k',k=k'+1:=⟨k-1,by omega⟩;rw[show((k+1:Nat):Int)-1=(k:Int) by omega];refine It (run_seq (KB (run_seq ?_)));have ay:=Ext.L4 w5;refine L5 [17,19] (fun w'=>Ext w5 w') (by kernel_rfl) rfl (qL [16,17,18,19] 0 rfl (fun _ h=>KM rfl) ay (qL [16,17,18,19] 1 rfl (fun _ h=>KM rfl) ay (LD (i:=2) rfl (by kernel_rfl) rfl rfl (fun _=>KM rfl) (ay) (LD (i:=3) rfl (by kernel_rfl) rfl rfl (fun _=>KM rfl) (ay) (LD (i:=4) rfl (by kernel_rfl) rfl rfl (fun _=>KM rfl) (ay) (LD (i:=5) rfl (by kernel_rfl) rfl rfl (fun _=>PW rfl rfl (by omega)) (ay) (qL [10,11,16,17,18,19] 6 rfl (fun _ h=>KM rfl) ay (qL [9,10,11,16,17,18,19] 7 rfl (fun _ h=>KM rfl) ay (qL [9,10,11,16,17,18,19] 8 rfl (fun _ h=>KM rfl) ay (qL [10,11,16,17,18,19] 9 rfl (fun _ h=>PW rfl rfl (by omega)) ay (qL [11,16,17,18,19] 10 rfl (fun _ h=>Lt L9 KY rfl rfl (by omega)) ay (qL [14,15,16,17,18,19] 12 rfl (fun _ h=>KM rfl) ay (qL [14,15,16,17,18,19] 13 rfl (fun _ h=>KM rfl) ay ?_)))))))))))));refine qL [15,16,17,18,19] 14 rfl (fun _ h=>Lt L9 KY rfl rfl (by omega)) ay (qL [16,17,18,19] 11 rfl (fun _ h=>Lb Mg rfl rfl ((aO.ext h).get (i:=a+k) (by omega))) ay (qL [16,17,18,19] 15 rfl (fun _ h=>Lb Mg rfl rfl ((aO.ext h).get (i:=a) (by omega))) ay (qL [17,18,19] 16 rfl (fun _ h=>Lt L9 KY rfl rfl (by omega)) ay (Lu [17] (by kernel_rfl) (by kernel_rfl) (qO 17 (Lm (i:=17) rfl rfl (MM KY rfl rfl rfl (aO.ext ay).sl ((aO.ext ay).UI (by omega))) ?_))))));rintro w7a ⟨fu,fw⟩;refine⟨trivial,?_⟩;have ct:=(aO.ext ay).set fu;refine KH 18 rfl (Lt L9 KY rfl rfl (by omega)) trivial (qO 19 (Lm (i:=19) rfl rfl (MM KY rfl rfl rfl ct.sl (ct.UI (by omega))) ?_));rintro w7 ⟨gQ,jl⟩;refine⟨trivial,?_⟩;have jm:=ct.set gQ;have fx:Kp (fun k=>k=g) w5 w7:=ay.kp.trans (fw.trans jl);refine qE (KF rfl (An rfl (An rfl (An rfl (An rfl (L2 [.tmp 51,.tmp 52,.tmp 53,.tmp 54] z7c rfl (YI jm 0 k a (by omega) (by omega) hn) ?_))))));rintro _ w8 ⟨rfl,Gk,bj⟩;refine py (KC (KF rfl (An rfl (qV (M8 rfl rfl (by omega)) (KE rfl (py ?_))))));exact(ih2 (k,Go.Sort.siftDown M4 k a 0 (Go.Sort.swp d5 a (a+k))) _ ⟨Gk,(aj.trans fx).trans bj,bJ,by dsimp only;omega⟩ (by dsimp only;omega)).qb
    ·have iT:k=0:=by omega
     subst iT;rw[←bJ];refine KO rfl (LZ Tryz.func224 rfl ?_);exact⟨_,rfl,rfl,aO,aj⟩
theorem Yq {w:World}{g n cap:Nat}{d:Array Nat}(h:Ns w g n cap d)(a b:Nat)(iS:a<b)(hb:b≤n)(hn:n≤65536):
  Le Tryz.prog 227 [.slice (some ⟨g,0,none⟩) n cap,I (a:Int),I (b:Int)] w fun u w'=>u= .tuple #[]∧Ns w' g n cap (Go.Sort.reverseRange d a b)∧Kp (fun k=>k=g) w w':=by
 refine KA (e:=[(0,_),(1,_),(2,_)]) Tryz.func227 rfl Tryz.ntmps227 rfl rfl (qN rfl (An rfl (KE rfl (qM rfl (An rfl (qV (M8 rfl rfl (by omega)) (KE rfl (py (KB ?_)))))))))
 rw[show(b:Int)-1=((b-1:Nat):Int) by omega]
 refine MQ (α:=Nat×Nat×Array Nat) ((a,b-1,d)) (fun y=>[(0,.slice (some ⟨g,0,none⟩) n cap),(6,I (y.1:Int)),(7,I (y.2.1:Int))]) (fun y w'=>Ns w' g n cap y.2.2∧Kp (fun k=>k=g) w w'∧Go.Sort.reverseLoop y.1 y.2.1 y.2.2=Go.Sort.reverseRange d a b∧y.2.1<n) (fun y=>y.2.1-y.1) ?hI ?hround
 case hI=>exact⟨h,Kp.refl _ _,rfl,by dsimp only;omega⟩
 case hround=>
  rintro⟨i,j,d4⟩ w4 ⟨dA,av,cj,bO⟩ ih;dsimp only at dA av cj bO
  try dsimp only
  refine run_seq (qN rfl (An rfl (An rfl (qV (LW rfl rfl) (py (KQ rfl (fun h0=>?_) (fun h0=>?_)))))))
  ·rw[Go.Sort.reverseLoop,if_pos (by omega)] at cj;refine It (KB (run_seq ?_));have ay:=Ext.L4 w4;refine L5 [13,15] (fun w'=>Ext w4 w') (by kernel_rfl) rfl (qL [12,13,14,15] 0 rfl (fun _ h=>KM rfl) ay (qL [12,13,14,15] 1 rfl (fun _ h=>KM rfl) ay (LD (i:=2) rfl (by kernel_rfl) rfl rfl (fun _=>KM rfl) (ay) (LD (i:=3) rfl (by kernel_rfl) rfl rfl (fun _=>KM rfl) (ay) (qL [6,7,12,13,14,15] 4 rfl (fun _ h=>KM rfl) ay (qL [6,7,12,13,14,15] 5 rfl (fun _ h=>KM rfl) ay (qL [7,12,13,14,15] 6 rfl (fun _ h=>Lt L9 KY rfl rfl (by omega)) ay (qL [10,11,12,13,14,15] 8 rfl (fun _ h=>KM rfl) ay (qL [10,11,12,13,14,15] 9 rfl (fun _ h=>KM rfl) ay (qL [11,12,13,14,15] 10 rfl (fun _ h=>Lt L9 KY rfl rfl (by omega)) ay (qL [12,13,14,15] 7 rfl (fun _ h=>Lb Mg rfl rfl ((dA.ext h).get (i:=j) (by omega))) ay (qL [12,13,14,15] 11 rfl (fun _ h=>Lb Mg rfl rfl ((dA.ext h).get (i:=i) (by omega))) ay (qL [13,14,15] 12 rfl (fun _ h=>Lt L9 KY rfl rfl (by omega)) ay ?_)))))))))))));refine Lu [13] (by kernel_rfl) (by kernel_rfl) (qO 13 (Lm (i:=13) rfl rfl (MM KY rfl rfl rfl (dA.ext ay).sl ((dA.ext ay).UI (by omega))) ?_));rintro w7a ⟨fu,fw⟩;refine⟨trivial,?_⟩;have ct:=(dA.ext ay).set fu;refine KH 14 rfl (Lt L9 KY rfl rfl (by omega)) trivial (qO 15 (Lm (i:=15) rfl rfl (MM KY rfl rfl rfl ct.sl (ct.UI (by omega))) ?_));rintro w7 ⟨gQ,jl⟩;refine⟨trivial,?_⟩;have jm:=ct.set gQ;have fx:Kp (fun k=>k=g) w4 w7:=ay.kp.trans (fw.trans jl);refine qE (qN rfl (An rfl (Lz rfl rfl (KE rfl (py (KF rfl (An rfl (qV (M8 rfl rfl (by omega)) (KE rfl (py (KC ?_)))))))))));rw[show(j:Int)-1=((j-1:Nat):Int) by omega];exact(ih (i+1,j-1,Go.Sort.swp d4 i j) _ ⟨jm,av.trans fx,cj,by dsimp only;omega⟩ (by dsimp only;omega)).qb
  ·rw[Go.Sort.reverseLoop,if_neg (by omega)] at cj;refine KO rfl (LZ Tryz.func227 rfl ?_);exact⟨_,rfl,rfl,cj▸dA,av⟩
section
variable (p:Nat→Bool)(d:Array Nat)(i j:Nat)
theorem TH (h:i≤j)(hp:p d[i]! =true):Go.Sort.scanUp p d j i=Go.Sort.scanUp p d j (i+1):=by
 conv=>lhs;rw[Go.Sort.scanUp]
 rw[if_pos]
 rw[Bool.and_eq_true];exact⟨by simpa using h,hp⟩
theorem NR (h:j<i∨p d[i]! =false):Go.Sort.scanUp p d j i=i:=by
 rw[Go.Sort.scanUp,if_neg]
 intro hc
 rw[Bool.and_eq_true] at hc
 rcases h with h| h
 ·have:=of_decide_eq_true hc.1;omega
 ·rw[h] at hc;cases hc.2
theorem R6 (h:i≤j)(hp:p d[j]! =true)(hj:1≤j):Go.Sort.scanDown p d i j=Go.Sort.scanDown p d i (j-1):=by
 obtain⟨k,rfl⟩:∃k,j=k+1:=⟨j-1,by omega⟩
 rw[Go.Sort.scanDown,if_pos]
 ·rfl
 ·rw[Bool.and_eq_true];exact⟨by simpa using h,hp⟩
theorem N0 (h:j<i∨p d[j]! =false):Go.Sort.scanDown p d i j=j:=by
 cases j with
 |zero=>rw[Go.Sort.scanDown]
 | succ k =>
   rw[Go.Sort.scanDown,if_neg];intro hc;rw[Bool.and_eq_true] at hc;rcases h with h| h
   ·have:=of_decide_eq_true hc.1;omega
   ·rw[h] at hc;cases hc.2
end
theorem Rn (p:Nat→Bool)(d:Array Nat)(j:Nat):∀i:Nat,Go.Sort.scanUp p d j i≤max i (j+1):=fun i=>by
 rw[Go.Sort.scanUp]
 split
 ·rename_i h
  rw[Bool.and_eq_true] at h;have h1:=of_decide_eq_true h.1;have:=Rn p d j (i+1);omega
 ·omega
 termination_by i=>j+1-i
theorem z4D {w : World}{g n cap : Nat}{d : Array Nat}(h : Ns w g n cap d)(a b pv : Nat)(Gl : a ≤ pv)(tj : pv < b)(hb : b ≤ n)(hn : n ≤ 65536) :
  Le Tryz.prog 231 [.slice (some ⟨g,0,none⟩) n cap,I (a:Int),I (b:Int),I (pv:Int)] w fun u w'=>u= .tuple #[I ((Go.Sort.partition M4 d a b pv).1:Int),.bool (Go.Sort.partition M4 d a b pv).2.1]∧Ns w' g n cap (Go.Sort.partition M4 d a b pv).2.2∧Kp (fun k=>k=g) w w':=by
 refine KA (e:=[(0,_),(1,_),(2,_),(3,_)]) Tryz.func231 rfl Tryz.ntmps231 rfl rfl (qN rfl (KE rfl (KE rfl (py (run_seq ?_)))))
 have ay:=Ext.L4 w
 refine L5 [13,15] (fun w'=>Ext w w') (by kernel_rfl) rfl (qL [12,13,14,15] 0 rfl (fun _ h=>KM rfl) ay (qL [12,13,14,15] 1 rfl (fun _ h=>KM rfl) ay (LD (i:=2) rfl (by kernel_rfl) rfl rfl (fun _=>KM rfl) (ay) (LD (i:=3) rfl (by kernel_rfl) rfl rfl (fun _=>KM rfl) (ay) (qL [6,7,12,13,14,15] 4 rfl (fun _ h=>KM rfl) ay (qL [6,7,12,13,14,15] 5 rfl (fun _ h=>KM rfl) ay (qL [7,12,13,14,15] 6 rfl (fun _ h=>Lt L9 KY rfl rfl (by omega)) ay (qL [10,11,12,13,14,15] 8 rfl (fun _ h=>KM rfl) ay (qL [10,11,12,13,14,15] 9 rfl (fun _ h=>KM rfl) ay (qL [11,12,13,14,15] 10 rfl (fun _ h=>Lt L9 KY rfl rfl (by omega)) ay (qL [12,13,14,15] 7 rfl (fun _ hS=>Lb Mg rfl rfl ((h.ext hS).get (i:=pv) (by omega))) ay (qL [12,13,14,15] 11 rfl (fun _ hS=>Lb Mg rfl rfl ((h.ext hS).get (i:=a) (by omega))) ay (qL [13,14,15] 12 rfl (fun _ h=>Lt L9 KY rfl rfl (by omega)) ay ?_)))))))))))))
 refine Lu [13] (by kernel_rfl) (by kernel_rfl) (qO 13 (Lm (i:=13) rfl rfl (MM KY rfl rfl rfl (h.ext ay).sl ((h.ext ay).UI (by omega))) ?_))
 rintro w1a ⟨md,me⟩
 refine⟨trivial,?_⟩
 have fA:=(h.ext ay).set md
 refine KH 14 rfl (Lt L9 KY rfl rfl (by omega)) trivial (qO 15 (Lm (i:=15) rfl rfl (MM KY rfl rfl rfl fA.sl (fA.UI (by omega))) ?_))
 rintro w1 ⟨qX,qY⟩
 refine⟨trivial,?_⟩
 have gR:=fA.set qX
 have jU:Kp (fun k=>k=g) w w1:=ay.kp.trans (me.trans qY)
 refine qE (qN rfl (An rfl (Lz rfl rfl (An rfl (qV (M8 rfl rfl (by omega)) (KE rfl (KE rfl (py (Lc.qb (e:=[(0,_),(1,_),(8,_),(9,_),(10,_),(11,_)]) ?_)))))))))
 refine run_seq (KB ?_)
 unfold Go.Sort.partition
 dsimp only
 replace gR:Ns w1 g n cap (Go.Sort.swp d a pv):=gR
 generalize Go.Sort.swp d a pv=D at gR
 rw[show(a:Int)+1=((a+1:Nat):Int) by omega,show(b:Int)-1=((b-1:Nat):Int) by omega]
 refine Nz (fun e' w'=>e'=[(0,.slice (some ⟨g,0,none⟩) n cap),(1,I (a:Int)),(10,I (((Go.Sort.scanUp (fun x=>M4 x D[a]!) D (b-1) (a+1)):Nat):Int)),(11,I (((b-1):Nat):Int))]∧Ns w' g n cap D∧Kp (fun k=>k=g) w1 w') ?nL (fun nL=>?Am)
 case nL =>
  rintro e' wA ⟨rfl,Gm,nL⟩;have yk:=Go.Sort.scanUp_ge (fun x=>M4 x D[a]!) D (b-1) (a+1);have kB:=Rn (fun x=>M4 x D[a]!) D (b-1) (a+1)
  generalize Go.Sort.scanUp (fun x=>M4 x D[a]!) D (b-1) (a+1)=i1 at yk kB
  refine run_seq (KB (Nz (fun e' w'=>e'=[(0,.slice (some ⟨g,0,none⟩) n cap),(1,I (a:Int)),(10,I ((i1:Nat):Int)),(11,I (((Go.Sort.scanDown (fun x=>!M4 x D[a]!) D i1 (b-1)):Nat):Int))]∧Ns w' g n cap D∧Kp (fun k=>k=g) wA w') ?iv (fun iv=>?Al)))
  case iv =>
   rintro e' wB ⟨rfl,nM,iv⟩;have Gn:=Go.Sort.scanDown_le (fun x=>!M4 x D[a]!) D i1 (b-1)
   generalize Go.Sort.scanDown (fun x=>!M4 x D[a]!) D i1 (b-1)=j1 at Gn
   refine run_seq (qN rfl (An rfl (An rfl (qV (LH rfl rfl) (py (KQ rfl (fun h4=>?_) (fun h4=>?_)))))))
   ·rw[if_pos (by omega)];refine run_seq ?_;have aa:=Ext.L4 wB;refine L5 [13,15] (fun w'=>Ext wB w') (by kernel_rfl) rfl (qL [12,13,14,15] 0 rfl (fun _ h=>KM rfl) aa (qL [12,13,14,15] 1 rfl (fun _ h=>KM rfl) aa (LD (i:=2) rfl (by kernel_rfl) rfl rfl (fun _=>KM rfl) (aa) (LD (i:=3) rfl (by kernel_rfl) rfl rfl (fun _=>KM rfl) (aa) (qL [6,7,12,13,14,15] 4 rfl (fun _ h=>KM rfl) aa (qL [6,7,12,13,14,15] 5 rfl (fun _ h=>KM rfl) aa (qL [7,12,13,14,15] 6 rfl (fun _ h=>Lt L9 KY rfl rfl (by omega)) aa (qL [10,11,12,13,14,15] 8 rfl (fun _ h=>KM rfl) aa (qL [10,11,12,13,14,15] 9 rfl (fun _ h=>KM rfl) aa (qL [11,12,13,14,15] 10 rfl (fun _ h=>Lt L9 KY rfl rfl (by omega)) aa (qL [12,13,14,15] 7 rfl (fun _ h=>Lb Mg rfl rfl ((nM.ext h).get (i:=a) (by omega))) aa (qL [12,13,14,15] 11 rfl (fun _ h=>Lb Mg rfl rfl ((nM.ext h).get (i:=j1) (by omega))) aa (qL [13,14,15] 12 rfl (fun _ h=>Lt L9 KY rfl rfl (by omega)) aa ?_)))))))))))));refine Lu [13] (by kernel_rfl) (by kernel_rfl) (qO 13 (Lm (i:=13) rfl rfl (MM KY rfl rfl rfl (nM.ext aa).sl ((nM.ext aa).UI (by omega))) ?_));rintro w2a ⟨ug,uh⟩;refine⟨trivial,?_⟩;have mf:=(nM.ext aa).set ug;refine KH 14 rfl (Lt L9 KY rfl rfl (by omega)) trivial (qO 15 (Lm (i:=15) rfl rfl (MM KY rfl rfl rfl mf.sl (mf.UI (by omega))) ?_));rintro w2 ⟨Ae,Af⟩;refine⟨trivial,?_⟩;have Ag:=mf.set Ae;have ui:Kp (fun k=>k=g) wB w2:=aa.kp.trans (uh.trans Af);refine qE (qN rfl (An rfl (KE rfl (KE rfl (py (KG Tryz.func231 rfl ?_))))));exact⟨_,rfl,rfl,Ag,(jU.trans (nL.trans iv)).trans ui⟩
   ·rw [if_neg (by omega)]; refine It (run_seq ?_); have ag := Ext.L4 wB; refine L5 [13,15] (fun w' => Ext wB w') (by kernel_rfl) rfl (qL [12, 13, 14, 15] 0 rfl (fun _ h=>KM rfl) ag (qL [12, 13, 14, 15] 1 rfl (fun _ h=>KM rfl) ag (LD (i := 2) rfl (by kernel_rfl) rfl rfl (fun _ => KM rfl) (ag) (LD (i := 3) rfl (by kernel_rfl) rfl rfl (fun _ => KM rfl) (ag) (qL [6, 7, 12, 13, 14, 15] 4 rfl (fun _ h=>KM rfl) ag (qL [6, 7, 12, 13, 14, 15] 5 rfl (fun _ h=>KM rfl) ag (qL [7, 12, 13, 14, 15] 6 rfl (fun _ h=>Lt L9 KY rfl rfl (by omega)) ag (qL [10, 11, 12, 13, 14, 15] 8 rfl (fun _ h=>KM rfl) ag (qL [10, 11, 12, 13, 14, 15] 9 rfl (fun _ h=>KM rfl) ag (qL [11, 12, 13, 14, 15] 10 rfl (fun _ h=>Lt L9 KY rfl rfl (by omega)) ag (qL [12, 13, 14, 15] 7 rfl (fun _ h=>Lb Mg rfl rfl ((nM.ext h).get (i := j1) (by omega))) ag (qL [12, 13, 14, 15] 11 rfl (fun _ h=>Lb Mg rfl rfl ((nM.ext h).get (i := i1) (by omega))) ag (qL [13, 14, 15] 12 rfl (fun _ h=>Lt L9 KY rfl rfl (by omega)) ag ?_))))))))))))); refine Lu [13] (by kernel_rfl) (by kernel_rfl) (qO 13 (Lm (i := 13) rfl rfl (MM KY rfl rfl rfl (nM.ext ag).sl ((nM.ext ag).UI (by omega))) ?_)); rintro w3a ⟨uj, uk⟩; refine ⟨trivial, ?_⟩; have mg := (nM.ext ag).set uj; refine KH 14 rfl (Lt L9 KY rfl rfl (by omega)) trivial (qO 15 (Lm (i := 15) rfl rfl (MM KY rfl rfl rfl mg.sl (mg.UI (by omega))) ?_)); rintro w3 ⟨Ah, Ai⟩; refine ⟨trivial, ?_⟩; have Aj := mg.set Ah; have ul : Kp (fun k => k = g) wB w3 := ag.kp.trans (uk.trans Ai); refine qE (qN rfl (An rfl (Lz rfl rfl (KE rfl (qM rfl (An rfl (qV (M8 rfl rfl (by omega)) (KE rfl (py (Lc.qb (e := [(0, _), (1, _), (10, _), (11, _)]) ?_)))))))))); refine run_seq (KB ?_); rw [show (j1 : Int) - 1 = ((j1 - 1 : Nat) : Int) by omega]; refine MQ (α := Nat × Nat × Array Nat) ((i1 + 1, j1 - 1, Go.Sort.swp D i1 j1)) (fun y => [(0, .slice (some ⟨g, 0, none⟩) n cap), (1, I (a : Int)), (10, I (y.1 : Int)), (11, I (y.2.1 : Int))]) (fun y w' => Ns w' g n cap y.2.2 ∧ Kp (fun k => k = g) w3 w' ∧ Go.Sort.partLoop M4 a y.1 y.2.1 y.2.2 = Go.Sort.partLoop M4 a (i1 + 1) (j1 - 1) (Go.Sort.swp D i1 j1) ∧ (a < y.1 ∧ y.1 ≤ n ∧ y.2.1 < n)) (fun y => y.2.1 + 1 - y.1) ?hI ?hround
    case hI=>exact⟨Aj,Kp.refl _ _,rfl,by dsimp only;omega⟩
    case hround =>
     rintro⟨i,j,d4⟩ w4 ⟨dA,av,cj,bO⟩ ih;dsimp only at dA av cj bO;rw[Go.Sort.partLoop_eq] at cj
     try dsimp only
     refine KB (run_seq (KB (Nz (fun e' w'=>e'=[(0,.slice (some ⟨g,0,none⟩) n cap),(1,I (a:Int)),(10,I (((Go.Sort.scanUp (fun x=>M4 x d4[a]!) d4 j (i)):Nat):Int)),(11,I ((j:Nat):Int))]∧Ns w' g n cap d4∧Kp (fun k=>k=g) w4 w') ?iZ (fun iZ=>?rf))))
     case iZ=>
      rintro e' wC ⟨rfl,Ak,iZ⟩;have de:=Go.Sort.scanUp_ge (fun x=>M4 x d4[a]!) d4 j i;have lF:=Rn (fun x=>M4 x d4[a]!) d4 j i
      generalize Go.Sort.scanUp (fun x=>M4 x d4[a]!) d4 j i=i2 at cj de lF
      refine run_seq (KB (Nz (fun e' w'=>e'=[(0,.slice (some ⟨g,0,none⟩) n cap),(1,I (a:Int)),(10,I ((i2:Nat):Int)),(11,I (((Go.Sort.scanDown (fun x=>!M4 x d4[a]!) d4 i2 (j)):Nat):Int))]∧Ns w' g n cap d4∧Kp (fun k=>k=g) wC w') ?eV (fun eV=>?qZ)))
      case eV=>
       rintro e' wD ⟨rfl,iw,eV⟩;have jT:=Go.Sort.scanDown_le (fun x=>!M4 x d4[a]!) d4 i2 j
       generalize Go.Sort.scanDown (fun x=>!M4 x d4[a]!) d4 i2 j=j2 at cj jT
       refine run_seq (qN rfl (An rfl (An rfl (qV (LH rfl rfl) (py (KQ rfl (fun h5=>?_) (fun h5=>?_)))))))
       ·rw[if_pos (by omega)] at cj;refine KO rfl (run_seq ?_);rw[←cj];have nN:=((jU.trans (nL.trans iv)).trans ul).trans (av.trans (iZ.trans eV));have bF:=Ext.L4 wD;refine L5 [13,15] (fun w'=>Ext wD w') (by kernel_rfl) rfl (qL [12,13,14,15] 0 rfl (fun _ h=>KM rfl) bF (qL [12,13,14,15] 1 rfl (fun _ h=>KM rfl) bF (LD (i:=2) rfl (by kernel_rfl) rfl rfl (fun _=>KM rfl) (bF) (LD (i:=3) rfl (by kernel_rfl) rfl rfl (fun _=>KM rfl) (bF) (qL [6,7,12,13,14,15] 4 rfl (fun _ h=>KM rfl) bF (qL [6,7,12,13,14,15] 5 rfl (fun _ h=>KM rfl) bF (qL [7,12,13,14,15] 6 rfl (fun _ h=>Lt L9 KY rfl rfl (by omega)) bF (qL [10,11,12,13,14,15] 8 rfl (fun _ h=>KM rfl) bF (qL [10,11,12,13,14,15] 9 rfl (fun _ h=>KM rfl) bF (qL [11,12,13,14,15] 10 rfl (fun _ h=>Lt L9 KY rfl rfl (by omega)) bF (qL [12,13,14,15] 7 rfl (fun _ h=>Lb Mg rfl rfl ((iw.ext h).get (i:=a) (by omega))) bF (qL [12,13,14,15] 11 rfl (fun _ h=>Lb Mg rfl rfl ((iw.ext h).get (i:=j2) (by omega))) bF (qL [13,14,15] 12 rfl (fun _ h=>Lt L9 KY rfl rfl (by omega)) bF ?_)))))))))))));refine Lu [13] (by kernel_rfl) (by kernel_rfl) (qO 13 (Lm (i:=13) rfl rfl (MM KY rfl rfl rfl (iw.ext bF).sl ((iw.ext bF).UI (by omega))) ?_));rintro w8a ⟨fB,fC⟩;refine⟨trivial,?_⟩;have cu:=(iw.ext bF).set fB;refine KH 14 rfl (Lt L9 KY rfl rfl (by omega)) trivial (qO 15 (Lm (i:=15) rfl rfl (MM KY rfl rfl rfl cu.sl (cu.UI (by omega))) ?_));rintro w8 ⟨jn,jo⟩;refine⟨trivial,?_⟩;have jp:=cu.set jn;have eN:Kp (fun k=>k=g) wD w8:=bF.kp.trans (fC.trans jo);refine qE (qN rfl (An rfl (KE rfl (KE rfl (py (KG Tryz.func231 rfl ?_))))));exact⟨_,rfl,rfl,jp,nN.trans eN⟩
       ·rw[if_neg (by omega)] at cj;refine It (run_seq ?_);have bF:=Ext.L4 wD;refine L5 [13,15] (fun w'=>Ext wD w') (by kernel_rfl) rfl (qL [12,13,14,15] 0 rfl (fun _ h=>KM rfl) bF (qL [12,13,14,15] 1 rfl (fun _ h=>KM rfl) bF (LD (i:=2) rfl (by kernel_rfl) rfl rfl (fun _=>KM rfl) (bF) (LD (i:=3) rfl (by kernel_rfl) rfl rfl (fun _=>KM rfl) (bF) (qL [6,7,12,13,14,15] 4 rfl (fun _ h=>KM rfl) bF (qL [6,7,12,13,14,15] 5 rfl (fun _ h=>KM rfl) bF (qL [7,12,13,14,15] 6 rfl (fun _ h=>Lt L9 KY rfl rfl (by omega)) bF (qL [10,11,12,13,14,15] 8 rfl (fun _ h=>KM rfl) bF (qL [10,11,12,13,14,15] 9 rfl (fun _ h=>KM rfl) bF (qL [11,12,13,14,15] 10 rfl (fun _ h=>Lt L9 KY rfl rfl (by omega)) bF (qL [12,13,14,15] 7 rfl (fun _ h=>Lb Mg rfl rfl ((iw.ext h).get (i:=j2) (by omega))) bF (qL [12,13,14,15] 11 rfl (fun _ h=>Lb Mg rfl rfl ((iw.ext h).get (i:=i2) (by omega))) bF (qL [13,14,15] 12 rfl (fun _ h=>Lt L9 KY rfl rfl (by omega)) bF ?_)))))))))))));refine Lu [13] (by kernel_rfl) (by kernel_rfl) (qO 13 (Lm (i:=13) rfl rfl (MM KY rfl rfl rfl (iw.ext bF).sl ((iw.ext bF).UI (by omega))) ?_));rintro w8a ⟨fB,fC⟩;refine⟨trivial,?_⟩;have cu:=(iw.ext bF).set fB;refine KH 14 rfl (Lt L9 KY rfl rfl (by omega)) trivial (qO 15 (Lm (i:=15) rfl rfl (MM KY rfl rfl rfl cu.sl (cu.UI (by omega))) ?_));rintro w8 ⟨jn,jo⟩;refine⟨trivial,?_⟩;have jp:=cu.set jn;have eN:Kp (fun k=>k=g) wD w8:=bF.kp.trans (fC.trans jo);refine qE (qN rfl (An rfl (Lz rfl rfl (KE rfl (py (KF rfl (An rfl (qV (M8 rfl rfl (by omega)) (KE rfl (py (KC ?_)))))))))));rw[show(j2:Int)-1=((j2-1:Nat):Int) by omega];exact(ih (i2+1,j2-1,Go.Sort.swp d4 i2 j2) _ ⟨jp,(av.trans (iZ.trans eV)).trans eN,cj,by dsimp only;omega⟩ (by dsimp only;omega)).qb
      case qZ=>
       refine MQ (α:=Nat) (j) (fun r=>[(0,.slice (some ⟨g,0,none⟩) n cap),(1,I (a:Int)),(10,I ((i2:Nat):Int)),(11,I ((r:Nat):Int))]) (fun r w'=>Ns w' g n cap d4∧Kp (fun k=>k=g) wC w'∧Go.Sort.scanDown (fun x=>!M4 x d4[a]!) d4 i2 r=Go.Sort.scanDown (fun x=>!M4 x d4[a]!) d4 i2 (j)∧r<n) (fun r=>r) ?hI ?hround
       case hI=>exact⟨Ak,Kp.refl _ _,rfl,by omega⟩
       case hround=>
        rintro r w5 ⟨aO,aj,bJ,bY⟩ ih
        try dsimp only
        have hg:=Ext.L4 w5;rcases Nat.lt_or_ge r (i2) with hj|hj
        ·refine run_seq (run_seq (KN (fun w'=>Ext w5 w') (by kernel_rfl) rfl (KH 0 rfl (KM rfl) hg (KH 1 rfl (KM rfl) hg (KH 2 rfl (Qh rfl rfl) hg (Pw (KH 3 rfl (KM rfl) hg (qJ 4 rfl (hg) (qJ 5 rfl (hg) (qJ 6 rfl (hg) (qJ 7 rfl (hg) (qJ 8 rfl (hg) (qJ 9 rfl (hg) ?_)))))))))))));refine qJ 10 rfl (hg) (qJ 11 rfl (hg) (qJ 12 rfl (hg) (qJ 13 rfl (hg) (KH 14 rfl (Lk rfl rfl) hg (qE (Kx rfl (KO rfl ?_)))))));rw[N0 _ _ _ _ (.inl hj)] at bJ;subst bJ;exact(eV _ _ ⟨rfl,aO.ext hg,aj.trans hg.kp⟩).qb
        ·refine run_seq (run_seq (KN (fun w'=>Ext w5 w') (by kernel_rfl) rfl (KH 0 rfl (KM rfl) hg (KH 1 rfl (KM rfl) hg (KH 2 rfl (Qh rfl rfl) hg (Pf (KH 3 rfl (KM rfl) hg (KH 4 rfl (KM rfl) hg (KH 5 rfl (KM rfl) hg (KH 6 rfl (Lt L9 KY rfl rfl (by omega)) hg (KH 8 rfl (KM rfl) hg (KH 9 rfl (KM rfl) hg (KH 10 rfl (Lt L9 KY rfl rfl (by omega)) hg ?_)))))))))))));refine qT 7 rfl (fun _ h=>Lb Mg rfl rfl ((aO.ext h).get (i:=r) (by omega))) hg (qT 11 rfl (fun _ h=>Lb Mg rfl rfl ((aO.ext h).get (i:=a) (by omega))) hg (OJ 12 [.tmp 122,.tmp 126] rfl Qs rfl (MY _ _ _) ?_));rintro _ w6 ⟨rfl,rfl⟩;refine⟨hg,?_⟩;refine KH 13 rfl ((by first|exact LP rfl|exact Nq rfl)) hg ?_;refine KH 14 rfl (LK rfl rfl) hg (qE (LF rfl (fun h1=>?_) (fun h1=>?_)))
         ·rw[R6 _ _ _ _ hj (by simpa[M4] using h1) (by omega)] at bJ;refine It (KB (KF rfl (An rfl (qV (M8 rfl rfl (by omega)) (KE rfl (py (KC ?_)))))));rw[show(r:Int)-1=((r-1:Nat):Int) by omega];exact(ih (r-1) _ ⟨aO.ext hg,aj.trans hg.kp,bJ,by omega⟩ (by omega)).qb
         ·rw[N0 _ _ _ _ (.inr (by simpa[M4] using h1))] at bJ;refine KO rfl ?_;subst bJ;exact(eV _ _ ⟨rfl,aO.ext hg,aj.trans hg.kp⟩).qb
     case rf=>
      refine MQ (α:=Nat) (i) (fun r=>[(0,.slice (some ⟨g,0,none⟩) n cap),(1,I (a:Int)),(10,I ((r:Nat):Int)),(11,I ((j:Nat):Int))]) (fun r w'=>Ns w' g n cap d4∧Kp (fun k=>k=g) w4 w'∧Go.Sort.scanUp (fun x=>M4 x d4[a]!) d4 j r=Go.Sort.scanUp (fun x=>M4 x d4[a]!) d4 j (i)∧i≤r∧r≤n+1) (fun r=>j+1-r) ?hI ?hround
      case hI=>exact⟨dA,Kp.refl _ _,rfl,Nat.le_refl _,by omega⟩
      case hround=>
       rintro r w5 ⟨aO,aj,bJ,bY⟩ ih
       try dsimp only
       have hg:=Ext.L4 w5;rcases Nat.lt_or_ge (j) r with hj|hj
       ·refine run_seq (run_seq (KN (fun w'=>Ext w5 w') (by kernel_rfl) rfl (KH 0 rfl (KM rfl) hg (KH 1 rfl (KM rfl) hg (KH 2 rfl (Qh rfl rfl) hg (Pw (KH 3 rfl (KM rfl) hg (qJ 4 rfl (hg) (qJ 5 rfl (hg) (qJ 6 rfl (hg) (qJ 7 rfl (hg) (qJ 8 rfl (hg) (qJ 9 rfl (hg) ?_)))))))))))));refine qJ 10 rfl (hg) (qJ 11 rfl (hg) (qJ 12 rfl (hg) (KH 13 rfl (Lk rfl rfl) hg (qE (Kx rfl (KO rfl ?_))))));rw[NR _ _ _ _ (.inl hj)] at bJ;subst bJ;exact(iZ _ _ ⟨rfl,aO.ext hg,aj.trans hg.kp⟩).qb
       ·refine run_seq (run_seq (KN (fun w'=>Ext w5 w') (by kernel_rfl) rfl (KH 0 rfl (KM rfl) hg (KH 1 rfl (KM rfl) hg (KH 2 rfl (Qh rfl rfl) hg (Pf (KH 3 rfl (KM rfl) hg (KH 4 rfl (KM rfl) hg (KH 5 rfl (KM rfl) hg (KH 6 rfl (Lt L9 KY rfl rfl (by omega)) hg (KH 8 rfl (KM rfl) hg (KH 9 rfl (KM rfl) hg (KH 10 rfl (Lt L9 KY rfl rfl (by omega)) hg ?_)))))))))))));refine qT 7 rfl (fun _ h=>Lb Mg rfl rfl ((aO.ext h).get (i:=r) (by omega))) hg (qT 11 rfl (fun _ h=>Lb Mg rfl rfl ((aO.ext h).get (i:=a) (by omega))) hg (OJ 12 [.tmp 106,.tmp 110] rfl Qs rfl (MY _ _ _) ?_));rintro _ w6 ⟨rfl,rfl⟩;refine⟨hg,?_⟩;refine KH 13 rfl (LK rfl rfl) hg (qE (LF rfl (fun h1=>?_) (fun h1=>?_)))
        ·rw[TH _ _ _ _ hj (by simpa[M4] using h1)] at bJ;refine It (KB (KF rfl (An rfl (Lz rfl rfl (KE rfl (py (KC ?_)))))));exact(ih (r+1) _ ⟨aO.ext hg,aj.trans hg.kp,bJ,by omega,by omega⟩ (by omega)).qb
        ·rw[NR _ _ _ _ (.inr (by simpa[M4] using h1))] at bJ;refine KO rfl ?_;subst bJ;exact(iZ _ _ ⟨rfl,aO.ext hg,aj.trans hg.kp⟩).qb
  case Al=>
   refine MQ (α:=Nat) (b-1) (fun r=>[(0,.slice (some ⟨g,0,none⟩) n cap),(1,I (a:Int)),(10,I ((i1:Nat):Int)),(11,I ((r:Nat):Int))]) (fun r w'=>Ns w' g n cap D∧Kp (fun k=>k=g) wA w'∧Go.Sort.scanDown (fun x=>!M4 x D[a]!) D i1 r=Go.Sort.scanDown (fun x=>!M4 x D[a]!) D i1 (b-1)∧r<n) (fun r=>r) ?hI ?hround
   case hI=>exact⟨Gm,Kp.refl _ _,rfl,by omega⟩
   case hround=>
    rintro r w5 ⟨aO,aj,bJ,bY⟩ ih
    try dsimp only
    have hg:=Ext.L4 w5;rcases Nat.lt_or_ge r (i1) with hj|hj
    ·refine run_seq (run_seq (KN (fun w'=>Ext w5 w') (by kernel_rfl) rfl (KH 0 rfl (KM rfl) hg (KH 1 rfl (KM rfl) hg (KH 2 rfl (Qh rfl rfl) hg (Pw (KH 3 rfl (KM rfl) hg (qJ 4 rfl (hg) (qJ 5 rfl (hg) (qJ 6 rfl (hg) (qJ 7 rfl (hg) (qJ 8 rfl (hg) (qJ 9 rfl (hg) ?_)))))))))))));refine qJ 10 rfl (hg) (qJ 11 rfl (hg) (qJ 12 rfl (hg) (qJ 13 rfl (hg) (KH 14 rfl (Lk rfl rfl) hg (qE (Kx rfl (KO rfl ?_)))))));rw[N0 _ _ _ _ (.inl hj)] at bJ;subst bJ;exact(iv _ _ ⟨rfl,aO.ext hg,aj.trans hg.kp⟩).qb
    ·refine run_seq (run_seq (KN (fun w'=>Ext w5 w') (by kernel_rfl) rfl (KH 0 rfl (KM rfl) hg (KH 1 rfl (KM rfl) hg (KH 2 rfl (Qh rfl rfl) hg (Pf (KH 3 rfl (KM rfl) hg (KH 4 rfl (KM rfl) hg (KH 5 rfl (KM rfl) hg (KH 6 rfl (Lt L9 KY rfl rfl (by omega)) hg (KH 8 rfl (KM rfl) hg (KH 9 rfl (KM rfl) hg (KH 10 rfl (Lt L9 KY rfl rfl (by omega)) hg ?_)))))))))))));refine qT 7 rfl (fun _ h=>Lb Mg rfl rfl ((aO.ext h).get (i:=r) (by omega))) hg (qT 11 rfl (fun _ h=>Lb Mg rfl rfl ((aO.ext h).get (i:=a) (by omega))) hg (OJ 12 [.tmp 53,.tmp 57] rfl Qs rfl (MY _ _ _) ?_));rintro _ w6 ⟨rfl,rfl⟩;refine⟨hg,?_⟩;refine KH 13 rfl ((by first|exact LP rfl|exact Nq rfl)) hg ?_;refine KH 14 rfl (LK rfl rfl) hg (qE (LF rfl (fun h1=>?_) (fun h1=>?_)))
     ·rw[R6 _ _ _ _ hj (by simpa[M4] using h1) (by omega)] at bJ;refine It (KB (KF rfl (An rfl (qV (M8 rfl rfl (by omega)) (KE rfl (py (KC ?_)))))));rw[show(r:Int)-1=((r-1:Nat):Int) by omega];exact(ih (r-1) _ ⟨aO.ext hg,aj.trans hg.kp,bJ,by omega⟩ (by omega)).qb
     ·rw[N0 _ _ _ _ (.inr (by simpa[M4] using h1))] at bJ;refine KO rfl ?_;subst bJ;exact(iv _ _ ⟨rfl,aO.ext hg,aj.trans hg.kp⟩).qb
 case Am=>
  refine MQ (α:=Nat) (a+1) (fun r=>[(0,.slice (some ⟨g,0,none⟩) n cap),(1,I (a:Int)),(10,I ((r:Nat):Int)),(11,I (((b-1):Nat):Int))]) (fun r w'=>Ns w' g n cap D∧Kp (fun k=>k=g) w1 w'∧Go.Sort.scanUp (fun x=>M4 x D[a]!) D (b-1) r=Go.Sort.scanUp (fun x=>M4 x D[a]!) D (b-1) (a+1)∧a+1≤r∧r≤n+1) (fun r=>(b-1)+1-r) ?hI ?hround
  case hI=>exact⟨gR,Kp.refl _ _,rfl,Nat.le_refl _,by omega⟩
  case hround=>
   rintro r w5 ⟨aO,aj,bJ,bY⟩ ih
   try dsimp only
   have hg:=Ext.L4 w5;rcases Nat.lt_or_ge ((b-1)) r with hj|hj
   ·refine run_seq (run_seq (KN (fun w'=>Ext w5 w') (by kernel_rfl) rfl (KH 0 rfl (KM rfl) hg (KH 1 rfl (KM rfl) hg (KH 2 rfl (Qh rfl rfl) hg (Pw (KH 3 rfl (KM rfl) hg (qJ 4 rfl (hg) (qJ 5 rfl (hg) (qJ 6 rfl (hg) (qJ 7 rfl (hg) (qJ 8 rfl (hg) (qJ 9 rfl (hg) ?_)))))))))))));refine qJ 10 rfl (hg) (qJ 11 rfl (hg) (qJ 12 rfl (hg) (KH 13 rfl (Lk rfl rfl) hg (qE (Kx rfl (KO rfl ?_))))));rw[NR _ _ _ _ (.inl hj)] at bJ;subst bJ;exact(nL _ _ ⟨rfl,aO.ext hg,aj.trans hg.kp⟩).qb
   ·refine run_seq (run_seq (KN (fun w'=>Ext w5 w') (by kernel_rfl) rfl (KH 0 rfl (KM rfl) hg (KH 1 rfl (KM rfl) hg (KH 2 rfl (Qh rfl rfl) hg (Pf (KH 3 rfl (KM rfl) hg (KH 4 rfl (KM rfl) hg (KH 5 rfl (KM rfl) hg (KH 6 rfl (Lt L9 KY rfl rfl (by omega)) hg (KH 8 rfl (KM rfl) hg (KH 9 rfl (KM rfl) hg (KH 10 rfl (Lt L9 KY rfl rfl (by omega)) hg ?_)))))))))))));refine qT 7 rfl (fun _ h=>Lb Mg rfl rfl ((aO.ext h).get (i:=r) (by omega))) hg (qT 11 rfl (fun _ h=>Lb Mg rfl rfl ((aO.ext h).get (i:=a) (by omega))) hg (OJ 12 [.tmp 37,.tmp 41] rfl Qs rfl (MY _ _ _) ?_));rintro _ w6 ⟨rfl,rfl⟩;refine⟨hg,?_⟩;refine KH 13 rfl (LK rfl rfl) hg (qE (LF rfl (fun h1=>?_) (fun h1=>?_)))
    ·rw[TH _ _ _ _ hj (by simpa[M4] using h1)] at bJ;refine It (KB (KF rfl (An rfl (Lz rfl rfl (KE rfl (py (KC ?_)))))));exact(ih (r+1) _ ⟨aO.ext hg,aj.trans hg.kp,bJ,by omega,by omega⟩ (by omega)).qb
    ·rw[NR _ _ _ _ (.inr (by simpa[M4] using h1))] at bJ;refine KO rfl ?_;subst bJ;exact(nL _ _ ⟨rfl,aO.ext hg,aj.trans hg.kp⟩).qb
end Go.Proofs.YtpldpcjdjcgicaaGreatDoor
