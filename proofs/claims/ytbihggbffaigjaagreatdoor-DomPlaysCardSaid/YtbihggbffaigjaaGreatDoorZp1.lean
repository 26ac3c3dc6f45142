/- Merged by program. -/
import Derived.KernelRfl
import Derived.WalkKit
import Derived.WalkSpells
import Derived.WalkLawsBesides
import Derived.OrdersHeld
import Derived.RangeFuncRecord
import Derived.OrdersIn
import Derived.TacticsIn
import Derived.Lib.Strings
import Derived.Lib.SmallJoins
import Derived.Test.YtbihggbffaigjaaGreatDoorRows
import Derived.SizedLaws
import Derived.Carry
import Derived.ProofKit
import Derived.OpenShut
import Derived.ShutString
import Derived.ChangeOld
import Derived.Below
import Derived.Laws.Externs
import Derived.MapKept
set_option linter.all false
set_option maxRecDepth 1000000
set_option maxHeartbeats 16000000
namespace Go.Proofs.YtbihggbffaigjaaGreatDoor
open Go Go.RowKit
variable {K K':Act->World->Prop}{P:Program}{Q:Exit->Act->World->Prop}{R:Ending->World->Prop}{S':Nat->Prop}{T t t' ty:TypeId}{a:Act}{aft:Array Edge}{args cs vs:List Value}{assign body:Code}{b bytes cap fuel i id j m s:Nat}{rs:List Nat}{f:FuncId}{fn:Func}{y y':Operand}{g:Option (Nat×Bool)}{k todo:List Item}{k':IntKind}{listed:Array Bool}{o oi:Oper}{ops:List Oper}{p:Prop}{ts:Array TypeId}{w w':World}{z:Value}{za zb:Int}{ρ:Operand->Value}
def y00(h:p:=by kernel_rfl):p:=h
def y0j:=@Nat.mul_one
def y2k:=@List.drop_eq_getElem_cons
def y24:=@Int.natCast_ediv
def y1e:=@List.length_nil
def y0q:=@List.append_nil
def y2C:=@List.countP_singleton
def y1G:=@List.nodup_nil
def y35:=@World.ownsRow_nil
def y0B:=@List.take_of_length_le
def y1H:=@List.all_eq_true
def y1w:=@Nat.sub_self
def y1I:=@DataW.trod_int
def y25:=@List.ext_getElem
def y0g:=@Nat.zero_add
def y0K:=@List.take_length
def y1J:=@List.getElem?_drop
def y36:=@List.replicate_succ'
def y1K:=@List.getElem?_take
def y1p:=@List.Pairwise.nil
def y37:=@List.take_sublist
def y0F:=@List.mem_singleton
def y2l:=@List.take_append
def y2m:=@List.drop_of_length_le
def y38:=@Option.bind_some
def y26:=@List.perm_middle
def y2n:=@List.length_dropLast
def y0h:=@List.length_map
def y1S:=@List.map_drop
def y1x:=@Nat.add_comm
def y27:=@List.length_erase_le
def y2D:=@List.mapM_cons
def y1a:=@List.take_left'
def y14:=@Nat.and_two_pow_sub_one_eq_mod
def y39:=@Nat.mul_le_mul_left
def y0T:=@List.range_succ
def y28:=@Nat.two_pow_add_eq_or_of_lt
def y0Q:=@Nat.one_mul
def y1b:=@Nat.add_zero
def y08:=@List.length_drop
def y1T:=@List.mem_of_mem_drop
def y3a:=@List.take_length_add_append
def y2E:=@List.set_cons_zero
def y0p:=@List.getElem?_eq_some_iff
def y2F:=@List.take_replicate
def y0z:=@Nat.two_pow_pos
def y0l:=@List.getElem?_map
def y0m:=@List.mem_cons
def y0C:=@List.getD_eq_getElem?_getD
def y1f:=@List.ext_getElem?
def y1U:=@List.filter_sublist
def y3b:=@List.length_erase_of_mem
def y0G:=@List.drop_drop
def y2o:=@List.dropLast_concat
def y2G:=@Int.ofNat_lt
def y1L:=@List.length_pos_of_mem
def y3c:=@List.pairwise_append
def y29:=@Prod.mk.injEq
def y2p:=@List.cons.injEq
def y0Z:=@List.getElem?_replicate
def y0u:=@List.mem_cons_of_mem
def y2a:=@List.getElem?_toArray
def y3J:=@Int.tdiv_eq_ediv_of_nonneg
def y3d:=@UInt8.toNat_ofNat'
def y1g:=@List.map_take
def y1y:=@List.map_nil
def y0n:=@List.getElem?_eq_none
def y2q:=@List.getElem?_of_mem
def y1z:=@List.getElem?_range
def y2r:=@Bool.false_eq_true
def y10:=@List.getElem?_append_right
def y0M:=@List.getElem?_set_ne
def y0i:=@List.mem_of_getElem?
def y05:=@Sem.run_pure
def y2H:=@Nat.min_eq_right
def y1h:=@Nat.add_sub_cancel
def y2I:=@Nat.and_le_left
def y0a:=@Nat.lt_or_ge
def y2J:=@Nat.mul_add
def y2K:=@Nat.log2_self_le
def y3e:=@List.singleton_append
def y2L:=@Array.setIfInBounds_comm
def y0k:=@List.mem_map
def y3f:=@List.perm_cons_erase
def y0b:=@List.length_replicate
def y0d:=@Nat.le_trans
def y06:=@List.append_assoc
def y3g:=@World.ownsRow.lt
def y3h:=@Nat.lt_log2_self
def y0f:=@List.map_append
def y3K:=@List.set_eq_of_length_le
def y0I:=@List.getElem?_append_left
def y1q:=@List.length_singleton
def y2M:=@Nat.mul_lt_mul_of_pos_right
def y0H:=@Nat.mul_comm
def y1V:=@List.map_set
def y3i:=@Int.tmod_lt_of_pos
def y2N:=@List.replicate_zero
def y0N:=@List.nodup_append
def y3L:=@List.countP_eq_length_filter
def y0e:=@Nat.mod_eq_of_lt
def y3M:=@Array.getElem?_eq_getElem
def y1k:=@Nat.mul_le_mul
def y1A:=@Int.natCast_mul
def y04:=@List.getElem?_eq_getElem
def y1i:=@Option.some.inj
def y2O:=@BitVec.toNat_and
def y1l:=@List.map_map
def y3j:=@Array.getElem?_modify
def y2s:=@Nat.not_lt_zero
def y1m:=@Nat.zero_mul
def y2P:=@Nat.eq_of_beq_eq_true
def y3k:=@List.drop_length_add_append
def y3l:=@List.eq_of_mem_replicate
def y0o:=@List.map_cons
def y1B:=@Nat.add_assoc
def y3N:=@Array.size_setIfInBounds
def y2t:=@Nat.add_mul_div_left
def y15:=@List.sum_append
def y3m:=@List.Perm.trans
def y2u:=@Array.length_toList
def y1M:=@Array.getElem?_eq_none
def y0v:=@Nat.pow_le_pow_right
def y2b:=@Nat.div_lt_iff_lt_mul
def y1W:=@Option.map_eq_some_iff
def y2Q:=@List.countP_append
def y0c:=@List.length_take
def y3n:=@Array.toArray_toList
def y0O:=@List.map_congr_left
def y2R:=@List.getElem?_take_of_lt
def y1X:=@List.mem_append_left
def y2S:=@List.take_zero
def y2T:=@Nat.mod_one
def y3o:=@Nat.pow_lt_pow_iff_right
def y11:=@List.drop_left'
def y1r:=@List.mem_filter
def y2v:=@List.dropLast_concat_getLast
def y1Y:=@List.flatMap_append
def y2c:=@Nat.div_add_mod
def y0V:=@List.drop_zero
def y1N:=@List.getElem?_cons_succ
def y16:=@List.length_range
def y0P:=@Nat.pow_add
def y2U:=@Nat.sub_zero
def y3p:=@List.take_left
def y1O:=@Nat.div_mul_le_self
def y2V:=@List.take_add
def y2W:=@List.replicate_append_replicate
def y0r:=@Nat.add_mul
def y2X:=@List.erase_sublist
def y1c:=@List.take_append_drop
def y07:=@Nat.le_refl
def y3q:=@List.length_filter_le
def y03:=@List.length_cons
def y0R:=@List.mem_range
def y0W:=@List.flatMap_cons
def y1P:=@Calls.mono
def y2w:=@World.ownsRow.cells
def y2Y:=@List.foldl_append
def y2Z:=@List.map_replicate
def y1Z:=@Nat.lt_of_le_of_lt
def y30:=@List.map_id
def y31:=@Function.comp_apply
def y3r:=@List.set_append_left
def y1s:=@List.getElem_mem
def y3s:=@List.Sublist.refl
def y3t:=@Region.noSelect_spec
def y2d:=@Nat.and_le_right
def y32:=@Array.toList_inj
def y0X:=@List.getElem?_set_self
def y2x:=@Int.toNat_natCast
def y2e:=@List.not_mem_nil
def y12:=@List.countP_cons
def y0x:=@List.eq_nil_of_length_eq_zero
def y1Q:=@Nat.div_le_div_right
def y3O:=@List.mem_or_eq_of_mem_set
def y0A:=@Nat.min_eq_left
def y1C:=@List.getElem?_cons_zero
def y20:=@Nat.mod_two_eq_zero_or_one
def y3u:=@IntKind.wrap_i64
def y0L:=@List.sum_cons
def y33:=@Int.natCast_nonneg
def y17:=@List.replicate_succ
def y0D:=@Nat.eq_zero_or_pos
def y0U:=@Iff.rfl
def y2y:=@Nat.lt_of_lt_of_le
def y1D:=@List.pairwise_iff_getElem
def y1n:=@List.take_take
def y2z:=@Nat.and_one_is_mod
def y1E:=@List.sum_nil
def y3P:=@Array.toList_setIfInBounds
def y3v:=@List.count_append
def y3w:=@List.take_succ_eq_append_getElem
def y21:=@World.putObj_heap_same
def y2f:=@Nat.xor_lt_two_pow
def y01:=@List.length_append
def y3x:=@List.take_succ_cons
def y02:=@Nat.zero_le
def y1j:=@List.drop_append_of_le_length
def y3y:=@List.Perm.append_left
def y3z:=@Region.free_spec
def y3A:=@Comes.of_steps
def y0S:=@Nat.div_le_self
def y0J:=@Result.andThen_ok
def y18:=@List.nil_append
def y0Y:=@Nat.mul_le_mul_right
def y2A:=@BitVec.toNat_xor
def y0y:=@List.mem_append
def y22:=@List.set_append_right
def y3B:=@Nat.testBit_two_pow_mul_add
def y2B:=@List.map_singleton
def y3C:=@List.drop_append
def y34:=@List.drop_left
def y2g:=@List.sublist_cons_self
def y2h:=@Nat.div_eq_of_lt
def y1t:=@List.drop_sublist
def y19:=@List.nodup_cons
def y1u:=@List.drop_take
def y0t:=@List.cons_append
def y3D:=@Option.some.injEq
def y1o:=@List.pairwise_cons
def y0w:=@List.length_set
def y0s:=@List.mem_cons_self
def y1R:=@Nat.pow_succ
def y1v:=@List.take_append_of_le_length
def y2i:=@Option.map_map
def y3E:=@Array.getElem?_toList
def y1d:=@List.mem_of_mem_take
def y3F:=@List.mem_iff_getElem?
def y09:=@Sem.run_bind
def y1F:=@List.erase_of_not_mem
def y3G:=@List.flatten_cons
def y3H:=@Nat.testBit_and
def y3I:=@Lib.run_append_own_string
def y23:=@Nat.mul_assoc
def y0E:=@Bool.and_eq_true
def y2j:=@List.drop_succ_cons
def y13:=@Nat.mod_lt
theorem ω(h:p:=by omega):p:=h
theorem ψ(h:p:=by decide):p:=h
theorem ξ(h:p:=by simp):p:=h
abbrev JIq(n:Int):Prop:= -9223372036854775808<=n/\n<=9223372036854775807
def O.{u}{a:Sort u}{b:a}:b=b:=rfl
abbrev Env:=List (Nat×Value)
def fnd:Env->Nat->Option Value
 |[],_=>none
 | (j, v) :: r, i => match Nat.beq i j with
   |true=>some v
   |false=>fnd r i
def look (e:Env):Operand->Option Value
 | .tmp t=>fnd e t
 | .const v=>some v
 | .global g=>some (.pointer (some ⟨g,0,none⟩))
 | .func f=>some (.func (.func f) #[] #[])
inductive Dfr where
 |mk (D:Nat)
 |call (f:FuncId) (cap args:List Value)
def Dfr.d:Dfr->Deferred
 | .mk D=>{target:= .collected D,args:=#[]}
 | .call f cap args=>{target:= .fn (.func f) cap.toArray,args:=args.toArray}
def marks (ms:List Dfr):List Deferred:=ms.map Dfr.d
structure EOk (n:Nat)(ms:List Dfr)(e:Env)(a:Act):Prop where
 size:a.tmps.size=n
 defers:a.defers=marks ms
 get:∀i v,fnd e i=some v->a.tmps.getD i undef=v
theorem EOk.look {n:Nat}{ms:List Dfr}{e:Env}(h:EOk n ms e a){x:Operand}{v:Value}(c:look e x=some v):a.eval x=v:=by
 cases x with
 |tmp t=>exact h.get t v c
 |const u=>exact y1i c
 |global g=>exact y1i c
 |func f=>exact y1i c
theorem EOk.put {n:Nat}{ms:List Dfr}{e:Env}(h:EOk n ms e a){d:Nat}(r:Nat.blt d n=true)(v:Value):EOk n ms ((d,v)::e) (a.put (some d) v):=by
 have l:d<n:=by simpa using r
 refine⟨by simp[Act.put,h.size],by simpa[Act.put] using h.defers,λi u hi=>?_⟩
 simp only[Act.put]
 simp only[fnd] at hi
 by_cases c:i=d
 ·subst c;simp at hi;subst hi;simp[Array.getD,h.size,l]
 ·have q:Nat.beq i d=false:=by
   cases B:Nat.beq i d with
   |false=>rfl
   |true=>exact absurd (y2P B) c
  rw[q] at hi;have hg:=h.get i u hi;rw[<-hg];simp only[Array.getD,y3N];split
  ·rename_i A
   simp only[Array.getInternal_eq_getElem];rw[Array.getElem_setIfInBounds_ne];exact λx=>c x.symm
  ·rfl
def EOk.zgH {n:Nat}{ms:List Dfr}{e:Env}(h:EOk n ms e a)(v:Value):EOk n ms e (a.put none v):=h
def Sub (e c:Env):Prop:=∀i v,fnd e i=some v->fnd c i=some v
theorem Sub.nil {e:Env}:Sub [] e:=λ_ _ h=>by simp[fnd] at h
theorem Sub.cons {e d:Env}{v:Value}(h:fnd d i=some v)(hr:Sub e d):Sub ((i,v)::e) d:=λj u c=>by
 simp only[fnd] at c
 split at c
 ·rename_i l
  have:=y2P l;subst this;simp at c;subst c;exact h
 ·exact hr j u c
theorem EOk.sub {n:Nat}{ms:List Dfr}{e c:Env}(h:EOk n ms c a)(d:Sub e c):EOk n ms e a:=⟨h.size,h.defers,λi v hi=>h.get i v (d i v hi)⟩
def z1b (S:Value->World->Prop):Ending->World->Prop:=λx w'=>∃v,x= .returned v/\S v w'
def z3H (P:Program)(f:FuncId)(rd:Option Nat)(dk:Bool)(R:Ending->World->Prop)(m:Machine)(cs:List Frame):Prop:=
 match rd with
 |none=>∃x w' fr,R x w'/\Comes P m (lone fr cs w') x/\fr.fn=f/\(match dk with|false=>fr.leaving P w' x|true=>fr.kind= .deferred/\fr.going P w' x)
 |some _=>∀c d,cs=c::d->∃x w',R x w'/\Comes P m (match x with| .returned v=>lone (c.finish v) d w'| .panicked h=>lone (c.raise h) d w'| .outgrown=>lone c d w') x
theorem z3H.of_steps {rd:Option Nat}{dk:Bool}{m A:Machine}{cs:List Frame}(v:Steps P m A)(h:z3H P f rd dk R A cs):z3H P f rd dk R m cs:=by
 cases rd with
 | none =>
   obtain⟨x,w',fr,q,r,B,D⟩:=h
   exact⟨x,w',fr,q,y3A v r,B,D⟩
 | some l =>
   intro c d u;obtain⟨x,w',q,r⟩:=h c d u;exact⟨x,w',q,y3A v r⟩
def zoN:Bool->CallKind
 |false=> .normal
 |true=> .deferred
def z0b (P:Program)(f:FuncId)(rd:Option Nat)(dk:Bool)(R:Ending->World->Prop)(k:List Item)(a:Act)(w:World):Prop:=
 ∀(b:Frame),b.fn=f->b.kind=zoN dk->b.roundOf=rd->∀cs,z3H P f rd dk R (lone (b.atR a k) cs w) cs
structure Cx where
 P:Program
 f:FuncId
 R:Value->World->Prop
 n:Nat
 rd:Option Nat:=none
 ms:List Dfr:=[]
 dk:Bool:=false
def SI (C:Cx)(k:List Item)(e:Env)(w:World):Prop:=∀a,EOk C.n C.ms e a->z0b C.P C.f C.rd C.dk (z1b C.R) k a w
theorem SI.sub {C:Cx}{e c:Env}(h:SI C k e w)(l:Sub e c):SI C k c w:=λa d=>h a (d.sub l)
def z0b.step {P:Program}{f:FuncId}{rd:Option Nat}{dk:Bool}{R:Ending->World->Prop}{k k':List Item}{a c:Act}{w w':World}
  (q:∀(b:Frame) cs,step P (lone (b.atR a k) cs w)= .next (lone (b.atR c k') cs w')) (h:z0b P f rd dk R k' c w'):z0b P f rd dk R k a w:=λb d l hr cs=>
 (h b d l hr cs).of_steps (.one (q b cs))
def WF (rd:Option Nat):Fence:={fn:=λ_=>True,depth:=none,alive:=false,round:=rd}
def zbL (rd:Option Nat)(n:Nat):(WF rd).room n:=λ_ h=>by simp[WF] at h
section
variable {C:Cx}{k':List Item}{e:Env}
theorem It {x y:Code}(h:SI C (.code x:: .code y::k) e w):SI C (.code (.seq x y)::k) e w:=λa c=>z0b.step (λ_ _=>stepR_seq) (h a c)
theorem S6 (h:SI C k e w):SI C (.code .skip::k) e w:=λa c=>z0b.step (λ_ _=>stepR_skip) (h a c)
theorem z5K {l:Nat}(h:SI C k e w):SI C (.code (.label l)::k) e w:=λa c=>z0b.step (λ_ _=>stepR_label) (h a c)
theorem S7 {c:Code}(h:SI C (.code c:: .inBlock id::k) e w):SI C (.code (.block id c)::k) e w:=λa d=>z0b.step (λ_ _=>stepR_block) (h a d)
theorem S2 (h:SI C k e w):SI C (.inBlock id::k) e w:=λa c=>z0b.step (λ_ _=>stepR_inBlock) (h a c)
theorem Sh (d:exitTo id k=some k')(h:SI C k' e w):SI C (.code (.exit id)::k) e w:=λa c=>z0b.step (λ_ _=>stepR_exit d) (h a c)
theorem z5a {c:Code}(h:SI C (.code c:: .inLoop c::k) e w):SI C (.inLoop c::k) e w:=λa d=>z0b.step (λ_ _=>stepR_inLoop) (h a d)
theorem TL {c:Operand}{x y:Code}{t:Bool}(h:look e c=some (.bool t))(ht:t=true->SI C (.code x::k) e w)(l:t=false->SI C (.code y::k) e w):SI C (.code (.cond c x y)::k) e w:=λa d=>by
 cases t with
 |true=>exact z0b.step (k':= .code x::k) (λ_ _=>by simpa using stepR_cond (d.look h)) (ht O a d)
 |false=>exact z0b.step (k':= .code y::k) (λ_ _=>by simpa using stepR_cond (d.look h)) (l O a d)
def So {c:Operand}{x y:Code}[hp:Decidable p](d:look e c=some (.bool (decide p)))(ht:p->SI C (.code x::k) e w)(l:¬p->SI C (.code y::k) e w):SI C (.code (.cond c x y)::k) e w:=
 TL d (λh=>ht (of_decide_eq_true h)) (λh=>l (of_decide_eq_false h))
def Sb {c:Operand}{x y:Code}(d:look e c=some (.bool true))(h:SI C (.code x::k) e w):SI C (.code (.cond c x y)::k) e w:=TL d (λ_=>h) (λh=>by cases h)
def S9 {c:Operand}{x y:Code}(d:look e c=some (.bool false))(h:SI C (.code y::k) e w):SI C (.code (.cond c x y)::k) e w:=TL d (λh=>by cases h) (λ_=>h)
theorem zgD {α:Type}{c:Code}(h:α)(E:α->Env)(I:α->World->Prop)(μ:α->Nat)(l:Sub (E h) e)(q:I h w)
  (round:∀x w,I x w->(∀y w',I y w'->μ y<μ x->SI C (.inLoop c::k) (E y) w')->SI C (.code c:: .inLoop c::k) (E x) w):SI C (.code (.loop c)::k) e w:=by
 have key:∀n x w,μ x=n->I x w->SI C (.code c:: .inLoop c::k) (E x) w:=by
  intro n
  induction n using Nat.strongRecOn with
  | _ n B =>
    intro x w u v;exact round x w v λy w' A d=>z5a (B (μ y) (u▸d) y w' O A)
 exact λa r=>z0b.step (λ_ _=>stepR_loop) (key _ h w O q a (r.sub l))
end
def QK (C:Cx)(k:List Item):Exit->Act->World->Prop
 | .normal,a,w=>z0b C.P C.f C.rd C.dk (z1b C.R) k a w
 |_,_,_=>False
theorem QK.no {C:Cx}:¬LetsOut (QK C k):=λ⟨_,_,h⟩=>h
theorem z2b {C:Cx}{c:Code}{n:Nat}(h:c.wpIn (WF C.rd) n C.P (QK C k) a w):z0b C.P C.f C.rd C.dk (z1b C.R) (.code c::k) a w:=by
 intro b r u hr cs
 obtain⟨x,v,w',q,d⟩:=h b k cs hr trivial (zbL _ _)
 cases x with
 |normal=>exact(q b r u hr cs).of_steps (StepsIn.steps d)
 |outgrown=>exact q.elim
 |exit id=>exact q.elim
 |goto l=>exact q.elim
 |ret=>exact q.elim
 |panic A=>exact q.elim
def resOf (e:Env):List ResultVar->Option (List Value)
 |[]=>some []
 | .tmp t :: r => match fnd e t, resOf e r with
   |some v,some vs=>some (v::vs)
   |_,_=>none
 |_=>none
def TC:List Value->Value
 |[v]=>v
 |vs=> .tuple vs.toArray
def resM (a:Act):ResultVar->Sem Value
 | .tmp t=>pure (a.tmps.getD t undef)
 | .cell x t=>do loadVar t (<-asAddr (a.tmps.getD x undef))
theorem zfT {n:Nat}{ms:List Dfr}{e:Env}(q:EOk n ms e a)(P:Program)(w:World):∀(rs:List ResultVar)(vs:List Value),resOf e rs=some vs->
  Sem.run P (rs.mapM (resM a)) w= .ok vs w:=by
 intro rs
 induction rs with
 |nil=>intro vs h;simp[resOf] at h;subst h;simp[go_sem]
 | cons r rs A =>
   intro vs h
   cases r with
   |cell x t=>simp[resOf] at h
   | tmp t =>
     simp only[resOf] at h;split at h
     ·rename_i v d u c
      simp at h;subst h;have l:=A d c;have hg:resM a (.tmp t)=pure v:=by simp only[resM];rw[q.get t v u]
      rw[y2D,hg];simp only[pure_bind,y09,l,Result.andThen,y05]
     ·cases h
def WJ {n:Nat}{ms:List Dfr}{e:Env}(c:EOk n ms e a)(P:Program)(w:World)(fn:Func)(vs:List Value)(h:resOf e fn.results.toList=some vs):
  (results fn a.tmps).run P w= .ok (TC vs) w:=by
 have l:=zfT c P w _ _ h
 have d:results fn a.tmps=(do
   let us<-fn.results.mapM (resM a)
   pure (if h:us.size=1 then us[0] else .tuple us)):=rfl
 rw[d,<-y3n (xs:=fn.results),List.mapM_toArray]
 simp only[y09,map_eq_pure_bind,l,Result.andThen,y05]
 cases vs with
 |nil=>simp[TC]
 | cons v r => cases r with
   |nil=>simp[TC]
   |cons u r=>simp[TC]
def Vu (ms:List Dfr)(w:World):Prop:=∀d∈ms,∃D,d= .mk D/\w.heap[D]? =some (.deferred (some []))
def Wh:List Dfr->World->World
 |[],w=>w
 | .mk D::ms,w=>Wh ms (w.putObj D (.deferred none))
 | .call .. ::ms,w=>Wh ms w
def ZE {P:Program}{fn:Func}{tmps:Array Value}{R:Ending->World->Prop}{v:Value}:∀(ms:List Dfr)(w:World),ms.Nodup->Vu ms w->
  (results fn tmps).run P (Wh ms w)= .ok v (Wh ms w)->R (.returned v) (Wh ms w)->LeavesInM Fence.wide 0 P fn tmps R (marks ms) .returning w
 |[],w,_,_,hr,hR=>⟨v,hr,hR⟩
 | .call f c a :: ms, w, _, hm, _, _ => by
   obtain⟨D,h,-⟩:=hm _ (y0s ..)
   cases h
 | .mk D :: ms, w, hd, hm, hr, hR => by
   obtain⟨D',h,r⟩:=hm _ (y0s ..);cases h;refine⟨ξ,.inl ⟨D,_,O,run_takeDeferred r,?_⟩⟩;refine ZE ms _ (y19.1 hd).2 (λd l=>?_) hr hR;obtain⟨D',rfl,q⟩:=hm d (by simp[l]);refine⟨D',O,?_⟩;rw[World.putObj_heap_other (λh=>(y19.1 hd).1 (by subst h;exact l))];exact q
section
variable {C:Cx}{e:Env}
theorem z3v {m:Machine}{b:Frame}{cs:List Frame}{ms:List Dfr}(v:P.funcs[f]? =some fn)(r:b.fn=f)(A:b.kind= .normal)
  (u:a.defers=marks ms) (B:LeavesInM Fence.wide 0 P fn a.tmps R (marks ms) .returning w)
  (D:Steps P m (lone {b.atR a todo with mode:= .returning} cs w)):z3H P f none false R m cs:=by
 subst r
 obtain⟨x,w',d,h,q,c,l⟩:=leaves_stepsInM (F:=Fence.wide) (n:=0) a.defers .returning w {b.atR a todo with mode:= .returning} cs O O O v A trivial (room_wide _)
  (by rw[u];exact B)
 exact⟨x,w',d,h,y3A D (comesIn_wide.1 q),c,l⟩
theorem z7F (h:C.rd=none)(d:C.dk=false)(u:C.P.funcs[C.f]? =some fn)
  (hr:∀a,EOk C.n C.ms e a->LeavesInM Fence.wide 0 C.P fn a.tmps (z1b C.R) (marks C.ms) .returning w):SI C (.code .ret::k) e w:=λa l b r q c cs=>by
 rw[d] at q⊢
 rw[h] at c⊢
 exact z3v u r q l.defers (hr a l) (.one (stepR_ret c))
theorem zeT (h:C.rd=none)(d:C.dk=false)(u:C.P.funcs[C.f]? =some fn)
  (hr:∀a,EOk C.n C.ms e a->LeavesInM Fence.wide 0 C.P fn a.tmps (z1b C.R) (marks C.ms) .returning w):SI C [] e w:=λa l b r q c cs=>by
 rw[d] at q⊢
 rw[h] at c⊢
 exact z3v u r q l.defers (hr a l) (.one (stepR_end c))
theorem z27 (d:C.rd=none)(l:C.P.funcs[C.f]? =some fn)(r:C.ms.Nodup)(q:Vu C.ms w)
  (hr:∀a,EOk C.n C.ms e a->∃v,(results fn a.tmps).run C.P (Wh C.ms w)= .ok v (Wh C.ms w)/\z1b C.R (.returned v) (Wh C.ms w)) (c:C.dk=false:=by rfl):SI C (.code .ret::k) e w:=
 z7F d c l λa h=>let ⟨_,h1,h2⟩:=hr a h;ZE _ _ r q h1 h2
def zgm (d:C.rd=none)(l:C.P.funcs[C.f]? =some fn)(r:C.ms.Nodup)(q:Vu C.ms w)
  (hr:∀a,EOk C.n C.ms e a->∃v,(results fn a.tmps).run C.P (Wh C.ms w)= .ok v (Wh C.ms w)/\z1b C.R (.returned v) (Wh C.ms w)) (c:C.dk=false:=by rfl):SI C [] e w:=
 zeT d c l λa h=>let ⟨_,h1,h2⟩:=hr a h;ZE _ _ r q h1 h2
def z8L {m:Machine}{b:Frame}{cs:List Frame}{v:Value}(l:P.funcs[f]? =some fn)(d:b.fn=f)(q:b.kind= .deferred)
  (h:a.defers=[]) (hr:(results fn a.tmps).run P w= .ok v w) (c:R (.returned v) w)
  (r:Steps P m (lone {b.atR a todo with mode:= .returning} cs w)):z3H P f none true R m cs:=by
 subst d
 exact⟨.returned v,w,_,c,r,O,q,O,h,fn,l,hr⟩
theorem z4w (l:C.rd=none)(d:C.dk=true)(h:C.ms=[])(B:C.P.funcs[C.f]? =some fn)
  (hr:∀a,EOk C.n C.ms e a->∃v,(results fn a.tmps).run C.P w= .ok v w/\z1b C.R (.returned v) w):SI C [] e w:=λa q b A r c cs=>by
 obtain⟨v,u,x⟩:=hr a q
 rw[d] at r⊢
 rw[l] at c⊢
 exact z8L B A r (by rw[q.defers,h];rfl) u x (.one (stepR_end c))
end
section
variable {R:Value->World->Prop}{n:Nat}{e:Env}
def S3 (l:P.funcs[f]? =some fn)(hr:resOf e fn.results.toList=some vs)(c:z1b R (.returned (TC vs)) w):SI ⟨P,f,R,n,none,[],false⟩ (.code .ret::k) e w:=
 z27 O l y1G (λ_ h=>by cases h) λa d=>⟨_,WJ d P w fn vs hr,c⟩
def Tv (l:P.funcs[f]? =some fn)(hr:resOf e fn.results.toList=some vs)(c:z1b R (.returned (TC vs)) w):SI ⟨P,f,R,n,none,[],false⟩ [] e w:=
 zgm O l y1G (λ_ h=>by cases h) λa d=>⟨_,WJ d P w fn vs hr,c⟩
def z9p {ms:List Dfr}(q:ms.Nodup)(l:Vu ms w)(h:P.funcs[f]? =some fn)(hr:resOf e fn.results.toList=some vs)(c:z1b R (.returned (TC vs)) (Wh ms w)):SI ⟨P,f,R,n,none,ms,false⟩ (.code .ret::k) e w:=
 z27 O h q l λa d=>⟨_,WJ d P _ fn vs hr,c⟩
end
def envOf:Nat->List Value->Env
 |_,[]=>[]
 |i,v::r=>(i,v)::envOf (i+1) r
def z0O:∀(l:List Value)(i j:Nat) (v:Value),fnd (envOf i l) j=some v->i<=j/\l[j-i]? =some v
 |[],_,_,_,h=>by simp[envOf,fnd] at h
 | u :: r, i, j, v, h => by
   simp only[envOf,fnd] at h;split at h
   ·rename_i c
    have:=y2P c;subst this
    simpa using h
   ·rename_i c
    have x:j≠i:=λq=>by subst q;simp at c
    obtain⟨A,d⟩:=z0O r (i+1) j v h;refine⟨ω,?_⟩;have:j-i=(j-(i+1))+1:=ω
    rw[this]
    simpa using d
def SG (P:Program)(f:FuncId)(args:List Value)(w:World)(S:Value->World->Prop):Prop:=
 Calls P f args.toArray w λx w'=>∃v,x= .returned v/\S v w'
def SG.mono {S S':Value->World->Prop}(h:SG P f args w S)(c:∀v w',S v w'->S' v w'):SG P f args w S':=
 y1P h λ_ _ ⟨v,l,d⟩=>⟨v,l,c _ _ d⟩
def zby (P:Program)(f:FuncId)(args:List Value)(w:World)(S:Value->World->Prop):Prop:=
 CallsDIn Fence.wide 0 P f args.toArray .returning w λx u w'=>u= .returning/\∃v,x= .returned v/\S v w'
theorem py {c:Code}{e:Env}{S:Value->World->Prop}{n:Nat}
  (D:P.funcs[f]? =some fn) (A:fn.body=some c) (r:fn.ntmps=n) (E:Nat.ble args.length n=true) (B:envOf 0 args=e)
  (h:SI ⟨P,f,S,n,none,[],false⟩ [.code c] e w):SG P f args w S:=by
 subst r
 intro cs
 let b:Frame:={(default:Frame) with fn:=f,kind:= .normal,roundOf:=none}
 have F:args.length<=fn.ntmps:=by simpa using E
 let a:Act:={tmps:=args.toArray++Array.replicate (fn.ntmps-args.toArray.size) undef,defers:=[]}
 have d:Frame.enter P f args.toArray .normal=b.atR a [.code c]:=by
  simp[Frame.enter,Frame.atR,D,A,b,a]
 have u:EOk fn.ntmps [] e a:=by
  refine⟨by simp[a];omega,rfl,λi v hi=>?_⟩;subst B;obtain⟨-,q⟩:=z0O args 0 i v hi;simp at q
  have l:i<args.length:=by
   rcases y0a i args.length with h| h
   ·exact h
   ·simp[y0n h] at q
  have x:args[i]=v:=by simpa[y04 l] using q
  simp only[a,Array.getD];rw[dif_pos (by simp;omega)];simp[l,x]
 rw[d]
 exact h a u b O O O cs
theorem z8g {c:Code}{e:Env}{S:Value->World->Prop}{n:Nat}
  (I:P.funcs[f]? =some fn) (F:fn.body=some c) (A:fn.ntmps=n) (L:Nat.ble args.length n=true) (H:envOf 0 args=e)
  (h:SI ⟨P,f,S,n,none,[],true⟩ [.code c] e w):zby P f args w S:=by
 subst A
 refine⟨trivial,λc0 cs N _=>?_⟩
 let b:Frame:={(default:Frame) with fn:=f,kind:= .deferred,roundOf:=none}
 have M:args.length<=fn.ntmps:=by simpa using L
 let a:Act:={tmps:=args.toArray++Array.replicate (fn.ntmps-args.toArray.size) undef,defers:=[]}
 have d:Frame.enter P f args.toArray .deferred=b.atR a [.code c]:=by
  simp[Frame.enter,Frame.atR,I,F,b,a]
 have B:EOk fn.ntmps [] e a:=by
  refine⟨by simp[a];omega,rfl,λi v hi=>?_⟩;subst H;obtain⟨-,q⟩:=z0O args 0 i v hi;simp at q
  have l:i<args.length:=by
   rcases y0a i args.length with h| h
   ·exact h
   ·simp[y0n h] at q
  have D:args[i]=v:=by simpa[y04 l] using q
  simp only[a,Array.getD];rw[dif_pos (by simp;omega)];simp[l,D]
 obtain⟨x,w',fr,E,G,u,J,hg⟩:=h a B b O O O (c0::cs)
 have r:({c0 with mode:= .returning}:Frame)=c0:=by cases c0;simp_all
 rw[d]
 exact⟨x,.returning,w',fr,⟨O,E⟩,by rw[r];exact comesIn_wide.2 G,J,u,hg⟩
def wantE (ops:List Oper)(e:Env):Option (Nat×Bool)->Option Bool
 |none=>some true
 | some (j, b) => match ops[j]? with
   |none=>none
   | some h => match h.dst with
     |none=>none
     | some d => match fnd e d with
       |some (.bool c)=>some (match b with|true=>c|false=>!c)
       |some (.tuple _)=>some false
       |_=>none
theorem z9T {n:Nat}{ms:List Dfr}{e:Env}{t:Bool}(E:EOk n ms e a)(G:∀(j:Nat)(r:Oper) (d:Nat),ops[j]? =some r->r.dst=some d->Nat.blt d n=true)
  (h:wantE ops e o.guard=some t):Region.wanted o (yielded ops.toArray a.tmps)=t:=by
 unfold Region.wanted
 cases hg:o.guard with
 |none=>rw[hg] at h;simp[wantE] at h;simp[h]
 | some p =>
   obtain⟨j,b⟩:=p;rw[hg] at h;simp only[wantE] at h;split at h
   ·cases h
   ·rename_i r B
    split at h
    ·cases h
    ·rename_i d x
     have A:d<n:=by simpa using G j r d B x
     have q:∀v,fnd e d=some v->a.tmps[d]? =some v:=λv H=>by
      have F:=E.get d v H;have C:d<a.tmps.size:=by rw[E.size];exact A
      rw[y3M C]
      simpa[Array.getD,C] using F
     split at h
     ·rename_i c u
      have:=q _ u;simp only[yielded,y2a,B,y38,x,this];cases b<;>cases c<;>simp_all
     ·rename_i u
      have:=q _ u;simp only[yielded,y2a,B,y38,x,this]
      simp_all
     ·cases h
def Vm (n:Nat)(ops:List Oper):Bool:=ops.all λo=>match o.dst with|some d=>Nat.blt d n|none=>true
def z83 {n:Nat}(h:Vm n ops=true):∀(j:Nat)(c:Oper) (d:Nat),ops[j]? =some c->c.dst=some d->Nat.blt d n=true:=λj c d r q=>by
 have:=y1H.1 h c (y0i r)
 simpa[q] using this
def Y (P:Program)(e:Env)(o:Oper)(v:Value)(w w':World):Prop:=
 ∀ρ:Operand->Value,(∀x v,look e x=some v->ρ x=v)->(execOp ρ o).run P w= .ok (.value v) w'
def Z (P:Program)(e:Env)(o:Oper)(w w':World):Prop:=
 ∀ρ:Operand->Value,(∀x v,look e x=some v->ρ x=v)->(execOp ρ o).run P w= .ok .skip w'
def Yc (P:Program)(e:Env)(o:Oper)(f:FuncId)(args:List Value)(w:World):Prop:=
 ∀ρ:Operand->Value,(∀x v,look e x=some v->ρ x=v)->(execOp ρ o).run P w= .ok (.enter f args.toArray) w
def z4l {rd:Option Nat}{n:Nat}{args:Array Value}(h:Calls P f args w R):CallsIn (WF rd) n P f args w R:=
 (callsIn_wide (n:=n)).2 h
def z2l {rd:Option Nat}:(WF rd).depth.isSome=true->1<=0:=λh=>by cases h
theorem Ya {rd:Option Nat}{x:Next}(h:(execOp ρ o).run P w= .ok x w')(q:∀d,x≠ .defer d):(o.semAt rd ρ).run P w= .ok x w':=by
 unfold Oper.semAt
 split
 ·rename_i l c n
  exfalso;simp only[execOp,n,y09] at h
  cases hr:(resolve ρ c o.type).run P w with
  | ok d w1 =>
    rw[hr] at h;simp only[Result.andThen,y05,Result.ok.injEq] at h
    exact q d h.1.symm
  | halt y w1 =>
    rw[hr] at h;simp[Result.andThen] at h
 ·exact h
def calm (ops:List Oper):Bool:=ops.all λo=>match o.op with| .defer _=>false|_=>true
theorem zaL {rd:Option Nat}(n:∀c,o.op≠ .defer c)(h:o.wp P a w K Q):o.wpIn (WF rd) 0 P a w K Q:=by
 refine⟨λ_ _=>trivial,?_⟩
 rw[Oper.semAt_eq _ _ _ n]
 unfold Oper.wp at h
 generalize (execOp a.eval o).run P w=r at h⊢
 cases r with
 | ok x w' =>
   cases x<;>simp only[Oper.upon,Oper.uponIn] at h⊢<;>
    first
     |exact h
     |exact h.elim
     |exact⟨z2l,z4l h⟩
     |exact⟨z2l,λc cs _=>let ⟨v,w',hR,hs⟩:=h c cs;⟨v,w',hR,stepsIn_wide.2 hs⟩⟩
 |halt x w'=>cases x<;>simp only[Oper.upon,Oper.uponIn] at h⊢<;>exact h
def AtR (P:Program)(ops:Array Oper)(Q:Exit->Act->World->Prop)(i:Nat)(K:Act->World->Prop)(a:Act)(w:World):Prop:=
 wpOp P ops Q i K a w\/∃o,ops[i]? =some o/\Region.wanted o (yielded ops a.tmps)=true/\∃l f tmps c bd,(execOp a.eval o).run P w= .ok (.round l f tmps c bd) w/\
  RoundIn Fence.wide 0 P l f tmps c bd w λe h=>∃v,e= .returned v/\K (a.put o.dst v) h
theorem AtR.mono {ops:Array Oper}(n:∀a w,K a w->K' a w)(h:AtR P ops Q i K a w):AtR P ops Q i K' a w:=by
 rcases h with h|⟨o,u,A,l,f,tm,c,bd,hr,q⟩
 ·exact .inl (wpOp_mono n h)
 ·exact .inr ⟨o,u,A,l,f,tm,c,bd,hr,q.mono λe w' ⟨v,r,x⟩=>⟨v,r,n _ _ x⟩⟩
def XF (P:Program)(ops:Array Oper)(Q:Exit->Act->World->Prop)(S:World->Prop):Nat->Array Bool->Act->World->Prop
 |0,listed,a,w=>Region.ready .any ops listed=[]/\Q .normal a w
 | n + 1, listed, a, w => (Region.ready .any ops listed = [] -> Q .normal a w) /\
     ∀i∈Region.ready .any ops listed,AtR P ops Q i (λc w'=>S w'/\XF P ops Q S n (listed.setIfInBounds i true) c w') a w
theorem zbc {rd:Option Nat}(G:calm ops=true)(C:¬LetsOut Q)(r:∀a w,K a w->K' a w)
  (h:AtR P ops.toArray Q i K a w):wpOpIn (WF rd) 0 P ops.toArray Q i K' a w:=by
 rcases h with n|⟨o,q,u,l,f,tm,x,bd,hr,F⟩
 ·unfold wpOp at n;unfold wpOpIn
  cases q:ops.toArray[i]? with
  | none =>
    rw[q] at n
    exact r _ _ n
  | some o =>
    rw[q] at n
    have B:∀c,o.op≠ .defer c:=λc I=>by
     have E:=y1H.1 G o (y0i (by simpa using q));rw[I] at E;cases E
    by_cases u:Region.wanted o (yielded ops.toArray a.tmps)=true
    ·simp only[u,if_true] at n⊢;rcases n with n|n
     ·exact Oper.wpIn_mono r (zaL B n)
     ·exact absurd n.2 C
    ·simp only[u] at n⊢;exact⟨λ_ _=>trivial,r _ _ n⟩
 ·unfold wpOpIn;simp only[q,u,if_true];refine⟨λ_ _=>trivial,?_⟩;rw[Ya hr (λ_ h=>by cases h)];refine⟨z2l,?_⟩
  have A:RoundIn Fence.wide 0 P l f tm x bd w fun
    | .returned v,w''=>K' (a.put o.dst v) w''
    | .panicked chain,w''=>Q (.panic chain) a w''
    | .outgrown,_=>LetsOut Q:=F.mono λe w' ⟨v,H,J⟩=>by subst H;exact r _ _ J
  exact A
def z00 {P:Program}{rd:Option Nat}{ops:List Oper}{Q:Exit->Act->World->Prop}{S:World->Prop}(n:calm ops=true)(c:¬LetsOut Q):∀(fuel:Nat)(listed:Array Bool) (a:Act) (w:World),
  XF P ops.toArray Q S fuel listed a w->wpAnyIn (WF rd) 0 P .any ops.toArray Q fuel listed a w
 |0,_,_,_,h=>h
 |fuel+1,_,_,_,h=>⟨h.1,λi hi=>zbc n c (λ_ _ q=>z00 n c fuel _ _ _ q.2) (h.2 i hi)⟩
section
variable {ops:Array Oper}{S:World->Prop}
theorem z42 {n:Oper}{v:Value}(B:ops[j]? =some n)(q:oi.apart ops n=true)(r:∀cs b,oi.op≠ .select cs b)(x:∀cs b,n.op≠ .select cs b)
  (M:∀c a w,Q (.panic c) (a.put oi.dst v) w->Q (.panic c) a w) (I:YieldsIf P ops S oi v a) (h:AtR P ops Q j K (a.put oi.dst v) w):AtR P ops Q j (λC w'=>YieldsIf P ops S oi v C/\K (C.put oi.dst v) w') a w:=by
 rcases h with h|⟨o,G,H,l,f,tm,A,bd,hr,N⟩
 ·exact .inl (wpOp_putIf B q r x M I h)
 ·obtain rfl:n=o:=by rw[B] at G;exact y1i G
  obtain⟨E,J,F⟩:=Oper.apart_spec q;rw[wanted_put n a oi.dst v E] at H;rw[execOp_put n x a oi.dst v E] at hr;exact .inr ⟨n,B,H,l,f,tm,A,bd,hr,N.mono λe w' ⟨u,O,L⟩=>⟨u,O,I.of_same (execOp_put oi r a n.dst u F) (wanted_put oi a n.dst u F),by rw[<-Act.put_comm a v u J];exact L⟩⟩
def Xu {v:Value}(hi:ops[i]? =some o)(n:YieldsIf P ops S o v a)(c:S w)(h:K (a.put o.dst v) w):AtR P ops Q i K a w:= .inl (n.wpOp hi c h)
theorem z3u {v:Value}(hi:ops[i]? =some oi)(h:∀(j:Nat)(o:Oper) cs b,ops[j]? =some o->o.op≠ .select cs b)(f:∀c a w,Q (.panic c) (a.put oi.dst v) w->Q (.panic c) a w):∀(n:Nat)(listed:Array Bool) (a:Act) (w:World),
  (∀j u,ops[j]? =some u->j≠i->listed.getD j true=false->(∀e∈u.after,Region.binds .any e=true->e.on≠i)->oi.apart ops u=true)->i∈Region.ready .any ops listed->YieldsIf P ops S oi v a->S w->
  XF P ops Q S n (listed.setIfInBounds i true) (a.put oi.dst v) w->XF P ops Q S (n+1) listed a w:=by
 intro n
 induction n with
 | zero =>
   intro listed a w _ hr N B H;constructor
   ·intro O;rw[O] at hr;cases hr
   ·intro j M;by_cases e:j=i
    ·subst e;exact Xu hi N B ⟨B,H⟩
    ·exact absurd (ready_mono M e) (by rw[H.1];exact y2e)
 | succ n s =>
   intro listed a w E hr N B H;constructor
   ·intro O;rw[O] at hr;cases hr
   ·intro j M;by_cases e:j=i
    ·subst e;exact Xu hi N B ⟨B,H⟩
    ·obtain⟨J,u,q,C⟩:=mem_ready.1 M;have I:listed.getD i true=false:=(mem_ready.1 hr).1
     have r:∀x∈u.after,Region.binds .any x=true->x.on≠i:=λx p g U=>by
      have A:=C x p g;rw[U] at A;by_cases V:i<listed.size
      ·simp[V] at I A;rw[I] at A;cases A
      ·simp[y1M (by omega:listed.size<=i)] at A
     have Z:=z42 q (E j u q e J r) (λcs b=>h i oi cs b hi) (λcs b=>h j u cs b q) f N (H.2 j (ready_mono M e));refine AtR.mono (λY w' L=>⟨L.2.1,?_⟩) Z;refine s (listed.setIfInBounds j true) Y w' (λm t k W G X=>?_) (ready_mono hr (Ne.symm e)) L.1 L.2.1 ?_
     ·refine E m t k W ?_ X;by_cases F:j=m
      ·subst F;exact J
      ·rw[getD_set_ne true F] at G;exact G
     ·rw[y2L _ _ e];exact L.2.2
def z5o {v:Value}(hi:ops[i]? =some oi)(u:Region.noSelect ops=true)(r:Region.free .any ops listed i=true)(hr:(Region.ready .any ops listed).contains i=true)
  (n:∀c a w,Q (.panic c) (a.put oi.dst v) w->Q (.panic c) a w) (x:YieldsIf P ops S oi v a) (q:S w) (h:XF P ops Q S fuel (listed.setIfInBounds i true) (a.put oi.dst v) w):XF P ops Q S (fuel+1) listed a w:=
 z3u hi (y3t u) n fuel listed a w (y3z hi r) (by simpa using hr) x q h
def zcX (hr:Region.ready .any ops listed=rs)(c:rs≠[])(h:∀i∈rs,AtR P ops Q i (λn w'=>S w'/\XF P ops Q S fuel (listed.setIfInBounds i true) n w') a w):XF P ops Q S (fuel+1) listed a w:=
 ⟨λq=>absurd (hr▸q) c,hr▸h⟩
def z9O (hr:Region.ready .any ops listed=[])(h:Q .normal a w):∀fuel,XF P ops Q S fuel listed a w
 |0=>⟨hr,h⟩
 |_+1=>⟨λ_=>h,by rw[hr];simp⟩
end
structure RC where
 C:Cx
 ops:List Oper
 k:List Item
 ok:Vm C.n ops=true
def RL (D:RC)(l:List Oper)(e:Env)(w:World):Prop:=∀a,EOk D.C.n D.C.ms e a->wpListIn (WF D.C.rd) 0 D.C.P D.ops.toArray (QK D.C D.k) l a w
theorem Sg {C:Cx}{e:Env}(q:Vm C.n ops=true)(h:RL ⟨C,ops,k,q⟩ ops e w):SI C (.code (.region id ops.toArray false)::k) e w:=
 λa c=>z2b (wpIn_region_lit (h a c))
def okg (ops:List Oper)(e:Env)(t:Bool):Option (Nat×Bool)->Bool
 |none=>t
 |some p=>match wantE ops e (some p),t with|some true,true=>true|some false,false=>true|_,_=>false
def VN (D:RC)(e:Env)(g:Option (Nat×Bool))(t:Bool):Bool:=okg D.ops e t g
theorem Vp {D:RC}{e:Env}{t:Bool}(q:EOk D.C.n D.C.ms e a)(h:VN D e o.guard t=true):Region.wanted o (yielded D.ops.toArray a.tmps)=t:=by
 refine z9T q (z83 D.ok) ?_
 unfold VN okg at h
 split at h
 ·rename_i hg
  rw[hg];simp only[wantE];rw[h]
 ·rename_i p hg
  rw[hg];split at h
  ·rename_i c;exact c
  ·rename_i c;exact c
  ·cases h
section
variable {D:RC}{l:List Oper}{e:Env}{d:Nat}{op:Op}{pos:String}
theorem S5 (h:SI D.C D.k e w):RL D [] e w:=λa c=>h a c
def wpList_want {F:Fence}{n:Nat}{ops:Array Oper}{rest:List Oper}(c:Region.wanted o (yielded ops a.tmps)=true)
  (h:o.wpIn F n P a w (wpListIn F n P ops Q rest) Q):wpListIn F n P ops Q (o::rest) a w:=by
 simp only[wpListIn,c,if_true];exact h
theorem Z4 {v:Value}(r:VN D e g true=true)(q:Nat.blt d D.C.n=true)(A:Y D.C.P e ⟨some d,op,ty,pos,aft,g⟩ v w w')(h:RL D l ((d,v)::e) w'):
  RL D (⟨some d,op,ty,pos,aft,g⟩::l) e w:=λa c=>by
 refine wpList_want (Vp c r) ⟨λ_ _=>trivial,?_⟩
 have:=A a.eval (λx v u=>c.look u)
 rw[Ya this (λ_ h=>by cases h)]
 exact h _ (c.put q v)
theorem zkL {v:Value}(n:VN D e g true=true)(r:Y D.C.P e ⟨none,op,ty,pos,aft,g⟩ v w w')(h:RL D l e w'):
  RL D (⟨none,op,ty,pos,aft,g⟩::l) e w:=λa c=>by
 refine wpList_want (Vp c n) ⟨λ_ _=>trivial,?_⟩
 have:=r a.eval (λx v q=>c.look q)
 rw[Ya this (λ_ h=>by cases h)]
 exact h _ (c.zgH v)
theorem zoG (n:VN D e g true=true)(r:Z D.C.P e ⟨none,op,ty,pos,aft,g⟩ w w')(h:RL D l e w'):
  RL D (⟨none,op,ty,pos,aft,g⟩::l) e w:=λa c=>by
 refine wpList_want (Vp c n) ⟨λ_ _=>trivial,?_⟩
 have:=r a.eval (λx v q=>c.look q)
 rw[Ya this (λ_ h=>by cases h)]
 exact h _ (c.zgH undef)
theorem zn6 (r:VN D e g false=true)(q:Nat.blt d D.C.n=true)(h:RL D l ((d,undef)::e) w):RL D (⟨some d,op,ty,pos,aft,g⟩::l) e w:=λa c=>by
 have u:=Vp (o:=⟨some d,op,ty,pos,aft,g⟩) c r
 simp only[wpListIn,u]
 exact⟨λ_ _=>trivial,h _ (c.put q undef)⟩
theorem Uk {S:Value->World->Prop}(A:VN D e g true=true)(u:Nat.blt d D.C.n=true)(E:Yc D.C.P e ⟨some d,op,ty,pos,aft,g⟩ f args w)
  (r:SG D.C.P f args w S) (h:∀v w',S v w'->RL D l ((d,v)::e) w'):RL D (⟨some d,op,ty,pos,aft,g⟩::l) e w:=λa c=>by
 refine wpList_want (Vp c A) ⟨λ_ _=>trivial,?_⟩
 have:=E a.eval (λx v q=>c.look q)
 rw[Ya this (λ_ h=>by cases h)]
 exact⟨z2l,z4l (y1P r λx w' ⟨v,q,B⟩=>by subst q;exact h v w' B _ (c.put u v))⟩
theorem zaH {cap:List Value}(n:D.C.rd=none)(q:VN D e g true=true)
  (u:∀ρ:Operand->Value,(∀x v,look e x=some v->ρ x=v)->(execOp ρ ⟨none,op,ty,pos,aft,g⟩).run D.C.P w= .ok (.defer (Dfr.d (.call f cap args))) w)
  (h:RL ⟨{D.C with ms:= .call f cap args::D.C.ms},D.ops,D.k,D.ok⟩ l e w):RL D (⟨none,op,ty,pos,aft,g⟩::l) e w:=λa c=>by
 refine wpList_want (Vp c q) ⟨λ_ _=>trivial,?_⟩
 have:=u a.eval (λx v r=>c.look r)
 rw[show(WF D.C.rd).round=none from n,Oper.semAt_none,this]
 exact h _ ⟨c.size,by show Dfr.d _::a.defers=_;rw[c.defers];rfl,c.get⟩
def W4 [hp:Decidable p](ht:p->RL D l ((d,.bool true)::e) w)(c:¬p->RL D l ((d,.bool false)::e) w):RL D l ((d,.bool (decide p))::e) w:=by
 by_cases h:p
 ·simp only[h,decide_true];exact ht h
 ·simp only[h,decide_false];exact c h
def zkV [hp:Decidable p](h:p)(hr:RL D l ((d,.bool true)::e) w):RL D l ((d,.bool (decide p))::e) w:=by
 simp only[h,decide_true];exact hr
def zki [hp:Decidable p](h:¬p)(hr:RL D l ((d,.bool false)::e) w):RL D l ((d,.bool (decide p))::e) w:=by
 simp only[h,decide_false];exact hr
end
def Tc {C:Cx}{i:Item}{e:Env}(J:Env->World->Prop)(c:∀e w,J e w->SI C k e w)(h:(∀e w,J e w->SI C k e w)->SI C (i::k) e w):SI C (i::k) e w:=h c
def VB {C:Cx}{i:Item}{e:Env}(J:Env->World->Prop)(c:∀e w,J e w->SI C k e w)(h:(∀e w,J e w->SI C k e w)->SI C (i:: .inBlock id::k) e w):SI C (i:: .inBlock id::k) e w:=h c
/-! ### A region that draws its order: 'S' holds of the world all through. -/
def RH (D:RC)(S:World->Prop)(fuel:Nat)(listed:Array Bool)(e:Env)(w:World):Prop:=
 ∀a,EOk D.C.n D.C.ms e a->XF D.C.P D.ops.toArray (QK D.C D.k) S fuel listed a w
theorem z8n {C:Cx}{e:Env}(S:World->Prop)(r:C.P.follows .mixedOrders=true)
  (u:Vm C.n ops=true) (h:RH ⟨C,ops,k,u⟩ S ops.length (Array.replicate ops.length false) e w.drew) (q:calm ops=true:=by rfl):SI C (.code (.region id ops.toArray true)::k) e w:=
 λa c=>z2b (wpIn_region_any r (z00 q QK.no _ _ _ _ (by simpa using h a c)))
def VJ (ops:List Oper)(listed:Array Bool)(rs:List Nat):Bool:=Region.ready .any ops.toArray listed==rs
def W1 (ops:List Oper)(listed:Array Bool)(i:Nat):Bool:=Region.noSelect ops.toArray&&Region.free .any ops.toArray listed i&&(Region.ready .any ops.toArray listed).contains i
section
variable {D:RC}{S:World->Prop}{e:Env}{d:Nat}{op:Op}{pos:String}
theorem zok (hr:VJ D.ops listed []=true)(h:SI D.C D.k e w):RH D S fuel listed e w:=λa c=>z9O (by simpa[VJ] using hr) (h a c) _
def XO (h:W1 ops listed i=true):Region.noSelect ops.toArray=true/\Region.free .any ops.toArray listed i=true/\(Region.ready .any ops.toArray listed).contains i=true:=by
 simp only[W1,y0E] at h
 exact⟨h.1.1,h.1.2,h.2⟩
theorem zgf {v:Value}(hi:D.ops[i]? =some ⟨some d,op,ty,pos,aft,g⟩)(E:W1 D.ops listed i=true)(F:VN D e g true=true)(B:Nat.blt d D.C.n=true)
  (I:∀w,S w->Y D.C.P e ⟨some d,op,ty,pos,aft,g⟩ v w w) (A:S w) (h:RH D S fuel (listed.setIfInBounds i true) ((d,v)::e) w):RH D S (fuel+1) listed e w:=λa c=>by
 obtain⟨q,r,u⟩:=XO E
 exact z5o (v:=v) (by simpa using hi) q r u (λ_ _ _ h=>h) (.inl ⟨Vp c F,λw G=>I w G a.eval (λx v H=>c.look H)⟩) A (h _ (c.put B v))
def znT (hi:D.ops[i]? =some ⟨some d,op,ty,pos,aft,g⟩)(B:W1 D.ops listed i=true)(E:VN D e g false=true)(A:Nat.blt d D.C.n=true)
  (x:S w) (h:RH D S fuel (listed.setIfInBounds i true) ((d,undef)::e) w):RH D S (fuel+1) listed e w:=λa c=>by
 obtain⟨q,r,u⟩:=XO B
 exact z5o (v:=undef) (by simpa using hi) q r u (λ_ _ _ h=>h) (.inr ⟨Vp c E,O⟩) x (h _ (c.put A undef))
def Nx (D:RC)(S:World->Prop)(fuel:Nat)(listed:Array Bool)(e:Env)(w:World)(i:Nat):Prop:=
 ∀a,EOk D.C.n D.C.ms e a->AtR D.C.P D.ops.toArray (QK D.C D.k) i (λc w'=>S w'/\XF D.C.P D.ops.toArray (QK D.C D.k) S fuel (listed.setIfInBounds i true) c w') a w
theorem znz (hr:VJ D.ops listed [i]=true)(h:Nx D S fuel listed e w i):RH D S (fuel+1) listed e w:=λa n=>
 zcX (rs:=[i]) (by simpa[VJ] using hr) ξ λj c=>by simp at c;subst c;exact h a n
def Nx.z4Z (hi:D.ops[i]? =some o)(r:VN D e o.guard true=true)
  (h:∀a,EOk D.C.n D.C.ms e a->o.wp D.C.P a w (λq w'=>S w'/\XF D.C.P D.ops.toArray (QK D.C D.k) S fuel (listed.setIfInBounds i true) q w') (QK D.C D.k)):Nx D S fuel listed e w i:=λa c=>by
 have u:=Vp c r
 refine .inl ?_
 unfold wpOp
 simp only[y2a,hi]
 rw[if_pos u]
 exact .inl (h a c)
theorem zjA {v:Value}(hi:D.ops[i]? =some ⟨some d,op,ty,pos,aft,g⟩)(u:VN D e g true=true)(r:Nat.blt d D.C.n=true)
  (B:Y D.C.P e ⟨some d,op,ty,pos,aft,g⟩ v w w') (q:S w') (h:RH D S fuel (listed.setIfInBounds i true) ((d,v)::e) w'):Nx D S fuel listed e w i:=
 Nx.z4Z hi u λa c=>by
  have:=B a.eval (λx v A=>c.look A);unfold Oper.wp;rw[this];exact⟨q,h _ (c.put r v)⟩
theorem zo1 {v:Value}(hi:D.ops[i]? =some ⟨none,op,ty,pos,aft,g⟩)(q:VN D e g true=true)
  (u:Y D.C.P e ⟨none,op,ty,pos,aft,g⟩ v w w') (n:S w') (h:RH D S fuel (listed.setIfInBounds i true) e w'):Nx D S fuel listed e w i:=
 Nx.z4Z hi q λa c=>by
  have:=u a.eval (λx v r=>c.look r);unfold Oper.wp;rw[this];exact⟨n,h _ (c.zgH v)⟩
theorem zph (hi:D.ops[i]? =some ⟨none,op,ty,pos,aft,g⟩)(q:VN D e g true=true)
  (u:Z D.C.P e ⟨none,op,ty,pos,aft,g⟩ w w') (n:S w') (h:RH D S fuel (listed.setIfInBounds i true) e w'):Nx D S fuel listed e w i:=
 Nx.z4Z hi q λa c=>by
  have:=u a.eval (λx v r=>c.look r);unfold Oper.wp;rw[this];exact⟨n,h _ (c.zgH undef)⟩
theorem z0r {T:Value->World->Prop}(hi:D.ops[i]? =some ⟨some d,op,ty,pos,aft,g⟩)(B:VN D e g true=true)(A:Nat.blt d D.C.n=true)
  (E:Yc D.C.P e ⟨some d,op,ty,pos,aft,g⟩ f args w) (u:SG D.C.P f args w T) (h:∀v w',T v w'->S w'/\RH D S fuel (listed.setIfInBounds i true) ((d,v)::e) w'):Nx D S fuel listed e w i:=
 Nx.z4Z hi B λa q=>by
  have:=E a.eval (λx v c=>q.look c);unfold Oper.wp;rw[this];exact y1P u λx w' ⟨v,c,r⟩=>by subst c;exact⟨(h v w' r).1,(h v w' r).2 _ (q.put A v)⟩
def zlq [hp:Decidable p](ht:p->RH D S fuel listed ((d,.bool true)::e) w)(c:¬p->RH D S fuel listed ((d,.bool false)::e) w):RH D S fuel listed ((d,.bool (decide p))::e) w:=by
 by_cases h:p
 ·simp only[h,decide_true];exact ht h
 ·simp only[h,decide_false];exact c h
def zmS [hp:Decidable p](h:p)(hr:RH D S fuel listed ((d,.bool true)::e) w):RH D S fuel listed ((d,.bool (decide p))::e) w:=by
 simp only[h,decide_true];exact hr
def zjx [hp:Decidable p](h:¬p)(hr:RH D S fuel listed ((d,.bool false)::e) w):RH D S fuel listed ((d,.bool (decide p))::e) w:=by
 simp only[h,decide_false];exact hr
end
/-! ### Memory -/
def Sk (w:World)(b:Nat)(cs:List Value)(T:TypeId):Prop:=∃c:Nat×Nat,w.heap[b]? =some (.cells cs.toArray T c)/\∀i,i<cs.length->¬(c.1<=i/\i<c.2)
def Sk.lt (h:Sk w b cs T):b<w.heap.size:=by
 obtain⟨q,h,-⟩:=h
 rcases y0a b w.heap.size with c|c
 ·exact c
 ·simp[y1M c] at h
theorem Sk.cell {w:World}{b:Nat}{cs:List Value}{T:TypeId}(h:Sk w b cs T)(i:Nat):w.cell? ⟨b,i,none⟩=cs[i]? :=by
 obtain⟨c,h,-⟩:=h
 simp[World.cell?,h]
def Sk.free (h:Sk w b cs T)(hi:i<cs.length):w.frozen? ⟨b,i,none⟩=false:=by
 obtain⟨q,h,c⟩:=h
 have:=c i hi
 simp only[World.frozen?,h]
 simpa using this
structure Kp (S:Nat->Prop)(w w':World):Prop where
 os:w'.os=w.os
 tape:w'.tape=w.tape
 output:w'.output=w.output
 size:w.heap.size<=w'.heap.size
 block:∀k,k<w.heap.size->¬S k->w'.heap[k]? =w.heap[k]?
def Ext (w w':World):Prop:=Kp (λ_=>False) w w'
def Kp.refl (S:Nat->Prop)(w:World):Kp S w w:=⟨rfl,rfl,rfl,y07 _,λ_ _ _=>rfl⟩
theorem Kp.trans {S:Nat->Prop}{a b c:World}(h:Kp S a b)(k:Kp S b c):Kp S a c:=
 ⟨k.os.trans h.os,k.tape.trans h.tape,k.output.trans h.output,y0d h.size k.size,λi hi q=>(k.block i (y2y hi h.size) q).trans (h.block i hi q)⟩
def Kp.mono {S:Nat->Prop}(h:Kp S w w')(A:∀k,k<w.heap.size->S k->S' k):Kp S' w w':=⟨h.os,h.tape,h.output,h.size,λk c r=>h.block k c λq=>r (A k c q)⟩
def Kp.Se {S:Nat->Prop}(h:Kp S w w')(c:∀k,S k->S' k):Kp S' w w':=h.mono λk _=>c k
def Ext.kp {S:Nat->Prop}(h:Ext w w'):Kp S w w':=Kp.mono h λ_ _ c=>c.elim
def Ext.refl (w:World):Ext w w:=Kp.refl _ w
theorem Ext.trans {a b c:World}(h:Ext a b)(k:Ext b c):Ext a c:=Kp.trans h k
def Kp.drew {S:Nat->Prop}{a:World}(h:Kp S a w):Kp S a w.drew:=⟨h.os,h.tape,h.output,h.size,h.block⟩
def Ext.drew {a:World}(h:Ext a w):Ext a w.drew:=Kp.drew h
def Ext.Sv (w:World):Ext w w.drew:=(Ext.refl w).drew
def Kp.An {S:Nat->Prop}{a b c:World}(h:Kp S a b)(k:Kp S' b c)(B:∀i,S' i->a.heap.size<=i\/S i):Kp S a c:=
 ⟨k.os.trans h.os,k.tape.trans h.tape,k.output.trans h.output,y0d h.size k.size,λi hi r=>
  (k.block i (y2y hi h.size) λA=>by rcases B i A with q|q;omega;exact r q).trans (h.block i hi r)⟩
def Ext.An {a b c:World}(h:Ext a b)(k:Kp S' b c)(q:∀i,S' i->a.heap.size<=i):Ext a c:=Kp.An h k λi hi=> .inl (q i hi)
theorem Ext.below (h:Ext w w'):Below w.heap.size w w':=⟨h.os,h.tape,h.output,h.size,λk c=>h.block k c id⟩
theorem Ext.zfN (h:Below w.heap.size w w'):Ext w w':=⟨h.os,h.tape,h.output,h.size,λk c _=>h.block k c⟩
theorem Kp.S4 {S:Nat->Prop}(h:Kp S w w')(hb:Sk w b cs T)(A:¬S b):Sk w' b cs T:=by
 have c:=hb.lt
 obtain⟨q,hb,r⟩:=hb
 exact⟨q,by rw[h.block b c A];exact hb,r⟩
theorem Ext.S4 (h:Ext w w')(hb:Sk w b cs T):Sk w' b cs T:=Kp.S4 h hb id
theorem Kp.heap {S:Nat->Prop}{o:Obj}(h:Kp S w w')(hb:w.heap[b]? =some o)(r:¬S b):w'.heap[b]? =some o:=by
 have q:b<w.heap.size:=by
  rcases y0a b w.heap.size with c|c
  ·exact c
  ·simp[y1M c] at hb
 rw[h.block b q r];exact hb
def Y9 (w:World)(o:Obj):Ext w (w.alloc o):=⟨rfl,rfl,rfl,ξ,λk c _=>by rw[Below.heap_alloc _ _ _ c]⟩
theorem z0t (w:World)(o:Obj):(w.alloc o).heap[w.heap.size]? =some o:=by
 show(w.heap.push o)[w.heap.size]? =_
 simp
def zhu (w:World)(cs:List Value)(T:TypeId):Sk (w.alloc (.cells cs.toArray T)) w.heap.size cs T:=⟨(0,0),by rw[z0t],λi _ h=>by simp at h⟩
def Xo (w:World)(b i:Nat)(v:Value):Kp (λk=>k=b) w (w.setCell ⟨b,i,none⟩ v):=⟨rfl,rfl,rfl,by simp[World.setCell],λk _ c=>Below.heap_setCell _ _ _ _ c⟩
def z0x (h:Sk w b cs T)(i:Nat)(v:Value):Sk (w.setCell ⟨b,i,none⟩ v) b (cs.set i v) T:=by
 obtain⟨c,h,q⟩:=h
 refine⟨c,?_,by simpa using q⟩
 simp[World.setCell,y3j,h]
/-! ### Types -/
def aggOf:TypeDesc->Bool
 | .struct _| .array _ _=>true
 |_=>false
def TI (P:Program)(t:TypeId)(z:Value)(s bytes:Nat):Prop:=∃i,P.info? t=some i/\i.zero=some z/\i.size=s/\i.bytes=bytes
def SU (h:(P.info? t).map (λi=>(i.zero,i.size,i.bytes))=some (some z,s,bytes)):TI P t z s bytes:=info_parts h
section
theorem TI.size (h:TI P t z s bytes):(sizeOf t).run P w= .ok s w:=by
 obtain⟨i,c,-,q,-⟩:=h
 simp[sizeOf,typeInfo,program,Sem.run,c,q]
theorem TI.zero (h:TI P t z s bytes):(zeroValue t).run P w= .ok z w:=by
 obtain⟨i,c,q,-⟩:=h
 simp[zeroValue,typeInfo,program,Sem.run,c,q]
theorem WU {d:TypeDesc}(h:P.underlying t=some d):(isAgg t).run P w= .ok (aggOf d) w:=by
 cases d<;>simp[isAgg,run_underlying h,aggOf]
end
def TG (P:Program)(t i off n:Nat)(c:Bool):Prop:=∃h f z bytes d,P.underlying t=some (.struct h)/\h[i]? =some f/\f.offset=off/\TI P f.type z n bytes/\P.underlying f.type=some d/\aggOf d=c
class WX (z:Int) (n:outParam Nat):Prop where
 eq:z=(n:Int)
instance zkx (n:Nat):WX (n:Int) n:=⟨rfl⟩
instance znx (n:Nat):WX (no_index (OfNat.ofNat n):Int) (OfNat.ofNat n):=⟨rfl⟩
instance zoa {a b:Int} {m n:Nat} [ha:WX a m] [hb:WX b n]:WX (a+b) (m+n):=⟨by rw[ha.eq,hb.eq];simp⟩
instance zmr {a b:Int} {m n:Nat} [ha:WX a m] [hb:WX b n]:WX (a*b) (m*n):=⟨by rw[ha.eq,hb.eq];simp⟩
instance zly {a b:Int} {m n:Nat} [ha:WX a m] [hb:WX b n]:WX (a%b) (m%n):=⟨by rw[ha.eq,hb.eq];simp⟩
/-! ### Single operations -/
abbrev S (l:List UInt8):Value:= .string ⟨l.toArray⟩
abbrev I (n:Int):Value:= .int .i64 n
abbrev ptr (b i:Nat):Value:= .pointer (some ⟨b,i,none⟩)
section
variable {e:Env}{d:Option Nat}{pos:String}{x:Operand}{k:IntKind}{a b:Int}{n:Nat}{v:Value}{l l':List UInt8}
theorem ymv (c:look e x=some v):Y P e ⟨d,.move x,ty,pos,aft,g⟩ v w w:=fun ρ h=>by simp[execOp,h _ _ c]
theorem UU (c:look e x=some v):Y P e ⟨d,.assign x,ty,pos,aft,g⟩ v w w:=fun ρ h=>by simp[execOp,h _ _ c]
theorem YD {c:Operand}(q:look e c=some (.bool true))(r:look e x=some v):Y P e ⟨d,.pick c x y,ty,pos,aft,g⟩ v w w:=fun ρ h=>by simp[execOp,h _ _ r,h _ _ q,asBool]
theorem Xg {c:Operand}(q:look e c=some (.bool false))(r:look e y=some v):Y P e ⟨d,.pick c x y,ty,pos,aft,g⟩ v w w:=fun ρ h=>by simp[execOp,h _ _ r,h _ _ q,asBool]
-- tests on integers
theorem ylt (h:look e x=some (.int k a))(q:look e y=some (.int k b)):Y P e ⟨d,.binOp .lss t x y t',ty,pos,aft,g⟩ (.bool (decide (a<b))) w w:=fun ρ c=>by simp[execOp,go_sem,c _ _ h,c _ _ q]
theorem yle (h:look e x=some (.int k a))(q:look e y=some (.int k b)):Y P e ⟨d,.binOp .leq t x y t',ty,pos,aft,g⟩ (.bool (decide (a<=b))) w w:=fun ρ c=>by simp[execOp,go_sem,c _ _ h,c _ _ q]
theorem ygt (h:look e x=some (.int k a))(q:look e y=some (.int k b)):Y P e ⟨d,.binOp .gtr t x y t',ty,pos,aft,g⟩ (.bool (decide (b<a))) w w:=fun ρ c=>by simp[execOp,go_sem,c _ _ h,c _ _ q]
theorem yge (h:look e x=some (.int k a))(q:look e y=some (.int k b)):Y P e ⟨d,.binOp .geq t x y t',ty,pos,aft,g⟩ (.bool (decide (b<=a))) w w:=fun ρ c=>by simp[execOp,go_sem,c _ _ h,c _ _ q]
theorem yeq (q:look e x=some (.int k a))(r:look e y=some (.int k b)):Y P e ⟨d,.binOp .eql t x y t',ty,pos,aft,g⟩ (.bool (decide (a=b))) w w:=fun ρ c=>by
 have:(a==b)=decide (a=b):=by by_cases h:a=b<;>simp[h]
 simp[execOp,go_sem,c _ _ q,c _ _ r,this]
theorem yne (q:look e x=some (.int k a))(r:look e y=some (.int k b)):Y P e ⟨d,.binOp .neq t x y t',ty,pos,aft,g⟩ (.bool (decide (a≠b))) w w:=fun ρ c=>by
 have:(a !=b)=decide (a≠b):=by by_cases h:a=b<;>simp[h]
 simp[execOp,go_sem,c _ _ q,c _ _ r,this]
-- arithmetic on int
theorem wrap_i64 {a:Int}(h:JIq a):IntKind.i64.wrap a=a:=by
 simp only[IntKind.wrap,IntKind.bits,IntKind.signed];simp;omega
theorem YB (q:look e x=some (I a))(r:look e y=some (I b))(h:JIq (a+b)):Y P e ⟨d,.binOp .add t x y t',ty,pos,aft,g⟩ (I (a+b)) w w:=fun ρ c=>by simp[execOp,go_sem,c _ _ q,c _ _ r,wrap_i64 h]
theorem ysb (q:look e x=some (I a))(r:look e y=some (I b))(h:JIq (a-b)):Y P e ⟨d,.binOp .sub t x y t',ty,pos,aft,g⟩ (I (a-b)) w w:=fun ρ c=>by simp[execOp,go_sem,c _ _ q,c _ _ r,wrap_i64 h]
theorem Zf (q:look e x=some (I a))(r:look e y=some (I b))(h:JIq (a*b)):Y P e ⟨d,.binOp .mul t x y t',ty,pos,aft,g⟩ (I (a*b)) w w:=fun ρ c=>by simp[execOp,go_sem,c _ _ q,c _ _ r,wrap_i64 h]
theorem yqu (B:look e x=some (I a))(C:look e y=some (I b))(h:0<=a/\0<b/\a<=9223372036854775807):Y P e ⟨d,.binOp .quo t x y t',ty,pos,aft,g⟩ (I (a / b)) w w:=fun ρ c=>by
 have q:¬b=0:=ω
 have r:a.tdiv b=a / b:=y3J h.1
 have D:0<=a / b:=Int.ediv_nonneg h.1 ω
 have E:a / b<=a:=Int.ediv_le_self b h.1
 have A:=wrap_i64 (a:=a / b) ⟨ω,ω⟩
 simp[execOp,go_sem,c _ _ B,c _ _ C,q,r,A]
theorem yre (A:look e x=some (I a))(B:look e y=some (I b))(h:0<=a/\0<b):Y P e ⟨d,.binOp .rem t x y t',ty,pos,aft,g⟩ (I (a%b)) w w:=fun ρ c=>by
 have q:¬b=0:=ω
 have r:a.tmod b=a%b:=Int.tmod_eq_emod_of_nonneg h.1
 simp[execOp,go_sem,c _ _ A,c _ _ B,q,r]
theorem yrt (q:look e x=some (I a))(r:look e y=some (I b))(h:b≠0):Y P e ⟨d,.binOp .rem t x y t',ty,pos,aft,g⟩ (I (a.tmod b)) w w:=fun ρ c=>by
 simp[execOp,go_sem,c _ _ q,c _ _ r,h]
theorem zp9 (c p:Nat)(D:look e x=some (I a))(E:look e y=some (.int k' (c:Int)))(B:c<=64)(C:2^c=p)(h:JIq (a*p)):Y P e ⟨d,.binOp .shl t x y t',ty,pos,aft,g⟩ (I (a*p)) w w:=fun ρ r=>by
 have A:¬((c:Int)<0):=ω
 have q:(2:Int)^c=(p:Int):=by rw[<-C];simp
 simp only[execOp,eqGuard_shl,binOp_shl,r _ _ D,r _ _ E,Op.shift,A,if_false,y2x,IntKind.bits,y0A B,pure_bind,y05,q,wrap_i64 h]
theorem ysr (c:Nat)(B:look e x=some (.int k a))(C:look e y=some (.int k' (c:Int)))(A:c<=k.bits):Y P e ⟨d,.binOp .shr t x y t',ty,pos,aft,g⟩ (.int k (a / 2^c)) w w:=fun ρ h=>by
 have q:¬((c:Int)<0):=ω
 have r:(0:Int)<=2^c:=Int.pow_nonneg ψ
 simp only[execOp,eqGuard_shr,binOp_shr,h _ _ B,h _ _ C,Op.shift,q,if_false,y2x,y0A A,Int.fdiv_eq_ediv_of_nonneg _ r,pure_bind,y05]
-- numbers without a sign, as natural numbers
theorem ziI (q:look e x=some (.int k (m:Int)))(r:look e y=some (.int k (n:Int)))(h:k.signed=false):Y P e ⟨d,.binOp .add t x y t',ty,pos,aft,g⟩ (.int k (((m+n)%2^k.bits:Nat):Int)) w w:=fun ρ c=>by
 have:k.wrap ((m:Int)+n)=(((m+n)%2^k.bits:Nat):Int):=by simp[IntKind.wrap,h]
 simp[execOp,go_sem,c _ _ q,c _ _ r,this]
theorem zfI (c:Nat)(B:look e x=some (.int k (m:Int)))(C:look e y=some (.int k' (c:Int)))(A:k.signed=false)(r:c<=k.bits):Y P e ⟨d,.binOp .shl t x y t',ty,pos,aft,g⟩ (.int k (((m*2^c)%2^k.bits:Nat):Int)) w w:=fun ρ h=>by
 have q:¬((c:Int)<0):=ω
 have:k.wrap ((m:Int)*2^c)=(((m*2^c)%2^k.bits:Nat):Int):=by simp[IntKind.wrap,A]
 simp only[execOp,eqGuard_shl,binOp_shl,h _ _ B,h _ _ C,Op.shift,q,if_false,y2x,y0A r,pure_bind,y05,this]
theorem zmc (c:Nat)(q:look e x=some (.int k (m:Int)))(r:look e y=some (.int k' (c:Int)))(h:c<=k.bits):Y P e ⟨d,.binOp .shr t x y t',ty,pos,aft,g⟩ (.int k ((m / 2^c:Nat):Int)) w w:=fun ρ A=>by
 have:=ysr (P:=P) (d:=d) (t:=t) (t':=t') (ty:=ty) (pos:=pos) (aft:=aft) (g:=g) (w:=w) c q r h ρ A
 rw[this]
 simp
theorem UE {k:IntKind}(h:m<2^k.bits):(BitVec.ofInt k.bits (m:Int)).toNat=m:=by
 simp
 exact y0e h
theorem z4t {k:IntKind}(c:k.signed=false)(h:m<2^k.bits):k.wrap (m:Int)=(m:Int):=by
 simp only[IntKind.wrap,c]
 simp
 exact Int.emod_eq_of_lt ω (by exact_mod_cast h)
theorem zfi (A:look e x=some (.int k (m:Int)))(B:look e y=some (.int k (n:Int)))(r:k.signed=false)(c:m<2^k.bits)(q:n<2^k.bits):Y P e ⟨d,.binOp .and t x y t',ty,pos,aft,g⟩ (.int k ((m&&&n:Nat):Int)) w w:=fun ρ h=>by
 simp only[execOp,eqGuard_and,binOp_and,intBits_and,h _ _ A,h _ _ B,pure_bind,y05,bits,y2O,UE c,UE q,z4t r (y1Z y2I c)]
theorem zfu (A:look e x=some (.int k (m:Int)))(B:look e y=some (.int k (n:Int)))(r:k.signed=false)(c:m<2^k.bits)(h:n<2^k.bits):Y P e ⟨d,.binOp .or t x y t',ty,pos,aft,g⟩ (.int k ((m |||n:Nat):Int)) w w:=fun ρ q=>by
 simp only[execOp,eqGuard_or,binOp_or,intBits_or,q _ _ A,q _ _ B,pure_bind,y05,bits,BitVec.toNat_or,UE c,UE h,z4t r (Nat.or_lt_two_pow c h)]
theorem ziH (A:look e x=some (.int k (m:Int)))(B:look e y=some (.int k (n:Int)))(r:k.signed=false)(c:m<2^k.bits)(h:n<2^k.bits):Y P e ⟨d,.binOp .xor t x y t',ty,pos,aft,g⟩ (.int k ((m^^^n:Nat):Int)) w w:=fun ρ q=>by
 simp only[execOp,eqGuard_xor,binOp_xor,intBits_xor,q _ _ A,q _ _ B,pure_bind,y05,bits,y2A,UE c,UE h,z4t r (y2f c h)]
theorem zjy (r:look e x=some (I (m:Int)))(A:look e y=some (I (n:Int)))(C:m<2^63)(D:n<2^63):Y P e ⟨d,.binOp .and t x y t',ty,pos,aft,g⟩ (I ((m&&&n:Nat):Int)) w w:=fun ρ c=>by
 have h:m<2^IntKind.i64.bits:=by simp only[IntKind.bits];omega
 have q:n<2^IntKind.i64.bits:=by simp only[IntKind.bits];omega
 have B:m&&&n<=m:=y2I
 simp only[execOp,eqGuard_and,binOp_and,intBits_and,c _ _ r,c _ _ A,pure_bind,y05,bits,y2O,UE h,UE q]
 rw[wrap_i64 ⟨ω,ω⟩]
theorem zlP (h:look e x=some (.int k (m:Int)))(c:k.signed=false)(r:m<2^k.bits):Y P e ⟨d,.unOp .neg t x,ty,pos,aft,g⟩ (.int k (((2^k.bits-m)%2^k.bits:Nat):Int)) w w:=fun ρ q=>by
 have:k.wrap (0-(m:Int))=(((2^k.bits-m)%2^k.bits:Nat):Int):=by
  simp only[IntKind.wrap,c];simp;rw[Int.ofNat_sub ω];simp
 simp only[execOp,q _ _ h,pure_bind,y05,Op.unary,Op.intArith,this]
theorem znR (A:look e x=some (.int k (m:Int)))(r:k.signed=false)(h:m<2^k.bits):Y P e ⟨d,.unOp .xor t x,ty,pos,aft,g⟩ (.int k (((2^k.bits-1)^^^m:Nat):Int)) w w:=fun ρ B=>by
 have c:k.max=((2^k.bits-1:Nat):Int):=by cases k<;>simp_all [IntKind.max,IntKind.signed,IntKind.bits]
 have q:2^k.bits-1<2^k.bits:=by have:=y0z k.bits;omega
 simp only[execOp,B _ _ A,pure_bind,y05,Op.unary,r,y2r,if_false,c,intBits_xor,bits,y2A,UE h,UE q,z4t r (y2f q h)]
theorem yng (c:look e x=some (I a))(h: -9223372036854775807<=a)(r:a<=9223372036854775807):Y P e ⟨d,.unOp .neg t x,ty,pos,aft,g⟩ (I (-a)) w w:=fun ρ q=>by
 simp[execOp,go_sem,q _ _ c,Op.unary,wrap_i64 (a:=-a) ⟨ω,ω⟩]
theorem Vn {c:Bool}(h:look e x=some (.bool c)):Y P e ⟨d,.unOp .not t x,ty,pos,aft,g⟩ (.bool (!c)) w w:=fun ρ q=>by simp[execOp,q _ _ h,Op.unary]
theorem zd7 [Decidable p](c:look e x=some (.bool (decide p))):Y P e ⟨d,.unOp .not t x,ty,pos,aft,g⟩ (.bool (decide ¬p)) w w:=fun ρ h=>by simp[execOp,h _ _ c,Op.unary]
-- conversions of numbers
theorem ycv (r:look e x=some (.int k a))(q:P.underlying t=some (.int k))(c:P.underlying t'=some (.int k'))(h:k'.wrap a=b):Y P e ⟨d,.convert t t' x,ty,pos,aft,g⟩ (.int k' b) w w:=fun ρ A=>by
 simp[execOp,A _ _ r,convert,run_underlying q,run_underlying c,Conv.intToInt,h]
def zic (r:look e x=some (.int k (m:Int)))(q:P.underlying t=some (.int k))(c:P.underlying t'=some (.int k'))(h:k'.signed=false):Y P e ⟨d,.convert t t' x,ty,pos,aft,g⟩ (.int k' ((m%2^k'.bits:Nat):Int)) w w:=
 ycv r q c (by simp[IntKind.wrap,h])
def zke (r:look e x=some (.int k a))(q:P.underlying t=some (.int k))(c:P.underlying t'=some (.int k'))(h:k'.min<=a/\a<=k'.max):Y P e ⟨d,.convert t t' x,ty,pos,aft,g⟩ (.int k' a) w w:=
 ycv r q c (by cases k'<;>simp only[IntKind.wrap,IntKind.bits,IntKind.signed,IntKind.min,IntKind.max] at* <;>simp at* <;>omega)
-- strings
theorem WG (l:List UInt8):(ByteArray.mk l.toArray).size=l.length:=by simp[ByteArray.size]
theorem Ys (ht:P.underlying t=some .string)(c:look e x=some (S l)):Y P e ⟨d,.call ⟨.builtin .len,#[x],#[t]⟩,ty,pos,aft,g⟩ (I (l.length:Int)) w w:=fun ρ h=>by
 simp[go_sem,h _ _ c,run_len_string w t ty _ ht,WG]
theorem zmG (ht:P.underlying t=some .string)(A:look e x=some (S l))(B:look e y=some (.int k (n:Int)))(c:n<l.length):Y P e ⟨d,.index t x y,ty,pos,aft,g⟩ (.int .u8 ((l.getD n 0).toNat:Int)) w w:=fun ρ h=>by
 have q:(0:Int)<=(n:Int)/\(n:Int)<((ByteArray.mk l.toArray).size:Int):=by rw[WG];omega
 have r:((ByteArray.mk l.toArray)[n]'(by rw[WG];exact c))=l.getD n 0:=by
  simp[List.getD,c]
  rfl
 simp only[execOp,h _ _ A,h _ _ B,run_index_string w t _ k _ ht,y09,dif_pos q,y0J,y05,y2x,r]
theorem Zq (A:look e x=some (S l))(B:look e y=some (S l'))(h:l.length+l'.length<=9223372036854775807):Y P e ⟨d,.binOp .add t x y t',ty,pos,aft,g⟩ (S (l++l')) w w:=fun ρ c=>by
 have q:(Op.stringOp .add ⟨l.toArray⟩ ⟨l'.toArray⟩).run P w= .ok (.string (⟨l.toArray⟩++⟨l'.toArray⟩)) w:=run_string_add_sum w _ _ (by rw[WG,WG];exact h)
 have r:((⟨l.toArray⟩:ByteArray)++(⟨l'.toArray⟩:ByteArray))=⟨(l++l').toArray⟩:=by
  apply ByteArray.ext;apply y32.1;rw[Joins.data_append]
 simp only[execOp,c _ _ A,c _ _ B,eqGuard_add,binOp_string_add,pure_bind,y09,q,r,y0J,y05]
theorem zof (q:look e x=some (S l))(r:look e y=some (S l')):Y P e ⟨d,.binOp .eql t x y t',ty,pos,aft,g⟩ (.bool (decide (l=l'))) w w:=fun ρ c=>by
 have:(l==l')=decide (l=l'):=by by_cases h:l=l'<;>simp[h]
 simp[execOp,go_sem,c _ _ q,c _ _ r,this]
theorem z0I (l:List UInt8)(i j:Nat):(ByteArray.mk l.toArray).extract i j=⟨((l.drop i).take (j-i)).toArray⟩:=by
 apply ByteArray.ext
 apply y32.1
 rw[Lib.extract_data]
theorem znb (ht:P.underlying t=some .string)(B:look e x=some (S l))(C:look e y=some (.int k (i:Int)))(c:look e y'=some (.int k' (j:Int)))(h:i<=j/\j<=l.length):
  Y P e ⟨d,.slice t x (some y) (some y') none,ty,pos,aft,g⟩ (S ((l.drop i).take (j-i))) w w:=fun ρ q=>by
 have r:∀w,(Instr.sliceBound (.int k' (j:Int)) (ByteArray.mk l.toArray).size .sliceAlen).run P w= .ok j w:=λw=>by rw[run_sliceBound _ _ _ _ _ ω (by rw[WG];omega)];simp
 have A:∀w,(Instr.sliceBound (.int k (i:Int)) j .sliceB).run P w= .ok i w:=λw=>by rw[run_sliceBound _ _ _ _ _ ω ω];simp
 simp[execOp,q _ _ B,q _ _ C,q _ _ c,Instr.sliceAt,run_underlying ht,Instr.slice,Instr.sliceBounds,r,A,z0I]
theorem zk9 (ht:P.underlying t=some .string)(A:look e x=some (S l))(B:look e y=some (.int k (i:Int)))(h:i<=l.length):
  Y P e ⟨d,.slice t x (some y) none none,ty,pos,aft,g⟩ (S (l.drop i)) w w:=fun ρ c=>by
 have q:∀w,(Instr.sliceBound (.int k (i:Int)) l.length .sliceB).run P w= .ok i w:=λw=>by rw[run_sliceBound _ _ _ _ _ ω ω];simp
 have r:(l.drop i).take (l.length-i)=l.drop i:=y0B ξ
 simp[execOp,c _ _ A,c _ _ B,Instr.sliceAt,run_underlying ht,Instr.slice,Instr.sliceBounds,q,z0I,WG,r]
theorem zk7 (ht:P.underlying t=some .string)(r:look e x=some (S l))(A:look e y=some (.int k (j:Int)))(h:j<=l.length):
  Y P e ⟨d,.slice t x none (some y) none,ty,pos,aft,g⟩ (S (l.take j)) w w:=fun ρ c=>by
 have q:∀w,(Instr.sliceBound (.int k (j:Int)) (ByteArray.mk l.toArray).size .sliceAlen).run P w= .ok j w:=λw=>by rw[run_sliceBound _ _ _ _ _ ω (by rw[WG];omega)];simp
 simp[execOp,c _ _ r,c _ _ A,Instr.sliceAt,run_underlying ht,Instr.slice,Instr.sliceBounds,q,z0I]
theorem ymi (h:look e x=some (I a))(q:look e y=some (I b)):Y P e ⟨d,.call ⟨.builtin .min,#[x,y],ts⟩,ty,pos,aft,g⟩ (I (min a b)) w w:=fun ρ c=>by
 have:(if b<a then b else a)=min a b:=ω
 simp[go_sem,c _ _ h,c _ _ q,Builtin.min_,Builtin.min2,this]
theorem yma (h:look e x=some (I a))(q:look e y=some (I b)):Y P e ⟨d,.call ⟨.builtin .max,#[x,y],ts⟩,ty,pos,aft,g⟩ (I (max a b)) w w:=fun ρ c=>by
 have:(if a<b then b else a)=max a b:=ω
 simp[go_sem,c _ _ h,c _ _ q,Builtin.max_,Builtin.max2,this]
-- the same with the numbers written out
def zjT (c:look e x=some (.int .u32 (m:Int)))(h:look e y=some (.int .u32 (n:Int))):Y P e ⟨d,.binOp .add t x y t',ty,pos,aft,g⟩ (.int .u32 (((m+n)%4294967296:Nat):Int)) w w:=ziI c h O
def zju (c:look e x=some (.int .u64 (m:Int)))(h:look e y=some (.int .u64 (n:Int))):Y P e ⟨d,.binOp .add t x y t',ty,pos,aft,g⟩ (.int .u64 (((m+n)%18446744073709551616:Nat):Int)) w w:=ziI c h O
def znj (q:look e x=some (.int .u8 (m:Int)))(r:look e y=some (.int .u8 (n:Int)))(c:m<256)(h:n<256):Y P e ⟨d,.binOp .and t x y t',ty,pos,aft,g⟩ (.int .u8 ((m&&&n:Nat):Int)) w w:=zfi q r O c h
def zkh (q:look e x=some (.int .u32 (m:Int)))(r:look e y=some (.int .u32 (n:Int)))(c:m<4294967296)(h:n<4294967296):Y P e ⟨d,.binOp .and t x y t',ty,pos,aft,g⟩ (.int .u32 ((m&&&n:Nat):Int)) w w:=zfi q r O c h
def zhk (q:look e x=some (.int .u64 (m:Int)))(r:look e y=some (.int .u64 (n:Int)))(c:m<18446744073709551616)(h:n<18446744073709551616):Y P e ⟨d,.binOp .and t x y t',ty,pos,aft,g⟩ (.int .u64 ((m&&&n:Nat):Int)) w w:=zfi q r O c h
def zkO (q:look e x=some (.int .u8 (m:Int)))(r:look e y=some (.int .u8 (n:Int)))(c:m<256)(h:n<256):Y P e ⟨d,.binOp .or t x y t',ty,pos,aft,g⟩ (.int .u8 ((m |||n:Nat):Int)) w w:=zfu q r O c h
def zko (q:look e x=some (.int .u32 (m:Int)))(r:look e y=some (.int .u32 (n:Int)))(c:m<4294967296)(h:n<4294967296):Y P e ⟨d,.binOp .or t x y t',ty,pos,aft,g⟩ (.int .u32 ((m |||n:Nat):Int)) w w:=zfu q r O c h
def zi1 (q:look e x=some (.int .u64 (m:Int)))(r:look e y=some (.int .u64 (n:Int)))(c:m<18446744073709551616)(h:n<18446744073709551616):Y P e ⟨d,.binOp .or t x y t',ty,pos,aft,g⟩ (.int .u64 ((m |||n:Nat):Int)) w w:=zfu q r O c h
def zkp (q:look e x=some (.int .u32 (m:Int)))(r:look e y=some (.int .u32 (n:Int)))(c:m<4294967296)(h:n<4294967296):Y P e ⟨d,.binOp .xor t x y t',ty,pos,aft,g⟩ (.int .u32 ((m^^^n:Nat):Int)) w w:=ziH q r O c h
def zh9 (q:look e x=some (.int .u64 (m:Int)))(r:look e y=some (.int .u64 (n:Int)))(c:m<18446744073709551616)(h:n<18446744073709551616):Y P e ⟨d,.binOp .xor t x y t',ty,pos,aft,g⟩ (.int .u64 ((m^^^n:Nat):Int)) w w:=ziH q r O c h
def zjt (h:look e x=some (.int .u32 (m:Int)))(c:m<4294967296):Y P e ⟨d,.unOp .neg t x,ty,pos,aft,g⟩ (.int .u32 (((4294967296-m)%4294967296:Nat):Int)) w w:=zlP h O c
def zjY (h:look e x=some (.int .u32 (m:Int)))(c:m<4294967296):Y P e ⟨d,.unOp .xor t x,ty,pos,aft,g⟩ (.int .u32 ((4294967295^^^m:Nat):Int)) w w:=znR h O c
def zlL (c:Nat)(q:look e x=some (.int .u8 (m:Int)))(r:look e y=some (.int k' (c:Int)))(h:c<=8):Y P e ⟨d,.binOp .shl t x y t',ty,pos,aft,g⟩ (.int .u8 (((m*2^c)%256:Nat):Int)) w w:=zfI c q r O h
def zjl (c:Nat)(q:look e x=some (.int .u32 (m:Int)))(r:look e y=some (.int k' (c:Int)))(h:c<=32):Y P e ⟨d,.binOp .shl t x y t',ty,pos,aft,g⟩ (.int .u32 (((m*2^c)%4294967296:Nat):Int)) w w:=zfI c q r O h
def zhI (c:Nat)(q:look e x=some (.int .u64 (m:Int)))(r:look e y=some (.int k' (c:Int)))(h:c<=64):Y P e ⟨d,.binOp .shl t x y t',ty,pos,aft,g⟩ (.int .u64 (((m*2^c)%18446744073709551616:Nat):Int)) w w:=zfI c q r O h
def zo3 (q:look e x=some (.int k (m:Int)))(h:P.underlying t=some (.int k))(c:P.underlying t'=some (.int .u8)):Y P e ⟨d,.convert t t' x,ty,pos,aft,g⟩ (.int .u8 ((m%256:Nat):Int)) w w:=zic q h c O
def zjo (q:look e x=some (.int k (m:Int)))(h:P.underlying t=some (.int k))(c:P.underlying t'=some (.int .u32)):Y P e ⟨d,.convert t t' x,ty,pos,aft,g⟩ (.int .u32 ((m%4294967296:Nat):Int)) w w:=zic q h c O
def T7 (r:look e x=some (.int k a))(q:P.underlying t=some (.int k))(c:P.underlying t'=some (.int .i64))(h:JIq a):Y P e ⟨d,.convert t t' x,ty,pos,aft,g⟩ (.int .i64 a) w w:=zke r q c h
def TM (r:look e x=some (.int k a))(q:P.underlying t=some (.int k))(c:P.underlying t'=some (.int .u64))(h:0<=a/\a<=18446744073709551615):Y P e ⟨d,.convert t t' x,ty,pos,aft,g⟩ (.int .u64 a) w w:=zke r q c h
def z6A {c:UInt8}(r:look e x=some (.int .u8 (c.toNat:Int)))(q:P.underlying t=some (.int .u8))(h:P.underlying t'=some (.int k'))(A:255<=k'.max):Y P e ⟨d,.convert t t' x,ty,pos,aft,g⟩ (.int k' (c.toNat:Int)) w w:=
 zke r q h ⟨by have:k'.min<=0:=(by cases k'<;>decide);omega,by have:=c.toNat_lt;omega⟩
-- .. of whatever integers that are natural numbers
section
variable [ha:WX za m][hb:WX zb n]
def XE (c p:Nat)(r:look e x=some (.int k za))(A:look e y=some (.int k' (c:Int)))(h:c<=k.bits)(q:2^c=p):Y P e ⟨d,.binOp .shr t x y t',ty,pos,aft,g⟩ (.int k ((m / p:Nat):Int)) w w:=by
 obtain⟨rfl⟩:=ha;subst q;exact zmc c r A h
def zom (c p:Nat)(r:look e x=some (.int .u8 za))(A:look e y=some (.int k' (c:Int)))(h:c<=8)(q:2^c=p):Y P e ⟨d,.binOp .shl t x y t',ty,pos,aft,g⟩ (.int .u8 (((m*p)%256:Nat):Int)) w w:=by
 obtain⟨rfl⟩:=ha;subst q;exact zlL c r A h
def zeZ (c p:Nat)(r:look e x=some (.int .u32 za))(A:look e y=some (.int k' (c:Int)))(h:c<=32)(q:2^c=p):Y P e ⟨d,.binOp .shl t x y t',ty,pos,aft,g⟩ (.int .u32 (((m*p)%4294967296:Nat):Int)) w w:=by
 obtain⟨rfl⟩:=ha;subst q;exact zjl c r A h
def UQ (c p:Nat)(r:look e x=some (.int .u64 za))(A:look e y=some (.int k' (c:Int)))(h:c<=64)(q:2^c=p):Y P e ⟨d,.binOp .shl t x y t',ty,pos,aft,g⟩ (.int .u64 (((m*p)%18446744073709551616:Nat):Int)) w w:=by
 obtain⟨rfl⟩:=ha;subst q;exact zhI c r A h
def zlD (c:look e x=some (.int .u32 za))(h:look e y=some (.int .u32 zb)):Y P e ⟨d,.binOp .add t x y t',ty,pos,aft,g⟩ (.int .u32 (((m+n)%4294967296:Nat):Int)) w w:=by obtain⟨rfl⟩:=ha;obtain⟨rfl⟩:=hb;exact zjT c h
def YW (c:look e x=some (.int .u64 za))(h:look e y=some (.int .u64 zb)):Y P e ⟨d,.binOp .add t x y t',ty,pos,aft,g⟩ (.int .u64 (((m+n)%18446744073709551616:Nat):Int)) w w:=by obtain⟨rfl⟩:=ha;obtain⟨rfl⟩:=hb;exact zju c h
def zos (q:look e x=some (.int .u8 za))(r:look e y=some (.int .u8 zb))(c:m<256)(h:n<256):Y P e ⟨d,.binOp .and t x y t',ty,pos,aft,g⟩ (.int .u8 ((m&&&n:Nat):Int)) w w:=by obtain⟨rfl⟩:=ha;obtain⟨rfl⟩:=hb;exact znj q r c h
def zj4 (q:look e x=some (.int .u32 za))(r:look e y=some (.int .u32 zb))(c:m<4294967296)(h:n<4294967296):Y P e ⟨d,.binOp .and t x y t',ty,pos,aft,g⟩ (.int .u32 ((m&&&n:Nat):Int)) w w:=by obtain⟨rfl⟩:=ha;obtain⟨rfl⟩:=hb;exact zkh q r c h
def Yx (q:look e x=some (.int .u64 za))(r:look e y=some (.int .u64 zb))(c:m<18446744073709551616)(h:n<18446744073709551616):Y P e ⟨d,.binOp .and t x y t',ty,pos,aft,g⟩ (.int .u64 ((m&&&n:Nat):Int)) w w:=by obtain⟨rfl⟩:=ha;obtain⟨rfl⟩:=hb;exact zhk q r c h
def zoE (q:look e x=some (.int .u8 za))(r:look e y=some (.int .u8 zb))(c:m<256)(h:n<256):Y P e ⟨d,.binOp .or t x y t',ty,pos,aft,g⟩ (.int .u8 ((m |||n:Nat):Int)) w w:=by obtain⟨rfl⟩:=ha;obtain⟨rfl⟩:=hb;exact zkO q r c h
def zfz (q:look e x=some (.int .u32 za))(r:look e y=some (.int .u32 zb))(c:m<4294967296)(h:n<4294967296):Y P e ⟨d,.binOp .or t x y t',ty,pos,aft,g⟩ (.int .u32 ((m |||n:Nat):Int)) w w:=by obtain⟨rfl⟩:=ha;obtain⟨rfl⟩:=hb;exact zko q r c h
def z4i (q:look e x=some (.int .u64 za))(r:look e y=some (.int .u64 zb))(c:m<18446744073709551616)(h:n<18446744073709551616):Y P e ⟨d,.binOp .or t x y t',ty,pos,aft,g⟩ (.int .u64 ((m |||n:Nat):Int)) w w:=by obtain⟨rfl⟩:=ha;obtain⟨rfl⟩:=hb;exact zi1 q r c h
def zi5 (q:look e x=some (.int .u32 za))(r:look e y=some (.int .u32 zb))(c:m<4294967296)(h:n<4294967296):Y P e ⟨d,.binOp .xor t x y t',ty,pos,aft,g⟩ (.int .u32 ((m^^^n:Nat):Int)) w w:=by obtain⟨rfl⟩:=ha;obtain⟨rfl⟩:=hb;exact zkp q r c h
def z4e (q:look e x=some (.int .u64 za))(r:look e y=some (.int .u64 zb))(c:m<18446744073709551616)(h:n<18446744073709551616):Y P e ⟨d,.binOp .xor t x y t',ty,pos,aft,g⟩ (.int .u64 ((m^^^n:Nat):Int)) w w:=by obtain⟨rfl⟩:=ha;obtain⟨rfl⟩:=hb;exact zh9 q r c h
def z1k (c:look e x=some (I za))(h:look e y=some (I zb))(q:m<=9223372036854775807)(r:n<=9223372036854775807):Y P e ⟨d,.binOp .and t x y t',ty,pos,aft,g⟩ (I ((m&&&n:Nat):Int)) w w:=by obtain⟨rfl⟩:=ha;obtain⟨rfl⟩:=hb;exact zjy c h ω ω
def zkR (h:look e x=some (.int .u32 za))(c:m<4294967296):Y P e ⟨d,.unOp .neg t x,ty,pos,aft,g⟩ (.int .u32 (((4294967296-m)%4294967296:Nat):Int)) w w:=by obtain⟨rfl⟩:=ha;exact zjt h c
def zi8 (h:look e x=some (.int .u32 za))(c:m<4294967296):Y P e ⟨d,.unOp .xor t x,ty,pos,aft,g⟩ (.int .u32 ((4294967295^^^m:Nat):Int)) w w:=by obtain⟨rfl⟩:=ha;exact zjY h c
def z7z (q:look e x=some (.int k za))(h:P.underlying t=some (.int k))(c:P.underlying t'=some (.int .u8)):Y P e ⟨d,.convert t t' x,ty,pos,aft,g⟩ (.int .u8 ((m%256:Nat):Int)) w w:=by obtain⟨rfl⟩:=ha;exact zo3 q h c
def z4r (q:look e x=some (.int k za))(h:P.underlying t=some (.int k))(c:P.underlying t'=some (.int .u32)):Y P e ⟨d,.convert t t' x,ty,pos,aft,g⟩ (.int .u32 ((m%4294967296:Nat):Int)) w w:=by obtain⟨rfl⟩:=ha;exact zjo q h c
def z8E (ht:P.underlying t=some .string)(h:look e x=some (S l))(q:look e y=some (.int k za))(c:m<l.length):Y P e ⟨d,.index t x y,ty,pos,aft,g⟩ (.int .u8 ((l.getD m 0).toNat:Int)) w w:=by obtain⟨rfl⟩:=ha;exact zmG ht h q c
def zjO (ht:P.underlying t=some .string)(q:look e x=some (S l))(r:look e y=some (.int k za))(c:look e y'=some (.int k' zb))(h:m<=n/\n<=l.length):
  Y P e ⟨d,.slice t x (some y) (some y') none,ty,pos,aft,g⟩ (S ((l.drop m).take (n-m))) w w:=by obtain⟨rfl⟩:=ha;obtain⟨rfl⟩:=hb;exact znb ht q r c h
def z3t (ht:P.underlying t=some .string)(c:look e x=some (S l))(q:look e y=some (.int k za))(h:m<=l.length):
  Y P e ⟨d,.slice t x (some y) none none,ty,pos,aft,g⟩ (S (l.drop m)) w w:=by obtain⟨rfl⟩:=ha;exact zk9 ht c q h
def z6a (ht:P.underlying t=some .string)(c:look e x=some (S l))(q:look e y=some (.int k za))(h:m<=l.length):
  Y P e ⟨d,.slice t x none (some y) none,ty,pos,aft,g⟩ (S (l.take m)) w w:=by obtain⟨rfl⟩:=ha;exact zk7 ht c q h
end
end
end Go.Proofs.YtbihggbffaigjaaGreatDoor
namespace Go.Proofs.YtbihggbffaigjaaGreatDoor
open Go Go.ChangeShapes Go.WideShapes Go.ChangeAt Go.RowKit Go.Proofs.Tryz
variable {K:Act->World->Prop}{P:Program}{Post:Value->World->Prop}{Q:Exit->Act->World->Prop}{R:Ending->World->Prop}{Rc:LoopState->Option Code->World->Prop}{S':Nat->Prop}{T el kt t t' ty:TypeId}{a:Act}{aft:Array Edge}{args cs news vs zs:List Value}{assign body:Code}{b be bytes cap fuel i id j m s:Nat}{dn rs:List Nat}{es:Array MapEntry}{f:FuncId}{fn:Func}{fv y:Operand}{g:Option (Nat×Bool)}{k:List Item}{k':IntKind}{listed:Array Bool}{o oi:Oper}{ops:List Oper}{p:Prop}{parts:List (Nat×Operand)}{pend:Option Code}{ps:Array Tmp}{st:LoopState}{ts:Array TypeId}{w w':World}{z ze:Value}{za zb:Int}{ρ:Operand->Value}
def z2Y (P:Program)(ts:List TypeId):Bool:=ts.all λt=>P.readableRec t&&decide (t<P.types.size)
theorem z1s {H:Type}{enc:TypeId×Value->H}{P:Program}(r:laidOutB P=true){W e:World}(n:Below W.heap.size W e):
  ∀ {ts : List TypeId} {vs : List Value} {c : List (DataW H)} {ps : List MemPlace}, z2Y P ts = true -> DataW.TrodAll enc P W 0 (λ_ => true) true ts vs c ps ->
    DataW.TrodAll enc P e 0 (λb=>decide (b<W.heap.size)) true ts vs c ps
 |[],[],[],_,_,h=>h
 | t :: ts, v :: vs, d :: c, _, hr, h => by
   obtain⟨p,q,l,u,rfl⟩:=h;simp only[z2Y,List.all_cons,y0E,decide_eq_true_eq] at hr
   exact⟨p,q,Below.trod r hr.1.1 hr.1.2 l n (by obtain⟨m,x⟩:=l;exact DataW.trod_lt m _ _ _ x),z1s r n hr.2 u,O⟩
 |[],[],_::_,_,_,h=>h.elim
 |[],_::_,_,_,_,h=>h.elim
 |_::_,[],_,_,_,h=>h.elim
 |_::_,_::_,[],_,_,h=>h.elim
def z3q {H:Type}{enc:TypeId×Value->H}{P:Program}{W:World}{e:Nat}{c:Nat->Bool}{held:Bool}:
  ∀{ts:List TypeId} {vs:List Value} {l:List (DataW H)} {ps:List MemPlace},DataW.TrodAll enc P W e c held ts vs l ps->l.length=ts.length
 |[],[],[],_,_=>rfl
 | t :: ts, v :: vs, d :: l, _, h => by
   obtain⟨p,q,r,n,rfl⟩:=h
   simpa using z3q n
 |[],[],_::_,_,h=>h.elim
 |[],_::_,_,_,h=>h.elim
 |_::_,[],_,_,h=>h.elim
 |_::_,_::_,[],_,h=>h.elim
def own:ownKnob prog.godebug=none:=y00
def laidOut:laidOutB prog=true:=y00
structure Arc where
 size:Nat
 once:List Int
 often:List Int
 Sw:List Int
 Ss:List Int
 target:Int
def Arc.all (c:Arc):List Int:=c.once++(c.often++(c.Sw++c.Ss))
def Arc.held (c:Arc)(k:Int):Prop:=k∈c.once\/k∈c.often
structure Arc.Ok (c:Arc):Prop where
 pos:1<=c.size
 nd:c.all.Nodup
 held:c.once.length+c.often.length<=c.size
 first:c.once.length+c.Sw.length<=c.size
 total:c.all.length<=2*c.size
 tg:0<=c.target/\c.target<=c.size
def Arc.room (c:Arc)(often:Bool):Arc×Option Int:=
 if c.once.length+c.often.length=c.size then
  match c.once,c.often with
  |[],[]=>(c,none)
  |a::o,[]=>({c with once:=o,Sw:=c.Sw++[a]},some a)
  |[],b::f=>({c with often:=f,Ss:=c.Ss++[b]},some b)
  |a::o,b::f=>if(c.once.length:Int)>c.target\/(c.once.length:Int)=c.target/\often=true then({c with once:=o,Sw:=c.Sw++[a]},some a) else({c with often:=f,Ss:=c.Ss++[b]},some b)
 else(c,none)
structure Arc.z2F (c c':Arc)(g:Option Int):Prop where
 size:c'.size=c.size
 tg:c'.target=c.target
 perm:c'.all.Perm c.all
 z7l:c'.once.length+c'.Sw.length<=c.once.length+c.Sw.length
 z2k:c'.once.length+c'.often.length+1<=c.size
 gone:∀x,c'.held x↔c.held x/\g≠some x
 was:∀x,g=some x->c.held x
 w1:∀x∈c.Sw,x∈c'.Sw
 w2:∀x∈c.Ss,x∈c'.Ss
theorem Arc.X7 {c:Arc}(h:c.Ok)(b:Bool):Arc.z2F c (c.room b).1 (c.room b).2:=by
 have n:=h.nd
 have B:=h.pos
 unfold Arc.all at n
 have u:∀{a:Int} {o:List Int},c.once=a::o->c.once.length+c.often.length=c.size->Arc.z2F c {c with once:=o,Sw:=c.Sw++[a]} (some a):=fun {a o} e l=>by
  rw[e] at n l;rw[y0t] at n;obtain⟨n1,n2⟩:=y19.1 n;simp only[y0y,not_or] at n1;refine⟨O,O,?_,by simp[e];omega,by simp at l⊢;omega,λx=>?_,λx d=>by cases d;exact .inl (by simp[e]),λx d=>y1X _ d,λx d=>d⟩
  ·unfold Arc.all;rw[e];dsimp only;rw[y0t]
   have:(o++(c.often++(c.Sw++[a]++c.Ss))).Perm (a::(o++(c.often++(c.Sw++c.Ss)))):=by
    have q:o++(c.often++(c.Sw++[a]++c.Ss))=(o++(c.often++c.Sw))++a::c.Ss:=ξ
    have r:a::(o++(c.often++(c.Sw++c.Ss)))=a::((o++(c.often++c.Sw))++c.Ss):=ξ
    rw[q,r];exact y26
   exact this
  ·unfold Arc.held;dsimp only;rw[e];simp only[y0m,y3D,ne_eq];constructor
   ·rintro(d|d)
    ·exact⟨.inl (.inr d),λe=>n1.1 (e▸d)⟩
    ·exact⟨.inr d,λe=>n1.2.1 (e▸d)⟩
   ·rintro⟨(d|d)|d,A⟩
    ·exact absurd d.symm A
    ·exact .inl d
    ·exact .inr d
 have v:∀{a:Int} {o:List Int},c.often=a::o->c.once.length+c.often.length=c.size->Arc.z2F c {c with often:=o,Ss:=c.Ss++[a]} (some a):=fun {a o} e l=>by
  rw[e] at n l;obtain⟨E,C,D⟩:=y0N.1 n;rw[y0t] at C;obtain⟨n1,n2⟩:=y19.1 C;simp only[y0y,not_or] at n1;refine⟨O,O,?_,y07 _,by simp at l⊢;omega,λx=>?_,λx d=>by cases d;exact .inr (by simp[e]),λx d=>d,λx d=>y1X _ d⟩
  ·unfold Arc.all;rw[e];dsimp only;have q:c.once++(o++(c.Sw++(c.Ss++[a])))=(c.once++(o++(c.Sw++c.Ss)))++a::[]:=ξ
   have r:c.once++(a::o++(c.Sw++c.Ss))=c.once++a::(o++(c.Sw++c.Ss)):=ξ
   rw[q,r];refine y3m y26 ?_;rw[y0q];exact y26.symm
  ·unfold Arc.held;dsimp only;rw[e];simp only[y0m,y3D,ne_eq];constructor
   ·rintro(d|d)
    ·exact⟨.inl d,λe=>D x d a ξ e.symm⟩
    ·exact⟨.inr (.inr d),λe=>n1.1 (e▸d)⟩
   ·rintro⟨d|d|d,A⟩
    ·exact .inl d
    ·exact absurd d.symm A
    ·exact .inr d
 unfold Arc.room
 split
 ·rename_i l
  split
  ·rename_i q r
   rw[q,r] at l;simp at l;omega
  ·rename_i a o q r
   exact u q l
  ·rename_i b f q r
   exact v r l
  ·rename_i a o b f q r
   split
   ·exact u q l
   ·exact v r l
 ·rename_i l
  exact⟨O,O,List.Perm.refl _,y07 _,by have:=h.held;show c.once.length+c.often.length+1<=_;omega,λx=>ξ,λx d=>(by cases d),λx d=>d,λx d=>d⟩
structure Arc.Made (c c':Arc)(g:Option Int):Prop where
 size:c'.size=c.size
 tg:c'.target=c.target
 nd:c'.all.Nodup
 sub:∀x∈c'.all,x∈c.all
 z2k:c'.once.length+c'.often.length+1<=c.size
 gone:∀x,c'.held x↔c.held x/\g≠some x
 was:∀x,g=some x->c.held x
def Arc.z2F.made {c d:Arc}{g:Option Int}(h:Arc.z2F c d g)(e:c.all.Nodup):Arc.Made c d g:=
 ⟨h.size,h.tg,h.perm.nodup_iff.2 e,λx l=>h.perm.mem_iff.1 l,h.z2k,h.gone,h.was⟩
def Arc.add (c:Arc):Arc×Option Int:=
 if c.once.length+c.Sw.length=c.size then
  if c.once.length<c.size then({c with Sw:=c.Sw.drop 1}:Arc).room false else({c with once:=c.once.drop 1},c.once.head?)
 else if c.all.length<c.size then(c,none)
 else if c.all.length=2*c.size then({c with Ss:=c.Ss.drop 1}:Arc).room false
 else c.room false
theorem Arc.Ur (c:Arc):c.all.length=c.once.length+(c.often.length+(c.Sw.length+c.Ss.length)):=by simp[Arc.all]
theorem Arc.z6U {c:Arc}(h:c.Ok):Arc.Made c c.add.1 c.add.2/\c.add.1.once.length+c.add.1.Sw.length+1<=c.size/\c.add.1.all.length+1<=2*c.size:=by
 have Z:=h.pos
 have B:=h.nd
 have N:=h.held
 have X:=h.first
 have ht:=h.total
 have Y:=c.Ur
 have f:∀{a b:List Int},(a++(b.drop 1)).Sublist (a++b):=fun {a b}=>(y1t 1 b).append_left a
 unfold Arc.add
 split
 ·rename_i e
  split
  ·rename_i r
   obtain⟨c0,d⟩:∃c0:Arc,{c with Sw:=c.Sw.drop 1}=c0:=⟨_,O⟩;have A:c0.once=c.once:=by rw[<-d]
   have E:c0.often=c.often:=by rw[<-d]
   have F:c0.Sw=c.Sw.drop 1:=by rw[<-d]
   have v:c0.size=c.size:=by rw[<-d]
   have H:c0.target=c.target:=by rw[<-d]
   have M:c0.all.Sublist c.all:=by
    rw[<-d];unfold Arc.all;dsimp only;exact(((y1t 1 c.Sw).append_right c.Ss).append_left c.often).append_left c.once
   have G:=c0.Ur;have U:c0.Ss=c.Ss:=by rw[<-d]
   have W:(c.Sw.drop 1).length+1=c.Sw.length:=by rw[y08];omega
   rw[A,E,F,U] at G;have I:c0.Ok:=⟨ω,B.sublist M,by rw[A,E,v];exact N,by rw[A,F,v];omega,by rw[v];omega,by rw[H,v];exact h.tg⟩;have hr:=Arc.X7 I false;have q:=hr.made I.nd;have n:∀x,c0.held x↔c.held x:=λx=>by unfold Arc.held;rw[A,E]
   rw[d];have L:=hr.perm.length_eq;have D:=hr.z7l;rw[A,F] at D;exact⟨⟨q.size.trans v,q.tg.trans H,q.nd,λx l=>M.subset (q.sub x l),by rw[<-v];exact q.z2k,λx=>by rw[q.gone,n],λx l=>(n x).1 (q.was x l)⟩,ω,ω⟩
  ·rename_i r
   have S:c.Sw=[]:=y0x ω;have J:c.often=[]:=y0x ω
   obtain⟨a,o,C⟩:∃a o,c.once=a::o:=by
    cases g:c.once with
    |nil=>rw[g] at e r;simp at e r;omega
    |cons a o=>exact⟨a,o,O⟩
   have u:=B;unfold Arc.all at u;rw[C,S,J] at u;simp only[y0t,y18] at u;obtain⟨n1,n2⟩:=y19.1 u;rw[C] at e N Y r X;simp at e N Y r X;refine⟨⟨O,O,?_,λx l=>?_,?_,λx=>?_,λx l=>?_⟩,?_,?_⟩
   ·unfold Arc.all;dsimp only;rw[C,S,J];exact n2
   ·unfold Arc.all at l⊢;dsimp only at l;rw[C,S,J] at l⊢;simp at l⊢;exact .inr l
   ·dsimp only;rw[C,J];simp;omega
   ·unfold Arc.held;dsimp only;rw[C,J];simp;constructor
    ·intro l;exact⟨.inr l,λe=>n1 (by rw[e];simp[l])⟩
    ·rintro⟨l|l,V⟩
     ·exact absurd l.symm V
     ·exact l
   ·rw[C] at l;simp at l;unfold Arc.held;rw[C];exact .inl (by simp[l])
   ·dsimp only;rw[C,S];simp;omega
   ·rw[Arc.Ur];dsimp only;rw[C];simp;omega
 ·rename_i e
  split
  ·rename_i r
   exact⟨⟨O,O,B,λx l=>l,by dsimp only;omega,λx=>ξ,λx l=>by cases l⟩,by dsimp only;omega,by dsimp only;omega⟩
  ·rename_i r
   split
   ·rename_i i
    obtain⟨c0,d⟩:∃c0:Arc,{c with Ss:=c.Ss.drop 1}=c0:=⟨_,O⟩;have A:c0.once=c.once:=by rw[<-d]
    have E:c0.often=c.often:=by rw[<-d]
    have F:c0.Sw=c.Sw:=by rw[<-d]
    have v:c0.size=c.size:=by rw[<-d]
    have U:c0.Ss=c.Ss.drop 1:=by rw[<-d]
    have H:c0.target=c.target:=by rw[<-d]
    have M:c0.all.Sublist c.all:=by
     rw[<-d];unfold Arc.all;dsimp only;exact(((y1t 1 c.Ss).append_left c.Sw).append_left c.often).append_left c.once
    have G:=c0.Ur;have W:(c.Ss.drop 1).length+1=c.Ss.length:=by rw[y08];omega
    rw[A,E,F,U] at G;have I:c0.Ok:=⟨ω,B.sublist M,by rw[A,E,v];exact N,by rw[A,F,v];omega,by rw[v];omega,by rw[H,v];exact h.tg⟩;have hr:=Arc.X7 I false;have q:=hr.made I.nd;have n:∀x,c0.held x↔c.held x:=λx=>by unfold Arc.held;rw[A,E]
    rw[d];have L:=hr.perm.length_eq;have D:=hr.z7l;rw[A,F] at D;exact⟨⟨q.size.trans v,q.tg.trans H,q.nd,λx l=>M.subset (q.sub x l),by rw[<-v];exact q.z2k,λx=>by rw[q.gone,n],λx l=>(n x).1 (q.was x l)⟩,ω,ω⟩
   ·rename_i i
    have hr:=Arc.X7 h false;have q:=hr.made B;have L:=hr.perm.length_eq;have D:=hr.z7l;exact⟨q,ω,ω⟩
def Arc.UX (c:Arc)(k:Int):Arc×Bool×Option Int:=
 if k∈c.once\/k∈c.often then({c with once:=c.once.erase k,often:=c.often.erase k++[k]},true,none)
 else if k∈c.Sw then
  let r:=({c with target:=min (c.size:Int) (c.target+max 1 ((c.Ss.length / c.Sw.length:Nat):Int))}:Arc).room false
  ({r.1 with Sw:=r.1.Sw.erase k,often:=r.1.often++[k]},false,r.2)
 else if k∈c.Ss then
  let r:=({c with target:=max 0 (c.target-max 1 ((c.Sw.length / c.Ss.length:Nat):Int))}:Arc).room true
  ({r.1 with Ss:=r.1.Ss.erase k,often:=r.1.often++[k]},false,r.2)
 else let r:=c.add;({r.1 with once:=r.1.once++[k]},false,r.2)
structure Arc.zce (c c':Arc)(k:Int)(b:Bool)(g:Option Int):Prop where
 ok:c'.Ok
 size:c'.size=c.size
 hit:b=true↔c.held k
 no:b=true->g=none
 held:∀x,c'.held x↔x=k\/(c.held x/\g≠some x)
 gone:∀x,g=some x->c.held x/\x≠k
def Arc.back {c r:Arc}{g:Option Int}{k:Int}(h:c.Ok)(hr:Arc.z2F c r g)(v:¬c.held k){w f:List Int}(B:(w++f).Perm ((r.Sw++r.Ss).erase k))(C:w.length<=r.Sw.length)(A:k∈r.Sw++r.Ss):
  Arc.zce c {r with Sw:=w,Ss:=f,often:=r.often++[k]} k false g:=by
 have u:=hr.made h.nd
 have l:(r.once++((r.often++[k])++(w++f))).Perm r.all:=by
  unfold Arc.all;rw[y06];refine y3y _<|y3y _ ?_;exact(B.cons k).trans (y3f A).symm
 have q:=hr.z2k
 have n:=hr.perm.length_eq
 have ht:=h.total
 refine⟨⟨by dsimp only;rw[hr.size];exact h.pos,l.nodup_iff.2 u.nd,by dsimp only;rw[hr.size,y01];simp;omega,by have:=hr.z7l;have:=h.first;dsimp only;rw[hr.size];omega,by have:=l.length_eq;unfold Arc.all at this n⊢;dsimp only;rw[hr.size,this,n];exact ht,by dsimp only;rw[hr.tg,hr.size];exact h.tg⟩,hr.size,⟨λe=>(by cases e),λe=>absurd e v⟩,λe=>(by cases e),λx=>?_,λx d=>⟨hr.was x d,λe=>v (e▸hr.was x d)⟩⟩
 have hg:=hr.gone x
 unfold Arc.held at hg⊢
 dsimp only
 simp only[y0y,y0F]
 constructor
 ·rintro(d|d|d)
  ·exact .inr (hg.1 (.inl d))
  ·exact .inr (hg.1 (.inr d))
  ·exact .inl d
 ·rintro(d|d)
  ·exact .inr (.inr d)
  ·rcases hg.2 d with d|d
   ·exact .inl d
   ·exact .inr (.inl d)
theorem Arc.z4p {c:Arc}(h:c.Ok)(k:Int):Arc.zce c (c.UX k).1 k (c.UX k).2.1 (c.UX k).2.2:=by
 have B:=h.pos
 have I:=h.nd
 have v:=I
 unfold Arc.all at v
 obtain⟨Y,a2,L⟩:=y0N.1 v
 obtain⟨b1,b2,b3⟩:=y0N.1 a2
 obtain⟨d1,d2,d3⟩:=y0N.1 b2
 unfold Arc.UX
 split
 ·rename_i n
  have J:(c.once.erase k++((c.often.erase k++[k])++(c.Sw++c.Ss))).Perm c.all:=by
   unfold Arc.all;have S:c.once.erase k++((c.often.erase k++[k])++(c.Sw++c.Ss))=(c.once.erase k++c.often.erase k)++k::(c.Sw++c.Ss):=ξ
   rw[S];refine y26.trans ?_;rw[<-y0t,show c.once++(c.often++(c.Sw++c.Ss))=(c.once++c.often)++(c.Sw++c.Ss) by simp];refine List.Perm.append_right _ ?_;rcases n with n|n
   ·have D:k∉c.often:=λe=>L k n k (by simp[e]) O;rw[y1F D,<-y0t];exact(y3f n).symm.append_right _
   ·have D:k∉c.once:=λe=>L k e k (by simp[n]) O;rw[y1F D];exact(y26.symm.trans ((y3f n).symm.append_left _))
  have H:(c.once.erase k).length+(c.often.erase k++[k]).length=c.once.length+c.often.length:=by
   rcases n with n|n
   ·have D:k∉c.often:=λe=>L k n k (by simp[e]) O;have:=y1L n;rw[y1F D,y3b n,y01];simp;omega
   ·have D:k∉c.once:=λe=>L k e k (by simp[n]) O;have:=y1L n;rw[y1F D,y01,y3b n];simp;omega
  have V:(c.once.erase k).length<=c.once.length:=y27;refine⟨⟨B,J.nodup_iff.2 I,by dsimp only;rw[H];exact h.held,by have:=h.first;dsimp only;omega,by have:=J.length_eq;unfold Arc.all at this⊢;dsimp only;rw[this];exact h.total,h.tg⟩,O,⟨λ_=>n,λ_=>rfl⟩,λ_=>rfl,λx=>?_,λx l=>by cases l⟩;unfold Arc.held;dsimp only;simp only[y0y,y0F];constructor
  ·rintro(l|l|l)
   ·exact .inr ⟨.inl (List.mem_of_mem_erase l),ξ⟩
   ·exact .inr ⟨.inr (List.mem_of_mem_erase l),ξ⟩
   ·exact .inl l
  ·rintro(l|⟨l|l,-⟩)
   ·exact .inr (.inr l)
   ·by_cases e:x=k
    ·exact .inr (.inr e)
    ·exact .inl ((List.mem_erase_of_ne e).2 l)
   ·by_cases e:x=k
    ·exact .inr (.inr e)
    ·exact .inr (.inl ((List.mem_erase_of_ne e).2 l))
 ·rename_i n
  simp only[not_or] at n;have G:¬c.held k:=by unfold Arc.held;simp[n]
  split
  ·rename_i N
   obtain⟨c0,d⟩:∃c0:Arc,{c with target:=min (c.size:Int) (c.target+max 1 ((c.Ss.length / c.Sw.length:Nat):Int))}=c0:=⟨_,O⟩;have F:c0.Ok:=by rw[<-d];have:=h.tg;exact⟨h.pos,h.nd,h.held,h.first,h.total,by dsimp only;omega⟩
   have hr:=Arc.X7 F false;rw[d];have u:k∈(c0.room false).1.Sw:=hr.w1 k (by rw[<-d];exact N);have:=Arc.back F hr (k:=k) (by rw[<-d];exact G) (w:=(c0.room false).1.Sw.erase k) (f:=(c0.room false).1.Ss) (by rw[List.erase_append_left _ u]) y27 (y1X _ u);dsimp only;refine⟨this.ok,this.size.trans (by rw[<-d]),by rw[this.hit,<-d];exact y0U,this.no,λx=>by rw[this.held,<-d];exact y0U,λx l=>by have:=this.gone x l;rw[<-d] at this;exact this⟩
  ·rename_i N
   split
   ·rename_i E
    obtain⟨c0,d⟩:∃c0:Arc,{c with target:=max 0 (c.target-max 1 ((c.Sw.length / c.Ss.length:Nat):Int))}=c0:=⟨_,O⟩;have F:c0.Ok:=by rw[<-d];have:=h.tg;exact⟨h.pos,h.nd,h.held,h.first,h.total,by dsimp only;omega⟩
    have hr:=Arc.X7 F true;rw[d];have u:k∈(c0.room true).1.Ss:=hr.w2 k (by rw[<-d];exact E);have A:=(hr.made F.nd).nd
    have C:k∉(c0.room true).1.Sw:=λe=>by
     unfold Arc.all at A;obtain⟨-,x2,-⟩:=y0N.1 A;obtain⟨-,W,-⟩:=y0N.1 x2;obtain⟨-,-,X⟩:=y0N.1 W;exact X k e k u O
    have:=Arc.back F hr (k:=k) (by rw[<-d];exact G) (w:=(c0.room true).1.Sw) (f:=(c0.room true).1.Ss.erase k) (by rw[List.erase_append_right _ C]) (y07 _) (List.mem_append_right _ u);dsimp only;refine⟨this.ok,this.size.trans (by rw[<-d]),by rw[this.hit,<-d];exact y0U,this.no,λx=>by rw[this.held,<-d];exact y0U,λx l=>by have:=this.gone x l;rw[<-d] at this;exact this⟩
   ·rename_i E
    obtain⟨q,U,ht⟩:=Arc.z6U h;obtain⟨r,hr⟩:∃r,c.add=r:=⟨_,O⟩;rw[hr] at q U ht;rw[hr];dsimp only
    have C:k∉r.1.all:=λe=>by
     have:=q.sub k e;unfold Arc.all at this;simp[n.1,n.2,N,E] at this
    have J:(r.1.once++[k]++(r.1.often++(r.1.Sw++r.1.Ss))).Perm (k::r.1.all):=by
     unfold Arc.all;rw[y06];exact y26
    have Z:=r.1.Ur;have M:=q.z2k;refine⟨⟨by dsimp only;rw[q.size];exact B,J.nodup_iff.2 (y19.2 ⟨C,q.nd⟩),by dsimp only;rw[q.size,y01];simp;omega,by dsimp only;rw[q.size,y01];simp;omega,by have:=J.length_eq;unfold Arc.all at this⊢;dsimp only;rw[q.size,this];simp[Arc.all] at ht⊢;omega,by dsimp only;rw[q.tg,q.size];exact h.tg⟩,q.size,⟨λe=>(by cases e),λe=>absurd e (by unfold Arc.held;simp[n])⟩,λe=>(by cases e),λx=>?_,λx l=>⟨q.was x l,λe=>by have:=q.was x l;rw[e] at this;exact absurd this (by unfold Arc.held;simp[n])⟩⟩;have hg:=q.gone x;unfold Arc.held at hg⊢;dsimp only;simp only[y0y,y0F];constructor
    ·rintro((l|l)|l)
     ·exact .inr (hg.1 (.inl l))
     ·exact .inl l
     ·exact .inr (hg.1 (.inr l))
    ·rintro(l|l)
     ·exact .inl (.inr l)
     ·rcases hg.2 l with l|l
      ·exact .inl (.inl l)
      ·exact .inr l
def Yp (P:Program)(e:Env)(o:Oper)(w:World)(Post:Value->World->Prop):Prop:=∃v w',Y P e o v w w'/\Post v w'
def Zp (P:Program)(e:Env)(o:Oper)(w:World)(Post:World->Prop):Prop:=∃w',Z P e o w w'/\Post w'
section
variable {D:RC}{l:List Oper}{e:Env}{d:Nat}{op:Op}{pos:String}
def Sd (r:VN D e g true=true)(q:Nat.blt d D.C.n=true)(c:Yp D.C.P e ⟨some d,op,ty,pos,aft,g⟩ w Post)(h:∀v w',Post v w'->RL D l ((d,v)::e) w'):
  RL D (⟨some d,op,ty,pos,aft,g⟩::l) e w:=by
 obtain⟨v,w',c,A⟩:=c
 exact Z4 r q c (h v w' A)
def zfP (q:VN D e g true=true)(c:Yp D.C.P e ⟨none,op,ty,pos,aft,g⟩ w Post)(h:∀v w',Post v w'->RL D l e w'):
  RL D (⟨none,op,ty,pos,aft,g⟩::l) e w:=by
 obtain⟨v,w',c,r⟩:=c
 exact zkL q c (h v w' r)
def Sm {Post:World->Prop}(q:VN D e g true=true)(c:Zp D.C.P e ⟨none,op,ty,pos,aft,g⟩ w Post)(h:∀w',Post w'->RL D l e w'):
  RL D (⟨none,op,ty,pos,aft,g⟩::l) e w:=by
 obtain⟨w',c,r⟩:=c
 exact zoG q c (h w' r)
end
section
variable {D:RC}{S:World->Prop}{e:Env}{d:Nat}{op:Op}{pos:String}
def z1Y (hi:D.ops[i]? =some ⟨some d,op,ty,pos,aft,g⟩)(A:VN D e g true=true)(r:Nat.blt d D.C.n=true)
  (c:Yp D.C.P e ⟨some d,op,ty,pos,aft,g⟩ w Post) (h:∀v w',Post v w'->S w'/\RH D S fuel (listed.setIfInBounds i true) ((d,v)::e) w'):Nx D S fuel listed e w i:=by
 obtain⟨v,w',c,q⟩:=c
 exact zjA hi A r c (h v w' q).1 (h v w' q).2
def SY {Post:World->Prop}(hi:D.ops[i]? =some ⟨none,op,ty,pos,aft,g⟩)(r:VN D e g true=true)
  (c:Zp D.C.P e ⟨none,op,ty,pos,aft,g⟩ w Post) (h:∀w',Post w'->S w'/\RH D S fuel (listed.setIfInBounds i true) e w'):Nx D S fuel listed e w i:=by
 obtain⟨w',c,q⟩:=c
 exact zph hi r c (h w' q).1 (h w' q).2
def zg7 (hi:D.ops[i]? =some ⟨none,op,ty,pos,aft,g⟩)(r:VN D e g true=true)
  (c:Yp D.C.P e ⟨none,op,ty,pos,aft,g⟩ w Post) (h:∀v w',Post v w'->S w'/\RH D S fuel (listed.setIfInBounds i true) e w'):Nx D S fuel listed e w i:=by
 obtain⟨v,w',c,q⟩:=c
 exact zo1 hi r c (h v w' q).1 (h v w' q).2
end
theorem UG (b i j:Nat):(⟨b,i,none⟩:Addr).add j=⟨b,i+j,none⟩:=by
 unfold Addr.add
 split
 ·simp_all
 ·rfl
/-! ### Slices -/
def Rd (w:World)(v:Value)(size n:Nat)(cs:List Value):Prop:=
 cs.length=n*size/\((∃c:Option Addr×Nat,v= .slice c.1 0 c.2/\n=0)\/∃b off cap,v= .slice (some ⟨b,off,none⟩) n cap/\∀j u,cs[j]? =some u->w.cell? ⟨b,off+j,none⟩=some u)
def Sl (w:World)(v:Value)(e:TypeId)(size n:Nat)(cs:List Value):Prop:=w.ownsRow 0 e size v n cs
section
variable {v:Value}{e size n:Nat}{S:Nat->Prop}
theorem Sl.len (h:Sl w v e size n cs):cs.length=n*size:=h.1
def Sl.lt (h:Sl w v e size n cs){g:Nat}(hg:v.ownBlock=some g):g<w.heap.size:=(y3g h g hg).2
theorem Sl.nil (w:World)(e size:Nat):Sl w (.slice none 0 0) e size 0 []:=y35 w 0 e size
theorem Sl.kp (h:Sl w v e size n cs)(k:Kp S w w')(q:∀g,v.ownBlock=some g->¬S g):Sl w' v e size n cs:=by
 refine⟨h.1,?_⟩
 rcases h.2 with A|⟨g,cap,c,rfl,hb,hg,r⟩
 ·exact .inl A
 ·exact .inr ⟨g,cap,c,O,hb,k.heap hg (q g O),r⟩
theorem Sl.ext (h:Sl w v e size n cs)(k:Ext w w'):Sl w' v e size n cs:=h.kp k λ_ _=>id
theorem Sl.rd (h:Sl w v e size n cs):Rd w v size n cs:=by
 refine⟨h.1,?_⟩
 rcases h.2 with⟨C,q⟩|⟨g,cap,A,r,hb,hg,q,E,F,ht⟩
 ·exact .inl ⟨(none,0),C,q⟩
 ·refine .inr ⟨g,0,cap,r,λj u B=>?_⟩;have c:=y2w h (g:=g) (by rw[r];rfl) j u B;rw[UG] at c;exact c
def Sl.shape (h:Sl w v e size n cs):(v= .slice none 0 0/\n=0)\/∃g cap,v= .slice (some ⟨g,0,none⟩) n cap/\n<=cap:=by
 rcases h.2 with B|⟨g,cap,c,A,hb,hg,q,r⟩
 ·exact .inl B
 ·exact .inr ⟨g,cap,A,q⟩
theorem Rd.kp (h:Rd w v size n cs)(k:Kp S w w')(A:∀g,v.ownBlock=some g->¬S g):Rd w' v size n cs:=by
 refine⟨h.1,?_⟩
 rcases h.2 with C|⟨b,off,cap,rfl,r⟩
 ·exact .inl C
 ·refine .inr ⟨b,off,cap,O,λj u B=>?_⟩;have q:=r j u B;have c:b<w.heap.size:=World.block_lt_of_cell? w _ q;rw[World.cell?_of_block (w:=w) (a:=⟨b,off+j,none⟩) (k.block b c (A b O))];exact q
theorem Rd.ext (h:Rd w v size n cs)(k:Ext w w'):Rd w' v size n cs:=h.kp k λ_ _=>id
theorem Rd.shape (h:Rd w v size n cs):∃a cap,v= .slice a n cap/\(a=none->n=0):=by
 rcases h.2 with⟨c,q,r⟩|⟨b,off,cap,q,-⟩
 ·subst r;exact⟨c.1,c.2,q,λ_=>rfl⟩
 ·exact⟨_,cap,q,λh=>by cases h⟩
end
def Kp.Yt {row:Option Nat}(h:w.grownBy w' row):Kp (λk=>row=some k) w w':=
 ⟨h.os,h.tape,h.output,h.size,λk q r=>h.block k q λc=>r c.symm⟩
theorem zi0 (w:World)(t ty e:TypeId)(i:TypeInfo)(z:Value)(size bytes:Nat)(ht:P.underlying t=some (.slice e))(hi:P.info? e=some i)(hz:i.zero=some z)
  (N:i.size=size) (p:i.bytes=bytes) (Z:z.cells.size=size) (T:0<size)
  (v:Value) (n:Nat) (xs:List Value) (h:Sl w v e size n xs) (x:Value) (m:Nat) (news:List Value) (A:Rd w x size m news) (h1:∀u∈news,u.oneCell'=true)
  (q:(n+m)*bytes<=140737488355328) (H:n+m<=maxLen):
  ∃ V w', (Builtin.append_ #[t, t] ty #[v, x]).run P w = .ok V w' /\ Sl w' V e size (n + m) (xs ++ news) /\ Kp (λk => v.ownBlock = some k) w w' /\
    (∀g,V.ownBlock=some g->v.ownBlock=some g\/w.heap.size<=g)/\(V= .slice none 0 0↔v= .slice none 0 0/\m=0):=by
 subst N
 subst p
 have a:n+m<=9223372036854775807:=by simp only[maxLen] at H;omega
 rcases A.2 with⟨⟨ca,c⟩,rfl,rfl⟩|⟨b,off,cap,rfl,F⟩
 ·have Y:news=[]:=y0x (by simpa using A.1);subst Y
  have hr:(Builtin.append_ #[t,t] ty #[v,.slice ca 0 c]).run P w= .ok v w:=by
   cases ca<;>
   rcases h.2 with⟨rfl,rfl⟩|⟨g,cap,f,rfl,o,hg,I,s,y,U⟩
   ·simp[Builtin.append_,run_underlying ht,sizeOf,typeInfo,hi,Builtin.lenOf,Builtin.firstCells]
   ·simp[Builtin.append_,run_underlying ht,sizeOf,typeInfo,hi,Builtin.lenOf,Builtin.firstCells,I,storeCells]
   ·simp[Builtin.append_,run_underlying ht,sizeOf,typeInfo,hi,Builtin.lenOf,Builtin.firstCells,loadCells,loadCellsFrom]
   ·simp[Builtin.append_,run_underlying ht,sizeOf,typeInfo,hi,Builtin.lenOf,Builtin.firstCells,I,storeCells,loadCells,loadCellsFrom]
  exact⟨v,w,hr,by simpa using h,Kp.refl _ _,λg hg=> .inl hg,ξ⟩
 ·have r:∀j u,news[j]? =some u->w.cell? ((⟨b,off,none⟩:Addr).add j)=some u:=λj u hu=>by rw[UG];exact F j u hu
  rcases h.2 with⟨rfl,rfl⟩|⟨g,B,f,rfl,o,hg,I,s,y,U⟩
  ·have hx:xs=[]:=y0x (by simpa using h.1);subst hx;by_cases hm:m=0
   ·subst hm;have hn:news=[]:=y0x (by simpa using A.1);subst hn;refine⟨.slice none 0 0,w,?_,Sl.nil w e i.size,Kp.refl _ _,by simp[Value.ownBlock],ξ⟩;simp[Builtin.append_,run_underlying ht,sizeOf,typeInfo,hi,Builtin.lenOf,Builtin.firstCells,loadCells,loadCellsFrom]
   ·have hr:=run_append_nil (P:=P) w t ty e i z ht hi hz ⟨b,off,none⟩ m cap news A.1 r ω ω (by have hb:=q;simp only[y0g] at hb;omega);obtain⟨V,w',L,E,C,J⟩:=run_append_own (P:=P) w w.heap.size t ty e i z i.size i.bytes ht hi hz O O Z T (.slice none 0 0) 0 [] (y35 w w.heap.size e i.size) ⟨b,off,none⟩ m cap news A.1 r h1 H q (y07 _);refine⟨V,w',L,⟨E.1,?_⟩,Kp.Yt C,λg hg=> .inr (y3g E g hg).1,J⟩;rcases E.2 with a1|⟨g,W,X,a0,a2,Q⟩
    ·exact .inl a1
    ·exact .inr ⟨g,W,X,a0,y02 _,Q⟩
  ·by_cases M:n+m<=B
   ·obtain⟨w',L,E,C⟩:=run_append_fits (P:=P) w 0 t ty e i i.size ht hi O g n B xs h ⟨b,off,none⟩ m cap news A.1 r h1 M;exact⟨_,w',L,E,Kp.Yt C,λg' C=> .inl (by simpa[Value.ownBlock] using C),ξ⟩
   ·have holds:∀j u,xs[j]? =some u->w.cell? ((⟨g,0,none⟩:Addr).add j)=some u:=y2w h (g:=g) O;have hr:=run_append_grow (P:=P) w t ty e i z ht hi hz ⟨g,0,none⟩ n B xs h.1 holds ⟨b,off,none⟩ m cap news A.1 r ω ω (growslice_fits ω q);have K:=grownCap_ge w (n+m) B e;have G:(xs++news).length=(n+m)*i.size:=by rw[y01,h.1,A.1,y0r]
    refine⟨_,_,hr,⟨G,.inr ⟨w.heap.size,_,_,O,y02 _,heap_alloc_new w.drew _,K,grownCap_le_maxLen w (n+m) B e H,?_,?_⟩⟩,?_,λg' C=> .inr (by simp[Value.ownBlock] at C;omega),ξ⟩
    ·simp only[Array.size_append,List.size_toArray,size_zeroCells,Z,h.1,A.1,<-y0r]
     congr 1
     omega
    ·simp only[Array.toList_append,y06];rw[<-y06,<-G];exact y3p
    ·exact⟨O,O,O,ξ,λk hk _=>Below.heap_alloc w.drew _ k hk⟩
section
variable {e:Env}{d:Option Nat}{pos:String}{x:Operand}{k:IntKind}{n:Nat}{u v:Value}{l:List UInt8}{size off:Nat}{td:TypeDesc}{agg:Bool}
/-! ### Loads and stores -/
theorem Sc (h:P.underlying t=some td)(ha:aggOf td=false)(q:look e x=some (ptr b i))(hB:Sk w b cs T)(hi:cs[i]? =some v):Y P e ⟨d,.load t x,ty,pos,aft,g⟩ v w w:=fun ρ r=>by
 have c:w.cell? ⟨b,i,none⟩=some v:=by rw[hB.cell];exact hi
 simp only[execOp,r _ _ q,Instr.loadAt,Instr.sureAddr,loadVar,pure_bind,y09,WU h,ha,y0J,y2r,if_false,run_load,c,y05]
theorem SQ (h:P.underlying t=some td)(ha:aggOf td=false){a:Addr}(q:look e x=some (.pointer (some a)))(c:w.cell? a=some v):Y P e ⟨d,.load t x,ty,pos,aft,g⟩ v w w:=fun ρ r=>by
 simp only[execOp,r _ _ q,Instr.loadAt,Instr.sureAddr,loadVar,pure_bind,y09,WU h,ha,y0J,y2r,if_false,run_load,c,y05]
theorem SO (B:P.underlying t=some td)(ha:aggOf td=true)(A:TI P t z n bytes)(C:look e x=some (ptr b i))(h:∀j u,news[j]? =some u->w.cell? ⟨b,i+j,none⟩=some u)(r:news.length=n):
  Y P e ⟨d,.load t x,ty,pos,aft,g⟩ (.agg news.toArray) w w:=fun ρ E=>by
 have c:=run_loadCells_list (P:=P) w ⟨b,i,none⟩ news (λj v q=>by rw[UG];exact h j v q)
 rw[r] at c
 simp only[execOp,E _ _ C,Instr.loadAt,Instr.sureAddr,loadVar,pure_bind,y09,WU B,ha,y0J,if_true,A.size,c,y05]
theorem Sk.cells (hB:Sk w b cs T)(h:(cs.drop i).take n=news):∀j u,news[j]? =some u->w.cell? ⟨b,i+j,none⟩=some u:=λj u c=>by
 subst h
 rw[hB.cell]
 rw[y1K] at c
 split at c
 ·simpa using c
 ·cases c
def oneV:Value->Bool
 | .agg _| .tuple _=>false
 |_=>true
theorem ZT (h:oneV v=true):v.cells=#[v]:=by cases v<;>simp_all [oneV,Value.cells]
theorem z2y (h:oneV v=true):v.oneCell'=true:=by cases v<;>simp_all [oneV,Value.oneCell']
theorem TO (B:TI P t z 1 bytes)(C:look e x=some (ptr b i))(E:look e y=some v)(c:oneV v=true)(hB:Sk w b cs T)(hi:i<cs.length):
  Zp P e ⟨d,.store t x y,ty,pos,aft,g⟩ w λw'=>Sk w' b (cs.set i v) T/\Kp (λk=>k=b) w w':=by
 refine⟨w.setCell ⟨b,i,none⟩ v,fun ρ h=>?_,z0x hB i v,Xo w b i v⟩
 have r:w.cell? ⟨b,i,none⟩=some cs[i]:=by rw[hB.cell];simp[hi]
 have A:=hB.free hi
 have q:(⟨b,i,none⟩:Addr).add 0=⟨b,i,none⟩:=by rw[UG];simp
 simp only[execOp,h _ _ C,h _ _ E,Instr.storeAt,Instr.sureAddr,storeVar,pure_bind,y09,B.size,y0J,ZT c]
 simp[storeCells,q,run_store P w _ v _ (z2y c),r,A]
theorem zpk (B:TI P t z 1 bytes){a:Addr}(C:look e x=some (.pointer (some a)))(E:look e y=some v)(c:oneV v=true)(r:w.cell? a=some u)(A:w.frozen? a=false):
  Z P e ⟨d,.store t x y,ty,pos,aft,g⟩ w (w.setCell a v):=fun ρ h=>by
 have q:a.add 0=a:=by simp[Addr.add]
 simp only[execOp,h _ _ C,h _ _ E,Instr.storeAt,Instr.sureAddr,storeVar,pure_bind,y09,B.size,y0J,ZT c]
 simp[storeCells,q,run_store P w _ v _ (z2y c),r,A]
def Ul (cs:List Value)(i:Nat)(vs:List Value):List Value:=cs.take i++vs++cs.drop (i+vs.length)
theorem WC {P:Program}{b:Nat}{T:TypeId}(o:Nat):∀(vs:List Value)(i:Nat) (cs:List Value) (w:World),Sk w b cs T->o+i+vs.length<=cs.length->(∀v∈vs,v.oneCell'=true)->
  ∃w',(storeCells ⟨b,o,none⟩ vs i).run P w= .ok () w'/\Sk w' b (Ul cs (o+i) vs) T/\Kp (λk=>k=b) w w'
 |[],i,cs,w,hB,_,_=>⟨w,rfl,by simpa[Ul] using hB,Kp.refl _ _⟩
 | v :: r, i, cs, w, hB, hl, h1 => by
   simp only[y03] at hl;have c:o+i<cs.length:=ω
   have B:w.cell? ⟨b,o+i,none⟩=some cs[o+i]:=by rw[hB.cell];simp[c]
   have E:=hB.free c;obtain⟨w',hr,h,F⟩:=WC (P:=P) o r (i+1) (cs.set (o+i) v) _ (z0x hB (o+i) v) (by simp;omega) (λu G=>h1 u (y0u _ G));refine⟨w',?_,?_,(Xo w b (o+i) v).trans F⟩
   ·simp only[storeCells,y09,UG,run_store P w _ v _ (h1 v (y0s ..)),B,E]
    simpa using hr
   ·have C:Ul (cs.set (o+i) v) (o+(i+1)) r=Ul cs (o+i) (v::r):=by
     simp only[Ul,y03]
     have q:(cs.set (o+i) v).take (o+(i+1))=cs.take (o+i)++[v]:=by
      rw[show o+(i+1)=(o+i)+1 from by omega,y3w (by simpa using c)];simp only[List.take_set,List.getElem_set_self];rw[y3K (by simp;omega)]
     have A:(cs.set (o+i) v).drop (o+(i+1)+r.length)=cs.drop (o+i+(r.length+1)):=by
      rw[List.drop_set_of_lt ω]
      congr 1
      omega
     rw[q,A];simp
    rw[<-C];exact h
theorem Ta (A:TI P t z n bytes)(E:look e x=some (ptr b i))(F:look e y=some (.agg news.toArray))(C:news.all oneV=true)(r:news.length=n)(hB:Sk w b cs T)(hi:i+n<=cs.length):
  Zp P e ⟨d,.store t x y,ty,pos,aft,g⟩ w λw'=>Sk w' b (Ul cs i news) T/\Kp (λk=>k=b) w w':=by
 obtain⟨w',hr,c,q⟩:=WC (P:=P) i news 0 cs w hB ω (λu B=>z2y (by have:=y1H.1 C u B;exact this))
 refine⟨w',fun ρ h=>?_,by simpa using c,q⟩
 simp only[execOp,h _ _ E,h _ _ F,Instr.storeAt,Instr.sureAddr,storeVar,pure_bind,y09,A.size,y0J,Value.cells]
 simp[r,hr]
/-! ### New variables -/
def z3J (w:World)(b:Nat)(cs:List Value)(T:TypeId)(w':World):Prop:=b=w.heap.size/\Ext w w'/\Sk w' b cs T
def z3J.mk' (w:World)(cs:List Value)(T:TypeId):z3J w w.heap.size cs T (w.alloc (.cells cs.toArray T)):=⟨rfl,Y9 w _,zhu w cs T⟩
theorem UD (h:look e x=some v)(c:v.cells=cs.toArray):Yp P e ⟨d,.box t x,ty,pos,aft,g⟩ w λr w'=>∃b,r=ptr b 0/\z3J w b cs t w':=by
 refine⟨_,_,fun ρ q=>?_,w.heap.size,rfl,z3J.mk' w cs t⟩
 simp[execOp,q _ _ h,Instr.box,newVar,newRow,newObj,Sem.run,c]
theorem UK (c:TI P t z n bytes)(h:z.cells=cs.toArray):Yp P e ⟨d,.alloc t,ty,pos,aft,g⟩ w λq w'=>∃b,q=ptr b 0/\z3J w b cs t w':=by
 refine⟨_,_,fun ρ r=>?_,w.heap.size,rfl,z3J.mk' w cs t⟩
 simp[execOp,Instr.alloc,c.zero,newVar,newRow,newObj,Sem.run,h]
theorem pmm:Yp P e ⟨d,.makeMap t none,ty,pos,aft,g⟩ w λc w'=>∃b,c= .map (some b)/\b=w.heap.size/\Ext w w'/\w'.heap[b]? =some (.map #[] 0):=by
 refine⟨_,_,fun ρ h=>?_,w.heap.size,rfl,rfl,Y9 w _,z0t w _⟩
 simp[execOp,Instr.makeMap,newObj,Sem.run]
def bl (c:Nat->Option (Nat×Nat)):List Value->List (Nat×Value)->Option (List Value)
 |cs,[]=>some cs
 | cs, (i, v) :: r => match c i with
   |none=>none
   | some (off, size) => match Nat.beq v.cells.toList.length size && Nat.ble (off + size) cs.length with
     |true=>bl c (Ul cs off v.cells.toList) r
     |false=>none
theorem z5R (off:Nat):∀(vs:List Value)(j:Nat) (cs:List Value),off+j+vs.length<=cs.length->
  ((vs.zipIdx j).foldl (λ(cs:Array Value) (p:Value×Nat)=>cs.setIfInBounds (off+p.2) p.1) cs.toArray)=(Ul cs (off+j) vs).toArray
 |[],j,cs,_=>by simp[Ul]
 | v :: r, j, cs, h => by
   simp only[y03] at h;simp only[List.zipIdx_cons,List.foldl_cons,List.setIfInBounds_toArray];rw[z5R off r (j+1) (cs.set (off+j) v) (by simp;omega)]
   congr 1
   have c:off+j<cs.length:=ω
   simp only[Ul,y03]
   have q:(cs.set (off+j) v).take (off+(j+1))=cs.take (off+j)++[v]:=by
    rw[show off+(j+1)=(off+j)+1 from by omega,y3w (by simpa using c)];simp only[List.take_set,List.getElem_set_self];rw[y3K (by simp;omega)]
   have A:(cs.set (off+j) v).drop (off+(j+1)+r.length)=cs.drop (off+j+(r.length+1)):=by
    rw[List.drop_set_of_lt ω]
    congr 1
    omega
   rw[q,A];simp
theorem z3R {C:Nat->Option (Nat×Nat)}:∀(vs:List (Nat×Value)) (cs c:List Value),bl C cs vs=some c->Instr.fill C cs.toArray vs=some c.toArray
 |[],cs,c,h=>by simp[bl] at h;simp[Instr.fill,h]
 | (i, v) :: r, cs, c, h => by
   simp only[bl] at h;simp only[Instr.fill];split at h
   ·cases h
   ·rename_i off size q
    split at h
    ·rename_i hb
     simp only[y0E] at hb;have A:v.cells.toList.length=size:=y2P hb.1;have E:off+size<=cs.length:=Nat.le_of_ble_eq_true hb.2;simp only[q];have H:v.cells.size=size:=by simpa using A
     have F:(decide (v.cells.size≠size) ||decide (off+v.cells.size>cs.toArray.size))=false:=by simp;omega
     rw[if_neg (by rw[F];simp)];have B:=z5R off v.cells.toList 0 cs (by simp only[y1b];rw[A];exact E);simp only[y1b] at B
     have G:(v.cells.zipIdx.foldl (λ(cs:Array Value) (p:Value×Nat)=>cs.setIfInBounds (off+p.2) p.1) cs.toArray)=(Ul cs off v.cells.toList).toArray:=by
      rw[<-Array.foldl_toList,Array.toList_zipIdx];exact B
     have:=z3R r _ c h;rw[<-G] at this;exact this
    ·cases h
def lookp (e:Env):List (Nat×Operand)->Option (List (Nat×Value))
 |[]=>some []
 | (i, x) :: r => match look e x, lookp e r with
   |some v,some vs=>some ((i,v)::vs)
   |_,_=>none
theorem z68 {e:Env}{ρ:Operand->Value}(A:∀x v,look e x=some v->ρ x=v):∀(l:List (Nat×Operand)) (c:List (Nat×Value)),lookp e l=some c->l.map (λp=>(p.1,ρ p.2))=c
 |[],c,h=>by simp[lookp] at h;simp[h]
 | (i, x) :: r, c, h => by
   simp only[lookp] at h;split at h
   ·rename_i v vs B q
    simp at h;subst h;simp[A _ _ B,z68 A r vs q]
   ·cases h
theorem z3e {e:Env}(q:∀x v,look e x=some v->ρ x=v){l:List (Nat×Operand)}{c:List (Nat×Value)}(h:lookp e l=some c):
  (l.toArray.map λx=>match x with|(i,x)=>(i,ρ x))=c.toArray:=by
 apply y32.1
 simp only[Array.toList_map]
 exact z68 q l c h
def SP (P:Program)(t:TypeId)(h:List (Nat×Nat)):Prop:=∃c:Array Field,P.underlying t=some (.struct c)/\∀w,(c.mapM λf=>do pure (f.offset,<-sizeOf f.type):Sem (Array (Nat×Nat))).run P w= .ok h.toArray w
theorem VI {vs:List (Nat×Value)}{r:List (Nat×Nat)}(F:TI P t z n bytes)(G:z.cells=zs.toArray)(q:SP P t r)(E:lookp e parts=some vs)(h:bl (r[·]?) zs vs=some cs):
  Y P e ⟨d,.build t parts.toArray,ty,pos,aft,g⟩ (.agg cs.toArray) w w:=fun ρ H=>by
 obtain⟨I,A,B⟩:=q
 have C:=z3R vs zs cs h
 have c:Instr.fill (r.toArray[·]?) z.cells vs=some cs.toArray:=by rw[G];simpa using C
 simp only[execOp,z3e H E,Instr.build,y09,F.zero,y0J,run_underlying A,B,c,y05]
theorem zjH {vs:List (Nat×Value)}{len:Nat}(A:TI P t z n bytes)(B:z.cells=zs.toArray)(ht:P.underlying t=some (.array len el))(q:TI P el ze size be)(r:lookp e parts=some vs)(h:bl (λi=>some (i*size,size)) zs vs=some cs):
  Y P e ⟨d,.build t parts.toArray,ty,pos,aft,g⟩ (.agg cs.toArray) w w:=fun ρ C=>by
 have c:=z3R vs zs cs h
 rw[<-B] at c
 simp only[execOp,z3e C r,Instr.build,y09,A.zero,y0J,run_underlying ht,q.size,c,y05]
theorem pbs {vs:List (Nat×Value)}{len:Nat}(ht:P.underlying t=some (.slice el))(E:TI P el ze size be)(B:Nat.ble (len*size) 16777216=true)
  (C:(Array.range (len*size)).map ((if len*size=0 then #[] else ze.cells)[·%(if len*size=0 then #[] else ze.cells).size]!)=zs.toArray) (H:lookp e parts=some vs) (h:bl (λi=>some (i*size,size)) zs vs=some cs) (A:cs.length=len*size) (G:len<=maxLen):
  Yp P e ⟨d,.buildSlice t len parts.toArray,ty,pos,aft,g⟩ w λF w'=>∃b,F= .slice (some ⟨b,0,none⟩) len len/\z3J w b cs el w'/\Sl w' F el size len cs:=by
 refine⟨_,_,fun ρ I=>?_,w.heap.size,rfl,z3J.mk' w cs el,⟨A,.inr ⟨w.heap.size,len,cs.toArray,rfl,y02 _,z0t w _,y07 _,G,by simpa using A,by simp[<-A]⟩⟩⟩
 have c:=z3R vs zs cs h
 rw[<-C] at c
 have r:¬len*size>2^24:=by have:=Nat.le_of_ble_eq_true B;omega
 simp only[execOp,z3e I H,Instr.buildSlice,y09,run_underlying ht,y0J,E.size,Sem.run_ite,if_neg r,y05]
 by_cases q:len*size=0
 ·simp only[q,if_true] at c;simp[Array.range_zero'] at c;simp[q,newRow,newObj,Sem.run,Array.range_zero',c]
 ·simp only[q,if_false] at c;simp[q,newRow,newObj,Sem.run,c,E.zero]
theorem z5G (z:Value)(n:Nat)(h:oneV z=true):(madeCells z.cells n).toList=List.replicate n z:=by
 rw[ZT h]
 apply y25
 ·simp[madeCells]
 ·intro j c q;simp[madeCells,y2T]
theorem pmk {c:Nat}[hza:WX za n][hb':WX zb c](ht:P.underlying t=some (.slice el))(H:TI P el z 1 bytes)(L:oneV z=true)(I:look e x=some (.int k za))(J:look e y=some (.int k' zb))(r:n<=c)(hb:bytes*c<=281474976710656)(E:c<=maxLen):
  Yp P e ⟨d,.makeSlice t x y,ty,pos,aft,g⟩ w λG w'=>∃b,G= .slice (some ⟨b,0,none⟩) n c/\z3J w b (List.replicate c z) el w'/\Sl w' G el 1 n (List.replicate n z):=by
 obtain⟨rfl⟩:=hza
 obtain⟨rfl⟩:=hb'
 obtain⟨i,hi,C,B,A⟩:=H
 have hr:=run_make (P:=P) w t el i z ht hi C k k' n c ω ω (by rw[A,<-y1A];exact Int.ofNat_le.2 hb) (by simp only[maxLen] at E;omega)
 have q:=z5G z c L
 have h:madeCells z.cells c=(List.replicate c z).toArray:=by rw[<-q]
 rw[B] at hr
 simp only[y2x,y0j,h] at hr
 refine⟨_,_,fun ρ F=>?_,w.heap.size,rfl,z3J.mk' w (List.replicate c z) el,⟨ξ,.inr ⟨w.heap.size,c,_,rfl,y02 _,z0t w _,r,E,ξ,?_⟩⟩⟩
 ·simp only[execOp,F _ _ I,F _ _ J,y09,hr,y0J,y05]
 ·simp[y2F,y0A r]
/-! ### Addresses, fields, parts -/
theorem SN (A:TG P t i off (n+1) agg)(C:look e x=some (ptr b m)):Y P e ⟨d,.fieldAddr t x i,ty,pos,aft,g⟩ (ptr b (m+off)) w w:=fun ρ E=>by
 obtain⟨G,f,z,bytes,F,c,h,q,r,H,I⟩:=A
 have B:=r.size (w:=w)
 simp[execOp,E _ _ C,Instr.fieldAt,run_underlying c,h,Instr.sureAddr,fieldPlace,B,UG,q]
theorem yfd {vs:Array Value}(B:TG P t i off n false)(E:look e x=some (.agg vs))(C:vs[off]? =some v):Y P e ⟨d,.field t x i,ty,pos,aft,g⟩ v w w:=fun ρ F=>by
 obtain⟨H,f,z,bytes,G,c,h,q,I,r,A⟩:=B
 simp[execOp,F _ _ E,Instr.field,run_underlying c,h,part,WU r,A,asAgg,q,C]
theorem yia [hza:WX za n]{len:Nat}(ht:P.underlying t=some (.array len el))(c:TI P el z size bytes)(r:look e x=some (ptr b m))(A:look e y=some (.int k za))(q:n<len):
  Y P e ⟨d,.indexAddr t x y,ty,pos,aft,g⟩ (ptr b (m+n*size)) w w:=fun ρ h=>by
 obtain⟨rfl⟩:=hza
 have B:(0:Int)<=(n:Int)/\(n:Int)<(len:Int):=ω
 have c:=c.size (w:=w)
 simp[execOp,h _ _ r,h _ _ A,Instr.indexAt,asIntOf,run_underlying ht,Instr.sureAddr,q,c,UG]
theorem Tm [hza:WX za n]{len:Nat}(ht:P.underlying t=some (.slice el))(c:TI P el z size bytes)(r:look e x=some (.slice (some ⟨b,m,none⟩) len cap))(A:look e y=some (.int k za))(q:n<len):
  Y P e ⟨d,.indexAddr t x y,ty,pos,aft,g⟩ (ptr b (m+n*size)) w w:=fun ρ h=>by
 obtain⟨rfl⟩:=hza
 have B:(0:Int)<=(n:Int)/\(n:Int)<(len:Int):=ω
 have c:=c.size (w:=w)
 simp[execOp,h _ _ r,h _ _ A,Instr.indexAt,asIntOf,run_underlying ht,q,c,UG]
theorem yxa [hza:WX za n]{len:Nat}{vs:Array Value}(ht:P.underlying t=some (.array len el))(c:TI P el z 1 bytes)(r:P.underlying el=some td)(ha:aggOf td=false)(B:look e x=some (.agg vs))(C:look e y=some (.int k za))(q:n<len)(A:vs[n]? =some v):
  Y P e ⟨d,.index t x y,ty,pos,aft,g⟩ v w w:=fun ρ h=>by
 obtain⟨rfl⟩:=hza
 have c:=c.size (w:=w)
 simp[execOp,h _ _ B,h _ _ C,Instr.index,asIntOf,run_underlying ht,q,c,part,WU r,ha,A]
theorem UY {vs:Array Value}(h:look e x=some (.tuple vs))(c:vs[i]? =some v):Y P e ⟨d,.extract x i,ty,pos,aft,g⟩ v w w:=fun ρ q=>by
 simp[execOp,q _ _ h,Instr.extract,c]
theorem ync {a:Addr}(c:look e x=some (.pointer (some a))):Y P e ⟨d,.nilCheck x,ty,pos,aft,g⟩ (.pointer (some a)) w w:=fun ρ h=>by simp[execOp,h _ _ c]
theorem zoI {p q:Array Value}(c:look e x=some (.func (.func f) p q)):Y P e ⟨d,.nilCheck x,ty,pos,aft,g⟩ (.func (.func f) p q) w w:=fun ρ h=>by simp[execOp,h _ _ c]
theorem VQ (ht:P.underlying t=some (.slice el)){a:Option Addr}{len:Nat}(c:look e x=some (.slice a len cap)):Y P e ⟨d,.call ⟨.builtin .len,#[x],#[t]⟩,ty,pos,aft,g⟩ (I (len:Int)) w w:=fun ρ h=>by
 simp[execOp,resolve,invoke,builtin,h _ _ c,Builtin.len_,run_underlying ht,goInt]
theorem zgl {p q:Bool}(h:look e x=some (.bool p))(r:look e y=some (.bool q))(ht:P.underlying t=some .bool):Y P e ⟨d,.binOp .eql t x y t',ty,pos,aft,g⟩ (.bool (p==q)) w w:=fun ρ c=>by
 simp[execOp,c _ _ h,c _ _ r,eqGuard_at_bool,run_eql_bool w t p q ht]
end
/-! ### Calls -/
def CF (P:Program)(f:FuncId):Prop:=∃fn,P.funcs[f]? =some fn/\(fn.name=="runtime.NumGoroutine")=false/\fn.body.isNone=false
section
variable {e:Env}{d:Option Nat}{pos:String}
def looks (e:Env):List Operand->Option (List Value)
 |[]=>some []
 | x :: r => match look e x, looks e r with
   |some v,some vs=>some (v::vs)
   |_,_=>none
theorem Xm {ρ:Operand->Value}(q:∀x v,look e x=some v->ρ x=v):∀(xs:List Operand)(vs:List Value),looks e xs=some vs->xs.map ρ=vs
 |[],vs,h=>by simp[looks] at h;simp[h]
 | x :: r, vs, h => by
   simp only[looks] at h;split at h
   ·rename_i v B A c
    simp at h;subst h;simp[q _ _ A,Xm q r B c]
   ·cases h
theorem Xe (h:CF P f)(args:Array Value):(callFunc f args).run P w= .ok (.enter f args) w:=by
 obtain⟨fn,r,A,B⟩:=h
 have c:¬fn.name="runtime.NumGoroutine":=by simpa using A
 have q:¬fn.body=none:=by intro C;simp[C] at B
 simp[callFunc,program,Sem.run,r,c,q]
theorem yc {args:List Operand}(q:CF P f)(ha:looks e args=some vs):Yc P e ⟨d,.call ⟨.value (.func f),args.toArray,ts⟩,ty,pos,aft,g⟩ f vs w:=fun ρ c=>by
 have h:ρ (.func f)= .func (.func f) #[] #[]:=c _ _ O
 have r:=Xm c _ _ ha
 simp[execOp,resolve,h,Deferred.ofValue,invoke,Xe q,r]
theorem Vc {args:List Operand}{p q:List Value}(r:CF P f)(B:look e fv=some (.func (.func f) p.toArray q.toArray))(ha:looks e args=some vs):
  Yc P e ⟨d,.call ⟨.value fv,args.toArray,ts⟩,ty,pos,aft,g⟩ f (p++vs++q) w:=fun ρ c=>by
 have h:=c _ _ B
 have A:=Xm c _ _ ha
 simp[execOp,resolve,h,Deferred.ofValue,invoke,Xe r,A]
theorem ymf {first caps:List Operand}{p q:List Value}(h:looks e first=some p)(r:looks e caps=some q):Y P e ⟨d,.makeFunc (.func f) first.toArray caps.toArray,ty,pos,aft,g⟩ (.func (.func f) p.toArray q.toArray) w w:=fun ρ c=>by
 simp[execOp,Instr.makeFunc,Xm c _ _ h,Xm c _ _ r]
theorem pap {x:Operand}{size n:Nat}{u v:Value}(ht:P.underlying t=some (.slice el))(I:TI P el z size bytes)(E:z.cells.size=size)(C:0<size)
  (M:look e x=some v) (N:look e y=some u) (L:Sl w v el size n cs) (J:Rd w u size m news) (G:∀c∈news,c.oneCell'=true) (hb:(n+m)*bytes<=140737488355328) (H:n+m<=maxLen):
  Yp P e ⟨d,.call ⟨.builtin .append,#[x,y],#[t,t]⟩,ty,pos,aft,g⟩ w λq w'=>Sl w' q el size (n+m) (cs++news)/\Kp (λk=>v.ownBlock=some k) w w'/\
   (∀g,q.ownBlock=some g->v.ownBlock=some g\/w.heap.size<=g)/\(q= .slice none 0 0↔v= .slice none 0 0/\m=0):=by
 obtain⟨i,hi,B,A,r⟩:=I
 obtain⟨q,w',hr,h⟩:=zi0 (P:=P) w t ty el i z size bytes ht hi B A r E C v n cs L u m news J G hb H
 refine⟨q,w',fun ρ F=>?_,h⟩
 simp[execOp,resolve,invoke,builtin,F _ _ M,F _ _ N,hr]
end
/-! ### Strings and bytes -/
def WD (c:UInt8):Value:= .int .u8 (c.toNat:Int)
section
variable {e:Env}{d:Option Nat}{pos:String}{x:Operand}{l:List UInt8}{n:Nat}
theorem zfx (A:P.underlying t=some .string)(h:P.underlying t'=some (.slice el))(q:P.underlying el=some (.int .u8))(B:look e x=some (S l)):
  Yp P e ⟨d,.convert t t' x,ty,pos,aft,g⟩ w λE w'=>∃b cap rest,E= .slice (some ⟨b,0,none⟩) l.length cap/\z3J w b (l.map WD++rest) el w'/\l.length+rest.length=cap:=by
 have hr:=run_bytes_of_string (P:=P) w t t' el ⟨l.toArray⟩ A h q
 rw[WG] at hr
 have r:=grownCap_ge w l.length 0 el
 have c:bytesRow ⟨l.toArray⟩ (grownCap w l.length 0 el)=(l.map WD++List.replicate (grownCap w l.length 0 el-l.length) (Value.int .u8 0)).toArray:=by
  simp[bytesRow,WG,WD]
 refine⟨_,w.drew.alloc (.cells (bytesRow ⟨l.toArray⟩ (grownCap w l.length 0 el)) el ((bytesRow ⟨l.toArray⟩ (grownCap w l.length 0 el)).size,(bytesRow ⟨l.toArray⟩ (grownCap w l.length 0 el)).size+1)),fun ρ C=>?_,w.heap.size,grownCap w l.length 0 el,List.replicate (grownCap w l.length 0 el-l.length) (Value.int .u8 0),rfl,⟨rfl,?_,?_⟩,by simp;omega⟩
 ·simp only[execOp,C _ _ B,y09,hr,y0J,y05]
 ·exact(Ext.Sv w).trans (Y9 w.drew _)
 ·refine⟨_,by rw[<-c];exact z0t w.drew _,λj F=>?_⟩;rw[c];simp only[List.size_toArray];omega
theorem zbn (C:P.underlying t=some (.slice el))(q:P.underlying el=some (.int .u8))(h:P.underlying t'=some .string)(E:look e x=some (.slice (some ⟨b,i,none⟩) n cap))(hB:Sk w b cs T)(A:(cs.drop i).take n=l.map WD)(B:l.length=n):
  Y P e ⟨d,.convert t t' x,ty,pos,aft,g⟩ (S l) w w:=fun ρ F=>by
 have c:=hB.cells A
 have hr:=run_convert_bytes_back (P:=P) w t t' el ⟨b,i,none⟩ cap l C q h (λj r=>by rw[UG];exact c j _ (by simp[r,WD]))
 rw[B] at hr
 simp only[execOp,F _ _ E,y09,hr,y0J,y05]
end
/-! ### Results that lie in memory -/
inductive z2p (P:Program) (w:World) (e:Env):List ResultVar->List Value->Prop where
 |nil:z2p P w e [] []
 |tmp {t:Tmp} {v:Value} {rs:List ResultVar} {vs:List Value} (h:fnd e t=some v) (hr:z2p P w e rs vs):z2p P w e (.tmp t::rs) (v::vs)
 | cell {x : Tmp} {t : TypeId} {td : TypeDesc} {z : Value} {n bytes b i : Nat} {news : List Value} {rs : List ResultVar} {vs : List Value} (hu : P.underlying t = some td) (ha : aggOf td = true) (hs : TI P t z n bytes)
   (h:fnd e x=some (ptr b i)) (hc:∀j u,news[j]? =some u->w.cell? ⟨b,i+j,none⟩=some u) (hn:news.length=n) (hr:z2p P w e rs vs):z2p P w e (.cell x t::rs) (.agg news.toArray::vs)
 | cell1 {x : Tmp} {t : TypeId} {td : TypeDesc} {b i : Nat} {v : Value} {rs : List ResultVar} {vs : List Value} (hu : P.underlying t = some td) (ha : aggOf td = false)
   (h:fnd e x=some (ptr b i)) (hc:w.cell? ⟨b,i,none⟩=some v) (hr:z2p P w e rs vs):z2p P w e (.cell x t::rs) (v::vs)
theorem z2p.run {e:Env}{n:Nat}{ms:List Dfr}(ha:EOk n ms e a):∀{rs:List ResultVar} {vs:List Value},z2p P w e rs vs->Sem.run P (rs.mapM (resM a)) w= .ok vs w:=by
 intro rs vs h
 induction h with
 |nil=>simp
 | @tmp t v rs vs h hr ih =>
   have hg:resM a (.tmp t)=pure v:=by simp only[resM];rw[ha.get _ _ h]
   rw[y2D,hg]
   simp only[pure_bind,y09,ih,Result.andThen,y05]
 | @cell x t td z n bytes b i news rs vs hu hA hs h hc hn hr ih =>
   have hg:=ha.get _ _ h;have q:=run_loadCells_list (P:=P) w ⟨b,i,none⟩ news (λj v r=>by rw[UG];exact hc j v r);rw[hn] at q
   have c:Sem.run P (resM a (.cell x t)) w= .ok (.agg news.toArray) w:=by
    simp only[resM,hg,asAddr,pure_bind,loadVar,y09,WU hu,hA,y0J,if_true,hs.size,q,y05]
   rw[y2D]
   simp only[y09,c,ih,Result.andThen,y05]
 | @cell1 x t td b i v rs vs hu hA h hc hr ih =>
   have hg:=ha.get _ _ h
   have c:Sem.run P (resM a (.cell x t)) w= .ok v w:=by
    simp only[resM,hg,asAddr,pure_bind,loadVar,y09,WU hu,hA,y0J,y2r,if_false,run_load,hc]
   rw[y2D];simp only[y09,c,ih,Result.andThen,y05]
def ZM {n:Nat}{ms:List Dfr}{e:Env}(ha:EOk n ms e a)(P:Program)(w:World)(fn:Func)(vs:List Value)(h:z2p P w e fn.results.toList vs):
  (results fn a.tmps).run P w= .ok (TC vs) w:=by
 have q:=z2p.run ha h
 have c:results fn a.tmps=(do
   let us<-fn.results.mapM (resM a)
   pure (if h:us.size=1 then us[0] else .tuple us)):=rfl
 rw[c,<-y3n (xs:=fn.results),List.mapM_toArray]
 simp only[y09,map_eq_pure_bind,q,Result.andThen,y05]
 cases vs with
 |nil=>simp[TC]
 | cons v r => cases r with
   |nil=>simp[TC]
   |cons u r=>simp[TC]
section
variable {R:Value->World->Prop}{n:Nat}{e:Env}
def SF (q:P.funcs[f]? =some fn)(hr:z2p P w e fn.results.toList vs)(c:z1b R (.returned (TC vs)) w):SI ⟨P,f,R,n,none,[],false⟩ (.code .ret::k) e w:=
 z27 O q y1G (λ_ h=>by cases h) λa ha=>⟨_,ZM ha P w fn vs hr,c⟩
def Zw {ms:List Dfr}(r:ms.Nodup)(q:Vu ms w)(h:P.funcs[f]? =some fn)(hr:z2p P (Wh ms w) e fn.results.toList vs)(c:z1b R (.returned (TC vs)) (Wh ms w)):SI ⟨P,f,R,n,none,ms,false⟩ (.code .ret::k) e w:=
 z27 O h r q λa ha=>⟨_,ZM ha P _ fn vs hr,c⟩
end
section
variable {e:Env}{d:Option Nat}{pos:String}{x:Operand}{k:IntKind}{n:Nat}[ha:WX za m][hb:WX zb n]
theorem zmd (C:look e x=some (.int k za))(E:look e y=some (.int k zb))(B:k.signed=false)(A:m<2^k.bits)(F:0<n):Y P e ⟨d,.binOp .quo t x y t',ty,pos,aft,g⟩ (.int k ((m / n:Nat):Int)) w w:=fun ρ c=>by
 obtain⟨rfl⟩:=ha
 obtain⟨rfl⟩:=hb
 have h:¬((n:Int)=0):=ω
 have q:(m:Int).tdiv (n:Int)=((m / n:Nat):Int):=by rw[y3J ω];simp
 have r:=z4t B (y1Z (y0S m n) A)
 simp only[execOp,eqGuard_quo,binOp_quo,Op.intDiv,c _ _ C,c _ _ E,h,if_false,pure_bind,y05,q,r]
end
def z0M {D:Nat}(h:w.heap[D]? =some (.deferred (some []))):Vu [.mk D] w:=λd c=>by
 simp at c;subst c;exact⟨D,O,h⟩
def U1 (w:World)(l:Nat)(o:Obj):Kp (λk=>k=l) w (w.putObj l o):=
 ⟨rfl,rfl,rfl,ξ,λk _ c=>World.putObj_heap_other c⟩
def z1G {l:Nat}{o:Obj}(h:w.heap[l]? =some o):l<w.heap.size:=by
 rcases y0a l w.heap.size with c|c
 ·exact c
 ·rw[y1M c] at h;cases h
def Rec (f n:Nat)(e:Env)(ps:Array Tmp)(assign body:Code)(l:Nat)(st:LoopState)(pend:Option Code)(w:World):Prop:=
 ∃r:Loop,w.heap[l]? =some (.loop r)/\r.state=st/\r.pending=pend/\r.fn=f/\r.params=ps/\r.assign=assign/\r.body=body/\r.tmps.size=n/\∀i v,fnd e i=some v->r.tmps.getD i undef=v
def Rec.lt {f n:Nat}{e:Env}{l:Nat}(h:Rec f n e ps assign body l st pend w):l<w.heap.size:=by
 obtain⟨r,h,-⟩:=h;exact z1G h
def Kp.zoX {S:Nat->Prop}{f n:Nat}{e:Env}{l:Nat}(k:Kp S w w')(h:Rec f n e ps assign body l st pend w)(c:¬S l):Rec f n e ps assign body l st pend w':=by
 obtain⟨r,h,hr⟩:=h
 exact⟨r,k.heap h c,hr⟩
def Kp.rc {S:Nat->Prop}{f n:Nat}{e:Env}{l:Nat}(k:Kp S w w')(c:Rc=Rec f n e ps assign body l)(h:Rc st pend w)(q:¬S l):Rc st pend w':=by
 subst c;exact k.zoX h q
def zfd {f n:Nat}{e:Env}{l:Nat}(c:Rc=Rec f n e ps assign body l)(h:Rc st pend w):l<w.heap.size:=by
 subst c;exact h.lt
def z4Y (P:Program)(l:Nat)(args:List Value)(w:World)(S:Value->World->Prop):Prop:=
 ∃ r : Loop, w.heap[l]? = some (.loop r) /\ args.length = r.params.size /\
   RoundIn Fence.wide 0 P l r.fn ((r.params.zip args.toArray).foldl (λtmps (t,a)=>tmps.setIfInBounds t a) r.tmps) r.assign r.body w (z1b S)
def z4Y.mono {l:Nat}{S S':Value->World->Prop}(h:z4Y P l args w S)(A:∀v w',S v w'->S' v w'):z4Y P l args w S':=by
 obtain⟨r,c,q,u⟩:=h
 exact⟨r,c,q,u.mono λx w' ⟨v,E,B⟩=>⟨v,E,A _ _ B⟩⟩
def zfF:List Tmp->List Value->Env->Env
 |p::ps,v::vs,e=>zfF ps vs ((p,v)::e)
 |_,_,e=>e
def zcu {n:Nat}:∀(ps:List Tmp)(vs:List Value) (e:Env) (t:Array Value),ps.all (Nat.blt · n)=true->t.size=n->(∀i v,fnd e i=some v->t.getD i undef=v)->
  ((ps.zip vs).foldl (λtmps (t,a)=>tmps.setIfInBounds t a) t).size=n/\∀i v,fnd (zfF ps vs e) i=some v->((ps.zip vs).foldl (λtmps (t,a)=>tmps.setIfInBounds t a) t).getD i undef=v
 |[],_,e,t,_,hs,h=>⟨hs,h⟩
 |_::_,[],e,t,_,hs,h=>⟨hs,h⟩
 | p :: ps, v :: vs, e, t, hp, hs, h => by
   simp only[List.all_cons,y0E] at hp;have c:=(EOk.put (n:=n) (ms:=[]) (e:=e) (a:=⟨t,[]⟩) ⟨hs,O,h⟩ hp.1 v);exact zcu ps vs _ _ hp.2 c.size c.get
theorem XH {f n l:Nat}{S:Value->World->Prop}{e:Env}{ps:List Tmp}
  {Rc:LoopState->Option Code->World->Prop} (v:Rc=Rec f n e ps.toArray assign body l) (u:Rc st pend w) (J:args.length=ps.length) (B:ps.all (Nat.blt · n)=true)
  (h:SI ⟨P,f,S,n,some l,[],false⟩ [.code assign,.beginRound,.code body] (zfF ps args e) w):z4Y P l args w S:=by
 subst v
 obtain⟨r,hr,-,-,rfl,G,rfl,rfl,E,q⟩:=u
 refine⟨r,hr,by rw[G,J];simp,trivial,λc cs _=>?_⟩
 let b:Frame:={(default:Frame) with fn:=r.fn,kind:= .normal,roundOf:=some l}
 have L:(r.params.zip args.toArray).foldl (λtmps (t,a)=>tmps.setIfInBounds t a) r.tmps=(ps.zip args).foldl (λtmps (t,a)=>tmps.setIfInBounds t a) r.tmps:=by
  rw[G,List.zip_toArray,List.foldl_toArray]
 have A:∀tmps,Frame.round l r.fn tmps r.assign r.body .normal=b.atR {tmps:=tmps,defers:=[]} [.code r.assign,.beginRound,.code r.body]:=λtmps=>by
  simp[Frame.round,Frame.atR,b]
 have F:=zcu ps args e r.tmps B E q
 rw[L,A]
 obtain⟨x,w',H,I⟩:=h ⟨_,[]⟩ ⟨F.1,O,F.2⟩ b O O O (c::cs) c cs O
 exact⟨x,w',H,comesIn_wide.2 I⟩
section
variable {C:Cx}{e:Env}{f n:Nat}{e0:Env}{l:Nat}
def z7j {r:Loop}(h:w.heap[l]? =some (.loop r))(u:r.fn=f)(x:r.params=ps)(A:r.assign=assign)(B:r.body=body)(E:r.tmps.size=n)(F:∀i v,fnd e0 i=some v->r.tmps.getD i undef=v)(q:LoopState)(c:Option Code):
  Rec f n e0 ps assign body l q c (w.putObj l (.loop {r with state:=q,pending:=c})):=
 ⟨_,y21 (z1G h),rfl,rfl,u,x,A,B,E,F⟩
theorem run_beginRound (x:C.rd=some l)(u:Rc=Rec f n e0 ps assign body l)(c:Rc .ready pend w)(h:∀w',Rc .busy pend w'->Kp (λk=>k=l) w w'->SI C k e w'):SI C (.beginRound::k) e w:=by
 subst u
 obtain⟨r,B,E,F,G,H,I,J,L,M⟩:=c
 refine λa N b O U q cs=>?_
 have v:=Go.run_beginRound (P:=C.P) B E
 have A:Rec f n e0 ps assign body l .busy pend (w.putObj l (.loop {r with state:= .busy})):=by
  rw[<-F];exact z7j B G H I J L M .busy r.pending
 exact(h _ A (U1 w l _) a N b O U q cs).of_steps (.one (stepR_beginRound (q.trans x) v))
end
section
variable {g:Nat}{S:Value->World->Prop}{e:Env}{f n:Nat}{e0:Env}{l:Nat}
theorem VY (u:Rc=Rec f n e0 ps assign body l)(q:Rc st pend w)(h:∀w',Rc .ready none w'->Kp (λk=>k=l) w w'->S (.bool true) w'):SI ⟨P,g,S,m,some l,[],false⟩ [] e w:=by
 subst u
 obtain⟨r,A,M,N,E,F,G,H,I,J⟩:=q
 intro a U b V L x cs c B v
 subst v
 exact⟨.returned (.bool true),_,⟨_,O,h _ (z7j A E F G H I J .ready none) (U1 w l _)⟩,.one (stepR_round_end x L (run_endRound none A))⟩
theorem ZO (u:Rc=Rec f n e0 ps assign body l)(q:Rc st pend w)(h:∀w',Rc .done (some .ret) w'->Kp (λk=>k=l) w w'->S (.bool false) w'):SI ⟨P,g,S,m,some l,[],false⟩ (.code .ret::k) e w:=by
 subst u
 obtain⟨r,A,M,N,E,F,G,H,I,J⟩:=q
 intro a U b V L x cs c B v
 subst v
 exact⟨.returned (.bool false),_,⟨_,O,h _ (z7j A E F G H I J .done (some .ret)) (U1 w l _)⟩,.one (stepR_round_ret x L (run_endRound (some .ret) A))⟩
theorem Wu {ps:List Tmp}{ms:List Dfr}{E:FuncId}{p q:List Value}(hg:look e fv=some (.func (.func E) p.toArray q.toArray))(Q:CF P E)
  (F:∀l w1,Ext w w1->l=w.heap.size+1->w1.heap.size=w.heap.size+2->w1.heap[w.heap.size]? =some (.deferred (some []))->∀Rc,Rc=Rec f n e ps.toArray assign body l->Rc .ready none w1->
   SG P E (p++[.func (.yield l) #[] #[]]++q) w1 λv w2=>∃st pend,Rc st pend w2/\st≠ .busy/\
    ∀W,Kp (λk=>k=l) w2 W->SI ⟨P,f,S,n,none,.mk w.heap.size::ms,false⟩ ((pend.map Item.code).toList++k) e W):
  SI ⟨P,f,S,n,none,ms,false⟩ (.code (.rangeFunc fv ps.toArray assign body)::k) e w:=by
 intro a H b s T U cs
 have L:a.eval fv= .func (.func E) p.toArray q.toArray:=H.look hg
 have X:=run_enterLoop_outer (P:=P) (w:=w) b.fn a.tmps ps.toArray assign body
 have V:b.roundOf=none:=U
 rw[<-V] at X
 obtain⟨w1,h⟩:∃w1,(w.alloc (.deferred (some []))).alloc (.loop {state:= .ready,pending:=none,fn:=b.fn,tmps:=a.tmps,params:=ps.toArray,assign,body,defers:=w.heap.size})=w1:=⟨_,O⟩
 have m:Ext w w1:=by rw[<-h];exact(Y9 w _).trans (Y9 _ _)
 have i:w1.heap.size=w.heap.size+2:=by rw[<-h];simp
 have z:w1.heap[w.heap.size]? =some (.deferred (some [])):=by
  rw[<-h];refine(Y9 _ _).block _ ξ id |>.trans ?_;exact World.alloc_heap_new w _
 have Z:Rec f n e ps.toArray assign body (w.heap.size+1) .ready none w1:=by
  refine⟨_,by rw[<-h];have:=World.alloc_heap_new (w.alloc (.deferred (some []))) (.loop {state:= .ready,pending:=none,fn:=b.fn,tmps:=a.tmps,params:=ps.toArray,assign,body,defers:=w.heap.size});simpa using this,rfl,rfl,s,rfl,rfl,rfl,H.size,H.get⟩
 rw[h] at X
 have N:(resolve a.eval (rangeCall fv (w.heap.size+1)) 0).run P w1= .ok {target:= .fn (.func E) q.toArray,args:=p.toArray++#[.func (.yield (w.heap.size+1)) #[] #[]]} w1:=by
  have I:∀v,a.eval (.const v)=v:=λ_=>rfl
  generalize a.eval=ρ at L I⊢
  simp[rangeCall,resolve,L,I,Deferred.ofValue]
 have M:(invoke (.fn (.func E) q.toArray) (p.toArray++#[Value.func (.yield (w.heap.size+1)) #[] #[]])).run P w1= .ok (.enter E (p++[Value.func (.yield (w.heap.size+1)) #[] #[]]++q).toArray) w1:=by
  simp[invoke,Xe Q]
 have A:=stepR_rangeFunc (P:=P) (b:=b) (a:=a) (k:=k) (cs:=cs) (w:=w) X N M
 have K:=F (w.heap.size+1) w1 m O i z _ O Z
 obtain⟨x,W,fr,⟨v,o,st,pend,G,j,Y⟩,u,R,B⟩:=K (b.atR {a with defers:=[{target:= .collected w.heap.size,args:=#[]}]++a.defers} (.inRangeFunc (w.heap.size+1)::k)::cs)
 subst o
 obtain⟨r,r1,r2,r3,r4,r5,r6,r7,r8,r9⟩:=G
 have J:=run_endLoop (P:=P) r1 (by rw[r2];exact j)
 have t:=step_leave_returned B (c:=b.atR {a with defers:=[{target:= .collected w.heap.size,args:=#[]}]++a.defers} (.inRangeFunc (w.heap.size+1)::k)) (cs:=cs)
 rw[finish_atR_inRangeFunc] at t
 have y:=stepR_endRangeFunc (P:=P) (b:=b) (a:={a with defers:=[{target:= .collected w.heap.size,args:=#[]}]++a.defers}) (k:=k) (cs:=cs) J
 rw[r3] at y
 refine z3H.of_steps (Steps.trans (.one A) (Steps.trans u (Steps.trans (.one t) (.one y)))) ?_
 exact Y _ (U1 W _ _) ⟨a.tmps,[{target:= .collected w.heap.size,args:=#[]}]++a.defers⟩ ⟨H.size,by show [_]++a.defers=_;rw[H.defers];rfl,H.get⟩ b s T U cs
end
/-! ### The call of yield -/
def Yy (P:Program)(e:Env)(o:Oper)(l:Nat)(args:List Value)(w:World):Prop:=
 ∀ρ:Operand->Value,(∀x v,look e x=some v->ρ x=v)->(execOp ρ o).run P w=(Instr.yield l args.toArray).run P w
section
variable {D:RC}{rest:List Oper}{e:Env}{d:Nat}{op:Op}{pos:String}{l:Nat}{S:Value->World->Prop}
theorem yy {d:Option Nat}{args:List Operand}(u:look e fv=some (.func (.yield l) #[] #[]))(q:looks e args=some vs):
  Yy P e ⟨d,.call ⟨.value fv,args.toArray,ts⟩,ty,pos,aft,g⟩ l vs w:=fun ρ c=>by
 have h:=c _ _ u
 have r:=Xm c _ _ q
 simp[execOp,resolve,h,Deferred.ofValue,invoke,r]
def zez {rd:Option Nat}{tmps:Array Value}(h:RoundIn Fence.wide 0 P l f tmps assign body w R):RoundIn (WF rd) 0 P l f tmps assign body w R:=h
theorem zad (G:VN D e g true=true)(E:Nat.blt d D.C.n=true)(I:Yy D.C.P e ⟨some d,op,ty,pos,aft,g⟩ l args w)(B:z4Y D.C.P l args w S)
  (h:∀v w',S v w'->RL D rest ((d,v)::e) w'):RL D (⟨some d,op,ty,pos,aft,g⟩::rest) e w:=λa c=>by
 refine wpList_want (Vp c G) ⟨λ_ _=>trivial,?_⟩
 have u:=I a.eval (λx v q=>c.look q)
 obtain⟨r,hr,F,A⟩:=B
 rw[run_yield hr (by simpa using F)] at u
 rw[Ya u (λ_ h=>by cases h)]
 exact⟨z2l,zez (A.mono λx w' ⟨v,q,H⟩=>by subst q;exact h v w' H _ (c.put E v))⟩
end
structure Ky (P:Program)(kt:TypeId){κ:Type}[DecidableEq κ](K:κ->Value):Prop where
 same:∃td,P.underlying kt=some td/\(∀a b,Instr.sameNow td (K a) (K b)=some (decide (a=b)))/\∀w e n a,(Instr.checkKey e (n+1) kt (K a)).run P w= .ok () w
 bits:∀a,Instr.sameBits 10000 (K a) (K a)=true
theorem VH {k:IntKind}(h:P.underlying kt=some (.int k)):Ky P kt (λz:Int=>Value.int k z):=by
 refine⟨⟨_,h,λa b=>?_,λw e n a=>?_⟩,λa=>?_⟩
 ·have:(a==b)=decide (a=b):=by by_cases c:a=b<;>simp[c]
  simp[Instr.sameNow,this]
 ·simp[Instr.checkKey,run_underlying h]
 ·simp[Instr.sameBits]
section
variable {κ:Type}[DecidableEq κ]
def UM:List (κ×Value)->κ->Option Value
 |[],_=>none
 |(a,v)::r,k=>if k=a then some v else UM r k
def putL:List (κ×Value)->κ->Value->List (κ×Value)
 |[],k,v=>[(k,v)]
 |(a,u)::r,k,v=>if k=a then(a,v)::r else(a,u)::putL r k v
theorem zfM (kv:List (κ×Value))(k:κ)(v:Value)(x:κ):UM (putL kv k v) x=if x=k then some v else UM kv x:=by
 induction kv with
 |nil=>simp[putL,UM]
 | cons p r l =>
   obtain⟨a,u⟩:=p;simp only[putL];by_cases h:k=a
   ·subst h;simp only[if_true,UM];by_cases c:x=k<;>simp[c]
   ·simp only[h,if_false,UM,l];by_cases c:x=a
    ·subst c;simp[Ne.symm h]
    ·simp[c]
theorem z4K {kv:List (κ×Value)}{k:κ}(h:UM kv k=none):k∉kv.map (·.1):=by
 induction kv with
 |nil=>simp
 | cons p r l =>
   obtain⟨a,u⟩:=p;simp only[UM] at h;split at h
   ·cases h
   ·rename_i c
    simp only[y0o,y0m,not_or];exact⟨c,l h⟩
theorem z6s (kv:List (κ×Value))(k:κ)(v:Value):(UM kv k).isSome=true->(putL kv k v).map (·.1)=kv.map (·.1):=by
 induction kv with
 |nil=>simp[UM]
 | cons p r l =>
   obtain⟨a,u⟩:=p;simp only[putL,UM];by_cases h:k=a
   ·simp[h]
   ·simp only[h,if_false];intro c;simp[l c]
theorem Yq (kv:List (κ×Value))(k:κ)(v:Value):UM kv k=none->putL kv k v=kv++[(k,v)]:=by
 induction kv with
 |nil=>simp[putL]
 | cons p r l =>
   obtain⟨a,u⟩:=p;simp only[putL,UM];by_cases h:k=a
   ·simp[h]
   ·simp only[h,if_false];intro c;simp[l c]
def XZ (K:κ->Value)(es:List MapEntry)(kv:List (κ×Value)):Prop:=es.map (λe=>(e.key,e.val))=kv.map (λp=>(K p.1,p.2))
def z0g (K:κ->Value)(w:World)(m:Nat)(kv:List (κ×Value)):Prop:=(∃es c,w.heap[m]? =some (.map es c)/\XZ K es.toList kv)/\(kv.map (·.1)).Nodup
theorem z0g.lt {K:κ->Value}{kv:List (κ×Value)}(h:z0g K w m kv):m<w.heap.size:=by
 obtain⟨⟨es,c,h,-⟩,-⟩:=h;exact z1G h
theorem Kp.map {K:κ->Value}{S:Nat->Prop}{kv:List (κ×Value)}(k:Kp S w w')(h:z0g K w m kv)(q:¬S m):z0g K w' m kv:=by
 obtain⟨⟨es,c,h,n⟩,l⟩:=h
 exact⟨⟨es,c,k.heap h q,n⟩,l⟩
theorem Ext.map {K:κ->Value}{kv:List (κ×Value)}(k:Ext w w')(h:z0g K w m kv):z0g K w' m kv:=Kp.map k h id
theorem ZD {n:TypeDesc}{K:κ->Value}(l:∀a b,Instr.sameNow n (K a) (K b)=some (decide (a=b))):∀{es:List MapEntry} {kv:List (κ×Value)} (i:Nat) {k:κ},XZ K es kv->UM kv k=none->
  Instr.findNow n (K k) es i=some none
 |[],[],_,_,_,_=>rfl
 | e :: es, (a, v) :: kv, i, k, h, hg => by
   simp only[XZ,y0o,y2p,y29] at h;simp only[UM] at hg;split at hg
   ·cases hg
   ·rename_i c
    simp only[Instr.findNow,h.1.1,l,c,decide_false]
    exact ZD l (i+1) h.2 hg
 |[],_::_,_,_,h,_=>by simp[XZ] at h
 |_::_,[],_,_,h,_=>by simp[XZ] at h
def z2z {n:TypeDesc}{K:κ->Value}(l:∀a b,Instr.sameNow n (K a) (K b)=some (decide (a=b))):∀{es:List MapEntry} {kv:List (κ×Value)} (i:Nat) {k:κ} {v:Value},XZ K es kv->UM kv k=some v->
  ∃j,Instr.findNow n (K k) es i=some (some (i+j,v))/\(∃e,es[j]? =some e/\e.key=K k)/\∀u,XZ K (es.modify j λe=>{e with key:=K k,val:=u}) (putL kv k u)
 | e :: es, (a, v') :: kv, i, k, v, h, hg => by
   simp only[XZ,y0o,y2p,y29] at h;simp only[UM] at hg;split at hg
   ·rename_i D
    subst D;cases hg;refine⟨0,by simp[Instr.findNow,h.1.1,l,h.1.2],⟨e,rfl,h.1.1⟩,λu=>?_⟩;simp only[XZ,putL,if_true,List.modify_cons,y0o,List.modify_zero_cons];simp[h.2]
   ·rename_i c
    obtain⟨j,r,⟨q,A,B⟩,C⟩:=z2z l (i+1) h.2 hg;refine⟨j+1,?_,⟨q,by simpa using A,B⟩,λu=>?_⟩
    ·simp only[Instr.findNow,h.1.1,l,c,decide_false,r]
     congr 3;omega
    ·simp only[putL,c,if_false,List.modify_succ_cons,XZ,y0o,y2p,y29]
     exact⟨h.1,C u⟩
 |[],[],_,_,_,_,hg=>by simp[UM] at hg
 |[],_::_,_,_,_,h,_=>by simp[XZ] at h
 |_::_,[],_,_,_,h,_=>by simp[XZ] at h
variable {e:Env}{d:Option Nat}{pos:String}{x u:Operand}{kv:List (κ×Value)}{K:κ->Value}{size:Nat}{k:κ}{v:Value}
def XR (c:Ky P kt K)(h:XZ K es.toList kv)(hg:UM kv k=none):(Instr.findKey kt (K k) es.toList).run P w= .ok none w:=by
 obtain⟨⟨q,n,l,-⟩,-⟩:=c
 simp[Instr.findKey,run_underlying n,ZD l 0 h hg]
def XQ (q:Ky P kt K)(h:XZ K es.toList kv)(hg:UM kv k=some v):
  ∃j,(Instr.findKey kt (K k) es.toList).run P w= .ok (some (j,v)) w/\(∃e,es[j]? =some e/\e.key=K k)/\∀u,XZ K (es.modify j λe=>{e with key:=K k,val:=u}).toList (putL kv k u):=by
 obtain⟨⟨B,A,r,-⟩,-⟩:=q
 obtain⟨j,c,l,n⟩:=z2z r 0 h hg
 refine⟨j,?_,by simpa using l,λu=>by simpa using n u⟩
 simp[Instr.findKey,run_underlying A,c]
theorem zoe (ht:P.underlying t=some (.map kt el))(q:Ky P kt K)(G:TI P el z size bytes)(C:look e x=some (.map (some m)))(D:look e y=some (K k))(F:z0g K w m kv):
  Y P e ⟨d,.lookup t x y true,ty,pos,aft,g⟩ (.tuple #[(UM kv k).getD z,.bool (UM kv k).isSome]) w w:=fun ρ n=>by
 obtain⟨⟨es,c,E,B⟩,-⟩:=F
 have A:=G.zero (w:=w)
 have h:=λb=>q.same.choose_spec.2.2 w b 9999 k
 have hg:(getObj m).run P w= .ok (.map es c) w:=by simp[getObj,Sem.run,E]
 cases l:UM kv k with
 | none =>
   have r:=XR (P:=P) (w:=w) q B l
   simp[execOp,n _ _ C,n _ _ D,Instr.lookup,run_underlying ht,hg,h,r,A]
 | some v =>
   obtain⟨j,r,-⟩:=XQ (P:=P) (w:=w) q B l;simp[execOp,n _ _ C,n _ _ D,Instr.lookup,run_underlying ht,hg,h,r]
theorem ylk (ht:P.underlying t=some (.map kt el))(q:Ky P kt K)(G:TI P el z size bytes)(C:look e x=some (.map (some m)))(D:look e y=some (K k))(F:z0g K w m kv):
  Y P e ⟨d,.lookup t x y false,ty,pos,aft,g⟩ ((UM kv k).getD z) w w:=fun ρ n=>by
 obtain⟨⟨es,c,E,B⟩,-⟩:=F
 have A:=G.zero (w:=w)
 have h:=λb=>q.same.choose_spec.2.2 w b 9999 k
 have hg:(getObj m).run P w= .ok (.map es c) w:=by simp[getObj,Sem.run,E]
 cases l:UM kv k with
 | none =>
   have r:=XR (P:=P) (w:=w) q B l
   simp[execOp,n _ _ C,n _ _ D,Instr.lookup,run_underlying ht,hg,h,r,A]
 | some v =>
   obtain⟨j,r,-⟩:=XQ (P:=P) (w:=w) q B l;simp[execOp,n _ _ C,n _ _ D,Instr.lookup,run_underlying ht,hg,h,r]
theorem zmu (ht:P.underlying t=some (.map kt el))(C:Ky P kt K)(N:look e x=some (.map (some m)))(O:look e y=some (K k))(M:look e u=some v)(L:z0g K w m kv):
  Zp P e ⟨d,.mapUpdate t x y u,ty,pos,aft,g⟩ w λw'=>z0g K w' m (putL kv k v)/\Kp (λi=>i=m) w w':=by
 have B:=L.lt
 obtain⟨⟨es,c,J,E⟩,I⟩:=L
 have r:=λb=>C.same.choose_spec.2.2 w b 9999 k
 have hg:(getObj m).run P w= .ok (.map es c) w:=by simp[getObj,Sem.run,J]
 have l:∀o,(setObj m o).run P w= .ok () (w.putObj m o):=λo=>by simp[setObj,Sem.run,J,World.putObj]
 cases h:UM kv k with
 | none =>
   have G:=XR (P:=P) (w:=w) C E h;refine⟨w.putObj m (.map (es.push {key:=K k,val:=v,born:=c}) (c+1)),fun ρ q=>?_,⟨⟨_,_,y21 B,?_⟩,?_⟩,U1 w m _⟩
   ·simp[execOp,q _ _ N,q _ _ O,q _ _ M,Instr.mapUpdate,run_underlying ht,hg,r,G,l]
   ·rw[Yq _ _ _ h]
    simpa[XZ] using E
   ·rw[Yq _ _ _ h,y0f,y0N];refine⟨I,ξ,λa S b H D=>?_⟩;simp at H;subst H;subst D
    exact z4K h S
 | some V =>
   obtain⟨j,G,⟨U,F,A⟩,n⟩:=XQ (P:=P) (w:=w) C E h;refine⟨w.putObj m (.map (es.modify j λe=>{e with key:=K k,val:=v}) c),fun ρ q=>?_,⟨⟨_,_,y21 B,n v⟩,?_⟩,U1 w m _⟩
   ·simp[execOp,q _ _ N,q _ _ O,q _ _ M,Instr.mapUpdate,run_underlying ht,hg,r,G,l,F,A,Instr.keyThatStays,C.bits]
   ·rw[z6s _ _ _ (by rw[h];rfl)];exact I
end
def z8J (l:List UInt8)(rest:List Value)(n:Nat)(c:n=l.length):((l.map WD++rest).drop 0).take n=l.map WD:=by
 subst c;simp
theorem Sl.part {g n e size k:Nat}(h:Sl w (.slice (some ⟨g,0,none⟩) n cap) e size n cs)(q:(cs.drop i).take k=news):∀j u,news[j]? =some u->w.cell? ⟨g,0+i+j,none⟩=some u:=λj u c=>by
 have l:=y2w h (g:=g) O (i+j) u (by
  subst q;rw[y1K] at c;split at c
  ·rwa [y1J] at c
  ·cases c)
 rw[UG] at l
 rw[show 0+i+j=0+(i+j) by omega]
 exact l
section
variable {e:Env}{d:Option Nat}{pos:String}{x u:Operand}
theorem ziz {op:BinOp}{p:Option Addr}{v:Value}:eqGuard op t x y (.pointer p) v=pure ():=by cases op<;>rfl
theorem zmi {op:BinOp}{p:Option Nat}{v:Value}:eqGuard op t x y (.map p) v=pure ():=by cases op<;>rfl
theorem z7K {p:Option Addr}{v:Value}:binOp .eql t (.pointer p) v=(do pure (.bool (<-Op.equal t (.pointer p) v))):=rfl
theorem z9f {p:Option Addr}{v:Value}:binOp .neq t (.pointer p) v=(do pure (.bool (!(<-Op.equal t (.pointer p) v)))):=rfl
theorem z8V {p:Option Nat}{v:Value}:binOp .eql t (.map p) v=(do pure (.bool (<-Op.equal t (.map p) v))):=rfl
theorem zns {p:Option Addr}(ht:P.underlying t=some (.pointer el)):(Op.equal t (.pointer p) (.pointer none)).run P w= .ok p.isNone w:=
 run_equalIn_pointer_nil (P:=P) (w:=w) 9999 t p (by simp[Program.pointee,ht])
theorem zoW {p:Option Nat}(ht:P.underlying t=some (.map kt el)):(Op.equal t (.map p) (.map none)).run P w= .ok p.isNone w:=
 run_equalIn_map_nil (P:=P) (w:=w) 9999 t kt el p ht
theorem T9 {p:Option Addr}(ht:P.underlying t=some (.pointer el))(h:look e x=some (.pointer p))(l:look e y=some (.pointer none)):Y P e ⟨d,.binOp .eql t x y t',ty,pos,aft,g⟩ (.bool p.isNone) w w:=fun ρ c=>by
 simp only[execOp,c _ _ h,c _ _ l,ziz,z7K,pure_bind,y09,zns ht,Result.andThen,y05]
theorem z8Y {p:Option Addr}(ht:P.underlying t=some (.pointer el))(h:look e x=some (.pointer p))(l:look e y=some (.pointer none)):Y P e ⟨d,.binOp .neq t x y t',ty,pos,aft,g⟩ (.bool (!p.isNone)) w w:=fun ρ c=>by
 simp only[execOp,c _ _ h,c _ _ l,ziz,z9f,pure_bind,y09,zns ht,Result.andThen,y05]
theorem zkM {p:Option Nat}(ht:P.underlying t=some (.map kt el))(h:look e x=some (.map p))(l:look e y=some (.map none)):Y P e ⟨d,.binOp .eql t x y t',ty,pos,aft,g⟩ (.bool p.isNone) w w:=fun ρ c=>by
 simp only[execOp,c _ _ h,c _ _ l,zmi,z8V,pure_bind,y09,zoW ht,Result.andThen,y05]
theorem zjq {size n:Nat}{k:IntKind}[hza:WX za i][hzb:WX zb j](ht:P.underlying t=some (.slice el))(B:TI P el z size bytes)(D:look e x=some (.slice (some ⟨b,m,none⟩) n cap))
  (E:look e y=some (.int k za)) (C:look e u=some (.int k' zb)) (h:i<=j/\j<=cap) (A:i<cap):
  Y P e ⟨d,.slice t x (some y) (some u) none,ty,pos,aft,g⟩ (.slice (some ⟨b,m+i*size,none⟩) (j-i) (cap-i)) w w:=fun ρ q=>by
 obtain⟨rfl⟩:=hza
 obtain⟨rfl⟩:=hzb
 have l:=B.size (w:=w)
 have r:∀w,(Instr.sliceBound (.int k' (j:Int)) cap .sliceAcap).run P w= .ok j w:=λw=>by rw[run_sliceBound _ _ _ _ _ ω ω];simp
 have v:∀w,(Instr.sliceBound (.int k (i:Int)) j .sliceB).run P w= .ok i w:=λw=>by rw[run_sliceBound _ _ _ _ _ ω ω];simp
 have c:¬cap=i:=ω
 simp[execOp,q _ _ D,q _ _ E,q _ _ C,Instr.sliceAt,run_underlying ht,Instr.slice,Instr.sliceBounds,r,v,l,c,UG]
theorem zcq {size n:Nat}{k:IntKind}[hzb:WX zb j](ht:P.underlying t=some (.slice el))(r:TI P el z size bytes)(A:look e x=some (.slice (some ⟨b,m,none⟩) n cap))
  (v:look e u=some (.int k zb)) (h:j<=cap):
  Y P e ⟨d,.slice t x none (some u) none,ty,pos,aft,g⟩ (.slice (some ⟨b,m,none⟩) j cap) w w:=fun ρ l=>by
 obtain⟨rfl⟩:=hzb
 have c:=r.size (w:=w)
 have q:∀w,(Instr.sliceBound (.int k (j:Int)) cap .sliceAcap).run P w= .ok j w:=λw=>by rw[run_sliceBound _ _ _ _ _ ω ω];simp
 simp[execOp,l _ _ A,l _ _ v,Instr.sliceAt,run_underlying ht,Instr.slice,Instr.sliceBounds,q,c,UG]
theorem zoz {n:Nat}{ts:TypeId}{l:List UInt8}(ht:P.underlying t=some (.slice el))(F:TI P el z 1 bytes)(G:look e x=some (.slice (some ⟨b,i,none⟩) n cap))(H:look e y=some (S l))
  (hB:Sk w b cs T) (hi:i+n<=cs.length):
  Yp P e ⟨d,.call ⟨.builtin .copy,#[x,y],#[t,ts]⟩,ty,pos,aft,g⟩ w λv w'=>v=I ((min l.length n:Nat):Int)/\Sk w' b (Ul cs i ((l.take n).map WD)) T/\Kp (λk=>k=b) w w':=by
 obtain⟨w',hr,c,E⟩:=WC (P:=P) i ((l.take n).map WD) 0 cs w hB (by simp;omega) (λu r=>by rw[y0k] at r;obtain⟨_,_,rfl⟩:=r;rfl)
 refine⟨_,w',fun ρ A=>?_,rfl,by simpa using c,E⟩
 have q:=F.size (w:=w)
 have B:((ByteArray.mk l.toArray).extract 0 (Nat.min (ByteArray.mk l.toArray).size n)).data.map (λb:UInt8=>Value.int .u8 (b.toNat:Int))=((l.take n).map WD).toArray:=by
  rw[z0I];simp only[WG,y2U,y0V]
  have C:l.take (Nat.min l.length n)=l.take n:=by
   rcases Nat.le_total l.length n with h| h
   ·rw[show Nat.min l.length n=l.length from y0A h,y0K,y0B h]
   ·rw[show Nat.min l.length n=n from y2H h]
  rw[C];simp
  rfl
 have D:(Builtin.copy_ #[t,ts] ty #[.slice (some ⟨b,i,none⟩) n cap,S l]).run P w= .ok (I ((min l.length n:Nat):Int)) w':=by
  unfold Builtin.copy_;simp only[S,Builtin.lenOf,Builtin.firstCells,y2a,y1C,y1N,pure_bind,y09,run_underlying ht,Result.andThen,y05,q,B,hr];rw[WG]
  rfl
 simp[execOp,resolve,invoke,builtin,A _ _ G,A _ _ H,D]
theorem Vl {C:Option (Nat×Bool)}{v:Value}{size g n:Nat}(J:TI P t z 1 bytes)(M:look e x=some (ptr g j))(N:look e y=some v)(L:oneV v=true)(D:Sl w (.slice (some ⟨g,0,none⟩) n cap) el size n cs)(V:j<cs.length):
  Zp P e ⟨d,.store t x y,ty,pos,aft,C⟩ w λw'=>Sl w' (.slice (some ⟨g,0,none⟩) n cap) el size n (cs.set j v)/\Kp (λk=>k=g) w w':=by
 obtain⟨h,⟨O,-⟩|⟨U,B,c,A,E,hg,I,H,r,l⟩⟩:=D
 ·cases O
 cases A
 have q:j<c.size:=by
  have:cs.length<=c.toList.length:=by rw[<-l];simp;omega
  simp at this;omega
 have F:w.cell? ⟨g,j,none⟩=some c[j]:=by simp[World.cell?,hg,q]
 have G:w.frozen? ⟨g,j,none⟩=false:=by simp[World.frozen?,hg]
 refine⟨w.setCell ⟨g,j,none⟩ v,fun ρ S=>zpk J M N L F G ρ S,⟨by simpa using h,.inr ⟨g,cap,c.setIfInBounds j v,rfl,E,Joins.block_setCell hg v,I,H,by simpa using r,?_⟩⟩,Xo w g j v⟩
 rw[y3P,<-l,List.take_set]
end
def z05 (P:Program)(ops:Array Oper)(Q:Exit->Act->World->Prop)(late:List Nat)(S:World->Prop):Nat->Array Bool->Act->World->Prop
 |0,listed,a,w=>Region.ready .any ops listed=[]/\Q .normal a w
 | n + 1, listed, a, w => (Region.ready .any ops listed = [] -> Q .normal a w) /\
     ∀ i ∈ Region.ready .any ops listed, (i ∈ late -> AtR P ops Q i (λc w' => XF P ops Q (λ_ => True) n (listed.setIfInBounds i true) c w') a w) /\
       (i∉late->AtR P ops Q i (λc w'=>S w'/\z05 P ops Q late S n (listed.setIfInBounds i true) c w') a w)
def z4h {P:Program}{ops:Array Oper}{Q:Exit->Act->World->Prop}{late:List Nat}{S:World->Prop}:∀(n:Nat)(listed:Array Bool) (a:Act) (w:World),z05 P ops Q late S n listed a w->XF P ops Q (λ_=>True) n listed a w
 |0,_,_,_,h=>h
 | n + 1, _, _, _, h => ⟨h.1, λi hi => by
     by_cases e:i∈late
     ·exact AtR.mono (λa w c=>⟨trivial,c⟩) ((h.2 i hi).1 e)
     ·exact AtR.mono (λa w c=>⟨trivial,z4h n _ _ _ c.2⟩) ((h.2 i hi).2 e)⟩
def zak {ops:Array Oper}{late:List Nat}{S:World->Prop}{n:Nat}(l:∀i∈Region.ready .any ops listed,i∈late)(h:XF P ops Q (λ_=>True) n listed a w):z05 P ops Q late S n listed a w:=by
 cases n with
 |zero=>exact h
 |succ n=>exact⟨h.1,λi hi=>⟨λ_=>AtR.mono (λa w c=>c.2) (h.2 i hi),λe=>absurd (l i hi) e⟩⟩
def waits (ops:List Oper)(listed:Array Bool)(late dn:List Nat)(i:Nat):Bool:= !dn.contains i&&late.all (λj=>dn.contains j)&&dn.all λj=>!listed.getD j true&&match ops[j]? with|some o=>o.after.any λx=>Region.binds .any x&&(x.on==i ||dn.contains x.on)|none=>false
section
variable {ops:Array Oper}{S:World->Prop}{late:List Nat}
theorem z7R {v:Value}(hi:ops[i]? =some oi)(E:∀(j:Nat)(o:Oper) cs b,ops[j]? =some o->o.op≠ .select cs b)(hQ:∀c a w,Q (.panic c) (a.put oi.dst v) w->Q (.panic c) a w)(U:i∉dn)
  (l:∀j∈late,j∈dn) (t:∀j∈dn,∃u,ops[j]? =some u/\∃e∈u.after,Region.binds .any e=true/\(e.on=i\/e.on∈dn)):∀(n:Nat)(listed:Array Bool) (a:Act) (w:World),(∀j∈dn,listed.getD j true=false)->
  (∀j u,ops[j]? =some u->j≠i->listed.getD j true=false->(∀e∈u.after,Region.binds .any e=true->e.on≠i)->oi.apart ops u=true)->i∈Region.ready .any ops listed->YieldsIf P ops S oi v a->S w->
  z05 P ops Q late S n (listed.setIfInBounds i true) (a.put oi.dst v) w->z05 P ops Q late S (n+1) listed a w:=by
 intro n
 induction n with
 | zero =>
   intro listed a w _ _ hr p J H;constructor
   ·intro s;rw[s] at hr;cases hr
   ·intro j g;by_cases e:j=i
    ·subst e;exact⟨λh=>absurd (l _ h) U,λ_=>Xu hi p J ⟨J,H⟩⟩
    ·exact absurd (ready_mono g e) (by rw[H.1];exact y2e)
 | succ n ih =>
   intro listed a w N M hr p J H;constructor
   ·intro s;rw[s] at hr;cases hr
   ·intro j g;by_cases e:j=i
    ·subst e;exact⟨λh=>absurd (l _ h) U,λ_=>Xu hi p J ⟨J,H⟩⟩
    ·obtain⟨Y,u,B,L⟩:=mem_ready.1 g;have X:listed.getD i true=false:=(mem_ready.1 hr).1
     have q:∀{m:Nat},listed.getD m true=false->∀x∈u.after,Region.binds .any x=true->x.on≠m:=fun {m} G x k f heq=>by
      have I:=L x k f;rw[heq] at I;by_cases y:m<listed.size
      ·simp[y] at G I;rw[G] at I;cases I
      ·simp[y1M (by omega:listed.size<=m)] at I
     have A:j∉dn:=λA=>by
      obtain⟨a0,C,x,k,f,r⟩:=t j A;rw[B] at C;cases C;rcases r with r|r
      ·exact q X x k f r
      ·exact q (N _ r) x k f O
     refine⟨λF=>absurd (l _ F) A,λF=>?_⟩;have T:=z42 B (M j u B e Y (q X)) (λcs b=>E i oi cs b hi) (λcs b=>E j u cs b B) hQ p ((H.2 j (ready_mono g e)).2 F);refine AtR.mono (λR w' Z=>⟨Z.2.1,?_⟩) T;refine ih (listed.setIfInBounds j true) R w' (λm G=>?_) (λm om G z W K=>?_) (ready_mono hr (Ne.symm e)) Z.1 Z.2.1 ?_
     ·rw[getD_set_ne true (λe=>A (by rw[e];exact G))];exact N m G
     ·refine M m om G z ?_ K;by_cases V:j=m
      ·subst V;exact Y
      ·rw[getD_set_ne true V] at W;exact W
     ·rw[y2L _ _ e];exact Z.2.2
theorem z6P {v:Value}(hi:ops[i]? =some oi)(l:∀(j:Nat)(o:Oper) cs b,ops[j]? =some o->o.op≠ .select cs b)(Z:∀c a w,Q (.panic c) (a.put oi.dst v) w->Q (.panic c) a w)(J:i∉late):∀(n:Nat)(listed:Array Bool) (a:Act) (w:World),
  (∀j u,ops[j]? =some u->j≠i->listed.getD j true=false->(∀e∈u.after,Region.binds .any e=true->e.on≠i)->oi.apart ops u=true)->i∈Region.ready .any ops listed->YieldsIf P ops (λ_=>True) oi v a->S w->
  z05 P ops Q late S n (listed.setIfInBounds i true) (a.put oi.dst v) w->z05 P ops Q late S (n+1) listed a w:=by
 intro n
 induction n with
 | zero =>
   intro listed a w _ hr U f H;constructor
   ·intro X;rw[X] at hr;cases hr
   ·intro j L;by_cases e:j=i
    ·subst e;exact⟨λh=>absurd h J,λ_=>Xu hi U trivial ⟨f,H⟩⟩
    ·exact absurd (ready_mono L e) (by rw[H.1];exact y2e)
 | succ n K =>
   intro listed a w C hr U f H;constructor
   ·intro X;rw[X] at hr;cases hr
   ·intro j L;by_cases e:j=i
    ·subst e;exact⟨λh=>absurd h J,λ_=>Xu hi U trivial ⟨f,H⟩⟩
    ·obtain⟨F,u,q,I⟩:=mem_ready.1 L;have O:listed.getD i true=false:=(mem_ready.1 hr).1
     have r:∀x∈u.after,Region.binds .any x=true->x.on≠i:=λx z t g=>by
      have G:=I x z t;rw[g] at G;by_cases k:i<listed.size
      ·simp[k] at O G;rw[O] at G;cases G
      ·simp[y1M (by omega:listed.size<=i)] at G
     have A:∀m V,ops[m]? =some V->m≠i->(listed.setIfInBounds j true).getD m true=false->(∀e∈V.after,Region.binds .any e=true->e.on≠i)->oi.apart ops V=true:=λm V y p N s=>by
      refine C m V y p ?_ s;by_cases M:j=m
      ·subst M;exact F
      ·rw[getD_set_ne true M] at N;exact N
     refine⟨λE=>?_,λE=>?_⟩
     ·have Y:=z42 q (C j u q e F r) (λcs b=>l i oi cs b hi) (λcs b=>l j u cs b q) Z U ((H.2 j (ready_mono L e)).1 E);refine AtR.mono (λW w' B=>?_) Y;exact z3u hi l Z n (listed.setIfInBounds j true) W w' A (ready_mono hr (Ne.symm e)) B.1 trivial (by rw[y2L _ _ e];exact B.2)
     ·have Y:=z42 q (C j u q e F r) (λcs b=>l i oi cs b hi) (λcs b=>l j u cs b q) Z U ((H.2 j (ready_mono L e)).2 E);refine AtR.mono (λW w' B=>⟨B.2.1,?_⟩) Y;refine K (listed.setIfInBounds j true) W w' A (ready_mono hr (Ne.symm e)) B.1 B.2.1 ?_;rw[y2L _ _ e];exact B.2.2
def z5L (hr:Region.ready .any ops listed=rs)(c:rs≠[])(q:∀i∈rs,i∉late)(h:∀i∈rs,AtR P ops Q i (λl w'=>S w'/\z05 P ops Q late S fuel (listed.setIfInBounds i true) l w') a w):z05 P ops Q late S (fuel+1) listed a w:=
 ⟨λn=>absurd (hr▸n) c,by rw[hr];exact λi hi=>⟨λe=>absurd e (q i hi),λ_=>h i hi⟩⟩
end
def RHL (D:RC)(late:List Nat)(S:World->Prop)(fuel:Nat)(listed:Array Bool)(e:Env)(w:World):Prop:=
 ∀a,EOk D.C.n D.C.ms e a->z05 D.C.P D.ops.toArray (QK D.C D.k) late S fuel listed a w
theorem Sx {C:Cx}{e:Env}(late:List Nat)(S:World->Prop)(r:C.P.follows .mixedOrders=true)
  (c:Vm C.n ops=true) (h:RHL ⟨C,ops,k,c⟩ late S ops.length (Array.replicate ops.length false) e w.drew) (q:calm ops=true:=by rfl):SI C (.code (.region id ops.toArray true)::k) e w:=
 z8n (λ_=>True) r c (λa l=>z4h _ _ _ _ (h a l)) q
def zfq (rs late:List Nat):Bool:=rs.all λi=>!late.contains i
def zj3 (rs late:List Nat):Bool:=rs.all λi=>late.contains i
section
variable {D:RC}{late:List Nat}{S:World->Prop}{e:Env}{d:Nat}{op:Op}{pos:String}
theorem zn0 (rs:List Nat)(hr:VJ D.ops listed rs=true)(n:zj3 rs late=true)(h:RH D (λ_=>True) fuel listed e w):RHL D late S fuel listed e w:=λa l=>
 zak (λi hi=>by
  have c:Region.ready .any D.ops.toArray listed=rs:=by simpa[VJ] using hr
  rw[c] at hi
  simpa using y1H.1 n i hi) (h a l)
theorem z9W (h:waits ops listed late dn i=true):i∉dn/\(∀j∈late,j∈dn)/\(∀j∈dn,listed.getD j true=false)/\∀j∈dn,∃u,ops.toArray[j]? =some u/\∃e∈u.after,Region.binds .any e=true/\(e.on=i\/e.on∈dn):=by
 unfold waits at h
 rw[y0E,y0E] at h
 obtain⟨⟨v,A⟩,l⟩:=h
 have l:=λj c=>y1H.1 l j c
 refine⟨by simpa using v,λj c=>by simpa using y1H.1 A j c,λj c=>?_,λj c=>?_⟩
 ·have:=l j c;rw[y0E] at this;cases e:listed.getD j true
  ·rfl
  ·have r:=this.1;rw[e] at r;cases r
 ·have:=l j c;rw[y0E] at this;have:=this.2
  cases q:ops[j]? with
  |none=>rw[q] at this;cases this
  | some o =>
    rw[q] at this;obtain⟨x,B,n⟩:=Array.any_eq_true'.1 this;rw[y0E,Bool.or_eq_true] at n;exact⟨o,by simpa using q,x,B,n.1,n.2.imp (λh=>by simpa using h) (λh=>by simpa using h)⟩
theorem zaO (dn:List Nat){v:Value}(hi:D.ops[i]? =some ⟨some d,op,ty,pos,aft,g⟩)(l:(W1 D.ops listed i&&waits D.ops listed late dn i)=true)(E:VN D e g true=true)(B:Nat.blt d D.C.n=true)
  (H:∀w,S w->Y D.C.P e ⟨some d,op,ty,pos,aft,g⟩ v w w) (A:S w) (h:RHL D late S fuel (listed.setIfInBounds i true) ((d,v)::e) w):RHL D late S (fuel+1) listed e w:=λa c=>by
 rw[y0E] at l
 obtain⟨q,r,u⟩:=XO l.1
 obtain⟨I,J,L,M⟩:=z9W l.2
 exact z7R (v:=v) (by simpa using hi) (y3t q) (λ_ _ _ h=>h) I J M _ _ _ _ L (y3z (by simpa using hi) r) (by simpa using u) (.inl ⟨Vp c E,λw F=>H w F a.eval (λx v G=>c.look G)⟩) A (h _ (c.put B v))
theorem Tz {v:Value}(hi:D.ops[i]? =some ⟨some d,op,ty,pos,aft,g⟩)(l:(W1 D.ops listed i&& !late.contains i)=true)(E:VN D e g true=true)(B:Nat.blt d D.C.n=true)
  (G:∀w,Y D.C.P e ⟨some d,op,ty,pos,aft,g⟩ v w w) (A:S w) (h:RHL D late S fuel (listed.setIfInBounds i true) ((d,v)::e) w):RHL D late S (fuel+1) listed e w:=λa c=>by
 rw[y0E] at l
 obtain⟨q,r,u⟩:=XO l.1
 exact z6P (v:=v) (by simpa using hi) (y3t q) (λ_ _ _ h=>h) (by simpa using l.2) _ _ _ _ (y3z (by simpa using hi) r) (by simpa using u) (.inl ⟨Vp c E,λw _=>G w a.eval (λx v F=>c.look F)⟩) A (h _ (c.put B v))
def NxL (D:RC)(late:List Nat)(S:World->Prop)(fuel:Nat)(listed:Array Bool)(e:Env)(w:World)(i:Nat):Prop:=
 ∀a,EOk D.C.n D.C.ms e a->AtR D.C.P D.ops.toArray (QK D.C D.k) i (λc w'=>S w'/\z05 D.C.P D.ops.toArray (QK D.C D.k) late S fuel (listed.setIfInBounds i true) c w') a w
theorem U6 (hr:(VJ D.ops listed [i]&&zfq [i] late)=true)(h:NxL D late S fuel listed e w i):RHL D late S (fuel+1) listed e w:=λa l=>by
 rw[y0E] at hr
 exact z5L (rs:=[i]) (by simpa[VJ] using hr.1) ξ (λj c=>by simpa using y1H.1 hr.2 j c) λj c=>by simp at c;subst c;exact h a l
theorem Zj (hr:(VJ D.ops listed [i,j]&&zfq [i,j] late)=true)(h:NxL D late S fuel listed e w i)(n:NxL D late S fuel listed e w j):RHL D late S (fuel+1) listed e w:=λa c=>by
 rw[y0E] at hr
 exact z5L (rs:=[i,j]) (by simpa[VJ] using hr.1) ξ (λj q=>by simpa using y1H.1 hr.2 j q) λm l=>by
  simp at l;rcases l with rfl|rfl
  ·exact h a c
  ·exact n a c
def NxL.z4Z (hi:D.ops[i]? =some o)(q:VN D e o.guard true=true)
  (h:∀a,EOk D.C.n D.C.ms e a->o.wp D.C.P a w (λl w'=>S w'/\z05 D.C.P D.ops.toArray (QK D.C D.k) late S fuel (listed.setIfInBounds i true) l w') (QK D.C D.k)):NxL D late S fuel listed e w i:=λa c=>by
 have r:=Vp c q
 refine .inl ?_
 unfold wpOp
 simp only[y2a,hi]
 rw[if_pos r]
 exact .inl (h a c)
theorem ziW {v:Value}(hi:D.ops[i]? =some ⟨some d,op,ty,pos,aft,g⟩)(r:VN D e g true=true)(q:Nat.blt d D.C.n=true)
  (A:Y D.C.P e ⟨some d,op,ty,pos,aft,g⟩ v w w') (l:S w') (h:RHL D late S fuel (listed.setIfInBounds i true) ((d,v)::e) w'):NxL D late S fuel listed e w i:=
 NxL.z4Z hi r λa c=>by
  have:=A a.eval (λx v u=>c.look u);unfold Oper.wp;rw[this];exact⟨l,h _ (c.put q v)⟩
theorem Uu {T:Value->World->Prop}(hi:D.ops[i]? =some ⟨some d,op,ty,pos,aft,g⟩)(A:VN D e g true=true)(u:Nat.blt d D.C.n=true)
  (B:Yc D.C.P e ⟨some d,op,ty,pos,aft,g⟩ f args w) (r:SG D.C.P f args w T) (h:∀v w',T v w'->S w'/\RHL D late S fuel (listed.setIfInBounds i true) ((d,v)::e) w'):NxL D late S fuel listed e w i:=
 NxL.z4Z hi A λa l=>by
  have:=B a.eval (λx v c=>l.look c);unfold Oper.wp;rw[this];exact y1P r λx w' ⟨v,c,q⟩=>by subst c;exact⟨(h v w' q).1,(h v w' q).2 _ (l.put u v)⟩
def Ty (hi:D.ops[i]? =some ⟨some d,op,ty,pos,aft,g⟩)(r:VN D e g true=true)(q:Nat.blt d D.C.n=true)
  (c:Yp D.C.P e ⟨some d,op,ty,pos,aft,g⟩ w Post) (h:∀v w',Post v w'->S w'/\RHL D late S fuel (listed.setIfInBounds i true) ((d,v)::e) w'):NxL D late S fuel listed e w i:=by
 obtain⟨v,w',c,l⟩:=c
 exact ziW hi r q c (h v w' l).1 (h v w' l).2
end
end Go.Proofs.YtbihggbffaigjaaGreatDoor
