/- Merged by program. -/
import Derived.KernelRfl
import Derived.WalkKit
import Derived.WalkSpells
import Derived.WalkLawsBesides
import Derived.OrdersHeld
import Derived.RangeFuncRecord
import Derived.OrdersIn
import Derived.TacticsIn
import Derived.Lib.Strings
import Derived.Lib.SmallJoins
import Derived.Laws.Externs
import Derived.MapKept
set_option linter.all false
set_option maxRecDepth 1000000
set_option maxHeartbeats 16000000
namespace Go.Proofs.YtbihggbffaigjaaGreatDoor
open Go Go.RowKit
variable {K K':Act->World->Prop}{P:Program}{Post:Value->World->Prop}{Q:Exit->Act->World->Prop}{R:Ending->World->Prop}{Rc:LoopState->Option Code->World->Prop}{S':Nat->Prop}{T el kt t t' ty:TypeId}{a:Act}{aft:Array Edge}{args cs news vs zs:List Value}{assign body:Code}{b be bytes cap fuel i id j m s:Nat}{c fv y y':Operand}{dn rs:List Nat}{es:Array MapEntry}{f:FuncId}{fn:Func}{g:Option (Nat×Bool)}{k todo:List Item}{k':IntKind}{listed:Array Bool}{o oi:Oper}{op:Op}{ops:List Oper}{p:Prop}{parts:List (Nat×Operand)}{pend:Option Code}{ps:Array Tmp}{st:LoopState}{ts:Array TypeId}{w w':World}{z ze:Value}{za zb:Int}{ρ:Operand->Value}
def Pd(h:p:=by kernel_rfl):p:=h
def y21:=@Nat.two_pow_add_eq_or_of_lt
def y1n:=@Nat.mul_le_mul_right
def y1b:=@Nat.sub_self
def y1A:=@Nat.div_mul_le_self
def y07:=@List.length_drop
def y0J:=@Nat.mul_comm
def y3E:=@List.countP_eq_length_filter
def y22:=@Option.map_map
def y0p:=@List.mem_cons_self
def y01:=@List.length_cons
def y2g:=@List.dropLast_concat
def y2z:=@Nat.sub_zero
def y30:=@List.Sublist.refl
def y2h:=@List.cons.injEq
def y0h:=@List.mem_map
def y1B:=@Nat.mul_le_mul
def y2A:=@Nat.lt_of_lt_of_le
def y31:=@List.singleton_append
def y1o:=@List.drop_sublist
def y1r:=@List.take_append_of_le_length
def y32:=@List.pairwise_append
def y0z:=@List.mem_singleton
def y2B:=@List.take_zero
def y1f:=@List.take_left'
def y08:=@List.length_replicate
def y2C:=@BitVec.toNat_and
def y2D:=@Array.toList_inj
def y33:=@Classical.choose_spec
def y34:=@Nat.pow_lt_pow_iff_right
def y3F:=@Array.size_setIfInBounds
def y35:=@List.flatten_cons
def y1C:=@Calls.mono
def y36:=@List.Perm.trans
def y1g:=@Nat.add_sub_cancel
def y1D:=@List.ext_getElem
def y17:=@List.getD_eq_getElem?_getD
def y23:=@List.foldl_cons
def y0X:=@Nat.and_two_pow_sub_one_eq_mod
def y37:=@List.drop_of_length_le
def y38:=@List.take_length_add_append
def y1c:=@List.take_append_drop
def y0m:=@List.getElem?_eq_some_iff
def y1N:=@Nat.not_lt_zero
def y24:=@Nat.and_le_right
def y1O:=@List.getElem?_drop
def y2i:=@List.set_cons_zero
def y0l:=@List.mem_cons
def y03:=@List.getElem?_eq_getElem
def y0O:=@List.map_congr_left
def y1s:=@List.sum_nil
def y39:=@List.getElem?_of_mem
def y3a:=@Region.free_spec
def y0K:=@List.ext_getElem?
def y25:=@List.length_erase_le
def y0t:=@List.eq_nil_of_length_eq_zero
def y0L:=@List.nodup_append
def y26:=@Nat.div_lt_iff_lt_mul
def y2j:=@Nat.and_one_is_mod
def y3b:=@IntKind.wrap_i64
def y0Y:=@List.sum_append
def y2E:=@Int.ofNat_lt
def y0H:=@List.mem_range
def y1h:=@Nat.one_mul
def y2F:=@Function.comp_apply
def y1P:=@List.foldl_append
def y2k:=@BitVec.toNat_xor
def y2l:=@World.ownsRow.cells
def y1p:=@List.Pairwise.nil
def y1E:=@List.take_take
def y3c:=@UInt8.toNat_ofNat'
def y1t:=@Nat.add_assoc
def y0T:=@List.getElem?_replicate
def y0a:=@Nat.lt_or_ge
def y2G:=@Nat.mul_lt_mul_of_pos_right
def y3G:=@Array.getElem?_eq_getElem
def y2m:=@List.flatMap_append
def y0x:=@List.length_set
def y3d:=@List.mem_iff_getElem?
def y1i:=@List.getElem?_range
def y0M:=@Nat.pow_add
def y1u:=@List.map_nil
def y2H:=@Array.setIfInBounds_comm
def y3e:=@List.Perm.append_left
def y1F:=@List.set_append_right
def y3f:=@Array.toArray_toList
def y2I:=@Nat.log2_self_le
def y2n:=@Nat.div_add_mod
def y3g:=@List.take_sublist
def y00:=@Nat.zero_le
def y2J:=@List.countP_append
def y1Q:=@Nat.mod_two_eq_zero_or_one
def y0U:=@Iff.rfl
def y0w:=@Bool.and_eq_true
def y1v:=@List.getElem?_cons_zero
def y3h:=@Int.tmod_lt_of_pos
def y0V:=@List.countP_cons
def y1R:=@Array.getElem?_eq_none
def y1j:=@List.drop_append_of_le_length
def y3i:=@Option.some.injEq
def y3j:=@List.count_append
def y3k:=@List.drop_length_add_append
def y0c:=@Nat.mul_one
def y1S:=@List.mem_of_mem_drop
def y2K:=@Nat.eq_of_beq_eq_true
def y0n:=@List.map_cons
def y0W:=@List.getElem?_append_right
def y2L:=@List.drop_left
def y0P:=@List.range_succ
def y3H:=@List.getElem?_take_of_lt
def y0y:=@Nat.eq_zero_or_pos
def y1q:=@List.map_map
def y2M:=@List.mapM_cons
def y0B:=@Nat.min_eq_left
def y0f:=@List.map_append
def y1G:=@List.getElem?_cons_succ
def y0C:=@List.getElem?_append_left
def y1k:=@List.map_take
def y0d:=@List.length_take
def y3l:=@World.ownsRow_nil
def y2N:=@List.map_set
def y0Q:=@List.getElem?_set_self
def y0e:=@List.getElem?_eq_none
def y0b:=@Nat.le_trans
def y3I:=@List.mem_or_eq_of_mem_set
def y1H:=@List.all_eq_true
def y2o:=@Bool.false_eq_true
def y3m:=@List.eq_of_mem_replicate
def y1I:=@List.getElem?_take
def y0R:=@Nat.div_le_self
def y27:=@List.sublist_cons_self
def y1J:=@List.nodup_nil
def y1T:=@List.map_drop
def y0q:=@List.cons_append
def y0N:=@List.take_of_length_le
def y2p:=@List.length_dropLast
def y0Z:=@List.mem_of_mem_take
def y2O:=@List.take_replicate
def y3n:=@List.take_left
def y1U:=@List.not_mem_nil
def y3o:=@Nat.lt_log2_self
def y09:=@Nat.zero_add
def y1w:=@List.erase_of_not_mem
def y1x:=@Nat.add_comm
def y10:=@List.nodup_cons
def y3p:=@Option.bind_some
def y11:=@Option.some.inj
def y3q:=@List.length_erase_of_mem
def y1y:=@List.drop_take
def y28:=@Nat.xor_lt_two_pow
def y0S:=@List.length_singleton
def y2P:=@Nat.mul_add
def y12:=@List.replicate_succ
def y2q:=@Nat.div_eq_of_lt
def y2Q:=@Classical.byContradiction
def y3r:=@Nat.lt_trichotomy
def y29:=@Prod.mk.injEq
def y0r:=@Nat.pow_le_pow_right
def y1z:=@List.pairwise_iff_getElem
def y1V:=@World.putObj_heap_same
def y2a:=@List.perm_middle
def y3s:=@Region.noSelect_spec
def y2r:=@List.drop_eq_getElem_cons
def y1d:=@List.getElem_mem
def y04:=@Sem.run_pure
def y0I:=@List.sum_cons
def y0A:=@List.getElem?_set_ne
def y3t:=@World.ownsRow.lt
def y13:=@List.drop_zero
def y3u:=@List.perm_cons_erase
def y2R:=@List.replicate_append_replicate
def y2s:=@Int.toNat_natCast
def y1l:=@List.length_nil
def y2S:=@Nat.mod_one
def y18:=@List.nil_append
def y14:=@List.length_range
def y2T:=@List.erase_sublist
def y3v:=@Comes.of_steps
def y2t:=@Nat.add_mul_div_left
def y3w:=@Array.getElem?_toList
def y0D:=@Result.andThen_ok
def y2u:=@List.take_append
def y2U:=@List.countP_singleton
def y0E:=@List.drop_drop
def y1W:=@List.mem_append_left
def Pe:=@List.length_append
def y3J:=@Int.tdiv_eq_ediv_of_nonneg
def y0v:=@Nat.two_pow_pos
def y2V:=@List.length_filter_le
def y2W:=@DataW.trod_int
def y3x:=@Lib.run_append_own_string
def y0o:=@List.append_nil
def y3y:=@List.filter_append
def y19:=@List.drop_left'
def y3z:=@Array.getElem?_modify
def y0i:=@List.getElem?_map
def y2X:=@Int.natCast_nonneg
def y2b:=@Int.natCast_ediv
def y06:=@Sem.run_bind
def y3K:=@List.set_eq_of_length_le
def y2c:=@List.map_singleton
def y2v:=@List.dropLast_concat_getLast
def y1a:=@List.mem_filter
def y15:=@Nat.mod_lt
def y3A:=@Nat.testBit_and
def y2d:=@Nat.mul_assoc
def y1K:=@List.length_pos_of_mem
def y2e:=@List.drop_succ_cons
def y0s:=@List.mem_cons_of_mem
def y3B:=@List.take_succ_cons
def y3L:=@Array.toList_setIfInBounds
def y2f:=@List.getElem?_toArray
def y2w:=@List.replicate_zero
def y0F:=@List.take_length
def y1L:=@Nat.pow_succ
def y1M:=@Nat.div_le_div_right
def y1e:=@Nat.add_zero
def y16:=@List.flatMap_cons
def y1m:=@List.pairwise_cons
def y0G:=@Nat.add_mul
def y3C:=@Nat.testBit_two_pow_mul_add
def y0j:=@List.mem_of_getElem?
def y1X:=@Nat.lt_of_le_of_lt
def y2Y:=@Nat.and_le_left
def y02:=@Nat.le_refl
def y2x:=@Int.natCast_mul
def y0u:=@List.mem_append
def y1Y:=@Option.map_eq_some_iff
def y0k:=@List.length_map
def y2Z:=@List.map_id
def y0g:=@Nat.mod_eq_of_lt
def y2y:=@Array.length_toList
def y1Z:=@List.filter_sublist
def y3D:=@List.take_succ_eq_append_getElem
def y05:=@List.append_assoc
def y20:=@Nat.zero_mul
theorem ω(h:p:=by omega):p:=h
theorem ψ(h:p:=by decide):p:=h
theorem ξ(h:p:=by simp):p:=h
abbrev JIq(n:Int):Prop:= -9223372036854775808<=n/\n<=9223372036854775807
def O.{u}{a:Sort u}{b:a}:b=b:=rfl
abbrev Env:=List (Nat×Value)
def fnd:Env->Nat->Option Value
 |[],_=>none
 | (j, v) :: r, i => match Nat.beq i j with
   |true=>some v
   |false=>fnd r i
def look (e:Env):Operand->Option Value
 | .tmp t=>fnd e t
 | .const v=>some v
 | .global g=>some (.pointer (some ⟨g,0,none⟩))
 | .func f=>some (.func (.func f) #[] #[])
inductive Dfr where
 |mk (D:Nat)
 |call (f:FuncId) (cap args:List Value)
def Dfr.d:Dfr->Deferred
 | .mk D=>{target:= .collected D,args:=#[]}
 | .call f cap args=>{target:= .fn (.func f) cap.toArray,args:=args.toArray}
def marks (ms:List Dfr):List Deferred:=ms.map Dfr.d
structure XI (n:Nat)(ms:List Dfr)(e:Env)(a:Act):Prop where
 size:a.tmps.size=n
 defers:a.defers=marks ms
 get:∀i v,fnd e i=some v->a.tmps.getD i undef=v
theorem XI.look {n:Nat}{ms:List Dfr}{e:Env}(h:XI n ms e a){x:Operand}{v:Value}(d:look e x=some v):a.eval x=v:=by
 cases x with
 |tmp t=>exact h.get t v d
 |const u=>exact y11 d
 |global g=>exact y11 d
 |func f=>exact y11 d
theorem XI.put {n:Nat}{ms:List Dfr}{e:Env}(h:XI n ms e a){d:Nat}(x:Nat.blt d n=true)(v:Value):XI n ms ((d,v)::e) (a.put (some d) v):=by
 have q:d<n:=by simpa using x
 refine⟨by simp[Act.put,h.size],by simpa[Act.put] using h.defers,λi u hi=>?_⟩
 simp only[Act.put]
 simp only[fnd] at hi
 by_cases l:i=d
 ·subst l;simp at hi;subst hi;simp[Array.getD,h.size,q]
 ·have r:Nat.beq i d=false:=by
   cases D:Nat.beq i d with
   |false=>rfl
   |true=>exact absurd (y2K D) l
  rw[r] at hi;have hg:=h.get i u hi;rw[<-hg];simp only[Array.getD,y3F];split
  ·rename_i B
   simp only[Array.getInternal_eq_getElem];rw[Array.getElem_setIfInBounds_ne];exact λA=>l A.symm
  ·rfl
def XI.zez {n:Nat}{ms:List Dfr}{e:Env}(h:XI n ms e a)(v:Value):XI n ms e (a.put none v):=h
def Sub (e d:Env):Prop:=∀i v,fnd e i=some v->fnd d i=some v
theorem Sub.nil {e:Env}:Sub [] e:=λ_ _ h=>by simp[fnd] at h
theorem Sub.cons {e l:Env}{v:Value}(h:fnd l i=some v)(r:Sub e l):Sub ((i,v)::e) l:=λj u d=>by
 simp only[fnd] at d
 split at d
 ·rename_i q
  have:=y2K q;subst this;simp at d;subst d;exact h
 ·exact r j u d
theorem XI.sub {n:Nat}{ms:List Dfr}{e d:Env}(h:XI n ms d a)(l:Sub e d):XI n ms e a:=⟨h.size,h.defers,λi v hi=>h.get i v (l i v hi)⟩
def XY (S:Value->World->Prop):Ending->World->Prop:=λx w'=>∃v,x= .returned v/\S v w'
def z0D (P:Program)(f:FuncId)(rd:Option Nat)(dk:Bool)(R:Ending->World->Prop)(m:Machine)(cs:List Frame):Prop:=
 match rd with
 |none=>∃x w' fr,R x w'/\Comes P m (lone fr cs w') x/\fr.fn=f/\(match dk with|false=>fr.leaving P w' x|true=>fr.kind= .deferred/\fr.going P w' x)
 |some _=>∀c d,cs=c::d->∃x w',R x w'/\Comes P m (match x with| .returned v=>lone (c.finish v) d w'| .panicked h=>lone (c.raise h) d w'| .outgrown=>lone c d w') x
theorem z0D.of_steps {rd:Option Nat}{dk:Bool}{m A:Machine}{cs:List Frame}(v:Steps P m A)(h:z0D P f rd dk R A cs):z0D P f rd dk R m cs:=by
 cases rd with
 | none =>
   obtain⟨x,w',fr,q,r,B,D⟩:=h
   exact⟨x,w',fr,q,y3v v r,B,D⟩
 | some l =>
   intro c d u;obtain⟨x,w',q,r⟩:=h c d u;exact⟨x,w',q,y3v v r⟩
def zlT:Bool->CallKind
 |false=> .normal
 |true=> .deferred
def WS (P:Program)(f:FuncId)(rd:Option Nat)(dk:Bool)(R:Ending->World->Prop)(k:List Item)(a:Act)(w:World):Prop:=
 ∀(b:Frame),b.fn=f->b.kind=zlT dk->b.roundOf=rd->∀cs,z0D P f rd dk R (lone (b.atR a k) cs w) cs
structure Cx where
 P:Program
 f:FuncId
 R:Value->World->Prop
 n:Nat
 rd:Option Nat:=none
 ms:List Dfr:=[]
 dk:Bool:=false
def PM (C:Cx)(k:List Item)(e:Env)(w:World):Prop:=∀a,XI C.n C.ms e a->WS C.P C.f C.rd C.dk (XY C.R) k a w
theorem PM.sub {C:Cx}{e d:Env}(h:PM C k e w)(q:Sub e d):PM C k d w:=λa l=>h a (l.sub q)
theorem WS.step {P:Program}{f:FuncId}{rd:Option Nat}{dk:Bool}{R:Ending->World->Prop}{k k':List Item}{a d:Act}{w w':World}
  (u:∀(b:Frame) cs,step P (lone (b.atR a k) cs w)= .next (lone (b.atR d k') cs w')) (h:WS P f rd dk R k' d w'):WS P f rd dk R k a w:=λb l q r cs=>
 (h b l q r cs).of_steps (.one (u b cs))
def WF (rd:Option Nat):Fence:={fn:=λ_=>True,depth:=none,alive:=false,round:=rd}
def z95 (rd:Option Nat)(n:Nat):(WF rd).room n:=λ_ h=>by simp[WF] at h
section
variable {C:Cx}{k':List Item}{e:Env}
theorem OY {x y:Code}(h:PM C (.code x:: .code y::k) e w):PM C (.code (.seq x y)::k) e w:=λa d=>WS.step (λ_ _=>stepR_seq) (h a d)
theorem P5 (h:PM C k e w):PM C (.code .skip::k) e w:=λa d=>WS.step (λ_ _=>stepR_skip) (h a d)
theorem z2T {l:Nat}(h:PM C k e w):PM C (.code (.label l)::k) e w:=λa d=>WS.step (λ_ _=>stepR_label) (h a d)
theorem P6 {c:Code}(h:PM C (.code c:: .inBlock id::k) e w):PM C (.code (.block id c)::k) e w:=λa d=>WS.step (λ_ _=>stepR_block) (h a d)
theorem An (h:PM C k e w):PM C (.inBlock id::k) e w:=λa d=>WS.step (λ_ _=>stepR_inBlock) (h a d)
theorem Pf (l:exitTo id k=some k')(h:PM C k' e w):PM C (.code (.exit id)::k) e w:=λa d=>WS.step (λ_ _=>stepR_exit l) (h a d)
theorem z1z {c:Code}(h:PM C (.code c:: .inLoop c::k) e w):PM C (.inLoop c::k) e w:=λa d=>WS.step (λ_ _=>stepR_inLoop) (h a d)
theorem QF {x y:Code}{t:Bool}(h:look e c=some (.bool t))(ht:t=true->PM C (.code x::k) e w)(l:t=false->PM C (.code y::k) e w):PM C (.code (.cond c x y)::k) e w:=λa d=>by
 cases t with
 |true=>exact WS.step (k':= .code x::k) (λ_ _=>by simpa using stepR_cond (d.look h)) (ht O a d)
 |false=>exact WS.step (k':= .code y::k) (λ_ _=>by simpa using stepR_cond (d.look h)) (l O a d)
def Pn {x y:Code}[hp:Decidable p](d:look e c=some (.bool (decide p)))(ht:p->PM C (.code x::k) e w)(l:¬p->PM C (.code y::k) e w):PM C (.code (.cond c x y)::k) e w:=
 QF d (λh=>ht (of_decide_eq_true h)) (λh=>l (of_decide_eq_false h))
def Pp {x y:Code}(d:look e c=some (.bool true))(h:PM C (.code x::k) e w):PM C (.code (.cond c x y)::k) e w:=QF d (λ_=>h) (λh=>by cases h)
def P9 {x y:Code}(d:look e c=some (.bool false))(h:PM C (.code y::k) e w):PM C (.code (.cond c x y)::k) e w:=QF d (λh=>by cases h) (λ_=>h)
theorem zcg {α:Type}{c:Code}(h:α)(E:α->Env)(I:α->World->Prop)(μ:α->Nat)(l:Sub (E h) e)(q:I h w)
  (round:∀x w,I x w->(∀y w',I y w'->μ y<μ x->PM C (.inLoop c::k) (E y) w')->PM C (.code c:: .inLoop c::k) (E x) w):PM C (.code (.loop c)::k) e w:=by
 have key:∀n x w,μ x=n->I x w->PM C (.code c:: .inLoop c::k) (E x) w:=by
  intro n
  induction n using Nat.strongRecOn with
  | _ n B =>
    intro x w u v;exact round x w v λy w' A d=>z1z (B (μ y) (u▸d) y w' O A)
 exact λa r=>WS.step (λ_ _=>stepR_loop) (key _ h w O q a (r.sub l))
end
def QK (C:Cx)(k:List Item):Exit->Act->World->Prop
 | .normal,a,w=>WS C.P C.f C.rd C.dk (XY C.R) k a w
 |_,_,_=>False
theorem QK.no {C:Cx}:¬LetsOut (QK C k):=λ⟨_,_,h⟩=>h
theorem Z1 {C:Cx}{c:Code}{n:Nat}(h:c.wpIn (WF C.rd) n C.P (QK C k) a w):WS C.P C.f C.rd C.dk (XY C.R) (.code c::k) a w:=by
 intro b u v r cs
 obtain⟨x,A,w',q,d⟩:=h b k cs r trivial (z95 _ _)
 cases x with
 |normal=>exact(q b u v r cs).of_steps (StepsIn.steps d)
 |outgrown=>exact q.elim
 |exit id=>exact q.elim
 |goto l=>exact q.elim
 |ret=>exact q.elim
 |panic B=>exact q.elim
def resOf (e:Env):List ResultVar->Option (List Value)
 |[]=>some []
 | .tmp t :: r => match fnd e t, resOf e r with
   |some v,some vs=>some (v::vs)
   |_,_=>none
 |_=>none
def Qy:List Value->Value
 |[v]=>v
 |vs=> .tuple vs.toArray
def resM (a:Act):ResultVar->Sem Value
 | .tmp t=>pure (a.tmps.getD t undef)
 | .cell x t=>do loadVar t (<-asAddr (a.tmps.getD x undef))
theorem zbj {n:Nat}{ms:List Dfr}{e:Env}(u:XI n ms e a)(P:Program)(w:World):∀(rs:List ResultVar)(vs:List Value),resOf e rs=some vs->
  Sem.run P (rs.mapM (resM a)) w= .ok vs w:=by
 intro rs
 induction rs with
 |nil=>intro vs h;simp[resOf] at h;subst h;simp[go_sem]
 | cons r rs B =>
   intro vs h
   cases r with
   |cell x t=>simp[resOf] at h
   | tmp t =>
     simp only[resOf] at h;split at h
     ·rename_i v l A d
      simp at h;subst h;have q:=B l d;have hg:resM a (.tmp t)=pure v:=by simp only[resM];rw[u.get t v A]
      rw[y2M,hg];simp only[pure_bind,y06,q,Result.andThen,y04]
     ·cases h
def TC {n:Nat}{ms:List Dfr}{e:Env}(d:XI n ms e a)(P:Program)(w:World)(fn:Func)(vs:List Value)(h:resOf e fn.results.toList=some vs):
  (results fn a.tmps).run P w= .ok (Qy vs) w:=by
 have q:=zbj d P w _ _ h
 have l:results fn a.tmps=(do
   let us<-fn.results.mapM (resM a)
   pure (if h:us.size=1 then us[0] else .tuple us)):=rfl
 rw[l,<-y3f (xs:=fn.results),List.mapM_toArray]
 simp only[y06,map_eq_pure_bind,q,Result.andThen,y04]
 cases vs with
 |nil=>simp[Qy]
 | cons v r => cases r with
   |nil=>simp[Qy]
   |cons u r=>simp[Qy]
def Sj (ms:List Dfr)(w:World):Prop:=∀d∈ms,∃D,d= .mk D/\w.heap[D]? =some (.deferred (some []))
def T4:List Dfr->World->World
 |[],w=>w
 | .mk D::ms,w=>T4 ms (w.putObj D (.deferred none))
 | .call .. ::ms,w=>T4 ms w
def Wv {P:Program}{fn:Func}{tmps:Array Value}{R:Ending->World->Prop}{v:Value}:∀(ms:List Dfr)(w:World),ms.Nodup->Sj ms w->
  (results fn tmps).run P (T4 ms w)= .ok v (T4 ms w)->R (.returned v) (T4 ms w)->LeavesInM Fence.wide 0 P fn tmps R (marks ms) .returning w
 |[],w,_,_,hr,hR=>⟨v,hr,hR⟩
 | .call f c a :: ms, w, _, hm, _, _ => by
   obtain⟨D,h,-⟩:=hm _ (y0p ..)
   cases h
 | .mk D :: ms, w, hd, hm, hr, hR => by
   obtain⟨D',h,r⟩:=hm _ (y0p ..);cases h;refine⟨ξ,.inl ⟨D,_,O,run_takeDeferred r,?_⟩⟩;refine Wv ms _ (y10.1 hd).2 (λd l=>?_) hr hR;obtain⟨D',rfl,q⟩:=hm d (by simp[l]);refine⟨D',O,?_⟩;rw[World.putObj_heap_other (λh=>(y10.1 hd).1 (by subst h;exact l))];exact q
section
variable {C:Cx}{e:Env}
theorem z0G {m:Machine}{b:Frame}{cs:List Frame}{ms:List Dfr}(A:P.funcs[f]? =some fn)(u:b.fn=f)(B:b.kind= .normal)
  (v:a.defers=marks ms) (D:LeavesInM Fence.wide 0 P fn a.tmps R (marks ms) .returning w)
  (E:Steps P m (lone {b.atR a todo with mode:= .returning} cs w)):z0D P f none false R m cs:=by
 subst u
 obtain⟨x,w',h,l,r,d,q⟩:=leaves_stepsInM (F:=Fence.wide) (n:=0) a.defers .returning w {b.atR a todo with mode:= .returning} cs O O O A B trivial (room_wide _)
  (by rw[v];exact D)
 exact⟨x,w',h,l,y3v E (comesIn_wide.1 r),d,q⟩
theorem z5B (l:C.rd=none)(h:C.dk=false)(v:C.P.funcs[C.f]? =some fn)
  (x:∀a,XI C.n C.ms e a->LeavesInM Fence.wide 0 C.P fn a.tmps (XY C.R) (marks C.ms) .returning w):PM C (.code .ret::k) e w:=λa q b u r d cs=>by
 rw[h] at r⊢
 rw[l] at d⊢
 exact z0G v u r q.defers (x a q) (.one (stepR_ret d))
theorem zbS (l:C.rd=none)(h:C.dk=false)(v:C.P.funcs[C.f]? =some fn)
  (x:∀a,XI C.n C.ms e a->LeavesInM Fence.wide 0 C.P fn a.tmps (XY C.R) (marks C.ms) .returning w):PM C [] e w:=λa q b u r d cs=>by
 rw[h] at r⊢
 rw[l] at d⊢
 exact z0G v u r q.defers (x a q) (.one (stepR_end d))
theorem Zm (h:C.rd=none)(q:C.P.funcs[C.f]? =some fn)(u:C.ms.Nodup)(r:Sj C.ms w)
  (x:∀a,XI C.n C.ms e a->∃v,(results fn a.tmps).run C.P (T4 C.ms w)= .ok v (T4 C.ms w)/\XY C.R (.returned v) (T4 C.ms w)) (d:C.dk=false:=by rfl):PM C (.code .ret::k) e w:=
 z5B h d q λa l=>let ⟨_,h1,h2⟩:=x a l;Wv _ _ u r h1 h2
def zbe (h:C.rd=none)(q:C.P.funcs[C.f]? =some fn)(u:C.ms.Nodup)(r:Sj C.ms w)
  (x:∀a,XI C.n C.ms e a->∃v,(results fn a.tmps).run C.P (T4 C.ms w)= .ok v (T4 C.ms w)/\XY C.R (.returned v) (T4 C.ms w)) (d:C.dk=false:=by rfl):PM C [] e w:=
 zbS h d q λa l=>let ⟨_,h1,h2⟩:=x a l;Wv _ _ u r h1 h2
def z4y {m:Machine}{b:Frame}{cs:List Frame}{v:Value}(q:P.funcs[f]? =some fn)(h:b.fn=f)(r:b.kind= .deferred)
  (l:a.defers=[]) (u:(results fn a.tmps).run P w= .ok v w) (d:R (.returned v) w)
  (x:Steps P m (lone {b.atR a todo with mode:= .returning} cs w)):z0D P f none true R m cs:=by
 subst h
 exact⟨.returned v,w,_,d,x,O,r,O,l,fn,q,u⟩
theorem z2e (q:C.rd=none)(h:C.dk=true)(l:C.ms=[])(D:C.P.funcs[C.f]? =some fn)
  (E:∀a,XI C.n C.ms e a->∃v,(results fn a.tmps).run C.P w= .ok v w/\XY C.R (.returned v) w):PM C [] e w:=λa r b B u d cs=>by
 obtain⟨v,x,A⟩:=E a r
 rw[h] at u⊢
 rw[q] at d⊢
 exact z4y D B u (by rw[r.defers,l];rfl) x A (.one (stepR_end d))
end
section
variable {R:Value->World->Prop}{n:Nat}{e:Env}
def P3 (q:P.funcs[f]? =some fn)(r:resOf e fn.results.toList=some vs)(d:XY R (.returned (Qy vs)) w):PM ⟨P,f,R,n,none,[],false⟩ (.code .ret::k) e w:=
 Zm O q y1J (λ_ h=>by cases h) λa l=>⟨_,TC l P w fn vs r,d⟩
def Qu (q:P.funcs[f]? =some fn)(r:resOf e fn.results.toList=some vs)(d:XY R (.returned (Qy vs)) w):PM ⟨P,f,R,n,none,[],false⟩ [] e w:=
 zbe O q y1J (λ_ h=>by cases h) λa l=>⟨_,TC l P w fn vs r,d⟩
def z4o {ms:List Dfr}(r:ms.Nodup)(q:Sj ms w)(l:P.funcs[f]? =some fn)(u:resOf e fn.results.toList=some vs)(d:XY R (.returned (Qy vs)) (T4 ms w)):PM ⟨P,f,R,n,none,ms,false⟩ (.code .ret::k) e w:=
 Zm O l r q λa h=>⟨_,TC h P _ fn vs u,d⟩
end
def envOf:Nat->List Value->Env
 |_,[]=>[]
 |i,v::r=>(i,v)::envOf (i+1) r
def Xu:∀(l:List Value)(i j:Nat) (v:Value),fnd (envOf i l) j=some v->i<=j/\l[j-i]? =some v
 |[],_,_,_,h=>by simp[envOf,fnd] at h
 | u :: r, i, j, v, h => by
   simp only[envOf,fnd] at h;split at h
   ·rename_i d
    have:=y2K d;subst this
    simpa using h
   ·rename_i d
    have A:j≠i:=λx=>by subst x;simp at d
    obtain⟨B,q⟩:=Xu r (i+1) j v h;refine⟨ω,?_⟩;have:j-i=(j-(i+1))+1:=ω
    rw[this]
    simpa using q
def PN (P:Program)(f:FuncId)(args:List Value)(w:World)(S:Value->World->Prop):Prop:=
 Calls P f args.toArray w λx w'=>∃v,x= .returned v/\S v w'
def PN.mono {S S':Value->World->Prop}(h:PN P f args w S)(d:∀v w',S v w'->S' v w'):PN P f args w S':=
 y1C h λ_ _ ⟨v,q,l⟩=>⟨v,q,d _ _ l⟩
def z7o (P:Program)(f:FuncId)(args:List Value)(w:World)(S:Value->World->Prop):Prop:=
 CallsDIn Fence.wide 0 P f args.toArray .returning w λx u w'=>u= .returning/\∃v,x= .returned v/\S v w'
theorem py {c:Code}{e:Env}{S:Value->World->Prop}{n:Nat}
  (D:P.funcs[f]? =some fn) (A:fn.body=some c) (r:fn.ntmps=n) (E:Nat.ble args.length n=true) (B:envOf 0 args=e)
  (h:PM ⟨P,f,S,n,none,[],false⟩ [.code c] e w):PN P f args w S:=by
 subst r
 intro cs
 let b:Frame:={(default:Frame) with fn:=f,kind:= .normal,roundOf:=none}
 have F:args.length<=fn.ntmps:=by simpa using E
 let a:Act:={tmps:=args.toArray++Array.replicate (fn.ntmps-args.toArray.size) undef,defers:=[]}
 have d:Frame.enter P f args.toArray .normal=b.atR a [.code c]:=by
  simp[Frame.enter,Frame.atR,D,A,b,a]
 have u:XI fn.ntmps [] e a:=by
  refine⟨by simp[a];omega,rfl,λi v hi=>?_⟩;subst B;obtain⟨-,q⟩:=Xu args 0 i v hi;simp at q
  have l:i<args.length:=by
   rcases y0a i args.length with h| h
   ·exact h
   ·simp[y0e h] at q
  have x:args[i]=v:=by simpa[y03 l] using q
  simp only[a,Array.getD];rw[dif_pos (by simp;omega)];simp[l,x]
 rw[d]
 exact h a u b O O O cs
theorem z4X {c:Code}{e:Env}{S:Value->World->Prop}{n:Nat}
  (I:P.funcs[f]? =some fn) (F:fn.body=some c) (A:fn.ntmps=n) (L:Nat.ble args.length n=true) (H:envOf 0 args=e)
  (h:PM ⟨P,f,S,n,none,[],true⟩ [.code c] e w):z7o P f args w S:=by
 subst A
 refine⟨trivial,λc0 cs N _=>?_⟩
 let b:Frame:={(default:Frame) with fn:=f,kind:= .deferred,roundOf:=none}
 have M:args.length<=fn.ntmps:=by simpa using L
 let a:Act:={tmps:=args.toArray++Array.replicate (fn.ntmps-args.toArray.size) undef,defers:=[]}
 have d:Frame.enter P f args.toArray .deferred=b.atR a [.code c]:=by
  simp[Frame.enter,Frame.atR,I,F,b,a]
 have B:XI fn.ntmps [] e a:=by
  refine⟨by simp[a];omega,rfl,λi v hi=>?_⟩;subst H;obtain⟨-,q⟩:=Xu args 0 i v hi;simp at q
  have l:i<args.length:=by
   rcases y0a i args.length with h| h
   ·exact h
   ·simp[y0e h] at q
  have D:args[i]=v:=by simpa[y03 l] using q
  simp only[a,Array.getD];rw[dif_pos (by simp;omega)];simp[l,D]
 obtain⟨x,w',fr,E,G,u,J,hg⟩:=h a B b O O O (c0::cs)
 have r:({c0 with mode:= .returning}:Frame)=c0:=by cases c0;simp_all
 rw[d]
 exact⟨x,.returning,w',fr,⟨O,E⟩,by rw[r];exact comesIn_wide.2 G,J,u,hg⟩
structure Arc where
 size:Nat
 once:List Int
 often:List Int
 Pw:List Int
 Ps:List Int
 target:Int
def Arc.all (c:Arc):List Int:=c.once++(c.often++(c.Pw++c.Ps))
def Arc.held (c:Arc)(k:Int):Prop:=k∈c.once\/k∈c.often
structure Arc.Ok (c:Arc):Prop where
 pos:1<=c.size
 nd:c.all.Nodup
 held:c.once.length+c.often.length<=c.size
 first:c.once.length+c.Pw.length<=c.size
 total:c.all.length<=2*c.size
 tg:0<=c.target/\c.target<=c.size
def Arc.room (c:Arc)(often:Bool):Arc×Option Int:=
 if c.once.length+c.often.length=c.size then
  match c.once,c.often with
  |[],[]=>(c,none)
  |a::o,[]=>({c with once:=o,Pw:=c.Pw++[a]},some a)
  |[],b::f=>({c with often:=f,Ps:=c.Ps++[b]},some b)
  |a::o,b::f=>if(c.once.length:Int)>c.target\/(c.once.length:Int)=c.target/\often=true then({c with once:=o,Pw:=c.Pw++[a]},some a) else({c with often:=f,Ps:=c.Ps++[b]},some b)
 else(c,none)
structure Arc.z08 (c c':Arc)(g:Option Int):Prop where
 size:c'.size=c.size
 tg:c'.target=c.target
 perm:c'.all.Perm c.all
 z3U:c'.once.length+c'.Pw.length<=c.once.length+c.Pw.length
 Zl:c'.once.length+c'.often.length+1<=c.size
 gone:∀x,c'.held x↔c.held x/\g≠some x
 was:∀x,g=some x->c.held x
 w1:∀x∈c.Pw,x∈c'.Pw
 w2:∀x∈c.Ps,x∈c'.Ps
theorem Arc.TK {c:Arc}(h:c.Ok)(b:Bool):Arc.z08 c (c.room b).1 (c.room b).2:=by
 have n:=h.nd
 have B:=h.pos
 unfold Arc.all at n
 have u:∀{a:Int} {o:List Int},c.once=a::o->c.once.length+c.often.length=c.size->Arc.z08 c {c with once:=o,Pw:=c.Pw++[a]} (some a):=fun {a o} e l=>by
  rw[e] at n l;rw[y0q] at n;obtain⟨n1,n2⟩:=y10.1 n;simp only[y0u,not_or] at n1;refine⟨O,O,?_,by simp[e];omega,by simp at l⊢;omega,λx=>?_,λx d=>by cases d;exact .inl (by simp[e]),λx d=>y1W _ d,λx d=>d⟩
  ·unfold Arc.all;rw[e];dsimp only;rw[y0q]
   have:(o++(c.often++(c.Pw++[a]++c.Ps))).Perm (a::(o++(c.often++(c.Pw++c.Ps)))):=by
    have q:o++(c.often++(c.Pw++[a]++c.Ps))=(o++(c.often++c.Pw))++a::c.Ps:=ξ
    have r:a::(o++(c.often++(c.Pw++c.Ps)))=a::((o++(c.often++c.Pw))++c.Ps):=ξ
    rw[q,r];exact y2a
   exact this
  ·unfold Arc.held;dsimp only;rw[e];simp only[y0l,y3i,ne_eq];constructor
   ·rintro(d|d)
    ·exact⟨.inl (.inr d),λe=>n1.1 (e▸d)⟩
    ·exact⟨.inr d,λe=>n1.2.1 (e▸d)⟩
   ·rintro⟨(d|d)|d,A⟩
    ·exact absurd d.symm A
    ·exact .inl d
    ·exact .inr d
 have v:∀{a:Int} {o:List Int},c.often=a::o->c.once.length+c.often.length=c.size->Arc.z08 c {c with often:=o,Ps:=c.Ps++[a]} (some a):=fun {a o} e l=>by
  rw[e] at n l;obtain⟨E,C,D⟩:=y0L.1 n;rw[y0q] at C;obtain⟨n1,n2⟩:=y10.1 C;simp only[y0u,not_or] at n1;refine⟨O,O,?_,y02 _,by simp at l⊢;omega,λx=>?_,λx d=>by cases d;exact .inr (by simp[e]),λx d=>d,λx d=>y1W _ d⟩
  ·unfold Arc.all;rw[e];dsimp only;have q:c.once++(o++(c.Pw++(c.Ps++[a])))=(c.once++(o++(c.Pw++c.Ps)))++a::[]:=ξ
   have r:c.once++(a::o++(c.Pw++c.Ps))=c.once++a::(o++(c.Pw++c.Ps)):=ξ
   rw[q,r];refine y36 y2a ?_;rw[y0o];exact y2a.symm
  ·unfold Arc.held;dsimp only;rw[e];simp only[y0l,y3i,ne_eq];constructor
   ·rintro(d|d)
    ·exact⟨.inl d,λe=>D x d a ξ e.symm⟩
    ·exact⟨.inr (.inr d),λe=>n1.1 (e▸d)⟩
   ·rintro⟨d|d|d,A⟩
    ·exact .inl d
    ·exact absurd d.symm A
    ·exact .inr d
 unfold Arc.room
 split
 ·rename_i l
  split
  ·rename_i q r
   rw[q,r] at l;simp at l;omega
  ·rename_i a o q r
   exact u q l
  ·rename_i b f q r
   exact v r l
  ·rename_i a o b f q r
   split
   ·exact u q l
   ·exact v r l
 ·rename_i l
  exact⟨O,O,List.Perm.refl _,y02 _,by have:=h.held;show c.once.length+c.often.length+1<=_;omega,λx=>ξ,λx d=>(by cases d),λx d=>d,λx d=>d⟩
structure Arc.Made (c c':Arc)(g:Option Int):Prop where
 size:c'.size=c.size
 tg:c'.target=c.target
 nd:c'.all.Nodup
 sub:∀x∈c'.all,x∈c.all
 Zl:c'.once.length+c'.often.length+1<=c.size
 gone:∀x,c'.held x↔c.held x/\g≠some x
 was:∀x,g=some x->c.held x
def Arc.z08.made {c d:Arc}{g:Option Int}(h:Arc.z08 c d g)(e:c.all.Nodup):Arc.Made c d g:=
 ⟨h.size,h.tg,h.perm.nodup_iff.2 e,λx l=>h.perm.mem_iff.1 l,h.Zl,h.gone,h.was⟩
def Arc.add (c:Arc):Arc×Option Int:=
 if c.once.length+c.Pw.length=c.size then
  if c.once.length<c.size then({c with Pw:=c.Pw.drop 1}:Arc).room false else({c with once:=c.once.drop 1},c.once.head?)
 else if c.all.length<c.size then(c,none)
 else if c.all.length=2*c.size then({c with Ps:=c.Ps.drop 1}:Arc).room false
 else c.room false
theorem Arc.Rn (c:Arc):c.all.length=c.once.length+(c.often.length+(c.Pw.length+c.Ps.length)):=by simp[Arc.all]
theorem Arc.z3A {c:Arc}(h:c.Ok):Arc.Made c c.add.1 c.add.2/\c.add.1.once.length+c.add.1.Pw.length+1<=c.size/\c.add.1.all.length+1<=2*c.size:=by
 have f:=h.pos
 have B:=h.nd
 have S:=h.held
 have Y:=h.first
 have ht:=h.total
 have Z:=c.Rn
 have g:∀{a b:List Int},(a++(b.drop 1)).Sublist (a++b):=fun {a b}=>(y1o 1 b).append_left a
 unfold Arc.add
 split
 ·rename_i e
  split
  ·rename_i r
   obtain⟨c0,d⟩:∃c0:Arc,{c with Pw:=c.Pw.drop 1}=c0:=⟨_,O⟩;have A:c0.once=c.once:=by rw[<-d]
   have F:c0.often=c.often:=by rw[<-d]
   have G:c0.Pw=c.Pw.drop 1:=by rw[<-d]
   have v:c0.size=c.size:=by rw[<-d]
   have I:c0.target=c.target:=by rw[<-d]
   have N:c0.all.Sublist c.all:=by
    rw[<-d];unfold Arc.all;dsimp only;exact(((y1o 1 c.Pw).append_right c.Ps).append_left c.often).append_left c.once
   have H:=c0.Rn;have V:c0.Ps=c.Ps:=by rw[<-d]
   have X:(c.Pw.drop 1).length+1=c.Pw.length:=by rw[y07];omega
   rw[A,F,G,V] at H;have J:c0.Ok:=⟨ω,B.sublist N,by rw[A,F,v];exact S,by rw[A,G,v];omega,by rw[v];omega,by rw[I,v];exact h.tg⟩;have C:=Arc.TK J false;have q:=C.made J.nd;have n:∀x,c0.held x↔c.held x:=λx=>by unfold Arc.held;rw[A,F]
   rw[d];have M:=C.perm.length_eq;have E:=C.z3U;rw[A,G] at E;exact⟨⟨q.size.trans v,q.tg.trans I,q.nd,λx l=>N.subset (q.sub x l),by rw[<-v];exact q.Zl,λx=>by rw[q.gone,n],λx l=>(n x).1 (q.was x l)⟩,ω,ω⟩
  ·rename_i r
   have U:c.Pw=[]:=y0t ω;have L:c.often=[]:=y0t ω
   obtain⟨a,o,D⟩:∃a o,c.once=a::o:=by
    cases i:c.once with
    |nil=>rw[i] at e r;simp at e r;omega
    |cons a o=>exact⟨a,o,O⟩
   have u:=B;unfold Arc.all at u;rw[D,U,L] at u;simp only[y0q,y18] at u;obtain⟨n1,n2⟩:=y10.1 u;rw[D] at e S Z r Y;simp at e S Z r Y;refine⟨⟨O,O,?_,λx l=>?_,?_,λx=>?_,λx l=>?_⟩,?_,?_⟩
   ·unfold Arc.all;dsimp only;rw[D,U,L];exact n2
   ·unfold Arc.all at l⊢;dsimp only at l;rw[D,U,L] at l⊢;simp at l⊢;exact .inr l
   ·dsimp only;rw[D,L];simp;omega
   ·unfold Arc.held;dsimp only;rw[D,L];simp;constructor
    ·intro l;exact⟨.inr l,λe=>n1 (by rw[e];simp[l])⟩
    ·rintro⟨l|l,W⟩
     ·exact absurd l.symm W
     ·exact l
   ·rw[D] at l;simp at l;unfold Arc.held;rw[D];exact .inl (by simp[l])
   ·dsimp only;rw[D,U];simp;omega
   ·rw[Arc.Rn];dsimp only;rw[D];simp;omega
 ·rename_i e
  split
  ·rename_i r
   exact⟨⟨O,O,B,λx l=>l,by dsimp only;omega,λx=>ξ,λx l=>by cases l⟩,by dsimp only;omega,by dsimp only;omega⟩
  ·rename_i r
   split
   ·rename_i j
    obtain⟨c0,d⟩:∃c0:Arc,{c with Ps:=c.Ps.drop 1}=c0:=⟨_,O⟩;have A:c0.once=c.once:=by rw[<-d]
    have F:c0.often=c.often:=by rw[<-d]
    have G:c0.Pw=c.Pw:=by rw[<-d]
    have v:c0.size=c.size:=by rw[<-d]
    have V:c0.Ps=c.Ps.drop 1:=by rw[<-d]
    have I:c0.target=c.target:=by rw[<-d]
    have N:c0.all.Sublist c.all:=by
     rw[<-d];unfold Arc.all;dsimp only;exact(((y1o 1 c.Ps).append_left c.Pw).append_left c.often).append_left c.once
    have H:=c0.Rn;have X:(c.Ps.drop 1).length+1=c.Ps.length:=by rw[y07];omega
    rw[A,F,G,V] at H;have J:c0.Ok:=⟨ω,B.sublist N,by rw[A,F,v];exact S,by rw[A,G,v];omega,by rw[v];omega,by rw[I,v];exact h.tg⟩;have C:=Arc.TK J false;have q:=C.made J.nd;have n:∀x,c0.held x↔c.held x:=λx=>by unfold Arc.held;rw[A,F]
    rw[d];have M:=C.perm.length_eq;have E:=C.z3U;rw[A,G] at E;exact⟨⟨q.size.trans v,q.tg.trans I,q.nd,λx l=>N.subset (q.sub x l),by rw[<-v];exact q.Zl,λx=>by rw[q.gone,n],λx l=>(n x).1 (q.was x l)⟩,ω,ω⟩
   ·rename_i j
    have C:=Arc.TK h false;have q:=C.made B;have M:=C.perm.length_eq;have E:=C.z3U;exact⟨q,ω,ω⟩
def Arc.RY (c:Arc)(k:Int):Arc×Bool×Option Int:=
 if k∈c.once\/k∈c.often then({c with once:=c.once.erase k,often:=c.often.erase k++[k]},true,none)
 else if k∈c.Pw then
  let r:=({c with target:=min (c.size:Int) (c.target+max 1 ((c.Ps.length / c.Pw.length:Nat):Int))}:Arc).room false
  ({r.1 with Pw:=r.1.Pw.erase k,often:=r.1.often++[k]},false,r.2)
 else if k∈c.Ps then
  let r:=({c with target:=max 0 (c.target-max 1 ((c.Pw.length / c.Ps.length:Nat):Int))}:Arc).room true
  ({r.1 with Ps:=r.1.Ps.erase k,often:=r.1.often++[k]},false,r.2)
 else let r:=c.add;({r.1 with once:=r.1.once++[k]},false,r.2)
structure Arc.z9c (c c':Arc)(k:Int)(b:Bool)(g:Option Int):Prop where
 ok:c'.Ok
 size:c'.size=c.size
 hit:b=true↔c.held k
 no:b=true->g=none
 held:∀x,c'.held x↔x=k\/(c.held x/\g≠some x)
 gone:∀x,g=some x->c.held x/\x≠k
def Arc.back {c r:Arc}{g:Option Int}{k:Int}(h:c.Ok)(l:Arc.z08 c r g)(A:¬c.held k){w f:List Int}(C:(w++f).Perm ((r.Pw++r.Ps).erase k))(D:w.length<=r.Pw.length)(B:k∈r.Pw++r.Ps):
  Arc.z9c c {r with Pw:=w,Ps:=f,often:=r.often++[k]} k false g:=by
 have v:=l.made h.nd
 have n:(r.once++((r.often++[k])++(w++f))).Perm r.all:=by
  unfold Arc.all;rw[y05];refine y3e _<|y3e _ ?_;exact(C.cons k).trans (y3u B).symm
 have u:=l.Zl
 have q:=l.perm.length_eq
 have ht:=h.total
 refine⟨⟨by dsimp only;rw[l.size];exact h.pos,n.nodup_iff.2 v.nd,by dsimp only;rw[l.size,Pe];simp;omega,by have:=l.z3U;have:=h.first;dsimp only;rw[l.size];omega,by have:=n.length_eq;unfold Arc.all at this q⊢;dsimp only;rw[l.size,this,q];exact ht,by dsimp only;rw[l.tg,l.size];exact h.tg⟩,l.size,⟨λe=>(by cases e),λe=>absurd e A⟩,λe=>(by cases e),λx=>?_,λx d=>⟨l.was x d,λe=>A (e▸l.was x d)⟩⟩
 have hg:=l.gone x
 unfold Arc.held at hg⊢
 dsimp only
 simp only[y0u,y0z]
 constructor
 ·rintro(d|d|d)
  ·exact .inr (hg.1 (.inl d))
  ·exact .inr (hg.1 (.inr d))
  ·exact .inl d
 ·rintro(d|d)
  ·exact .inr (.inr d)
  ·rcases hg.2 d with d|d
   ·exact .inl d
   ·exact .inr (.inl d)
theorem Arc.z1A {c:Arc}(h:c.Ok)(k:Int):Arc.z9c c (c.RY k).1 k (c.RY k).2.1 (c.RY k).2.2:=by
 have C:=h.pos
 have J:=h.nd
 have A:=J
 unfold Arc.all at A
 obtain⟨Z,a2,M⟩:=y0L.1 A
 obtain⟨b1,b2,b3⟩:=y0L.1 a2
 obtain⟨d1,d2,d3⟩:=y0L.1 b2
 unfold Arc.RY
 split
 ·rename_i n
  have L:(c.once.erase k++((c.often.erase k++[k])++(c.Pw++c.Ps))).Perm c.all:=by
   unfold Arc.all;have U:c.once.erase k++((c.often.erase k++[k])++(c.Pw++c.Ps))=(c.once.erase k++c.often.erase k)++k::(c.Pw++c.Ps):=ξ
   rw[U];refine y2a.trans ?_;rw[<-y0q,show c.once++(c.often++(c.Pw++c.Ps))=(c.once++c.often)++(c.Pw++c.Ps) by simp];refine List.Perm.append_right _ ?_;rcases n with n|n
   ·have E:k∉c.often:=λe=>M k n k (by simp[e]) O;rw[y1w E,<-y0q];exact(y3u n).symm.append_right _
   ·have E:k∉c.once:=λe=>M k e k (by simp[n]) O;rw[y1w E];exact(y2a.symm.trans ((y3u n).symm.append_left _))
  have I:(c.once.erase k).length+(c.often.erase k++[k]).length=c.once.length+c.often.length:=by
   rcases n with n|n
   ·have E:k∉c.often:=λe=>M k n k (by simp[e]) O;have:=y1K n;rw[y1w E,y3q n,Pe];simp;omega
   ·have E:k∉c.once:=λe=>M k e k (by simp[n]) O;have:=y1K n;rw[y1w E,Pe,y3q n];simp;omega
  have W:(c.once.erase k).length<=c.once.length:=y25;refine⟨⟨C,L.nodup_iff.2 J,by dsimp only;rw[I];exact h.held,by have:=h.first;dsimp only;omega,by have:=L.length_eq;unfold Arc.all at this⊢;dsimp only;rw[this];exact h.total,h.tg⟩,O,⟨λ_=>n,λ_=>rfl⟩,λ_=>rfl,λx=>?_,λx l=>by cases l⟩;unfold Arc.held;dsimp only;simp only[y0u,y0z];constructor
  ·rintro(l|l|l)
   ·exact .inr ⟨.inl (List.mem_of_mem_erase l),ξ⟩
   ·exact .inr ⟨.inr (List.mem_of_mem_erase l),ξ⟩
   ·exact .inl l
  ·rintro(l|⟨l|l,-⟩)
   ·exact .inr (.inr l)
   ·by_cases e:x=k
    ·exact .inr (.inr e)
    ·exact .inl ((List.mem_erase_of_ne e).2 l)
   ·by_cases e:x=k
    ·exact .inr (.inr e)
    ·exact .inr (.inl ((List.mem_erase_of_ne e).2 l))
 ·rename_i n
  simp only[not_or] at n;have H:¬c.held k:=by unfold Arc.held;simp[n]
  split
  ·rename_i S
   obtain⟨c0,d⟩:∃c0:Arc,{c with target:=min (c.size:Int) (c.target+max 1 ((c.Ps.length / c.Pw.length:Nat):Int))}=c0:=⟨_,O⟩;have G:c0.Ok:=by rw[<-d];have:=h.tg;exact⟨h.pos,h.nd,h.held,h.first,h.total,by dsimp only;omega⟩
   have v:=Arc.TK G false;rw[d];have u:k∈(c0.room false).1.Pw:=v.w1 k (by rw[<-d];exact S);have:=Arc.back G v (k:=k) (by rw[<-d];exact H) (w:=(c0.room false).1.Pw.erase k) (f:=(c0.room false).1.Ps) (by rw[List.erase_append_left _ u]) y25 (y1W _ u);dsimp only;refine⟨this.ok,this.size.trans (by rw[<-d]),by rw[this.hit,<-d];exact y0U,this.no,λx=>by rw[this.held,<-d];exact y0U,λx l=>by have:=this.gone x l;rw[<-d] at this;exact this⟩
  ·rename_i S
   split
   ·rename_i F
    obtain⟨c0,d⟩:∃c0:Arc,{c with target:=max 0 (c.target-max 1 ((c.Pw.length / c.Ps.length:Nat):Int))}=c0:=⟨_,O⟩;have G:c0.Ok:=by rw[<-d];have:=h.tg;exact⟨h.pos,h.nd,h.held,h.first,h.total,by dsimp only;omega⟩
    have v:=Arc.TK G true;rw[d];have u:k∈(c0.room true).1.Ps:=v.w2 k (by rw[<-d];exact F);have B:=(v.made G.nd).nd
    have D:k∉(c0.room true).1.Pw:=λe=>by
     unfold Arc.all at B;obtain⟨-,x2,-⟩:=y0L.1 B;obtain⟨-,X,-⟩:=y0L.1 x2;obtain⟨-,-,Y⟩:=y0L.1 X;exact Y k e k u O
    have:=Arc.back G v (k:=k) (by rw[<-d];exact H) (w:=(c0.room true).1.Pw) (f:=(c0.room true).1.Ps.erase k) (by rw[List.erase_append_right _ D]) (y02 _) (List.mem_append_right _ u);dsimp only;refine⟨this.ok,this.size.trans (by rw[<-d]),by rw[this.hit,<-d];exact y0U,this.no,λx=>by rw[this.held,<-d];exact y0U,λx l=>by have:=this.gone x l;rw[<-d] at this;exact this⟩
   ·rename_i F
    obtain⟨q,V,ht⟩:=Arc.z3A h;obtain⟨r,v⟩:∃r,c.add=r:=⟨_,O⟩;rw[v] at q V ht;rw[v];dsimp only
    have D:k∉r.1.all:=λe=>by
     have:=q.sub k e;unfold Arc.all at this;simp[n.1,n.2,S,F] at this
    have L:(r.1.once++[k]++(r.1.often++(r.1.Pw++r.1.Ps))).Perm (k::r.1.all):=by
     unfold Arc.all;rw[y05];exact y2a
    have a:=r.1.Rn;have N:=q.Zl;refine⟨⟨by dsimp only;rw[q.size];exact C,L.nodup_iff.2 (y10.2 ⟨D,q.nd⟩),by dsimp only;rw[q.size,Pe];simp;omega,by dsimp only;rw[q.size,Pe];simp;omega,by have:=L.length_eq;unfold Arc.all at this⊢;dsimp only;rw[q.size,this];simp[Arc.all] at ht⊢;omega,by dsimp only;rw[q.tg,q.size];exact h.tg⟩,q.size,⟨λe=>(by cases e),λe=>absurd e (by unfold Arc.held;simp[n])⟩,λe=>(by cases e),λx=>?_,λx l=>⟨q.was x l,λe=>by have:=q.was x l;rw[e] at this;exact absurd this (by unfold Arc.held;simp[n])⟩⟩;have hg:=q.gone x;unfold Arc.held at hg⊢;dsimp only;simp only[y0u,y0z];constructor
    ·rintro((l|l)|l)
     ·exact .inr (hg.1 (.inl l))
     ·exact .inl l
     ·exact .inr (hg.1 (.inr l))
    ·rintro(l|l)
     ·exact .inl (.inr l)
     ·rcases hg.2 l with l|l
      ·exact .inl (.inl l)
      ·exact .inr l
def wantE (ops:List Oper)(e:Env):Option (Nat×Bool)->Option Bool
 |none=>some true
 | some (j, b) => match ops[j]? with
   |none=>none
   | some h => match h.dst with
     |none=>none
     | some d => match fnd e d with
       |some (.bool c)=>some (match b with|true=>c|false=>!c)
       |some (.tuple _)=>some false
       |_=>none
theorem z6O {n:Nat}{ms:List Dfr}{e:Env}{t:Bool}(E:XI n ms e a)(G:∀(j:Nat)(r:Oper) (d:Nat),ops[j]? =some r->r.dst=some d->Nat.blt d n=true)
  (h:wantE ops e o.guard=some t):Region.wanted o (yielded ops.toArray a.tmps)=t:=by
 unfold Region.wanted
 cases hg:o.guard with
 |none=>rw[hg] at h;simp[wantE] at h;simp[h]
 | some p =>
   obtain⟨j,b⟩:=p;rw[hg] at h;simp only[wantE] at h;split at h
   ·cases h
   ·rename_i r B
    split at h
    ·cases h
    ·rename_i d x
     have A:d<n:=by simpa using G j r d B x
     have q:∀v,fnd e d=some v->a.tmps[d]? =some v:=λv H=>by
      have F:=E.get d v H;have C:d<a.tmps.size:=by rw[E.size];exact A
      rw[y3G C]
      simpa[Array.getD,C] using F
     split at h
     ·rename_i c u
      have:=q _ u;simp only[yielded,y2f,B,y3p,x,this];cases b<;>cases c<;>simp_all
     ·rename_i u
      have:=q _ u;simp only[yielded,y2f,B,y3p,x,this]
      simp_all
     ·cases h
def Sg (n:Nat)(ops:List Oper):Bool:=ops.all λo=>match o.dst with|some d=>Nat.blt d n|none=>true
def z5I {n:Nat}(h:Sg n ops=true):∀(j:Nat)(q:Oper) (d:Nat),ops[j]? =some q->q.dst=some d->Nat.blt d n=true:=λj q d u r=>by
 have:=y1H.1 h q (y0j u)
 simpa[r] using this
def Y (P:Program)(e:Env)(o:Oper)(v:Value)(w w':World):Prop:=
 ∀ρ:Operand->Value,(∀x v,look e x=some v->ρ x=v)->(execOp ρ o).run P w= .ok (.value v) w'
def Z (P:Program)(e:Env)(o:Oper)(w w':World):Prop:=
 ∀ρ:Operand->Value,(∀x v,look e x=some v->ρ x=v)->(execOp ρ o).run P w= .ok .skip w'
def Yc (P:Program)(e:Env)(o:Oper)(f:FuncId)(args:List Value)(w:World):Prop:=
 ∀ρ:Operand->Value,(∀x v,look e x=some v->ρ x=v)->(execOp ρ o).run P w= .ok (.enter f args.toArray) w
def z1t {rd:Option Nat}{n:Nat}{args:Array Value}(h:Calls P f args w R):CallsIn (WF rd) n P f args w R:=
 (callsIn_wide (n:=n)).2 h
def YW {rd:Option Nat}:(WF rd).depth.isSome=true->1<=0:=λh=>by cases h
theorem UM {rd:Option Nat}{x:Next}(h:(execOp ρ o).run P w= .ok x w')(r:∀d,x≠ .defer d):(o.semAt rd ρ).run P w= .ok x w':=by
 unfold Oper.semAt
 split
 ·rename_i l c q
  exfalso;simp only[execOp,q,y06] at h
  cases n:(resolve ρ c o.type).run P w with
  | ok d w1 =>
    rw[n] at h;simp only[Result.andThen,y04,Result.ok.injEq] at h
    exact r d h.1.symm
  | halt y w1 =>
    rw[n] at h;simp[Result.andThen] at h
 ·exact h
def calm (ops:List Oper):Bool:=ops.all λo=>match o.op with| .defer _=>false|_=>true
theorem z7e {rd:Option Nat}(n:∀c,o.op≠ .defer c)(h:o.wp P a w K Q):o.wpIn (WF rd) 0 P a w K Q:=by
 refine⟨λ_ _=>trivial,?_⟩
 rw[Oper.semAt_eq _ _ _ n]
 unfold Oper.wp at h
 generalize (execOp a.eval o).run P w=r at h⊢
 cases r with
 | ok x w' =>
   cases x<;>simp only[Oper.upon,Oper.uponIn] at h⊢<;>
    first
     |exact h
     |exact h.elim
     |exact⟨YW,z1t h⟩
     |exact⟨YW,λc cs _=>let ⟨v,w',hR,hs⟩:=h c cs;⟨v,w',hR,stepsIn_wide.2 hs⟩⟩
 |halt x w'=>cases x<;>simp only[Oper.upon,Oper.uponIn] at h⊢<;>exact h
def AtR (P:Program)(ops:Array Oper)(Q:Exit->Act->World->Prop)(i:Nat)(K:Act->World->Prop)(a:Act)(w:World):Prop:=
 wpOp P ops Q i K a w\/∃o,ops[i]? =some o/\Region.wanted o (yielded ops a.tmps)=true/\∃l f tmps h bd,(execOp a.eval o).run P w= .ok (.round l f tmps h bd) w/\
  RoundIn Fence.wide 0 P l f tmps h bd w λe n=>∃v,e= .returned v/\K (a.put o.dst v) n
theorem AtR.mono {ops:Array Oper}(q:∀a w,K a w->K' a w)(h:AtR P ops Q i K a w):AtR P ops Q i K' a w:=by
 rcases h with h|⟨o,x,C,l,f,tm,n,bd,A,r⟩
 ·exact .inl (wpOp_mono q h)
 ·exact .inr ⟨o,x,C,l,f,tm,n,bd,A,r.mono λe w' ⟨v,u,B⟩=>⟨v,u,q _ _ B⟩⟩
def UW (P:Program)(ops:Array Oper)(Q:Exit->Act->World->Prop)(S:World->Prop):Nat->Array Bool->Act->World->Prop
 |0,listed,a,w=>Region.ready .any ops listed=[]/\Q .normal a w
 | n + 1, listed, a, w => (Region.ready .any ops listed = [] -> Q .normal a w) /\
     ∀i∈Region.ready .any ops listed,AtR P ops Q i (λh w'=>S w'/\UW P ops Q S n (listed.setIfInBounds i true) h w') a w
theorem z6U {rd:Option Nat}(G:calm ops=true)(C:¬LetsOut Q)(r:∀a w,K a w->K' a w)
  (h:AtR P ops.toArray Q i K a w):wpOpIn (WF rd) 0 P ops.toArray Q i K' a w:=by
 rcases h with n|⟨o,q,u,l,f,tm,x,bd,J,F⟩
 ·unfold wpOp at n;unfold wpOpIn
  cases q:ops.toArray[i]? with
  | none =>
    rw[q] at n
    exact r _ _ n
  | some o =>
    rw[q] at n
    have B:∀c,o.op≠ .defer c:=λc I=>by
     have E:=y1H.1 G o (y0j (by simpa using q));rw[I] at E;cases E
    by_cases u:Region.wanted o (yielded ops.toArray a.tmps)=true
    ·simp only[u,if_true] at n⊢;rcases n with n|n
     ·exact Oper.wpIn_mono r (z7e B n)
     ·exact absurd n.2 C
    ·simp only[u] at n⊢;exact⟨λ_ _=>trivial,r _ _ n⟩
 ·unfold wpOpIn;simp only[q,u,if_true];refine⟨λ_ _=>trivial,?_⟩;rw[UM J (λ_ h=>by cases h)];refine⟨YW,?_⟩
  have A:RoundIn Fence.wide 0 P l f tm x bd w fun
    | .returned v,w''=>K' (a.put o.dst v) w''
    | .panicked chain,w''=>Q (.panic chain) a w''
    | .outgrown,_=>LetsOut Q:=F.mono λe w' ⟨v,H,L⟩=>by subst H;exact r _ _ L
  exact A
def WJ {P:Program}{rd:Option Nat}{ops:List Oper}{Q:Exit->Act->World->Prop}{S:World->Prop}(q:calm ops=true)(n:¬LetsOut Q):∀(fuel:Nat)(listed:Array Bool) (a:Act) (w:World),
  UW P ops.toArray Q S fuel listed a w->wpAnyIn (WF rd) 0 P .any ops.toArray Q fuel listed a w
 |0,_,_,_,h=>h
 |fuel+1,_,_,_,h=>⟨h.1,λi hi=>z6U q n (λ_ _ r=>WJ q n fuel _ _ _ r.2) (h.2 i hi)⟩
section
variable {ops:Array Oper}{S:World->Prop}
theorem z1f {n:Oper}{v:Value}(B:ops[j]? =some n)(q:oi.apart ops n=true)(r:∀cs b,oi.op≠ .select cs b)(x:∀cs b,n.op≠ .select cs b)
  (N:∀c a w,Q (.panic c) (a.put oi.dst v) w->Q (.panic c) a w) (J:YieldsIf P ops S oi v a) (h:AtR P ops Q j K (a.put oi.dst v) w):AtR P ops Q j (λC w'=>YieldsIf P ops S oi v C/\K (C.put oi.dst v) w') a w:=by
 rcases h with h|⟨o,G,I,l,f,tm,A,bd,H,O⟩
 ·exact .inl (wpOp_putIf B q r x N J h)
 ·obtain rfl:n=o:=by rw[B] at G;exact y11 G
  obtain⟨E,L,F⟩:=Oper.apart_spec q;rw[wanted_put n a oi.dst v E] at I;rw[execOp_put n x a oi.dst v E] at H;exact .inr ⟨n,B,I,l,f,tm,A,bd,H,O.mono λe w' ⟨u,U,M⟩=>⟨u,U,J.of_same (execOp_put oi r a n.dst u F) (wanted_put oi a n.dst u F),by rw[<-Act.put_comm a v u L];exact M⟩⟩
def Ub {v:Value}(hi:ops[i]? =some o)(q:YieldsIf P ops S o v a)(n:S w)(h:K (a.put o.dst v) w):AtR P ops Q i K a w:= .inl (q.wpOp hi n h)
theorem z0L {v:Value}(hi:ops[i]? =some oi)(h:∀(j:Nat)(o:Oper) cs b,ops[j]? =some o->o.op≠ .select cs b)(g:∀c a w,Q (.panic c) (a.put oi.dst v) w->Q (.panic c) a w):∀(n:Nat)(listed:Array Bool) (a:Act) (w:World),
  (∀j A,ops[j]? =some A->j≠i->listed.getD j true=false->(∀e∈A.after,Region.binds .any e=true->e.on≠i)->oi.apart ops A=true)->i∈Region.ready .any ops listed->YieldsIf P ops S oi v a->S w->
  UW P ops Q S n (listed.setIfInBounds i true) (a.put oi.dst v) w->UW P ops Q S (n+1) listed a w:=by
 intro n
 induction n with
 | zero =>
   intro listed a w _ r O C H;constructor
   ·intro U;rw[U] at r;cases r
   ·intro j N;by_cases e:j=i
    ·subst e;exact Ub hi O C ⟨C,H⟩
    ·exact absurd (ready_mono N e) (by rw[H.1];exact y1U)
 | succ n t =>
   intro listed a w F r O C H;constructor
   ·intro U;rw[U] at r;cases r
   ·intro j N;by_cases e:j=i
    ·subst e;exact Ub hi O C ⟨C,H⟩
    ·obtain⟨L,A,q,E⟩:=mem_ready.1 N;have J:listed.getD i true=false:=(mem_ready.1 r).1
     have u:∀x∈A.after,Region.binds .any x=true->x.on≠i:=λx s k V=>by
      have B:=E x s k;rw[V] at B;by_cases W:i<listed.size
      ·simp[W] at J B;rw[J] at B;cases B
      ·simp[y1R (by omega:listed.size<=i)] at B
     have f:=z1f q (F j A q e L u) (λcs b=>h i oi cs b hi) (λcs b=>h j A cs b q) g O (H.2 j (ready_mono N e));refine AtR.mono (λZ w' M=>⟨M.2.1,?_⟩) f;refine t (listed.setIfInBounds j true) Z w' (λm y p X I Y=>?_) (ready_mono r (Ne.symm e)) M.1 M.2.1 ?_
     ·refine F m y p X ?_ Y;by_cases G:j=m
      ·subst G;exact L
      ·rw[getD_set_ne true G] at I;exact I
     ·rw[y2H _ _ e];exact M.2.2
def z2p {v:Value}(hi:ops[i]? =some oi)(x:Region.noSelect ops=true)(r:Region.free .any ops listed i=true)(u:(Region.ready .any ops listed).contains i=true)
  (n:∀c a w,Q (.panic c) (a.put oi.dst v) w->Q (.panic c) a w) (A:YieldsIf P ops S oi v a) (q:S w) (h:UW P ops Q S fuel (listed.setIfInBounds i true) (a.put oi.dst v) w):UW P ops Q S (fuel+1) listed a w:=
 z0L hi (y3s x) n fuel listed a w (y3a hi r) (by simpa using u) A q h
def z9P (q:Region.ready .any ops listed=rs)(n:rs≠[])(h:∀i∈rs,AtR P ops Q i (λr w'=>S w'/\UW P ops Q S fuel (listed.setIfInBounds i true) r w') a w):UW P ops Q S (fuel+1) listed a w:=
 ⟨λu=>absurd (q▸u) n,q▸h⟩
def z6E (n:Region.ready .any ops listed=[])(h:Q .normal a w):∀fuel,UW P ops Q S fuel listed a w
 |0=>⟨n,h⟩
 |_+1=>⟨λ_=>h,by rw[n];simp⟩
end
structure RC where
 C:Cx
 ops:List Oper
 k:List Item
 ok:Sg C.n ops=true
def RL (D:RC)(l:List Oper)(e:Env)(w:World):Prop:=∀a,XI D.C.n D.C.ms e a->wpListIn (WF D.C.rd) 0 D.C.P D.ops.toArray (QK D.C D.k) l a w
theorem Pc {C:Cx}{e:Env}(r:Sg C.n ops=true)(h:RL ⟨C,ops,k,r⟩ ops e w):PM C (.code (.region id ops.toArray false)::k) e w:=
 λa q=>Z1 (wpIn_region_lit (h a q))
def okg (ops:List Oper)(e:Env)(t:Bool):Option (Nat×Bool)->Bool
 |none=>t
 |some p=>match wantE ops e (some p),t with|some true,true=>true|some false,false=>true|_,_=>false
def SF (D:RC)(e:Env)(g:Option (Nat×Bool))(t:Bool):Bool:=okg D.ops e t g
theorem Se {D:RC}{e:Env}{t:Bool}(r:XI D.C.n D.C.ms e a)(h:SF D e o.guard t=true):Region.wanted o (yielded D.ops.toArray a.tmps)=t:=by
 refine z6O r (z5I D.ok) ?_
 unfold SF okg at h
 split at h
 ·rename_i hg
  rw[hg];simp only[wantE];rw[h]
 ·rename_i p hg
  rw[hg];split at h
  ·rename_i q;exact q
  ·rename_i q;exact q
  ·cases h
section
variable {D:RC}{l:List Oper}{e:Env}{d:Nat}{pos:String}
theorem P4 (h:PM D.C D.k e w):RL D [] e w:=λa n=>h a n
def wpList_want {F:Fence}{n:Nat}{ops:Array Oper}{rest:List Oper}(q:Region.wanted o (yielded ops a.tmps)=true)
  (h:o.wpIn F n P a w (wpListIn F n P ops Q rest) Q):wpListIn F n P ops Q (o::rest) a w:=by
 simp only[wpListIn,q,if_true];exact h
theorem VS {v:Value}(u:SF D e g true=true)(r:Nat.blt d D.C.n=true)(B:Y D.C.P e ⟨some d,op,ty,pos,aft,g⟩ v w w')(h:RL D l ((d,v)::e) w'):
  RL D (⟨some d,op,ty,pos,aft,g⟩::l) e w:=λa q=>by
 refine wpList_want (Se q u) ⟨λ_ _=>trivial,?_⟩
 have:=B a.eval (λx v A=>q.look A)
 rw[UM this (λ_ h=>by cases h)]
 exact h _ (q.put r v)
theorem zhj {v:Value}(q:SF D e g true=true)(u:Y D.C.P e ⟨none,op,ty,pos,aft,g⟩ v w w')(h:RL D l e w'):
  RL D (⟨none,op,ty,pos,aft,g⟩::l) e w:=λa n=>by
 refine wpList_want (Se n q) ⟨λ_ _=>trivial,?_⟩
 have:=u a.eval (λx v r=>n.look r)
 rw[UM this (λ_ h=>by cases h)]
 exact h _ (n.zez v)
theorem zlJ (q:SF D e g true=true)(u:Z D.C.P e ⟨none,op,ty,pos,aft,g⟩ w w')(h:RL D l e w'):
  RL D (⟨none,op,ty,pos,aft,g⟩::l) e w:=λa n=>by
 refine wpList_want (Se n q) ⟨λ_ _=>trivial,?_⟩
 have:=u a.eval (λx v r=>n.look r)
 rw[UM this (λ_ h=>by cases h)]
 exact h _ (n.zez undef)
theorem zhb (u:SF D e g false=true)(r:Nat.blt d D.C.n=true)(h:RL D l ((d,undef)::e) w):RL D (⟨some d,op,ty,pos,aft,g⟩::l) e w:=λa q=>by
 have v:=Se (o:=⟨some d,op,ty,pos,aft,g⟩) q u
 simp only[wpListIn,v]
 exact⟨λ_ _=>trivial,h _ (q.put r undef)⟩
theorem Rj {S:Value->World->Prop}(B:SF D e g true=true)(A:Nat.blt d D.C.n=true)(F:Yc D.C.P e ⟨some d,op,ty,pos,aft,g⟩ f args w)
  (u:PN D.C.P f args w S) (h:∀v w',S v w'->RL D l ((d,v)::e) w'):RL D (⟨some d,op,ty,pos,aft,g⟩::l) e w:=λa q=>by
 refine wpList_want (Se q B) ⟨λ_ _=>trivial,?_⟩
 have:=F a.eval (λx v r=>q.look r)
 rw[UM this (λ_ h=>by cases h)]
 exact⟨YW,z1t (y1C u λx w' ⟨v,r,E⟩=>by subst r;exact h v w' E _ (q.put A v))⟩
theorem z6D {cap:List Value}(q:D.C.rd=none)(r:SF D e g true=true)
  (A:∀ρ:Operand->Value,(∀x v,look e x=some v->ρ x=v)->(execOp ρ ⟨none,op,ty,pos,aft,g⟩).run D.C.P w= .ok (.defer (Dfr.d (.call f cap args))) w)
  (h:RL ⟨{D.C with ms:= .call f cap args::D.C.ms},D.ops,D.k,D.ok⟩ l e w):RL D (⟨none,op,ty,pos,aft,g⟩::l) e w:=λa n=>by
 refine wpList_want (Se n r) ⟨λ_ _=>trivial,?_⟩
 have:=A a.eval (λx v u=>n.look u)
 rw[show(WF D.C.rd).round=none from q,Oper.semAt_none,this]
 exact h _ ⟨n.size,by show Dfr.d _::a.defers=_;rw[n.defers];rfl,n.get⟩
def SS [hp:Decidable p](ht:p->RL D l ((d,.bool true)::e) w)(n:¬p->RL D l ((d,.bool false)::e) w):RL D l ((d,.bool (decide p))::e) w:=by
 by_cases h:p
 ·simp only[h,decide_true];exact ht h
 ·simp only[h,decide_false];exact n h
def zi7 [hp:Decidable p](h:p)(n:RL D l ((d,.bool true)::e) w):RL D l ((d,.bool (decide p))::e) w:=by
 simp only[h,decide_true];exact n
def zgY [hp:Decidable p](h:¬p)(n:RL D l ((d,.bool false)::e) w):RL D l ((d,.bool (decide p))::e) w:=by
 simp only[h,decide_false];exact n
end
def Qf {C:Cx}{i:Item}{e:Env}(J:Env->World->Prop)(n:∀e w,J e w->PM C k e w)(h:(∀e w,J e w->PM C k e w)->PM C (i::k) e w):PM C (i::k) e w:=h n
def Ss {C:Cx}{i:Item}{e:Env}(J:Env->World->Prop)(n:∀e w,J e w->PM C k e w)(h:(∀e w,J e w->PM C k e w)->PM C (i:: .inBlock id::k) e w):PM C (i:: .inBlock id::k) e w:=h n
/-! ### A region that draws its order: 'S' holds of the world all through. -/
def RH (D:RC)(S:World->Prop)(fuel:Nat)(listed:Array Bool)(e:Env)(w:World):Prop:=
 ∀a,XI D.C.n D.C.ms e a->UW D.C.P D.ops.toArray (QK D.C D.k) S fuel listed a w
theorem z4P {C:Cx}{e:Env}(S:World->Prop)(u:C.P.follows .mixedOrders=true)
  (v:Sg C.n ops=true) (h:RH ⟨C,ops,k,v⟩ S ops.length (Array.replicate ops.length false) e w.drew) (r:calm ops=true:=by rfl):PM C (.code (.region id ops.toArray true)::k) e w:=
 λa q=>Z1 (wpIn_region_any u (WJ r QK.no _ _ _ _ (by simpa using h a q)))
def SB (ops:List Oper)(listed:Array Bool)(rs:List Nat):Bool:=Region.ready .any ops.toArray listed==rs
def SU (ops:List Oper)(listed:Array Bool)(i:Nat):Bool:=Region.noSelect ops.toArray&&Region.free .any ops.toArray listed i&&(Region.ready .any ops.toArray listed).contains i
section
variable {D:RC}{S:World->Prop}{e:Env}{d:Nat}{pos:String}
theorem zlY (q:SB D.ops listed []=true)(h:PM D.C D.k e w):RH D S fuel listed e w:=λa n=>z6E (by simpa[SB] using q) (h a n) _
def UI (h:SU ops listed i=true):Region.noSelect ops.toArray=true/\Region.free .any ops.toArray listed i=true/\(Region.ready .any ops.toArray listed).contains i=true:=by
 simp only[SU,y0w] at h
 exact⟨h.1.1,h.1.2,h.2⟩
theorem zcO {v:Value}(hi:D.ops[i]? =some ⟨some d,op,ty,pos,aft,g⟩)(F:SU D.ops listed i=true)(G:SF D e g true=true)(E:Nat.blt d D.C.n=true)
  (J:∀w,S w->Y D.C.P e ⟨some d,op,ty,pos,aft,g⟩ v w w) (B:S w) (h:RH D S fuel (listed.setIfInBounds i true) ((d,v)::e) w):RH D S (fuel+1) listed e w:=λa q=>by
 obtain⟨r,u,A⟩:=UI F
 exact z2p (v:=v) (by simpa using hi) r u A (λ_ _ _ h=>h) (.inl ⟨Se q G,λw H=>J w H a.eval (λx v I=>q.look I)⟩) B (h _ (q.put E v))
def zjI (hi:D.ops[i]? =some ⟨some d,op,ty,pos,aft,g⟩)(E:SU D.ops listed i=true)(F:SF D e g false=true)(B:Nat.blt d D.C.n=true)
  (A:S w) (h:RH D S fuel (listed.setIfInBounds i true) ((d,undef)::e) w):RH D S (fuel+1) listed e w:=λa q=>by
 obtain⟨r,u,x⟩:=UI E
 exact z2p (v:=undef) (by simpa using hi) r u x (λ_ _ _ h=>h) (.inr ⟨Se q F,O⟩) A (h _ (q.put B undef))
def Nx (D:RC)(S:World->Prop)(fuel:Nat)(listed:Array Bool)(e:Env)(w:World)(i:Nat):Prop:=
 ∀a,XI D.C.n D.C.ms e a->AtR D.C.P D.ops.toArray (QK D.C D.k) i (λh w'=>S w'/\UW D.C.P D.ops.toArray (QK D.C D.k) S fuel (listed.setIfInBounds i true) h w') a w
theorem zj5 (r:SB D.ops listed [i]=true)(h:Nx D S fuel listed e w i):RH D S (fuel+1) listed e w:=λa q=>
 z9P (rs:=[i]) (by simpa[SB] using r) ξ λj n=>by simp at n;subst n;exact h a q
def Nx.z2f (hi:D.ops[i]? =some o)(u:SF D e o.guard true=true)
  (h:∀a,XI D.C.n D.C.ms e a->o.wp D.C.P a w (λr w'=>S w'/\UW D.C.P D.ops.toArray (QK D.C D.k) S fuel (listed.setIfInBounds i true) r w') (QK D.C D.k)):Nx D S fuel listed e w i:=λa q=>by
 have v:=Se q u
 refine .inl ?_
 unfold wpOp
 simp only[y2f,hi]
 rw[if_pos v]
 exact .inl (h a q)
theorem zhC {v:Value}(hi:D.ops[i]? =some ⟨some d,op,ty,pos,aft,g⟩)(A:SF D e g true=true)(u:Nat.blt d D.C.n=true)
  (E:Y D.C.P e ⟨some d,op,ty,pos,aft,g⟩ v w w') (r:S w') (h:RH D S fuel (listed.setIfInBounds i true) ((d,v)::e) w'):Nx D S fuel listed e w i:=
 Nx.z2f hi A λa q=>by
  have:=E a.eval (λx v B=>q.look B);unfold Oper.wp;rw[this];exact⟨r,h _ (q.put u v)⟩
theorem zjC {v:Value}(hi:D.ops[i]? =some ⟨none,op,ty,pos,aft,g⟩)(r:SF D e g true=true)
  (A:Y D.C.P e ⟨none,op,ty,pos,aft,g⟩ v w w') (q:S w') (h:RH D S fuel (listed.setIfInBounds i true) e w'):Nx D S fuel listed e w i:=
 Nx.z2f hi r λa n=>by
  have:=A a.eval (λx v u=>n.look u);unfold Oper.wp;rw[this];exact⟨q,h _ (n.zez v)⟩
theorem zlz (hi:D.ops[i]? =some ⟨none,op,ty,pos,aft,g⟩)(r:SF D e g true=true)
  (A:Z D.C.P e ⟨none,op,ty,pos,aft,g⟩ w w') (q:S w') (h:RH D S fuel (listed.setIfInBounds i true) e w'):Nx D S fuel listed e w i:=
 Nx.z2f hi r λa n=>by
  have:=A a.eval (λx v u=>n.look u);unfold Oper.wp;rw[this];exact⟨q,h _ (n.zez undef)⟩
theorem Xc {T:Value->World->Prop}(hi:D.ops[i]? =some ⟨some d,op,ty,pos,aft,g⟩)(E:SF D e g true=true)(B:Nat.blt d D.C.n=true)
  (F:Yc D.C.P e ⟨some d,op,ty,pos,aft,g⟩ f args w) (A:PN D.C.P f args w T) (h:∀v w',T v w'->S w'/\RH D S fuel (listed.setIfInBounds i true) ((d,v)::e) w'):Nx D S fuel listed e w i:=
 Nx.z2f hi E λa r=>by
  have:=F a.eval (λx v q=>r.look q);unfold Oper.wp;rw[this];exact y1C A λx w' ⟨v,q,u⟩=>by subst q;exact⟨(h v w' u).1,(h v w' u).2 _ (r.put B v)⟩
def ziO [hp:Decidable p](ht:p->RH D S fuel listed ((d,.bool true)::e) w)(n:¬p->RH D S fuel listed ((d,.bool false)::e) w):RH D S fuel listed ((d,.bool (decide p))::e) w:=by
 by_cases h:p
 ·simp only[h,decide_true];exact ht h
 ·simp only[h,decide_false];exact n h
def zj8 [hp:Decidable p](h:p)(n:RH D S fuel listed ((d,.bool true)::e) w):RH D S fuel listed ((d,.bool (decide p))::e) w:=by
 simp only[h,decide_true];exact n
def zgl [hp:Decidable p](h:¬p)(n:RH D S fuel listed ((d,.bool false)::e) w):RH D S fuel listed ((d,.bool (decide p))::e) w:=by
 simp only[h,decide_false];exact n
end
/-! ### Memory -/
def Pm (w:World)(b:Nat)(cs:List Value)(T:TypeId):Prop:=∃h:Nat×Nat,w.heap[b]? =some (.cells cs.toArray T h)/\∀i,i<cs.length->¬(h.1<=i/\i<h.2)
def Pm.lt (h:Pm w b cs T):b<w.heap.size:=by
 obtain⟨r,h,-⟩:=h
 rcases y0a b w.heap.size with q|q
 ·exact q
 ·simp[y1R q] at h
theorem Pm.cell {w:World}{b:Nat}{cs:List Value}{T:TypeId}(h:Pm w b cs T)(i:Nat):w.cell? ⟨b,i,none⟩=cs[i]? :=by
 obtain⟨q,h,-⟩:=h
 simp[World.cell?,h]
def Pm.free (h:Pm w b cs T)(hi:i<cs.length):w.frozen? ⟨b,i,none⟩=false:=by
 obtain⟨r,h,q⟩:=h
 have:=q i hi
 simp only[World.frozen?,h]
 simpa using this
structure Kp (S:Nat->Prop)(w w':World):Prop where
 os:w'.os=w.os
 tape:w'.tape=w.tape
 output:w'.output=w.output
 size:w.heap.size<=w'.heap.size
 block:∀k,k<w.heap.size->¬S k->w'.heap[k]? =w.heap[k]?
def Ext (w w':World):Prop:=Kp (λ_=>False) w w'
def Kp.refl (S:Nat->Prop)(w:World):Kp S w w:=⟨rfl,rfl,rfl,y02 _,λ_ _ _=>rfl⟩
theorem Kp.trans {S:Nat->Prop}{a b c:World}(h:Kp S a b)(k:Kp S b c):Kp S a c:=
 ⟨k.os.trans h.os,k.tape.trans h.tape,k.output.trans h.output,y0b h.size k.size,λi hi q=>(k.block i (y2A hi h.size) q).trans (h.block i hi q)⟩
def Kp.mono {S:Nat->Prop}(h:Kp S w w')(B:∀k,k<w.heap.size->S k->S' k):Kp S' w w':=⟨h.os,h.tape,h.output,h.size,λk q A=>h.block k q λr=>A (B k q r)⟩
def Kp.Pk {S:Nat->Prop}(h:Kp S w w')(q:∀k,S k->S' k):Kp S' w w':=h.mono λk _=>q k
def Ext.kp {S:Nat->Prop}(h:Ext w w'):Kp S w w':=Kp.mono h λ_ _ q=>q.elim
def Ext.refl (w:World):Ext w w:=Kp.refl _ w
theorem Ext.trans {a b c:World}(h:Ext a b)(k:Ext b c):Ext a c:=Kp.trans h k
def Kp.drew {S:Nat->Prop}{a:World}(h:Kp S a w):Kp S a w.drew:=⟨h.os,h.tape,h.output,h.size,h.block⟩
def Ext.drew {a:World}(h:Ext a w):Ext a w.drew:=Kp.drew h
def Ext.Pz (w:World):Ext w w.drew:=(Ext.refl w).drew
def Kp.It {S:Nat->Prop}{a b c:World}(h:Kp S a b)(k:Kp S' b c)(B:∀i,S' i->a.heap.size<=i\/S i):Kp S a c:=
 ⟨k.os.trans h.os,k.tape.trans h.tape,k.output.trans h.output,y0b h.size k.size,λi hi r=>
  (k.block i (y2A hi h.size) λA=>by rcases B i A with q|q;omega;exact r q).trans (h.block i hi r)⟩
def Ext.It {a b c:World}(h:Ext a b)(k:Kp S' b c)(q:∀i,S' i->a.heap.size<=i):Ext a c:=Kp.It h k λi hi=> .inl (q i hi)
theorem Ext.below (h:Ext w w'):Below w.heap.size w w':=⟨h.os,h.tape,h.output,h.size,λk q=>h.block k q id⟩
theorem Ext.zd2 (h:Below w.heap.size w w'):Ext w w':=⟨h.os,h.tape,h.output,h.size,λk q _=>h.block k q⟩
theorem Kp.OZ {S:Nat->Prop}(h:Kp S w w')(hb:Pm w b cs T)(B:¬S b):Pm w' b cs T:=by
 have q:=hb.lt
 obtain⟨r,hb,A⟩:=hb
 exact⟨r,by rw[h.block b q B];exact hb,A⟩
theorem Ext.OZ (h:Ext w w')(hb:Pm w b cs T):Pm w' b cs T:=Kp.OZ h hb id
theorem Kp.heap {S:Nat->Prop}{o:Obj}(h:Kp S w w')(hb:w.heap[b]? =some o)(A:¬S b):w'.heap[b]? =some o:=by
 have r:b<w.heap.size:=by
  rcases y0a b w.heap.size with q|q
  ·exact q
  ·simp[y1R q] at hb
 rw[h.block b r A];exact hb
def UO (w:World)(o:Obj):Ext w (w.alloc o):=⟨rfl,rfl,rfl,ξ,λk h _=>by rw[Below.heap_alloc _ _ _ h]⟩
theorem X7 (w:World)(o:Obj):(w.alloc o).heap[w.heap.size]? =some o:=by
 show(w.heap.push o)[w.heap.size]? =_
 simp
def zep (w:World)(cs:List Value)(T:TypeId):Pm (w.alloc (.cells cs.toArray T)) w.heap.size cs T:=⟨(0,0),by rw[X7],λi _ h=>by simp at h⟩
def U8 (w:World)(b i:Nat)(v:Value):Kp (λk=>k=b) w (w.setCell ⟨b,i,none⟩ v):=⟨rfl,rfl,rfl,by simp[World.setCell],λk _ h=>Below.heap_setCell _ _ _ _ h⟩
def Xi (h:Pm w b cs T)(i:Nat)(v:Value):Pm (w.setCell ⟨b,i,none⟩ v) b (cs.set i v) T:=by
 obtain⟨q,h,r⟩:=h
 refine⟨q,?_,by simpa using r⟩
 simp[World.setCell,y3z,h]
/-! ### Types -/
def aggOf:TypeDesc->Bool
 | .struct _| .array _ _=>true
 |_=>false
def TI (P:Program)(t:TypeId)(z:Value)(s bytes:Nat):Prop:=∃i,P.info? t=some i/\i.zero=some z/\i.size=s/\i.bytes=bytes
def PV (h:(P.info? t).map (λi=>(i.zero,i.size,i.bytes))=some (some z,s,bytes)):TI P t z s bytes:=info_parts h
section
theorem TI.size (h:TI P t z s bytes):(sizeOf t).run P w= .ok s w:=by
 obtain⟨i,q,-,r,-⟩:=h
 simp[sizeOf,typeInfo,program,Sem.run,q,r]
theorem TI.zero (h:TI P t z s bytes):(zeroValue t).run P w= .ok z w:=by
 obtain⟨i,q,r,-⟩:=h
 simp[zeroValue,typeInfo,program,Sem.run,q,r]
theorem Tw {d:TypeDesc}(h:P.underlying t=some d):(isAgg t).run P w= .ok (aggOf d) w:=by
 cases d<;>simp[isAgg,run_underlying h,aggOf]
end
def QT (P:Program)(t i off n:Nat)(h:Bool):Prop:=∃q f z bytes d,P.underlying t=some (.struct q)/\q[i]? =some f/\f.offset=off/\TI P f.type z n bytes/\P.underlying f.type=some d/\aggOf d=h
class TG (z:Int) (n:outParam Nat):Prop where
 eq:z=(n:Int)
instance zh9 (n:Nat):TG (n:Int) n:=⟨rfl⟩
instance zhA (n:Nat):TG (no_index (OfNat.ofNat n):Int) (OfNat.ofNat n):=⟨rfl⟩
instance zjb {a b:Int} {m n:Nat} [ha:TG a m] [hb:TG b n]:TG (a+b) (m+n):=⟨by rw[ha.eq,hb.eq];simp⟩
instance zji {a b:Int} {m n:Nat} [ha:TG a m] [hb:TG b n]:TG (a*b) (m*n):=⟨by rw[ha.eq,hb.eq];simp⟩
instance zic {a b:Int} {m n:Nat} [ha:TG a m] [hb:TG b n]:TG (a%b) (m%n):=⟨by rw[ha.eq,hb.eq];simp⟩
/-! ### Single operations -/
abbrev S (l:List UInt8):Value:= .string ⟨l.toArray⟩
abbrev I (n:Int):Value:= .int .i64 n
abbrev ptr (b i:Nat):Value:= .pointer (some ⟨b,i,none⟩)
section
variable {e:Env}{d:Option Nat}{pos:String}{x:Operand}{k:IntKind}{a b:Int}{n:Nat}{v:Value}{l l':List UInt8}
theorem Y5 (h:look e x=some v):Y P e ⟨d,.move x,ty,pos,aft,g⟩ v w w:=fun ρ q=>by simp[execOp,q _ _ h]
theorem S6 (h:look e x=some v):Y P e ⟨d,.assign x,ty,pos,aft,g⟩ v w w:=fun ρ q=>by simp[execOp,q _ _ h]
theorem Ux (q:look e c=some (.bool true))(r:look e x=some v):Y P e ⟨d,.pick c x y,ty,pos,aft,g⟩ v w w:=fun ρ h=>by simp[execOp,h _ _ r,h _ _ q,asBool]
theorem U0 (q:look e c=some (.bool false))(r:look e y=some v):Y P e ⟨d,.pick c x y,ty,pos,aft,g⟩ v w w:=fun ρ h=>by simp[execOp,h _ _ r,h _ _ q,asBool]
-- tests on integers
theorem ZQ (q:look e x=some (.int k a))(r:look e y=some (.int k b)):Y P e ⟨d,.binOp .lss t x y t',ty,pos,aft,g⟩ (.bool (decide (a<b))) w w:=fun ρ h=>by simp[execOp,go_sem,h _ _ q,h _ _ r]
theorem ZG (q:look e x=some (.int k a))(r:look e y=some (.int k b)):Y P e ⟨d,.binOp .leq t x y t',ty,pos,aft,g⟩ (.bool (decide (a<=b))) w w:=fun ρ h=>by simp[execOp,go_sem,h _ _ q,h _ _ r]
theorem YT (q:look e x=some (.int k a))(r:look e y=some (.int k b)):Y P e ⟨d,.binOp .gtr t x y t',ty,pos,aft,g⟩ (.bool (decide (b<a))) w w:=fun ρ h=>by simp[execOp,go_sem,h _ _ q,h _ _ r]
theorem yge (q:look e x=some (.int k a))(r:look e y=some (.int k b)):Y P e ⟨d,.binOp .geq t x y t',ty,pos,aft,g⟩ (.bool (decide (b<=a))) w w:=fun ρ h=>by simp[execOp,go_sem,h _ _ q,h _ _ r]
theorem yeq (r:look e x=some (.int k a))(A:look e y=some (.int k b)):Y P e ⟨d,.binOp .eql t x y t',ty,pos,aft,g⟩ (.bool (decide (a=b))) w w:=fun ρ q=>by
 have:(a==b)=decide (a=b):=by by_cases h:a=b<;>simp[h]
 simp[execOp,go_sem,q _ _ r,q _ _ A,this]
theorem yne (r:look e x=some (.int k a))(A:look e y=some (.int k b)):Y P e ⟨d,.binOp .neq t x y t',ty,pos,aft,g⟩ (.bool (decide (a≠b))) w w:=fun ρ q=>by
 have:(a !=b)=decide (a≠b):=by by_cases h:a=b<;>simp[h]
 simp[execOp,go_sem,q _ _ r,q _ _ A,this]
-- arithmetic on int
theorem wrap_i64 {a:Int}(h:JIq a):IntKind.i64.wrap a=a:=by
 simp only[IntKind.wrap,IntKind.bits,IntKind.signed];simp;omega
theorem Vu (r:look e x=some (I a))(A:look e y=some (I b))(h:JIq (a+b)):Y P e ⟨d,.binOp .add t x y t',ty,pos,aft,g⟩ (I (a+b)) w w:=fun ρ q=>by simp[execOp,go_sem,q _ _ r,q _ _ A,wrap_i64 h]
theorem Yf (r:look e x=some (I a))(A:look e y=some (I b))(h:JIq (a-b)):Y P e ⟨d,.binOp .sub t x y t',ty,pos,aft,g⟩ (I (a-b)) w w:=fun ρ q=>by simp[execOp,go_sem,q _ _ r,q _ _ A,wrap_i64 h]
theorem Y8 (r:look e x=some (I a))(A:look e y=some (I b))(h:JIq (a*b)):Y P e ⟨d,.binOp .mul t x y t',ty,pos,aft,g⟩ (I (a*b)) w w:=fun ρ q=>by simp[execOp,go_sem,q _ _ r,q _ _ A,wrap_i64 h]
theorem X5 (C:look e x=some (I a))(D:look e y=some (I b))(h:0<=a/\0<b/\a<=9223372036854775807):Y P e ⟨d,.binOp .quo t x y t',ty,pos,aft,g⟩ (I (a / b)) w w:=fun ρ q=>by
 have r:¬b=0:=ω
 have A:a.tdiv b=a / b:=y3J h.1
 have E:0<=a / b:=Int.ediv_nonneg h.1 ω
 have F:a / b<=a:=Int.ediv_le_self b h.1
 have B:=wrap_i64 (a:=a / b) ⟨ω,ω⟩
 simp[execOp,go_sem,q _ _ C,q _ _ D,r,A,B]
theorem yre (B:look e x=some (I a))(C:look e y=some (I b))(h:0<=a/\0<b):Y P e ⟨d,.binOp .rem t x y t',ty,pos,aft,g⟩ (I (a%b)) w w:=fun ρ q=>by
 have r:¬b=0:=ω
 have A:a.tmod b=a%b:=Int.tmod_eq_emod_of_nonneg h.1
 simp[execOp,go_sem,q _ _ B,q _ _ C,r,A]
theorem yrt (r:look e x=some (I a))(A:look e y=some (I b))(h:b≠0):Y P e ⟨d,.binOp .rem t x y t',ty,pos,aft,g⟩ (I (a.tmod b)) w w:=fun ρ q=>by
 simp[execOp,go_sem,q _ _ r,q _ _ A,h]
theorem zlX (c p:Nat)(D:look e x=some (I a))(E:look e y=some (.int k' (c:Int)))(B:c<=64)(C:2^c=p)(h:JIq (a*p)):Y P e ⟨d,.binOp .shl t x y t',ty,pos,aft,g⟩ (I (a*p)) w w:=fun ρ r=>by
 have A:¬((c:Int)<0):=ω
 have q:(2:Int)^c=(p:Int):=by rw[<-C];simp
 simp only[execOp,eqGuard_shl,binOp_shl,r _ _ D,r _ _ E,Op.shift,A,if_false,y2s,IntKind.bits,y0B B,pure_bind,y04,q,wrap_i64 h]
theorem ysr (c:Nat)(B:look e x=some (.int k a))(C:look e y=some (.int k' (c:Int)))(A:c<=k.bits):Y P e ⟨d,.binOp .shr t x y t',ty,pos,aft,g⟩ (.int k (a / 2^c)) w w:=fun ρ h=>by
 have q:¬((c:Int)<0):=ω
 have r:(0:Int)<=2^c:=Int.pow_nonneg ψ
 simp only[execOp,eqGuard_shr,binOp_shr,h _ _ B,h _ _ C,Op.shift,q,if_false,y2s,y0B A,Int.fdiv_eq_ediv_of_nonneg _ r,pure_bind,y04]
-- numbers without a sign, as natural numbers
theorem zfQ (r:look e x=some (.int k (m:Int)))(A:look e y=some (.int k (n:Int)))(q:k.signed=false):Y P e ⟨d,.binOp .add t x y t',ty,pos,aft,g⟩ (.int k (((m+n)%2^k.bits:Nat):Int)) w w:=fun ρ h=>by
 have:k.wrap ((m:Int)+n)=(((m+n)%2^k.bits:Nat):Int):=by simp[IntKind.wrap,q]
 simp[execOp,go_sem,h _ _ r,h _ _ A,this]
theorem zg1 (c:Nat)(B:look e x=some (.int k (m:Int)))(C:look e y=some (.int k' (c:Int)))(A:k.signed=false)(r:c<=k.bits):Y P e ⟨d,.binOp .shl t x y t',ty,pos,aft,g⟩ (.int k (((m*2^c)%2^k.bits:Nat):Int)) w w:=fun ρ h=>by
 have q:¬((c:Int)<0):=ω
 have:k.wrap ((m:Int)*2^c)=(((m*2^c)%2^k.bits:Nat):Int):=by simp[IntKind.wrap,A]
 simp only[execOp,eqGuard_shl,binOp_shl,h _ _ B,h _ _ C,Op.shift,q,if_false,y2s,y0B r,pure_bind,y04,this]
theorem zk4 (c:Nat)(q:look e x=some (.int k (m:Int)))(r:look e y=some (.int k' (c:Int)))(h:c<=k.bits):Y P e ⟨d,.binOp .shr t x y t',ty,pos,aft,g⟩ (.int k ((m / 2^c:Nat):Int)) w w:=fun ρ A=>by
 have:=ysr (P:=P) (d:=d) (t:=t) (t':=t') (ty:=ty) (pos:=pos) (aft:=aft) (g:=g) (w:=w) c q r h ρ A
 rw[this]
 simp
theorem Rv {k:IntKind}(h:m<2^k.bits):(BitVec.ofInt k.bits (m:Int)).toNat=m:=by
 simp
 exact y0g h
theorem z1E {k:IntKind}(q:k.signed=false)(h:m<2^k.bits):k.wrap (m:Int)=(m:Int):=by
 simp only[IntKind.wrap,q]
 simp
 exact Int.emod_eq_of_lt ω (by exact_mod_cast h)
theorem zcT (B:look e x=some (.int k (m:Int)))(C:look e y=some (.int k (n:Int)))(A:k.signed=false)(h:m<2^k.bits)(r:n<2^k.bits):Y P e ⟨d,.binOp .and t x y t',ty,pos,aft,g⟩ (.int k ((m&&&n:Nat):Int)) w w:=fun ρ q=>by
 simp only[execOp,eqGuard_and,binOp_and,intBits_and,q _ _ B,q _ _ C,pure_bind,y04,bits,y2C,Rv h,Rv r,z1E A (y1X y2Y h)]
theorem zfI (B:look e x=some (.int k (m:Int)))(C:look e y=some (.int k (n:Int)))(A:k.signed=false)(h:m<2^k.bits)(q:n<2^k.bits):Y P e ⟨d,.binOp .or t x y t',ty,pos,aft,g⟩ (.int k ((m |||n:Nat):Int)) w w:=fun ρ r=>by
 simp only[execOp,eqGuard_or,binOp_or,intBits_or,r _ _ B,r _ _ C,pure_bind,y04,bits,BitVec.toNat_or,Rv h,Rv q,z1E A (Nat.or_lt_two_pow h q)]
theorem zfj (B:look e x=some (.int k (m:Int)))(C:look e y=some (.int k (n:Int)))(A:k.signed=false)(h:m<2^k.bits)(q:n<2^k.bits):Y P e ⟨d,.binOp .xor t x y t',ty,pos,aft,g⟩ (.int k ((m^^^n:Nat):Int)) w w:=fun ρ r=>by
 simp only[execOp,eqGuard_xor,binOp_xor,intBits_xor,r _ _ B,r _ _ C,pure_bind,y04,bits,y2k,Rv h,Rv q,z1E A (y28 h q)]
theorem zgF (A:look e x=some (I (m:Int)))(B:look e y=some (I (n:Int)))(D:m<2^63)(E:n<2^63):Y P e ⟨d,.binOp .and t x y t',ty,pos,aft,g⟩ (I ((m&&&n:Nat):Int)) w w:=fun ρ h=>by
 have q:m<2^IntKind.i64.bits:=by simp only[IntKind.bits];omega
 have r:n<2^IntKind.i64.bits:=by simp only[IntKind.bits];omega
 have C:m&&&n<=m:=y2Y
 simp only[execOp,eqGuard_and,binOp_and,intBits_and,h _ _ A,h _ _ B,pure_bind,y04,bits,y2C,Rv q,Rv r]
 rw[wrap_i64 ⟨ω,ω⟩]
theorem zkB (q:look e x=some (.int k (m:Int)))(h:k.signed=false)(A:m<2^k.bits):Y P e ⟨d,.unOp .neg t x,ty,pos,aft,g⟩ (.int k (((2^k.bits-m)%2^k.bits:Nat):Int)) w w:=fun ρ r=>by
 have:k.wrap (0-(m:Int))=(((2^k.bits-m)%2^k.bits:Nat):Int):=by
  simp only[IntKind.wrap,h];simp;rw[Int.ofNat_sub ω];simp
 simp only[execOp,r _ _ q,pure_bind,y04,Op.unary,Op.intArith,this]
theorem zik (B:look e x=some (.int k (m:Int)))(A:k.signed=false)(q:m<2^k.bits):Y P e ⟨d,.unOp .xor t x,ty,pos,aft,g⟩ (.int k (((2^k.bits-1)^^^m:Nat):Int)) w w:=fun ρ C=>by
 have h:k.max=((2^k.bits-1:Nat):Int):=by cases k<;>simp_all [IntKind.max,IntKind.signed,IntKind.bits]
 have r:2^k.bits-1<2^k.bits:=by have:=y0v k.bits;omega
 simp only[execOp,C _ _ B,pure_bind,y04,Op.unary,A,y2o,if_false,h,intBits_xor,bits,y2k,Rv q,Rv r,z1E A (y28 r q)]
theorem yng (q:look e x=some (I a))(h: -9223372036854775807<=a)(A:a<=9223372036854775807):Y P e ⟨d,.unOp .neg t x,ty,pos,aft,g⟩ (I (-a)) w w:=fun ρ r=>by
 simp[execOp,go_sem,r _ _ q,Op.unary,wrap_i64 (a:=-a) ⟨ω,ω⟩]
theorem SD {c:Bool}(h:look e x=some (.bool c)):Y P e ⟨d,.unOp .not t x,ty,pos,aft,g⟩ (.bool (!c)) w w:=fun ρ q=>by simp[execOp,q _ _ h,Op.unary]
theorem zaj [Decidable p](h:look e x=some (.bool (decide p))):Y P e ⟨d,.unOp .not t x,ty,pos,aft,g⟩ (.bool (decide ¬p)) w w:=fun ρ q=>by simp[execOp,q _ _ h,Op.unary]
-- conversions of numbers
theorem ycv (A:look e x=some (.int k a))(r:P.underlying t=some (.int k))(q:P.underlying t'=some (.int k'))(h:k'.wrap a=b):Y P e ⟨d,.convert t t' x,ty,pos,aft,g⟩ (.int k' b) w w:=fun ρ B=>by
 simp[execOp,B _ _ A,convert,run_underlying r,run_underlying q,Conv.intToInt,h]
def zfU (A:look e x=some (.int k (m:Int)))(r:P.underlying t=some (.int k))(q:P.underlying t'=some (.int k'))(h:k'.signed=false):Y P e ⟨d,.convert t t' x,ty,pos,aft,g⟩ (.int k' ((m%2^k'.bits:Nat):Int)) w w:=
 ycv A r q (by simp[IntKind.wrap,h])
def zgu (A:look e x=some (.int k a))(r:P.underlying t=some (.int k))(q:P.underlying t'=some (.int k'))(h:k'.min<=a/\a<=k'.max):Y P e ⟨d,.convert t t' x,ty,pos,aft,g⟩ (.int k' a) w w:=
 ycv A r q (by cases k'<;>simp only[IntKind.wrap,IntKind.bits,IntKind.signed,IntKind.min,IntKind.max] at* <;>simp at* <;>omega)
-- strings
theorem To (l:List UInt8):(ByteArray.mk l.toArray).size=l.length:=by simp[ByteArray.size]
theorem WW (ht:P.underlying t=some .string)(h:look e x=some (S l)):Y P e ⟨d,.call ⟨.builtin .len,#[x],#[t]⟩,ty,pos,aft,g⟩ (I (l.length:Int)) w w:=fun ρ q=>by
 simp[go_sem,q _ _ h,run_len_string w t ty _ ht,To]
theorem zj7 (ht:P.underlying t=some .string)(B:look e x=some (S l))(C:look e y=some (.int k (n:Int)))(h:n<l.length):Y P e ⟨d,.index t x y,ty,pos,aft,g⟩ (.int .u8 ((l.getD n 0).toNat:Int)) w w:=fun ρ q=>by
 have r:(0:Int)<=(n:Int)/\(n:Int)<((ByteArray.mk l.toArray).size:Int):=by rw[To];omega
 have A:((ByteArray.mk l.toArray)[n]'(by rw[To];exact h))=l.getD n 0:=by
  simp[List.getD,h]
  rfl
 simp only[execOp,q _ _ B,q _ _ C,run_index_string w t _ k _ ht,y06,dif_pos r,y0D,y04,y2s,A]
theorem ZE (B:look e x=some (S l))(C:look e y=some (S l'))(h:l.length+l'.length<=9223372036854775807):Y P e ⟨d,.binOp .add t x y t',ty,pos,aft,g⟩ (S (l++l')) w w:=fun ρ q=>by
 have r:(Op.stringOp .add ⟨l.toArray⟩ ⟨l'.toArray⟩).run P w= .ok (.string (⟨l.toArray⟩++⟨l'.toArray⟩)) w:=run_string_add_sum w _ _ (by rw[To,To];exact h)
 have A:((⟨l.toArray⟩:ByteArray)++(⟨l'.toArray⟩:ByteArray))=⟨(l++l').toArray⟩:=by
  apply ByteArray.ext;apply y2D.1;rw[Joins.data_append]
 simp only[execOp,q _ _ B,q _ _ C,eqGuard_add,binOp_string_add,pure_bind,y06,r,A,y0D,y04]
theorem zkH (r:look e x=some (S l))(A:look e y=some (S l')):Y P e ⟨d,.binOp .eql t x y t',ty,pos,aft,g⟩ (.bool (decide (l=l'))) w w:=fun ρ q=>by
 have:(l==l')=decide (l=l'):=by by_cases h:l=l'<;>simp[h]
 simp[execOp,go_sem,q _ _ r,q _ _ A,this]
theorem Xz (l:List UInt8)(i j:Nat):(ByteArray.mk l.toArray).extract i j=⟨((l.drop i).take (j-i)).toArray⟩:=by
 apply ByteArray.ext
 apply y2D.1
 rw[Lib.extract_data]
theorem zjp (ht:P.underlying t=some .string)(C:look e x=some (S l))(D:look e y=some (.int k (i:Int)))(q:look e y'=some (.int k' (j:Int)))(h:i<=j/\j<=l.length):
  Y P e ⟨d,.slice t x (some y) (some y') none,ty,pos,aft,g⟩ (S ((l.drop i).take (j-i))) w w:=fun ρ r=>by
 have A:∀w,(Instr.sliceBound (.int k' (j:Int)) (ByteArray.mk l.toArray).size .sliceAlen).run P w= .ok j w:=λw=>by rw[run_sliceBound _ _ _ _ _ ω (by rw[To];omega)];simp
 have B:∀w,(Instr.sliceBound (.int k (i:Int)) j .sliceB).run P w= .ok i w:=λw=>by rw[run_sliceBound _ _ _ _ _ ω ω];simp
 simp[execOp,r _ _ C,r _ _ D,r _ _ q,Instr.sliceAt,run_underlying ht,Instr.slice,Instr.sliceBounds,A,B,Xz]
theorem zgI (ht:P.underlying t=some .string)(B:look e x=some (S l))(C:look e y=some (.int k (i:Int)))(h:i<=l.length):
  Y P e ⟨d,.slice t x (some y) none none,ty,pos,aft,g⟩ (S (l.drop i)) w w:=fun ρ q=>by
 have r:∀w,(Instr.sliceBound (.int k (i:Int)) l.length .sliceB).run P w= .ok i w:=λw=>by rw[run_sliceBound _ _ _ _ _ ω ω];simp
 have A:(l.drop i).take (l.length-i)=l.drop i:=y0N ξ
 simp[execOp,q _ _ B,q _ _ C,Instr.sliceAt,run_underlying ht,Instr.slice,Instr.sliceBounds,r,Xz,To,A]
theorem zgV (ht:P.underlying t=some .string)(A:look e x=some (S l))(B:look e y=some (.int k (j:Int)))(h:j<=l.length):
  Y P e ⟨d,.slice t x none (some y) none,ty,pos,aft,g⟩ (S (l.take j)) w w:=fun ρ q=>by
 have r:∀w,(Instr.sliceBound (.int k (j:Int)) (ByteArray.mk l.toArray).size .sliceAlen).run P w= .ok j w:=λw=>by rw[run_sliceBound _ _ _ _ _ ω (by rw[To];omega)];simp
 simp[execOp,q _ _ A,q _ _ B,Instr.sliceAt,run_underlying ht,Instr.slice,Instr.sliceBounds,r,Xz]
theorem ymi (q:look e x=some (I a))(r:look e y=some (I b)):Y P e ⟨d,.call ⟨.builtin .min,#[x,y],ts⟩,ty,pos,aft,g⟩ (I (min a b)) w w:=fun ρ h=>by
 have:(if b<a then b else a)=min a b:=ω
 simp[go_sem,h _ _ q,h _ _ r,Builtin.min_,Builtin.min2,this]
theorem yma (q:look e x=some (I a))(r:look e y=some (I b)):Y P e ⟨d,.call ⟨.builtin .max,#[x,y],ts⟩,ty,pos,aft,g⟩ (I (max a b)) w w:=fun ρ h=>by
 have:(if a<b then b else a)=max a b:=ω
 simp[go_sem,h _ _ q,h _ _ r,Builtin.max_,Builtin.max2,this]
-- the same with the numbers written out
def zgX (h:look e x=some (.int .u32 (m:Int)))(q:look e y=some (.int .u32 (n:Int))):Y P e ⟨d,.binOp .add t x y t',ty,pos,aft,g⟩ (.int .u32 (((m+n)%4294967296:Nat):Int)) w w:=zfQ h q O
def zg4 (h:look e x=some (.int .u64 (m:Int)))(q:look e y=some (.int .u64 (n:Int))):Y P e ⟨d,.binOp .add t x y t',ty,pos,aft,g⟩ (.int .u64 (((m+n)%18446744073709551616:Nat):Int)) w w:=zfQ h q O
def zhk (r:look e x=some (.int .u8 (m:Int)))(A:look e y=some (.int .u8 (n:Int)))(h:m<256)(q:n<256):Y P e ⟨d,.binOp .and t x y t',ty,pos,aft,g⟩ (.int .u8 ((m&&&n:Nat):Int)) w w:=zcT r A O h q
def zgP (r:look e x=some (.int .u32 (m:Int)))(A:look e y=some (.int .u32 (n:Int)))(h:m<4294967296)(q:n<4294967296):Y P e ⟨d,.binOp .and t x y t',ty,pos,aft,g⟩ (.int .u32 ((m&&&n:Nat):Int)) w w:=zcT r A O h q
def zdE (r:look e x=some (.int .u64 (m:Int)))(A:look e y=some (.int .u64 (n:Int)))(h:m<18446744073709551616)(q:n<18446744073709551616):Y P e ⟨d,.binOp .and t x y t',ty,pos,aft,g⟩ (.int .u64 ((m&&&n:Nat):Int)) w w:=zcT r A O h q
def zi0 (r:look e x=some (.int .u8 (m:Int)))(A:look e y=some (.int .u8 (n:Int)))(h:m<256)(q:n<256):Y P e ⟨d,.binOp .or t x y t',ty,pos,aft,g⟩ (.int .u8 ((m |||n:Nat):Int)) w w:=zfI r A O h q
def ze0 (r:look e x=some (.int .u64 (m:Int)))(A:look e y=some (.int .u64 (n:Int)))(h:m<18446744073709551616)(q:n<18446744073709551616):Y P e ⟨d,.binOp .or t x y t',ty,pos,aft,g⟩ (.int .u64 ((m |||n:Nat):Int)) w w:=zfI r A O h q
def zgH (r:look e x=some (.int .u32 (m:Int)))(A:look e y=some (.int .u32 (n:Int)))(h:m<4294967296)(q:n<4294967296):Y P e ⟨d,.binOp .xor t x y t',ty,pos,aft,g⟩ (.int .u32 ((m^^^n:Nat):Int)) w w:=zfj r A O h q
def zee (r:look e x=some (.int .u64 (m:Int)))(A:look e y=some (.int .u64 (n:Int)))(h:m<18446744073709551616)(q:n<18446744073709551616):Y P e ⟨d,.binOp .xor t x y t',ty,pos,aft,g⟩ (.int .u64 ((m^^^n:Nat):Int)) w w:=zfj r A O h q
def zgA (q:look e x=some (.int .u32 (m:Int)))(h:m<4294967296):Y P e ⟨d,.unOp .neg t x,ty,pos,aft,g⟩ (.int .u32 (((4294967296-m)%4294967296:Nat):Int)) w w:=zkB q O h
def zh3 (q:look e x=some (.int .u32 (m:Int)))(h:m<4294967296):Y P e ⟨d,.unOp .xor t x,ty,pos,aft,g⟩ (.int .u32 ((4294967295^^^m:Nat):Int)) w w:=zik q O h
def zke (c:Nat)(q:look e x=some (.int .u8 (m:Int)))(r:look e y=some (.int k' (c:Int)))(h:c<=8):Y P e ⟨d,.binOp .shl t x y t',ty,pos,aft,g⟩ (.int .u8 (((m*2^c)%256:Nat):Int)) w w:=zg1 c q r O h
def zdS (c:Nat)(q:look e x=some (.int .u64 (m:Int)))(r:look e y=some (.int k' (c:Int)))(h:c<=64):Y P e ⟨d,.binOp .shl t x y t',ty,pos,aft,g⟩ (.int .u64 (((m*2^c)%18446744073709551616:Nat):Int)) w w:=zg1 c q r O h
def ziU (r:look e x=some (.int k (m:Int)))(q:P.underlying t=some (.int k))(h:P.underlying t'=some (.int .u8)):Y P e ⟨d,.convert t t' x,ty,pos,aft,g⟩ (.int .u8 ((m%256:Nat):Int)) w w:=zfU r q h O
def zgL (r:look e x=some (.int k (m:Int)))(q:P.underlying t=some (.int k))(h:P.underlying t'=some (.int .u32)):Y P e ⟨d,.convert t t' x,ty,pos,aft,g⟩ (.int .u32 ((m%4294967296:Nat):Int)) w w:=zfU r q h O
def Q8 (A:look e x=some (.int k a))(r:P.underlying t=some (.int k))(q:P.underlying t'=some (.int .i64))(h:JIq a):Y P e ⟨d,.convert t t' x,ty,pos,aft,g⟩ (.int .i64 a) w w:=zgu A r q h
def QH (A:look e x=some (.int k a))(r:P.underlying t=some (.int k))(q:P.underlying t'=some (.int .u64))(h:0<=a/\a<=18446744073709551615):Y P e ⟨d,.convert t t' x,ty,pos,aft,g⟩ (.int .u64 a) w w:=zgu A r q h
def zcz {c:UInt8}(r:look e x=some (.int .u8 (c.toNat:Int)))(q:P.underlying t=some (.int .u8))(h:P.underlying t'=some (.int k'))(A:255<=k'.max):Y P e ⟨d,.convert t t' x,ty,pos,aft,g⟩ (.int k' (c.toNat:Int)) w w:=
 zgu r q h ⟨by have:k'.min<=0:=(by cases k'<;>decide);omega,by have:=c.toNat_lt;omega⟩
-- .. of whatever integers that are natural numbers
section
variable [ha:TG za m][hb:TG zb n]
def Vk (c p:Nat)(r:look e x=some (.int k za))(A:look e y=some (.int k' (c:Int)))(h:c<=k.bits)(q:2^c=p):Y P e ⟨d,.binOp .shr t x y t',ty,pos,aft,g⟩ (.int k ((m / p:Nat):Int)) w w:=by
 obtain⟨rfl⟩:=ha;subst q;exact zk4 c r A h
def zlf (c p:Nat)(r:look e x=some (.int .u8 za))(A:look e y=some (.int k' (c:Int)))(h:c<=8)(q:2^c=p):Y P e ⟨d,.binOp .shl t x y t',ty,pos,aft,g⟩ (.int .u8 (((m*p)%256:Nat):Int)) w w:=by
 obtain⟨rfl⟩:=ha;subst q;exact zke c r A h
def RN (c p:Nat)(r:look e x=some (.int .u64 za))(A:look e y=some (.int k' (c:Int)))(h:c<=64)(q:2^c=p):Y P e ⟨d,.binOp .shl t x y t',ty,pos,aft,g⟩ (.int .u64 (((m*p)%18446744073709551616:Nat):Int)) w w:=by
 obtain⟨rfl⟩:=ha;subst q;exact zdS c r A h
def zhK (h:look e x=some (.int .u32 za))(q:look e y=some (.int .u32 zb)):Y P e ⟨d,.binOp .add t x y t',ty,pos,aft,g⟩ (.int .u32 (((m+n)%4294967296:Nat):Int)) w w:=by obtain⟨rfl⟩:=ha;obtain⟨rfl⟩:=hb;exact zgX h q
def VD (h:look e x=some (.int .u64 za))(q:look e y=some (.int .u64 zb)):Y P e ⟨d,.binOp .add t x y t',ty,pos,aft,g⟩ (.int .u64 (((m+n)%18446744073709551616:Nat):Int)) w w:=by obtain⟨rfl⟩:=ha;obtain⟨rfl⟩:=hb;exact zg4 h q
def zkL (r:look e x=some (.int .u8 za))(A:look e y=some (.int .u8 zb))(h:m<256)(q:n<256):Y P e ⟨d,.binOp .and t x y t',ty,pos,aft,g⟩ (.int .u8 ((m&&&n:Nat):Int)) w w:=by obtain⟨rfl⟩:=ha;obtain⟨rfl⟩:=hb;exact zhk r A h q
def zfH (r:look e x=some (.int .u32 za))(A:look e y=some (.int .u32 zb))(h:m<4294967296)(q:n<4294967296):Y P e ⟨d,.binOp .and t x y t',ty,pos,aft,g⟩ (.int .u32 ((m&&&n:Nat):Int)) w w:=by obtain⟨rfl⟩:=ha;obtain⟨rfl⟩:=hb;exact zgP r A h q
def Va (r:look e x=some (.int .u64 za))(A:look e y=some (.int .u64 zb))(h:m<18446744073709551616)(q:n<18446744073709551616):Y P e ⟨d,.binOp .and t x y t',ty,pos,aft,g⟩ (.int .u64 ((m&&&n:Nat):Int)) w w:=by obtain⟨rfl⟩:=ha;obtain⟨rfl⟩:=hb;exact zdE r A h q
def zlE (r:look e x=some (.int .u8 za))(A:look e y=some (.int .u8 zb))(h:m<256)(q:n<256):Y P e ⟨d,.binOp .or t x y t',ty,pos,aft,g⟩ (.int .u8 ((m |||n:Nat):Int)) w w:=by obtain⟨rfl⟩:=ha;obtain⟨rfl⟩:=hb;exact zi0 r A h q
def z2q (r:look e x=some (.int .u64 za))(A:look e y=some (.int .u64 zb))(h:m<18446744073709551616)(q:n<18446744073709551616):Y P e ⟨d,.binOp .or t x y t',ty,pos,aft,g⟩ (.int .u64 ((m |||n:Nat):Int)) w w:=by obtain⟨rfl⟩:=ha;obtain⟨rfl⟩:=hb;exact ze0 r A h q
def zeS (r:look e x=some (.int .u32 za))(A:look e y=some (.int .u32 zb))(h:m<4294967296)(q:n<4294967296):Y P e ⟨d,.binOp .xor t x y t',ty,pos,aft,g⟩ (.int .u32 ((m^^^n:Nat):Int)) w w:=by obtain⟨rfl⟩:=ha;obtain⟨rfl⟩:=hb;exact zgH r A h q
def z2w (r:look e x=some (.int .u64 za))(A:look e y=some (.int .u64 zb))(h:m<18446744073709551616)(q:n<18446744073709551616):Y P e ⟨d,.binOp .xor t x y t',ty,pos,aft,g⟩ (.int .u64 ((m^^^n:Nat):Int)) w w:=by obtain⟨rfl⟩:=ha;obtain⟨rfl⟩:=hb;exact zee r A h q
def Y2 (h:look e x=some (I za))(q:look e y=some (I zb))(r:m<=9223372036854775807)(A:n<=9223372036854775807):Y P e ⟨d,.binOp .and t x y t',ty,pos,aft,g⟩ (I ((m&&&n:Nat):Int)) w w:=by obtain⟨rfl⟩:=ha;obtain⟨rfl⟩:=hb;exact zgF h q ω ω
def zkh (q:look e x=some (.int .u32 za))(h:m<4294967296):Y P e ⟨d,.unOp .neg t x,ty,pos,aft,g⟩ (.int .u32 (((4294967296-m)%4294967296:Nat):Int)) w w:=by obtain⟨rfl⟩:=ha;exact zgA q h
def zfq (q:look e x=some (.int .u32 za))(h:m<4294967296):Y P e ⟨d,.unOp .xor t x,ty,pos,aft,g⟩ (.int .u32 ((4294967295^^^m:Nat):Int)) w w:=by obtain⟨rfl⟩:=ha;exact zh3 q h
def zeB (r:look e x=some (.int k za))(q:P.underlying t=some (.int k))(h:P.underlying t'=some (.int .u8)):Y P e ⟨d,.convert t t' x,ty,pos,aft,g⟩ (.int .u8 ((m%256:Nat):Int)) w w:=by obtain⟨rfl⟩:=ha;exact ziU r q h
def z5R (r:look e x=some (.int k za))(q:P.underlying t=some (.int k))(h:P.underlying t'=some (.int .u32)):Y P e ⟨d,.convert t t' x,ty,pos,aft,g⟩ (.int .u32 ((m%4294967296:Nat):Int)) w w:=by obtain⟨rfl⟩:=ha;exact zgL r q h
def zkc (ht:P.underlying t=some .string)(q:look e x=some (S l))(r:look e y=some (.int k za))(h:m<l.length):Y P e ⟨d,.index t x y,ty,pos,aft,g⟩ (.int .u8 ((l.getD m 0).toNat:Int)) w w:=by obtain⟨rfl⟩:=ha;exact zj7 ht q r h
def zll (ht:P.underlying t=some .string)(r:look e x=some (S l))(A:look e y=some (.int k za))(q:look e y'=some (.int k' zb))(h:m<=n/\n<=l.length):
  Y P e ⟨d,.slice t x (some y) (some y') none,ty,pos,aft,g⟩ (S ((l.drop m).take (n-m))) w w:=by obtain⟨rfl⟩:=ha;obtain⟨rfl⟩:=hb;exact zjp ht r A q h
def z1H (ht:P.underlying t=some .string)(q:look e x=some (S l))(r:look e y=some (.int k za))(h:m<=l.length):
  Y P e ⟨d,.slice t x (some y) none none,ty,pos,aft,g⟩ (S (l.drop m)) w w:=by obtain⟨rfl⟩:=ha;exact zgI ht q r h
def z57 (ht:P.underlying t=some .string)(q:look e x=some (S l))(r:look e y=some (.int k za))(h:m<=l.length):
  Y P e ⟨d,.slice t x none (some y) none,ty,pos,aft,g⟩ (S (l.take m)) w w:=by obtain⟨rfl⟩:=ha;exact zgV ht q r h
end
end
def Yp (P:Program)(e:Env)(o:Oper)(w:World)(Post:Value->World->Prop):Prop:=∃v w',Y P e o v w w'/\Post v w'
def Zp (P:Program)(e:Env)(o:Oper)(w:World)(Post:World->Prop):Prop:=∃w',Z P e o w w'/\Post w'
section
variable {D:RC}{l:List Oper}{e:Env}{d:Nat}{pos:String}
def Pb (A:SF D e g true=true)(r:Nat.blt d D.C.n=true)(q:Yp D.C.P e ⟨some d,op,ty,pos,aft,g⟩ w Post)(h:∀v w',Post v w'->RL D l ((d,v)::e) w'):
  RL D (⟨some d,op,ty,pos,aft,g⟩::l) e w:=by
 obtain⟨v,w',q,B⟩:=q
 exact VS A r q (h v w' B)
def zbT (r:SF D e g true=true)(q:Yp D.C.P e ⟨none,op,ty,pos,aft,g⟩ w Post)(h:∀v w',Post v w'->RL D l e w'):
  RL D (⟨none,op,ty,pos,aft,g⟩::l) e w:=by
 obtain⟨v,w',q,A⟩:=q
 exact zhj r q (h v w' A)
def Po {Post:World->Prop}(r:SF D e g true=true)(q:Zp D.C.P e ⟨none,op,ty,pos,aft,g⟩ w Post)(h:∀w',Post w'->RL D l e w'):
  RL D (⟨none,op,ty,pos,aft,g⟩::l) e w:=by
 obtain⟨w',q,A⟩:=q
 exact zlJ r q (h w' A)
end
section
variable {D:RC}{S:World->Prop}{e:Env}{d:Nat}{pos:String}
def z0n (hi:D.ops[i]? =some ⟨some d,op,ty,pos,aft,g⟩)(B:SF D e g true=true)(A:Nat.blt d D.C.n=true)
  (q:Yp D.C.P e ⟨some d,op,ty,pos,aft,g⟩ w Post) (h:∀v w',Post v w'->S w'/\RH D S fuel (listed.setIfInBounds i true) ((d,v)::e) w'):Nx D S fuel listed e w i:=by
 obtain⟨v,w',q,r⟩:=q
 exact zhC hi B A q (h v w' r).1 (h v w' r).2
def Q0 {Post:World->Prop}(hi:D.ops[i]? =some ⟨none,op,ty,pos,aft,g⟩)(A:SF D e g true=true)
  (q:Zp D.C.P e ⟨none,op,ty,pos,aft,g⟩ w Post) (h:∀w',Post w'->S w'/\RH D S fuel (listed.setIfInBounds i true) e w'):Nx D S fuel listed e w i:=by
 obtain⟨w',q,r⟩:=q
 exact zlz hi A q (h w' r).1 (h w' r).2
def zbM (hi:D.ops[i]? =some ⟨none,op,ty,pos,aft,g⟩)(A:SF D e g true=true)
  (q:Yp D.C.P e ⟨none,op,ty,pos,aft,g⟩ w Post) (h:∀v w',Post v w'->S w'/\RH D S fuel (listed.setIfInBounds i true) e w'):Nx D S fuel listed e w i:=by
 obtain⟨v,w',q,r⟩:=q
 exact zjC hi A q (h v w' r).1 (h v w' r).2
end
theorem RU (b i j:Nat):(⟨b,i,none⟩:Addr).add j=⟨b,i+j,none⟩:=by
 unfold Addr.add
 split
 ·simp_all
 ·rfl
/-! ### Slices -/
def Rd (w:World)(v:Value)(size n:Nat)(cs:List Value):Prop:=
 cs.length=n*size/\((∃c:Option Addr×Nat,v= .slice c.1 0 c.2/\n=0)\/∃b off cap,v= .slice (some ⟨b,off,none⟩) n cap/\∀j u,cs[j]? =some u->w.cell? ⟨b,off+j,none⟩=some u)
def Sl (w:World)(v:Value)(e:TypeId)(size n:Nat)(cs:List Value):Prop:=w.ownsRow 0 e size v n cs
section
variable {v:Value}{e size n:Nat}{S:Nat->Prop}
theorem Sl.len (h:Sl w v e size n cs):cs.length=n*size:=h.1
def Sl.lt (h:Sl w v e size n cs){g:Nat}(hg:v.ownBlock=some g):g<w.heap.size:=(y3t h g hg).2
theorem Sl.nil (w:World)(e size:Nat):Sl w (.slice none 0 0) e size 0 []:=y3l w 0 e size
theorem Sl.kp (h:Sl w v e size n cs)(k:Kp S w w')(A:∀g,v.ownBlock=some g->¬S g):Sl w' v e size n cs:=by
 refine⟨h.1,?_⟩
 rcases h.2 with B|⟨g,cap,q,rfl,hb,hg,r⟩
 ·exact .inl B
 ·exact .inr ⟨g,cap,q,O,hb,k.heap hg (A g O),r⟩
theorem Sl.ext (h:Sl w v e size n cs)(k:Ext w w'):Sl w' v e size n cs:=h.kp k λ_ _=>id
theorem Sl.rd (h:Sl w v e size n cs):Rd w v size n cs:=by
 refine⟨h.1,?_⟩
 rcases h.2 with⟨E,r⟩|⟨g,cap,B,A,hb,hg,r,F,G,ht⟩
 ·exact .inl ⟨(none,0),E,r⟩
 ·refine .inr ⟨g,0,cap,A,λj u C=>?_⟩;have q:=y2l h (g:=g) (by rw[A];rfl) j u C;rw[RU] at q;exact q
def Sl.shape (h:Sl w v e size n cs):(v= .slice none 0 0/\n=0)\/∃g cap,v= .slice (some ⟨g,0,none⟩) n cap/\n<=cap:=by
 rcases h.2 with C|⟨g,cap,q,B,hb,hg,A,r⟩
 ·exact .inl C
 ·exact .inr ⟨g,cap,B,A⟩
theorem Rd.kp (h:Rd w v size n cs)(k:Kp S w w')(B:∀g,v.ownBlock=some g->¬S g):Rd w' v size n cs:=by
 refine⟨h.1,?_⟩
 rcases h.2 with E|⟨b,off,cap,rfl,A⟩
 ·exact .inl E
 ·refine .inr ⟨b,off,cap,O,λj u C=>?_⟩;have r:=A j u C;have q:b<w.heap.size:=World.block_lt_of_cell? w _ r;rw[World.cell?_of_block (w:=w) (a:=⟨b,off+j,none⟩) (k.block b q (B b O))];exact r
theorem Rd.ext (h:Rd w v size n cs)(k:Ext w w'):Rd w' v size n cs:=h.kp k λ_ _=>id
theorem Rd.shape (h:Rd w v size n cs):∃a cap,v= .slice a n cap/\(a=none->n=0):=by
 rcases h.2 with⟨c,q,r⟩|⟨b,off,cap,q,-⟩
 ·subst r;exact⟨c.1,c.2,q,λ_=>rfl⟩
 ·exact⟨_,cap,q,λh=>by cases h⟩
end
def Kp.Vj {row:Option Nat}(h:w.grownBy w' row):Kp (λk=>row=some k) w w':=
 ⟨h.os,h.tape,h.output,h.size,λk r A=>h.block k r λq=>A q.symm⟩
theorem ze1 (w:World)(t ty e:TypeId)(i:TypeInfo)(z:Value)(size bytes:Nat)(ht:P.underlying t=some (.slice e))(hi:P.info? e=some i)(hz:i.zero=some z)
  (N:i.size=size) (s:i.bytes=bytes) (Z:z.cells.size=size) (a0:0<size)
  (v:Value) (n:Nat) (xs:List Value) (h:Sl w v e size n xs) (x:Value) (m:Nat) (news:List Value) (A:Rd w x size m news) (h1:∀u∈news,u.oneCell'=true)
  (q:(n+m)*bytes<=140737488355328) (H:n+m<=maxLen):
  ∃ V w', (Builtin.append_ #[t, t] ty #[v, x]).run P w = .ok V w' /\ Sl w' V e size (n + m) (xs ++ news) /\ Kp (λk => v.ownBlock = some k) w w' /\
    (∀g,V.ownBlock=some g->v.ownBlock=some g\/w.heap.size<=g)/\(V= .slice none 0 0↔v= .slice none 0 0/\m=0):=by
 subst N
 subst s
 have f:n+m<=9223372036854775807:=by simp only[maxLen] at H;omega
 rcases A.2 with⟨⟨ca,c⟩,rfl,rfl⟩|⟨b,off,cap,rfl,F⟩
 ·have Y:news=[]:=y0t (by simpa using A.1);subst Y
  have a:(Builtin.append_ #[t,t] ty #[v,.slice ca 0 c]).run P w= .ok v w:=by
   cases ca<;>
   rcases h.2 with⟨rfl,rfl⟩|⟨g,cap,o,rfl,p,hg,I,y,K,U⟩
   ·simp[Builtin.append_,run_underlying ht,sizeOf,typeInfo,hi,Builtin.lenOf,Builtin.firstCells]
   ·simp[Builtin.append_,run_underlying ht,sizeOf,typeInfo,hi,Builtin.lenOf,Builtin.firstCells,I,storeCells]
   ·simp[Builtin.append_,run_underlying ht,sizeOf,typeInfo,hi,Builtin.lenOf,Builtin.firstCells,loadCells,loadCellsFrom]
   ·simp[Builtin.append_,run_underlying ht,sizeOf,typeInfo,hi,Builtin.lenOf,Builtin.firstCells,I,storeCells,loadCells,loadCellsFrom]
  exact⟨v,w,a,by simpa using h,Kp.refl _ _,λg hg=> .inl hg,ξ⟩
 ·have r:∀j u,news[j]? =some u->w.cell? ((⟨b,off,none⟩:Addr).add j)=some u:=λj u hu=>by rw[RU];exact F j u hu
  rcases h.2 with⟨rfl,rfl⟩|⟨g,B,o,rfl,p,hg,I,y,K,U⟩
  ·have hx:xs=[]:=y0t (by simpa using h.1);subst hx;by_cases hm:m=0
   ·subst hm;have hn:news=[]:=y0t (by simpa using A.1);subst hn;refine⟨.slice none 0 0,w,?_,Sl.nil w e i.size,Kp.refl _ _,by simp[Value.ownBlock],ξ⟩;simp[Builtin.append_,run_underlying ht,sizeOf,typeInfo,hi,Builtin.lenOf,Builtin.firstCells,loadCells,loadCellsFrom]
   ·have a:=run_append_nil (P:=P) w t ty e i z ht hi hz ⟨b,off,none⟩ m cap news A.1 r ω ω (by have hb:=q;simp only[y09] at hb;omega);obtain⟨V,w',L,E,C,J⟩:=run_append_own (P:=P) w w.heap.size t ty e i z i.size i.bytes ht hi hz O O Z a0 (.slice none 0 0) 0 [] (y3l w w.heap.size e i.size) ⟨b,off,none⟩ m cap news A.1 r h1 H q (y02 _);refine⟨V,w',L,⟨E.1,?_⟩,Kp.Vj C,λg hg=> .inr (y3t E g hg).1,J⟩;rcases E.2 with a2|⟨g,W,X,a1,a3,T⟩
    ·exact .inl a2
    ·exact .inr ⟨g,W,X,a1,y00 _,T⟩
  ·by_cases M:n+m<=B
   ·obtain⟨w',L,E,C⟩:=run_append_fits (P:=P) w 0 t ty e i i.size ht hi O g n B xs h ⟨b,off,none⟩ m cap news A.1 r h1 M;exact⟨_,w',L,E,Kp.Vj C,λg' C=> .inl (by simpa[Value.ownBlock] using C),ξ⟩
   ·have holds:∀j u,xs[j]? =some u->w.cell? ((⟨g,0,none⟩:Addr).add j)=some u:=y2l h (g:=g) O;have a:=run_append_grow (P:=P) w t ty e i z ht hi hz ⟨g,0,none⟩ n B xs h.1 holds ⟨b,off,none⟩ m cap news A.1 r ω ω (growslice_fits ω q);have Q:=grownCap_ge w (n+m) B e;have G:(xs++news).length=(n+m)*i.size:=by rw[Pe,h.1,A.1,y0G]
    refine⟨_,_,a,⟨G,.inr ⟨w.heap.size,_,_,O,y00 _,heap_alloc_new w.drew _,Q,grownCap_le_maxLen w (n+m) B e H,?_,?_⟩⟩,?_,λg' C=> .inr (by simp[Value.ownBlock] at C;omega),ξ⟩
    ·simp only[Array.size_append,List.size_toArray,size_zeroCells,Z,h.1,A.1,<-y0G]
     congr 1
     omega
    ·simp only[Array.toList_append,y05];rw[<-y05,<-G];exact y3n
    ·exact⟨O,O,O,ξ,λk hk _=>Below.heap_alloc w.drew _ k hk⟩
section
variable {e:Env}{d:Option Nat}{pos:String}{x:Operand}{k:IntKind}{n:Nat}{u v:Value}{l:List UInt8}{size off:Nat}{td:TypeDesc}{agg:Bool}
/-! ### Loads and stores -/
theorem Pl (q:P.underlying t=some td)(ha:aggOf td=false)(r:look e x=some (ptr b i))(hB:Pm w b cs T)(hi:cs[i]? =some v):Y P e ⟨d,.load t x,ty,pos,aft,g⟩ v w w:=fun ρ A=>by
 have h:w.cell? ⟨b,i,none⟩=some v:=by rw[hB.cell];exact hi
 simp only[execOp,A _ _ r,Instr.loadAt,Instr.sureAddr,loadVar,pure_bind,y06,Tw q,ha,y0D,y2o,if_false,run_load,h,y04]
theorem PG (q:P.underlying t=some td)(ha:aggOf td=false){a:Addr}(r:look e x=some (.pointer (some a)))(h:w.cell? a=some v):Y P e ⟨d,.load t x,ty,pos,aft,g⟩ v w w:=fun ρ A=>by
 simp only[execOp,A _ _ r,Instr.loadAt,Instr.sureAddr,loadVar,pure_bind,y06,Tw q,ha,y0D,y2o,if_false,run_load,h,y04]
theorem PO (C:P.underlying t=some td)(ha:aggOf td=true)(B:TI P t z n bytes)(E:look e x=some (ptr b i))(q:∀j u,news[j]? =some u->w.cell? ⟨b,i+j,none⟩=some u)(A:news.length=n):
  Y P e ⟨d,.load t x,ty,pos,aft,g⟩ (.agg news.toArray) w w:=fun ρ F=>by
 have h:=run_loadCells_list (P:=P) w ⟨b,i,none⟩ news (λj v r=>by rw[RU];exact q j v r)
 rw[A] at h
 simp only[execOp,F _ _ E,Instr.loadAt,Instr.sureAddr,loadVar,pure_bind,y06,Tw C,ha,y0D,if_true,B.size,h,y04]
theorem Pm.cells (hB:Pm w b cs T)(q:(cs.drop i).take n=news):∀j u,news[j]? =some u->w.cell? ⟨b,i+j,none⟩=some u:=λj u h=>by
 subst q
 rw[hB.cell]
 rw[y1I] at h
 split at h
 ·simpa using h
 ·cases h
def oneV:Value->Bool
 | .agg _| .tuple _=>false
 |_=>true
theorem Wr (h:oneV v=true):v.cells=#[v]:=by cases v<;>simp_all [oneV,Value.cells]
theorem Zf (h:oneV v=true):v.oneCell'=true:=by cases v<;>simp_all [oneV,Value.oneCell']
theorem QZ (C:TI P t z 1 bytes)(E:look e x=some (ptr b i))(F:look e y=some v)(h:oneV v=true)(hB:Pm w b cs T)(hi:i<cs.length):
  Zp P e ⟨d,.store t x y,ty,pos,aft,g⟩ w λw'=>Pm w' b (cs.set i v) T/\Kp (λk=>k=b) w w':=by
 refine⟨w.setCell ⟨b,i,none⟩ v,fun ρ q=>?_,Xi hB i v,U8 w b i v⟩
 have A:w.cell? ⟨b,i,none⟩=some cs[i]:=by rw[hB.cell];simp[hi]
 have B:=hB.free hi
 have r:(⟨b,i,none⟩:Addr).add 0=⟨b,i,none⟩:=by rw[RU];simp
 simp only[execOp,q _ _ E,q _ _ F,Instr.storeAt,Instr.sureAddr,storeVar,pure_bind,y06,C.size,y0D,Wr h]
 simp[storeCells,r,run_store P w _ v _ (Zf h),A,B]
theorem zkP (C:TI P t z 1 bytes){a:Addr}(E:look e x=some (.pointer (some a)))(F:look e y=some v)(h:oneV v=true)(A:w.cell? a=some u)(B:w.frozen? a=false):
  Z P e ⟨d,.store t x y,ty,pos,aft,g⟩ w (w.setCell a v):=fun ρ q=>by
 have r:a.add 0=a:=by simp[Addr.add]
 simp only[execOp,q _ _ E,q _ _ F,Instr.storeAt,Instr.sureAddr,storeVar,pure_bind,y06,C.size,y0D,Wr h]
 simp[storeCells,r,run_store P w _ v _ (Zf h),A,B]
def Rg (cs:List Value)(i:Nat)(vs:List Value):List Value:=cs.take i++vs++cs.drop (i+vs.length)
theorem Tr {P:Program}{b:Nat}{T:TypeId}(o:Nat):∀(vs:List Value)(i:Nat) (cs:List Value) (w:World),Pm w b cs T->o+i+vs.length<=cs.length->(∀v∈vs,v.oneCell'=true)->
  ∃w',(storeCells ⟨b,o,none⟩ vs i).run P w= .ok () w'/\Pm w' b (Rg cs (o+i) vs) T/\Kp (λk=>k=b) w w'
 |[],i,cs,w,hB,_,_=>⟨w,rfl,by simpa[Rg] using hB,Kp.refl _ _⟩
 | v :: r, i, cs, w, hB, hl, h1 => by
   simp only[y01] at hl;have h:o+i<cs.length:=ω
   have C:w.cell? ⟨b,o+i,none⟩=some cs[o+i]:=by rw[hB.cell];simp[h]
   have F:=hB.free h;obtain⟨w',H,q,G⟩:=Tr (P:=P) o r (i+1) (cs.set (o+i) v) _ (Xi hB (o+i) v) (by simp;omega) (λu I=>h1 u (y0s _ I));refine⟨w',?_,?_,(U8 w b (o+i) v).trans G⟩
   ·simp only[storeCells,y06,RU,run_store P w _ v _ (h1 v (y0p ..)),C,F]
    simpa using H
   ·have E:Rg (cs.set (o+i) v) (o+(i+1)) r=Rg cs (o+i) (v::r):=by
     simp only[Rg,y01]
     have A:(cs.set (o+i) v).take (o+(i+1))=cs.take (o+i)++[v]:=by
      rw[show o+(i+1)=(o+i)+1 from by omega,y3D (by simpa using h)];simp only[List.take_set,List.getElem_set_self];rw[y3K (by simp;omega)]
     have B:(cs.set (o+i) v).drop (o+(i+1)+r.length)=cs.drop (o+i+(r.length+1)):=by
      rw[List.drop_set_of_lt ω]
      congr 1
      omega
     rw[A,B];simp
    rw[<-E];exact q
theorem Qh (C:TI P t z n bytes)(G:look e x=some (ptr b i))(H:look e y=some (.agg news.toArray))(F:news.all oneV=true)(A:news.length=n)(hB:Pm w b cs T)(hi:i+n<=cs.length):
  Zp P e ⟨d,.store t x y,ty,pos,aft,g⟩ w λw'=>Pm w' b (Rg cs i news) T/\Kp (λk=>k=b) w w':=by
 obtain⟨w',B,h,r⟩:=Tr (P:=P) i news 0 cs w hB ω (λu E=>Zf (by have:=y1H.1 F u E;exact this))
 refine⟨w',fun ρ q=>?_,by simpa using h,r⟩
 simp only[execOp,q _ _ G,q _ _ H,Instr.storeAt,Instr.sureAddr,storeVar,pure_bind,y06,C.size,y0D,Value.cells]
 simp[A,B]
/-! ### New variables -/
def z0Q (w:World)(b:Nat)(cs:List Value)(T:TypeId)(w':World):Prop:=b=w.heap.size/\Ext w w'/\Pm w' b cs T
def z0Q.mk' (w:World)(cs:List Value)(T:TypeId):z0Q w w.heap.size cs T (w.alloc (.cells cs.toArray T)):=⟨rfl,UO w _,zep w cs T⟩
theorem RP (q:look e x=some v)(h:v.cells=cs.toArray):Yp P e ⟨d,.box t x,ty,pos,aft,g⟩ w λA w'=>∃b,A=ptr b 0/\z0Q w b cs t w':=by
 refine⟨_,_,fun ρ r=>?_,w.heap.size,rfl,z0Q.mk' w cs t⟩
 simp[execOp,r _ _ q,Instr.box,newVar,newRow,newObj,Sem.run,h]
theorem S5 (h:TI P t z n bytes)(q:z.cells=cs.toArray):Yp P e ⟨d,.alloc t,ty,pos,aft,g⟩ w λr w'=>∃b,r=ptr b 0/\z0Q w b cs t w':=by
 refine⟨_,_,fun ρ A=>?_,w.heap.size,rfl,z0Q.mk' w cs t⟩
 simp[execOp,Instr.alloc,h.zero,newVar,newRow,newObj,Sem.run,q]
theorem pmm:Yp P e ⟨d,.makeMap t none,ty,pos,aft,g⟩ w λh w'=>∃b,h= .map (some b)/\b=w.heap.size/\Ext w w'/\w'.heap[b]? =some (.map #[] 0):=by
 refine⟨_,_,fun ρ q=>?_,w.heap.size,rfl,rfl,UO w _,X7 w _⟩
 simp[execOp,Instr.makeMap,newObj,Sem.run]
def bl (h:Nat->Option (Nat×Nat)):List Value->List (Nat×Value)->Option (List Value)
 |cs,[]=>some cs
 | cs, (i, v) :: r => match h i with
   |none=>none
   | some (off, size) => match Nat.beq v.cells.toList.length size && Nat.ble (off + size) cs.length with
     |true=>bl h (Rg cs off v.cells.toList) r
     |false=>none
theorem z3f (off:Nat):∀(vs:List Value)(j:Nat) (cs:List Value),off+j+vs.length<=cs.length->
  ((vs.zipIdx j).foldl (λ(cs:Array Value) (p:Value×Nat)=>cs.setIfInBounds (off+p.2) p.1) cs.toArray)=(Rg cs (off+j) vs).toArray
 |[],j,cs,_=>by simp[Rg]
 | v :: r, j, cs, h => by
   simp only[y01] at h;simp only[List.zipIdx_cons,y23,List.setIfInBounds_toArray];rw[z3f off r (j+1) (cs.set (off+j) v) (by simp;omega)]
   congr 1
   have q:off+j<cs.length:=ω
   simp only[Rg,y01]
   have A:(cs.set (off+j) v).take (off+(j+1))=cs.take (off+j)++[v]:=by
    rw[show off+(j+1)=(off+j)+1 from by omega,y3D (by simpa using q)];simp only[List.take_set,List.getElem_set_self];rw[y3K (by simp;omega)]
   have B:(cs.set (off+j) v).drop (off+(j+1)+r.length)=cs.drop (off+j+(r.length+1)):=by
    rw[List.drop_set_of_lt ω]
    congr 1
    omega
   rw[A,B];simp
theorem z1g {E:Nat->Option (Nat×Nat)}:∀(vs:List (Nat×Value)) (cs q:List Value),bl E cs vs=some q->Instr.fill E cs.toArray vs=some q.toArray
 |[],cs,q,h=>by simp[bl] at h;simp[Instr.fill,h]
 | (i, v) :: r, cs, q, h => by
   simp only[bl] at h;simp only[Instr.fill];split at h
   ·cases h
   ·rename_i off size A
    split at h
    ·rename_i hb
     simp only[y0w] at hb;have B:v.cells.toList.length=size:=y2K hb.1;have F:off+size<=cs.length:=Nat.le_of_ble_eq_true hb.2;simp only[A];have I:v.cells.size=size:=by simpa using B
     have G:(decide (v.cells.size≠size) ||decide (off+v.cells.size>cs.toArray.size))=false:=by simp;omega
     rw[if_neg (by rw[G];simp)];have C:=z3f off v.cells.toList 0 cs (by simp only[y1e];rw[B];exact F);simp only[y1e] at C
     have H:(v.cells.zipIdx.foldl (λ(cs:Array Value) (p:Value×Nat)=>cs.setIfInBounds (off+p.2) p.1) cs.toArray)=(Rg cs off v.cells.toList).toArray:=by
      rw[<-Array.foldl_toList,Array.toList_zipIdx];exact C
     have:=z1g r _ q h;rw[<-H] at this;exact this
    ·cases h
def lookp (e:Env):List (Nat×Operand)->Option (List (Nat×Value))
 |[]=>some []
 | (i, x) :: r => match look e x, lookp e r with
   |some v,some vs=>some ((i,v)::vs)
   |_,_=>none
theorem z2U {e:Env}{ρ:Operand->Value}(B:∀x v,look e x=some v->ρ x=v):∀(l:List (Nat×Operand)) (q:List (Nat×Value)),lookp e l=some q->l.map (λp=>(p.1,ρ p.2))=q
 |[],q,h=>by simp[lookp] at h;simp[h]
 | (i, x) :: r, q, h => by
   simp only[lookp] at h;split at h
   ·rename_i v vs C A
    simp at h;subst h;simp[B _ _ C,z2U B r vs A]
   ·cases h
theorem ZZ {e:Env}(r:∀x v,look e x=some v->ρ x=v){l:List (Nat×Operand)}{q:List (Nat×Value)}(h:lookp e l=some q):
  (l.toArray.map λx=>match x with|(i,x)=>(i,ρ x))=q.toArray:=by
 apply y2D.1
 simp only[Array.toList_map]
 exact z2U r l q h
def SP (P:Program)(t:TypeId)(q:List (Nat×Nat)):Prop:=∃h:Array Field,P.underlying t=some (.struct h)/\∀w,(h.mapM λf=>do pure (f.offset,<-sizeOf f.type):Sem (Array (Nat×Nat))).run P w= .ok q.toArray w
theorem T3 {vs:List (Nat×Value)}{A:List (Nat×Nat)}(G:TI P t z n bytes)(H:z.cells=zs.toArray)(r:SP P t A)(F:lookp e parts=some vs)(h:bl (A[·]?) zs vs=some cs):
  Y P e ⟨d,.build t parts.toArray,ty,pos,aft,g⟩ (.agg cs.toArray) w w:=fun ρ I=>by
 obtain⟨J,B,C⟩:=r
 have E:=z1g vs zs cs h
 have q:Instr.fill (A.toArray[·]?) z.cells vs=some cs.toArray:=by rw[H];simpa using E
 simp only[execOp,ZZ I F,Instr.build,y06,G.zero,y0D,run_underlying B,C,q,y04]
theorem zhr {vs:List (Nat×Value)}{len:Nat}(B:TI P t z n bytes)(C:z.cells=zs.toArray)(ht:P.underlying t=some (.array len el))(r:TI P el ze size be)(A:lookp e parts=some vs)(h:bl (λi=>some (i*size,size)) zs vs=some cs):
  Y P e ⟨d,.build t parts.toArray,ty,pos,aft,g⟩ (.agg cs.toArray) w w:=fun ρ E=>by
 have q:=z1g vs zs cs h
 rw[<-C] at q
 simp only[execOp,ZZ E A,Instr.build,y06,B.zero,y0D,run_underlying ht,r.size,q,y04]
theorem YD {vs:List (Nat×Value)}{len:Nat}(ht:P.underlying t=some (.slice el))(F:TI P el ze size be)(C:Nat.ble (len*size) 16777216=true)
  (E:(Array.range (len*size)).map ((if len*size=0 then #[] else ze.cells)[·%(if len*size=0 then #[] else ze.cells).size]!)=zs.toArray) (I:lookp e parts=some vs) (h:bl (λi=>some (i*size,size)) zs vs=some cs) (B:cs.length=len*size) (H:len<=maxLen):
  Yp P e ⟨d,.buildSlice t len parts.toArray,ty,pos,aft,g⟩ w λG w'=>∃b,G= .slice (some ⟨b,0,none⟩) len len/\z0Q w b cs el w'/\Sl w' G el size len cs:=by
 refine⟨_,_,fun ρ J=>?_,w.heap.size,rfl,z0Q.mk' w cs el,⟨B,.inr ⟨w.heap.size,len,cs.toArray,rfl,y00 _,X7 w _,y02 _,H,by simpa using B,by simp[<-B]⟩⟩⟩
 have q:=z1g vs zs cs h
 rw[<-E] at q
 have A:¬len*size>2^24:=by have:=Nat.le_of_ble_eq_true C;omega
 simp only[execOp,ZZ J I,Instr.buildSlice,y06,run_underlying ht,y0D,F.size,Sem.run_ite,if_neg A,y04]
 by_cases r:len*size=0
 ·simp only[r,if_true] at q;simp[Array.range_zero'] at q;simp[r,newRow,newObj,Sem.run,Array.range_zero',q]
 ·simp only[r,if_false] at q;simp[r,newRow,newObj,Sem.run,q,F.zero]
theorem z2A (z:Value)(n:Nat)(h:oneV z=true):(madeCells z.cells n).toList=List.replicate n z:=by
 rw[Wr h]
 apply y1D
 ·simp[madeCells]
 ·intro j q r;simp[madeCells,y2S]
theorem pmk {c:Nat}[hza:TG za n][hb':TG zb c](ht:P.underlying t=some (.slice el))(I:TI P el z 1 bytes)(M:oneV z=true)(J:look e x=some (.int k za))(L:look e y=some (.int k' zb))(r:n<=c)(hb:bytes*c<=281474976710656)(F:c<=maxLen):
  Yp P e ⟨d,.makeSlice t x y,ty,pos,aft,g⟩ w λH w'=>∃b,H= .slice (some ⟨b,0,none⟩) n c/\z0Q w b (List.replicate c z) el w'/\Sl w' H el 1 n (List.replicate n z):=by
 obtain⟨rfl⟩:=hza
 obtain⟨rfl⟩:=hb'
 obtain⟨i,hi,C,B,A⟩:=I
 have E:=run_make (P:=P) w t el i z ht hi C k k' n c ω ω (by rw[A,<-y2x];exact Int.ofNat_le.2 hb) (by simp only[maxLen] at F;omega)
 have q:=z2A z c M
 have h:madeCells z.cells c=(List.replicate c z).toArray:=by rw[<-q]
 rw[B] at E
 simp only[y2s,y0c,h] at E
 refine⟨_,_,fun ρ G=>?_,w.heap.size,rfl,z0Q.mk' w (List.replicate c z) el,⟨ξ,.inr ⟨w.heap.size,c,_,rfl,y00 _,X7 w _,r,F,ξ,?_⟩⟩⟩
 ·simp only[execOp,G _ _ J,G _ _ L,y06,E,y0D,y04]
 ·simp[y2O,y0B r]
/-! ### Addresses, fields, parts -/
theorem PU (B:QT P t i off (n+1) agg)(E:look e x=some (ptr b m)):Y P e ⟨d,.fieldAddr t x i,ty,pos,aft,g⟩ (ptr b (m+off)) w w:=fun ρ F=>by
 obtain⟨H,f,z,bytes,G,h,q,r,A,I,J⟩:=B
 have C:=A.size (w:=w)
 simp[execOp,F _ _ E,Instr.fieldAt,run_underlying h,q,Instr.sureAddr,fieldPlace,C,RU,r]
theorem yfd {vs:Array Value}(C:QT P t i off n false)(F:look e x=some (.agg vs))(E:vs[off]? =some v):Y P e ⟨d,.field t x i,ty,pos,aft,g⟩ v w w:=fun ρ G=>by
 obtain⟨I,f,z,bytes,H,h,q,r,J,A,B⟩:=C
 simp[execOp,G _ _ F,Instr.field,run_underlying h,q,part,Tw A,B,asAgg,r,E]
theorem yia [hza:TG za n]{len:Nat}(ht:P.underlying t=some (.array len el))(h:TI P el z size bytes)(A:look e x=some (ptr b m))(B:look e y=some (.int k za))(r:n<len):
  Y P e ⟨d,.indexAddr t x y,ty,pos,aft,g⟩ (ptr b (m+n*size)) w w:=fun ρ q=>by
 obtain⟨rfl⟩:=hza
 have C:(0:Int)<=(n:Int)/\(n:Int)<(len:Int):=ω
 have h:=h.size (w:=w)
 simp[execOp,q _ _ A,q _ _ B,Instr.indexAt,asIntOf,run_underlying ht,Instr.sureAddr,r,h,RU]
theorem Qc [hza:TG za n]{len:Nat}(ht:P.underlying t=some (.slice el))(h:TI P el z size bytes)(A:look e x=some (.slice (some ⟨b,m,none⟩) len cap))(B:look e y=some (.int k za))(r:n<len):
  Y P e ⟨d,.indexAddr t x y,ty,pos,aft,g⟩ (ptr b (m+n*size)) w w:=fun ρ q=>by
 obtain⟨rfl⟩:=hza
 have C:(0:Int)<=(n:Int)/\(n:Int)<(len:Int):=ω
 have h:=h.size (w:=w)
 simp[execOp,q _ _ A,q _ _ B,Instr.indexAt,asIntOf,run_underlying ht,r,h,RU]
theorem yxa [hza:TG za n]{len:Nat}{vs:Array Value}(ht:P.underlying t=some (.array len el))(h:TI P el z 1 bytes)(A:P.underlying el=some td)(ha:aggOf td=false)(C:look e x=some (.agg vs))(E:look e y=some (.int k za))(r:n<len)(B:vs[n]? =some v):
  Y P e ⟨d,.index t x y,ty,pos,aft,g⟩ v w w:=fun ρ q=>by
 obtain⟨rfl⟩:=hza
 have h:=h.size (w:=w)
 simp[execOp,q _ _ C,q _ _ E,Instr.index,asIntOf,run_underlying ht,r,h,part,Tw A,ha,B]
theorem S9 {vs:Array Value}(q:look e x=some (.tuple vs))(h:vs[i]? =some v):Y P e ⟨d,.extract x i,ty,pos,aft,g⟩ v w w:=fun ρ r=>by
 simp[execOp,r _ _ q,Instr.extract,h]
theorem ync {a:Addr}(h:look e x=some (.pointer (some a))):Y P e ⟨d,.nilCheck x,ty,pos,aft,g⟩ (.pointer (some a)) w w:=fun ρ q=>by simp[execOp,q _ _ h]
theorem zlw {p q:Array Value}(h:look e x=some (.func (.func f) p q)):Y P e ⟨d,.nilCheck x,ty,pos,aft,g⟩ (.func (.func f) p q) w w:=fun ρ r=>by simp[execOp,r _ _ h]
theorem T7 (ht:P.underlying t=some (.slice el)){a:Option Addr}{len:Nat}(h:look e x=some (.slice a len cap)):Y P e ⟨d,.call ⟨.builtin .len,#[x],#[t]⟩,ty,pos,aft,g⟩ (I (len:Int)) w w:=fun ρ q=>by
 simp[execOp,resolve,invoke,builtin,q _ _ h,Builtin.len_,run_underlying ht,goInt]
end
/-! ### Calls -/
def CF (P:Program)(f:FuncId):Prop:=∃fn,P.funcs[f]? =some fn/\(fn.name=="runtime.NumGoroutine")=false/\fn.body.isNone=false
section
variable {e:Env}{d:Option Nat}{pos:String}
def looks (e:Env):List Operand->Option (List Value)
 |[]=>some []
 | x :: r => match look e x, looks e r with
   |some v,some vs=>some (v::vs)
   |_,_=>none
theorem Uc {ρ:Operand->Value}(A:∀x v,look e x=some v->ρ x=v):∀(xs:List Operand)(vs:List Value),looks e xs=some vs->xs.map ρ=vs
 |[],vs,h=>by simp[looks] at h;simp[h]
 | x :: r, vs, h => by
   simp only[looks] at h;split at h
   ·rename_i v C B q
    simp at h;subst h;simp[A _ _ B,Uc A r C q]
   ·cases h
theorem TO (h:CF P f)(args:Array Value):(callFunc f args).run P w= .ok (.enter f args) w:=by
 obtain⟨fn,A,B,C⟩:=h
 have q:¬fn.name="runtime.NumGoroutine":=by simpa using B
 have r:¬fn.body=none:=by intro E;simp[E] at C
 simp[callFunc,program,Sem.run,A,q,r]
theorem yc {args:List Operand}(r:CF P f)(ha:looks e args=some vs):Yc P e ⟨d,.call ⟨.value (.func f),args.toArray,ts⟩,ty,pos,aft,g⟩ f vs w:=fun ρ h=>by
 have q:ρ (.func f)= .func (.func f) #[] #[]:=h _ _ O
 have A:=Uc h _ _ ha
 simp[execOp,resolve,q,Deferred.ofValue,invoke,TO r,A]
theorem SE {args:List Operand}{p q:List Value}(A:CF P f)(C:look e fv=some (.func (.func f) p.toArray q.toArray))(ha:looks e args=some vs):
  Yc P e ⟨d,.call ⟨.value fv,args.toArray,ts⟩,ty,pos,aft,g⟩ f (p++vs++q) w:=fun ρ h=>by
 have r:=h _ _ C
 have B:=Uc h _ _ ha
 simp[execOp,resolve,r,Deferred.ofValue,invoke,TO A,B]
theorem ymf {first caps:List Operand}{p q:List Value}(r:looks e first=some p)(A:looks e caps=some q):Y P e ⟨d,.makeFunc (.func f) first.toArray caps.toArray,ty,pos,aft,g⟩ (.func (.func f) p.toArray q.toArray) w w:=fun ρ h=>by
 simp[execOp,Instr.makeFunc,Uc h _ _ r,Uc h _ _ A]
theorem pap {x:Operand}{size n:Nat}{u v:Value}(ht:P.underlying t=some (.slice el))(J:TI P el z size bytes)(E:z.cells.size=size)(C:0<size)
  (N:look e x=some v) (O:look e y=some u) (M:Sl w v el size n cs) (L:Rd w u size m news) (G:∀c∈news,c.oneCell'=true) (hb:(n+m)*bytes<=140737488355328) (H:n+m<=maxLen):
  Yp P e ⟨d,.call ⟨.builtin .append,#[x,y],#[t,t]⟩,ty,pos,aft,g⟩ w λq w'=>Sl w' q el size (n+m) (cs++news)/\Kp (λk=>v.ownBlock=some k) w w'/\
   (∀g,q.ownBlock=some g->v.ownBlock=some g\/w.heap.size<=g)/\(q= .slice none 0 0↔v= .slice none 0 0/\m=0):=by
 obtain⟨i,hi,B,A,r⟩:=J
 obtain⟨q,w',I,h⟩:=ze1 (P:=P) w t ty el i z size bytes ht hi B A r E C v n cs M u m news L G hb H
 refine⟨q,w',fun ρ F=>?_,h⟩
 simp[execOp,resolve,invoke,builtin,F _ _ N,F _ _ O,I]
end
/-! ### Strings and bytes -/
def TX (c:UInt8):Value:= .int .u8 (c.toNat:Int)
section
variable {e:Env}{d:Option Nat}{pos:String}{x:Operand}{l:List UInt8}{n:Nat}
theorem zcS (C:P.underlying t=some .string)(r:P.underlying t'=some (.slice el))(A:P.underlying el=some (.int .u8))(E:look e x=some (S l)):
  Yp P e ⟨d,.convert t t' x,ty,pos,aft,g⟩ w λG w'=>∃b cap rest,G= .slice (some ⟨b,0,none⟩) l.length cap/\z0Q w b (l.map TX++rest) el w'/\l.length+rest.length=cap:=by
 have q:=run_bytes_of_string (P:=P) w t t' el ⟨l.toArray⟩ C r A
 rw[To] at q
 have B:=grownCap_ge w l.length 0 el
 have h:bytesRow ⟨l.toArray⟩ (grownCap w l.length 0 el)=(l.map TX++List.replicate (grownCap w l.length 0 el-l.length) (Value.int .u8 0)).toArray:=by
  simp[bytesRow,To,TX]
 refine⟨_,w.drew.alloc (.cells (bytesRow ⟨l.toArray⟩ (grownCap w l.length 0 el)) el ((bytesRow ⟨l.toArray⟩ (grownCap w l.length 0 el)).size,(bytesRow ⟨l.toArray⟩ (grownCap w l.length 0 el)).size+1)),fun ρ F=>?_,w.heap.size,grownCap w l.length 0 el,List.replicate (grownCap w l.length 0 el-l.length) (Value.int .u8 0),rfl,⟨rfl,?_,?_⟩,by simp;omega⟩
 ·simp only[execOp,F _ _ E,y06,q,y0D,y04]
 ·exact(Ext.Pz w).trans (UO w.drew _)
 ·refine⟨_,by rw[<-h];exact X7 w.drew _,λj H=>?_⟩;rw[h];simp only[List.size_toArray];omega
theorem zb5 (F:P.underlying t=some (.slice el))(A:P.underlying el=some (.int .u8))(r:P.underlying t'=some .string)(G:look e x=some (.slice (some ⟨b,i,none⟩) n cap))(hB:Pm w b cs T)(C:(cs.drop i).take n=l.map TX)(E:l.length=n):
  Y P e ⟨d,.convert t t' x,ty,pos,aft,g⟩ (S l) w w:=fun ρ H=>by
 have q:=hB.cells C
 have h:=run_convert_bytes_back (P:=P) w t t' el ⟨b,i,none⟩ cap l F A r (λj B=>by rw[RU];exact q j _ (by simp[B,TX]))
 rw[E] at h
 simp only[execOp,H _ _ G,y06,h,y0D,y04]
end
/-! ### Results that lie in memory -/
inductive ZB (P:Program) (w:World) (e:Env):List ResultVar->List Value->Prop where
 |nil:ZB P w e [] []
 |tmp {t:Tmp} {v:Value} {rs:List ResultVar} {vs:List Value} (h:fnd e t=some v) (hr:ZB P w e rs vs):ZB P w e (.tmp t::rs) (v::vs)
 | cell {x : Tmp} {t : TypeId} {td : TypeDesc} {z : Value} {n bytes b i : Nat} {news : List Value} {rs : List ResultVar} {vs : List Value} (hu : P.underlying t = some td) (ha : aggOf td = true) (hs : TI P t z n bytes)
   (h:fnd e x=some (ptr b i)) (hc:∀j u,news[j]? =some u->w.cell? ⟨b,i+j,none⟩=some u) (hn:news.length=n) (hr:ZB P w e rs vs):ZB P w e (.cell x t::rs) (.agg news.toArray::vs)
 | cell1 {x : Tmp} {t : TypeId} {td : TypeDesc} {b i : Nat} {v : Value} {rs : List ResultVar} {vs : List Value} (hu : P.underlying t = some td) (ha : aggOf td = false)
   (h:fnd e x=some (ptr b i)) (hc:w.cell? ⟨b,i,none⟩=some v) (hr:ZB P w e rs vs):ZB P w e (.cell x t::rs) (v::vs)
theorem ZB.run {e:Env}{n:Nat}{ms:List Dfr}(ha:XI n ms e a):∀{rs:List ResultVar} {vs:List Value},ZB P w e rs vs->Sem.run P (rs.mapM (resM a)) w= .ok vs w:=by
 intro rs vs h
 induction h with
 |nil=>simp
 | @tmp t v rs vs h hr ih =>
   have hg:resM a (.tmp t)=pure v:=by simp only[resM];rw[ha.get _ _ h]
   rw[y2M,hg]
   simp only[pure_bind,y06,ih,Result.andThen,y04]
 | @cell x t td z n bytes b i news rs vs hu hA hs h hc hn hr ih =>
   have hg:=ha.get _ _ h;have r:=run_loadCells_list (P:=P) w ⟨b,i,none⟩ news (λj v A=>by rw[RU];exact hc j v A);rw[hn] at r
   have q:Sem.run P (resM a (.cell x t)) w= .ok (.agg news.toArray) w:=by
    simp only[resM,hg,asAddr,pure_bind,loadVar,y06,Tw hu,hA,y0D,if_true,hs.size,r,y04]
   rw[y2M]
   simp only[y06,q,ih,Result.andThen,y04]
 | @cell1 x t td b i v rs vs hu hA h hc hr ih =>
   have hg:=ha.get _ _ h
   have q:Sem.run P (resM a (.cell x t)) w= .ok v w:=by
    simp only[resM,hg,asAddr,pure_bind,loadVar,y06,Tw hu,hA,y0D,y2o,if_false,run_load,hc]
   rw[y2M];simp only[y06,q,ih,Result.andThen,y04]
def WA {n:Nat}{ms:List Dfr}{e:Env}(ha:XI n ms e a)(P:Program)(w:World)(fn:Func)(vs:List Value)(h:ZB P w e fn.results.toList vs):
  (results fn a.tmps).run P w= .ok (Qy vs) w:=by
 have A:=ZB.run ha h
 have q:results fn a.tmps=(do
   let us<-fn.results.mapM (resM a)
   pure (if h:us.size=1 then us[0] else .tuple us)):=rfl
 rw[q,<-y3f (xs:=fn.results),List.mapM_toArray]
 simp only[y06,map_eq_pure_bind,A,Result.andThen,y04]
 cases vs with
 |nil=>simp[Qy]
 | cons v r => cases r with
   |nil=>simp[Qy]
   |cons u r=>simp[Qy]
section
variable {R:Value->World->Prop}{n:Nat}{e:Env}
def PK (r:P.funcs[f]? =some fn)(A:ZB P w e fn.results.toList vs)(q:XY R (.returned (Qy vs)) w):PM ⟨P,f,R,n,none,[],false⟩ (.code .ret::k) e w:=
 Zm O r y1J (λ_ h=>by cases h) λa ha=>⟨_,WA ha P w fn vs A,q⟩
def VY {ms:List Dfr}(A:ms.Nodup)(r:Sj ms w)(q:P.funcs[f]? =some fn)(B:ZB P (T4 ms w) e fn.results.toList vs)(h:XY R (.returned (Qy vs)) (T4 ms w)):PM ⟨P,f,R,n,none,ms,false⟩ (.code .ret::k) e w:=
 Zm O q A r λa ha=>⟨_,WA ha P _ fn vs B,h⟩
end
section
variable {e:Env}{d:Option Nat}{pos:String}{x:Operand}{k:IntKind}{n:Nat}[ha:TG za m][hb:TG zb n]
theorem zho (E:look e x=some (.int k za))(F:look e y=some (.int k zb))(C:k.signed=false)(B:m<2^k.bits)(G:0<n):Y P e ⟨d,.binOp .quo t x y t',ty,pos,aft,g⟩ (.int k ((m / n:Nat):Int)) w w:=fun ρ h=>by
 obtain⟨rfl⟩:=ha
 obtain⟨rfl⟩:=hb
 have q:¬((n:Int)=0):=ω
 have r:(m:Int).tdiv (n:Int)=((m / n:Nat):Int):=by rw[y3J ω];simp
 have A:=z1E C (y1X (y0R m n) B)
 simp only[execOp,eqGuard_quo,binOp_quo,Op.intDiv,h _ _ E,h _ _ F,q,if_false,pure_bind,y04,r,A]
end
def XS {D:Nat}(h:w.heap[D]? =some (.deferred (some []))):Sj [.mk D] w:=λd q=>by
 simp at q;subst q;exact⟨D,O,h⟩
def QW (w:World)(l:Nat)(o:Obj):Kp (λk=>k=l) w (w.putObj l o):=
 ⟨rfl,rfl,rfl,ξ,λk _ h=>World.putObj_heap_other h⟩
def YM {l:Nat}{o:Obj}(h:w.heap[l]? =some o):l<w.heap.size:=by
 rcases y0a l w.heap.size with q|q
 ·exact q
 ·rw[y1R q] at h;cases h
def Rec (f n:Nat)(e:Env)(ps:Array Tmp)(assign body:Code)(l:Nat)(st:LoopState)(pend:Option Code)(w:World):Prop:=
 ∃r:Loop,w.heap[l]? =some (.loop r)/\r.state=st/\r.pending=pend/\r.fn=f/\r.params=ps/\r.assign=assign/\r.body=body/\r.tmps.size=n/\∀i v,fnd e i=some v->r.tmps.getD i undef=v
def Rec.lt {f n:Nat}{e:Env}{l:Nat}(h:Rec f n e ps assign body l st pend w):l<w.heap.size:=by
 obtain⟨r,h,-⟩:=h;exact YM h
def Kp.zlc {S:Nat->Prop}{f n:Nat}{e:Env}{l:Nat}(k:Kp S w w')(h:Rec f n e ps assign body l st pend w)(q:¬S l):Rec f n e ps assign body l st pend w':=by
 obtain⟨r,h,u⟩:=h
 exact⟨r,k.heap h q,u⟩
def Kp.rc {S:Nat->Prop}{f n:Nat}{e:Env}{l:Nat}(k:Kp S w w')(q:Rc=Rec f n e ps assign body l)(h:Rc st pend w)(r:¬S l):Rc st pend w':=by
 subst q;exact k.zlc h r
def zcy {f n:Nat}{e:Env}{l:Nat}(q:Rc=Rec f n e ps assign body l)(h:Rc st pend w):l<w.heap.size:=by
 subst q;exact h.lt
def z2a (P:Program)(l:Nat)(args:List Value)(w:World)(S:Value->World->Prop):Prop:=
 ∃ r : Loop, w.heap[l]? = some (.loop r) /\ args.length = r.params.size /\
   RoundIn Fence.wide 0 P l r.fn ((r.params.zip args.toArray).foldl (λtmps (t,a)=>tmps.setIfInBounds t a) r.tmps) r.assign r.body w (XY S)
def z2a.mono {l:Nat}{S S':Value->World->Prop}(h:z2a P l args w S)(B:∀v w',S v w'->S' v w'):z2a P l args w S':=by
 obtain⟨r,q,u,A⟩:=h
 exact⟨r,q,u,A.mono λx w' ⟨v,F,E⟩=>⟨v,F,B _ _ E⟩⟩
def zdc:List Tmp->List Value->Env->Env
 |p::ps,v::vs,e=>zdc ps vs ((p,v)::e)
 |_,_,e=>e
def z8E {n:Nat}:∀(ps:List Tmp)(vs:List Value) (e:Env) (t:Array Value),ps.all (Nat.blt · n)=true->t.size=n->(∀i v,fnd e i=some v->t.getD i undef=v)->
  ((ps.zip vs).foldl (λtmps (t,a)=>tmps.setIfInBounds t a) t).size=n/\∀i v,fnd (zdc ps vs e) i=some v->((ps.zip vs).foldl (λtmps (t,a)=>tmps.setIfInBounds t a) t).getD i undef=v
 |[],_,e,t,_,hs,h=>⟨hs,h⟩
 |_::_,[],e,t,_,hs,h=>⟨hs,h⟩
 | p :: ps, v :: vs, e, t, hp, hs, h => by
   simp only[List.all_cons,y0w] at hp;have q:=(XI.put (n:=n) (ms:=[]) (e:=e) (a:=⟨t,[]⟩) ⟨hs,O,h⟩ hp.1 v);exact z8E ps vs _ _ hp.2 q.size q.get
theorem Uo {f n l:Nat}{S:Value->World->Prop}{e:Env}{ps:List Tmp}
  {Rc:LoopState->Option Code->World->Prop} (v:Rc=Rec f n e ps.toArray assign body l) (u:Rc st pend w) (J:args.length=ps.length) (B:ps.all (Nat.blt · n)=true)
  (h:PM ⟨P,f,S,n,some l,[],false⟩ [.code assign,.beginRound,.code body] (zdc ps args e) w):z2a P l args w S:=by
 subst v
 obtain⟨r,L,-,-,rfl,G,rfl,rfl,E,q⟩:=u
 refine⟨r,L,by rw[G,J];simp,trivial,λc cs _=>?_⟩
 let b:Frame:={(default:Frame) with fn:=r.fn,kind:= .normal,roundOf:=some l}
 have M:(r.params.zip args.toArray).foldl (λtmps (t,a)=>tmps.setIfInBounds t a) r.tmps=(ps.zip args).foldl (λtmps (t,a)=>tmps.setIfInBounds t a) r.tmps:=by
  rw[G,List.zip_toArray,List.foldl_toArray]
 have A:∀tmps,Frame.round l r.fn tmps r.assign r.body .normal=b.atR {tmps:=tmps,defers:=[]} [.code r.assign,.beginRound,.code r.body]:=λtmps=>by
  simp[Frame.round,Frame.atR,b]
 have F:=z8E ps args e r.tmps B E q
 rw[M,A]
 obtain⟨x,w',H,I⟩:=h ⟨_,[]⟩ ⟨F.1,O,F.2⟩ b O O O (c::cs) c cs O
 exact⟨x,w',H,comesIn_wide.2 I⟩
section
variable {C:Cx}{e:Env}{f n:Nat}{e0:Env}{l:Nat}
def z4j {r:Loop}(h:w.heap[l]? =some (.loop r))(x:r.fn=f)(A:r.params=ps)(B:r.assign=assign)(E:r.body=body)(F:r.tmps.size=n)(G:∀i v,fnd e0 i=some v->r.tmps.getD i undef=v)(u:LoopState)(q:Option Code):
  Rec f n e0 ps assign body l u q (w.putObj l (.loop {r with state:=u,pending:=q})):=
 ⟨_,y1V (YM h),rfl,rfl,x,A,B,E,F,G⟩
theorem run_beginRound (A:C.rd=some l)(v:Rc=Rec f n e0 ps assign body l)(q:Rc .ready pend w)(h:∀w',Rc .busy pend w'->Kp (λk=>k=l) w w'->PM C k e w'):PM C (.beginRound::k) e w:=by
 subst v
 obtain⟨r,E,F,G,H,I,J,L,M,N⟩:=q
 refine λa O b U V u cs=>?_
 have x:=Go.run_beginRound (P:=C.P) E F
 have B:Rec f n e0 ps assign body l .busy pend (w.putObj l (.loop {r with state:= .busy})):=by
  rw[<-G];exact z4j E H I J L M N .busy r.pending
 exact(h _ B (QW w l _) a O b U V u cs).of_steps (.one (stepR_beginRound (u.trans A) x))
end
section
variable {g:Nat}{S:Value->World->Prop}{e:Env}{f n:Nat}{e0:Env}{l:Nat}
theorem T2 (u:Rc=Rec f n e0 ps assign body l)(q:Rc st pend w)(h:∀w',Rc .ready none w'->Kp (λk=>k=l) w w'->S (.bool true) w'):PM ⟨P,g,S,m,some l,[],false⟩ [] e w:=by
 subst u
 obtain⟨r,A,M,N,E,F,G,H,I,J⟩:=q
 intro a U b V L x cs c B v
 subst v
 exact⟨.returned (.bool true),_,⟨_,O,h _ (z4j A E F G H I J .ready none) (QW w l _)⟩,.one (stepR_round_end x L (run_endRound none A))⟩
theorem Wp (u:Rc=Rec f n e0 ps assign body l)(q:Rc st pend w)(h:∀w',Rc .done (some .ret) w'->Kp (λk=>k=l) w w'->S (.bool false) w'):PM ⟨P,g,S,m,some l,[],false⟩ (.code .ret::k) e w:=by
 subst u
 obtain⟨r,A,M,N,E,F,G,H,I,J⟩:=q
 intro a U b V L x cs c B v
 subst v
 exact⟨.returned (.bool false),_,⟨_,O,h _ (z4j A E F G H I J .done (some .ret)) (QW w l _)⟩,.one (stepR_round_ret x L (run_endRound (some .ret) A))⟩
theorem Tb {ps:List Tmp}{ms:List Dfr}{E:FuncId}{p q:List Value}(hg:look e fv=some (.func (.func E) p.toArray q.toArray))(Q:CF P E)
  (F:∀l w1,Ext w w1->l=w.heap.size+1->w1.heap.size=w.heap.size+2->w1.heap[w.heap.size]? =some (.deferred (some []))->∀Rc,Rc=Rec f n e ps.toArray assign body l->Rc .ready none w1->
   PN P E (p++[.func (.yield l) #[] #[]]++q) w1 λv w2=>∃st pend,Rc st pend w2/\st≠ .busy/\
    ∀W,Kp (λk=>k=l) w2 W->PM ⟨P,f,S,n,none,.mk w.heap.size::ms,false⟩ ((pend.map Item.code).toList++k) e W):
  PM ⟨P,f,S,n,none,ms,false⟩ (.code (.rangeFunc fv ps.toArray assign body)::k) e w:=by
 intro a H b s T U cs
 have L:a.eval fv= .func (.func E) p.toArray q.toArray:=H.look hg
 have X:=run_enterLoop_outer (P:=P) (w:=w) b.fn a.tmps ps.toArray assign body
 have V:b.roundOf=none:=U
 rw[<-V] at X
 obtain⟨w1,h⟩:∃w1,(w.alloc (.deferred (some []))).alloc (.loop {state:= .ready,pending:=none,fn:=b.fn,tmps:=a.tmps,params:=ps.toArray,assign,body,defers:=w.heap.size})=w1:=⟨_,O⟩
 have m:Ext w w1:=by rw[<-h];exact(UO w _).trans (UO _ _)
 have i:w1.heap.size=w.heap.size+2:=by rw[<-h];simp
 have z:w1.heap[w.heap.size]? =some (.deferred (some [])):=by
  rw[<-h];refine(UO _ _).block _ ξ id |>.trans ?_;exact World.alloc_heap_new w _
 have Z:Rec f n e ps.toArray assign body (w.heap.size+1) .ready none w1:=by
  refine⟨_,by rw[<-h];have:=World.alloc_heap_new (w.alloc (.deferred (some []))) (.loop {state:= .ready,pending:=none,fn:=b.fn,tmps:=a.tmps,params:=ps.toArray,assign,body,defers:=w.heap.size});simpa using this,rfl,rfl,s,rfl,rfl,rfl,H.size,H.get⟩
 rw[h] at X
 have N:(resolve a.eval (rangeCall fv (w.heap.size+1)) 0).run P w1= .ok {target:= .fn (.func E) q.toArray,args:=p.toArray++#[.func (.yield (w.heap.size+1)) #[] #[]]} w1:=by
  have I:∀v,a.eval (.const v)=v:=λ_=>rfl
  generalize a.eval=ρ at L I⊢
  simp[rangeCall,resolve,L,I,Deferred.ofValue]
 have M:(invoke (.fn (.func E) q.toArray) (p.toArray++#[Value.func (.yield (w.heap.size+1)) #[] #[]])).run P w1= .ok (.enter E (p++[Value.func (.yield (w.heap.size+1)) #[] #[]]++q).toArray) w1:=by
  simp[invoke,TO Q]
 have A:=stepR_rangeFunc (P:=P) (b:=b) (a:=a) (k:=k) (cs:=cs) (w:=w) X N M
 have K:=F (w.heap.size+1) w1 m O i z _ O Z
 obtain⟨x,W,fr,⟨v,o,st,pend,G,j,Y⟩,u,R,B⟩:=K (b.atR {a with defers:=[{target:= .collected w.heap.size,args:=#[]}]++a.defers} (.inRangeFunc (w.heap.size+1)::k)::cs)
 subst o
 obtain⟨r,r1,r2,r3,r4,r5,r6,r7,r8,r9⟩:=G
 have J:=run_endLoop (P:=P) r1 (by rw[r2];exact j)
 have t:=step_leave_returned B (c:=b.atR {a with defers:=[{target:= .collected w.heap.size,args:=#[]}]++a.defers} (.inRangeFunc (w.heap.size+1)::k)) (cs:=cs)
 rw[finish_atR_inRangeFunc] at t
 have y:=stepR_endRangeFunc (P:=P) (b:=b) (a:={a with defers:=[{target:= .collected w.heap.size,args:=#[]}]++a.defers}) (k:=k) (cs:=cs) J
 rw[r3] at y
 refine z0D.of_steps (Steps.trans (.one A) (Steps.trans u (Steps.trans (.one t) (.one y)))) ?_
 exact Y _ (QW W _ _) ⟨a.tmps,[{target:= .collected w.heap.size,args:=#[]}]++a.defers⟩ ⟨H.size,by show [_]++a.defers=_;rw[H.defers];rfl,H.get⟩ b s T U cs
end
/-! ### The call of yield -/
def Yy (P:Program)(e:Env)(o:Oper)(l:Nat)(args:List Value)(w:World):Prop:=
 ∀ρ:Operand->Value,(∀x v,look e x=some v->ρ x=v)->(execOp ρ o).run P w=(Instr.yield l args.toArray).run P w
section
variable {D:RC}{rest:List Oper}{e:Env}{d:Nat}{pos:String}{l:Nat}{S:Value->World->Prop}
theorem yy {d:Option Nat}{args:List Operand}(v:look e fv=some (.func (.yield l) #[] #[]))(r:looks e args=some vs):
  Yy P e ⟨d,.call ⟨.value fv,args.toArray,ts⟩,ty,pos,aft,g⟩ l vs w:=fun ρ h=>by
 have q:=h _ _ v
 have u:=Uc h _ _ r
 simp[execOp,resolve,q,Deferred.ofValue,invoke,u]
def zc1 {rd:Option Nat}{tmps:Array Value}(h:RoundIn Fence.wide 0 P l f tmps assign body w R):RoundIn (WF rd) 0 P l f tmps assign body w R:=h
theorem z7d (H:SF D e g true=true)(F:Nat.blt d D.C.n=true)(L:Yy D.C.P e ⟨some d,op,ty,pos,aft,g⟩ l args w)(E:z2a D.C.P l args w S)
  (h:∀v w',S v w'->RL D rest ((d,v)::e) w'):RL D (⟨some d,op,ty,pos,aft,g⟩::rest) e w:=λa q=>by
 refine wpList_want (Se q H) ⟨λ_ _=>trivial,?_⟩
 have A:=L a.eval (λx v u=>q.look u)
 obtain⟨r,I,G,B⟩:=E
 rw[run_yield I (by simpa using G)] at A
 rw[UM A (λ_ h=>by cases h)]
 exact⟨YW,zc1 (B.mono λx w' ⟨v,u,J⟩=>by subst u;exact h v w' J _ (q.put F v))⟩
end
structure Ky (P:Program)(kt:TypeId){κ:Type}[DecidableEq κ](K:κ->Value):Prop where
 same:∃td,P.underlying kt=some td/\(∀a b,Instr.sameNow td (K a) (K b)=some (decide (a=b)))/\∀w e n a,(Instr.checkKey e (n+1) kt (K a)).run P w= .ok () w
 bits:∀a,Instr.sameBits 10000 (K a) (K a)=true
theorem Sx {k:IntKind}(h:P.underlying kt=some (.int k)):Ky P kt (λz:Int=>Value.int k z):=by
 refine⟨⟨_,h,λa b=>?_,λw e n a=>?_⟩,λa=>?_⟩
 ·have:(a==b)=decide (a=b):=by by_cases l:a=b<;>simp[l]
  simp[Instr.sameNow,this]
 ·simp[Instr.checkKey,run_underlying h]
 ·simp[Instr.sameBits]
section
variable {κ:Type}[DecidableEq κ]
def RJ:List (κ×Value)->κ->Option Value
 |[],_=>none
 |(a,v)::r,k=>if k=a then some v else RJ r k
def putL:List (κ×Value)->κ->Value->List (κ×Value)
 |[],k,v=>[(k,v)]
 |(a,u)::r,k,v=>if k=a then(a,v)::r else(a,u)::putL r k v
theorem zbE (kv:List (κ×Value))(k:κ)(v:Value)(x:κ):RJ (putL kv k v) x=if x=k then some v else RJ kv x:=by
 induction kv with
 |nil=>simp[putL,RJ]
 | cons p r n =>
   obtain⟨a,u⟩:=p;simp only[putL];by_cases h:k=a
   ·subst h;simp only[if_true,RJ];by_cases l:x=k<;>simp[l]
   ·simp only[h,if_false,RJ,n];by_cases l:x=a
    ·subst l;simp[Ne.symm h]
    ·simp[l]
theorem z1N {kv:List (κ×Value)}{k:κ}(h:RJ kv k=none):k∉kv.map (·.1):=by
 induction kv with
 |nil=>simp
 | cons p r n =>
   obtain⟨a,u⟩:=p;simp only[RJ] at h;split at h
   ·cases h
   ·rename_i l
    simp only[y0n,y0l,not_or];exact⟨l,n h⟩
theorem z30 (kv:List (κ×Value))(k:κ)(v:Value):(RJ kv k).isSome=true->(putL kv k v).map (·.1)=kv.map (·.1):=by
 induction kv with
 |nil=>simp[RJ]
 | cons p r n =>
   obtain⟨a,u⟩:=p;simp only[putL,RJ];by_cases h:k=a
   ·simp[h]
   ·simp only[h,if_false];intro l;simp[n l]
theorem Vq (kv:List (κ×Value))(k:κ)(v:Value):RJ kv k=none->putL kv k v=kv++[(k,v)]:=by
 induction kv with
 |nil=>simp[putL]
 | cons p r n =>
   obtain⟨a,u⟩:=p;simp only[putL,RJ];by_cases h:k=a
   ·simp[h]
   ·simp only[h,if_false];intro l;simp[n l]
def UL (K:κ->Value)(es:List MapEntry)(kv:List (κ×Value)):Prop:=es.map (λe=>(e.key,e.val))=kv.map (λp=>(K p.1,p.2))
def X9 (K:κ->Value)(w:World)(m:Nat)(kv:List (κ×Value)):Prop:=(∃es h,w.heap[m]? =some (.map es h)/\UL K es.toList kv)/\(kv.map (·.1)).Nodup
theorem X9.lt {K:κ->Value}{kv:List (κ×Value)}(h:X9 K w m kv):m<w.heap.size:=by
 obtain⟨⟨es,c,h,-⟩,-⟩:=h;exact YM h
theorem Kp.map {K:κ->Value}{S:Nat->Prop}{kv:List (κ×Value)}(k:Kp S w w')(h:X9 K w m kv)(q:¬S m):X9 K w' m kv:=by
 obtain⟨⟨es,c,h,n⟩,l⟩:=h
 exact⟨⟨es,c,k.heap h q,n⟩,l⟩
theorem Ext.map {K:κ->Value}{kv:List (κ×Value)}(k:Ext w w')(h:X9 K w m kv):X9 K w' m kv:=Kp.map k h id
theorem Wn {q:TypeDesc}{K:κ->Value}(n:∀a b,Instr.sameNow q (K a) (K b)=some (decide (a=b))):∀{es:List MapEntry} {kv:List (κ×Value)} (i:Nat) {k:κ},UL K es kv->RJ kv k=none->
  Instr.findNow q (K k) es i=some none
 |[],[],_,_,_,_=>rfl
 | e :: es, (a, v) :: kv, i, k, h, hg => by
   simp only[UL,y0n,y2h,y29] at h;simp only[RJ] at hg;split at hg
   ·cases hg
   ·rename_i l
    simp only[Instr.findNow,h.1.1,n,l,decide_false]
    exact Wn n (i+1) h.2 hg
 |[],_::_,_,_,h,_=>by simp[UL] at h
 |_::_,[],_,_,h,_=>by simp[UL] at h
def Zx {q:TypeDesc}{K:κ->Value}(n:∀a b,Instr.sameNow q (K a) (K b)=some (decide (a=b))):∀{es:List MapEntry} {kv:List (κ×Value)} (i:Nat) {k:κ} {v:Value},UL K es kv->RJ kv k=some v->
  ∃j,Instr.findNow q (K k) es i=some (some (i+j,v))/\(∃e,es[j]? =some e/\e.key=K k)/\∀u,UL K (es.modify j λe=>{e with key:=K k,val:=u}) (putL kv k u)
 | e :: es, (a, v') :: kv, i, k, v, h, hg => by
   simp only[UL,y0n,y2h,y29] at h;simp only[RJ] at hg;split at hg
   ·rename_i E
    subst E;cases hg;refine⟨0,by simp[Instr.findNow,h.1.1,n,h.1.2],⟨e,rfl,h.1.1⟩,λu=>?_⟩;simp only[UL,putL,if_true,List.modify_cons,y0n,List.modify_zero_cons];simp[h.2]
   ·rename_i l
    obtain⟨j,A,⟨r,B,C⟩,D⟩:=Zx n (i+1) h.2 hg;refine⟨j+1,?_,⟨r,by simpa using B,C⟩,λu=>?_⟩
    ·simp only[Instr.findNow,h.1.1,n,l,decide_false,A]
     congr 3;omega
    ·simp only[putL,l,if_false,List.modify_succ_cons,UL,y0n,y2h,y29]
     exact⟨h.1,D u⟩
 |[],[],_,_,_,_,hg=>by simp[RJ] at hg
 |[],_::_,_,_,_,h,_=>by simp[UL] at h
 |_::_,[],_,_,_,h,_=>by simp[UL] at h
variable {e:Env}{d:Option Nat}{pos:String}{x u:Operand}{kv:List (κ×Value)}{K:κ->Value}{size:Nat}{k:κ}{v:Value}
def UK (l:Ky P kt K)(h:UL K es.toList kv)(hg:RJ kv k=none):(Instr.findKey kt (K k) es.toList).run P w= .ok none w:=by
 obtain⟨⟨r,q,n,-⟩,-⟩:=l
 simp[Instr.findKey,run_underlying q,Wn n 0 h hg]
def UG (r:Ky P kt K)(h:UL K es.toList kv)(hg:RJ kv k=some v):
  ∃j,(Instr.findKey kt (K k) es.toList).run P w= .ok (some (j,v)) w/\(∃e,es[j]? =some e/\e.key=K k)/\∀u,UL K (es.modify j λe=>{e with key:=K k,val:=u}).toList (putL kv k u):=by
 obtain⟨⟨C,B,A,-⟩,-⟩:=r
 obtain⟨j,l,n,q⟩:=Zx A 0 h hg
 refine⟨j,?_,by simpa using n,λu=>by simpa using q u⟩
 simp[Instr.findKey,run_underlying B,l]
theorem zlC (ht:P.underlying t=some (.map kt el))(q:Ky P kt K)(G:TI P el z size bytes)(C:look e x=some (.map (some m)))(D:look e y=some (K k))(F:X9 K w m kv):
  Y P e ⟨d,.lookup t x y true,ty,pos,aft,g⟩ (.tuple #[(RJ kv k).getD z,.bool (RJ kv k).isSome]) w w:=fun ρ n=>by
 obtain⟨⟨es,c,E,B⟩,-⟩:=F
 have A:=G.zero (w:=w)
 have h:=λb=>q.same.choose_spec.2.2 w b 9999 k
 have hg:(getObj m).run P w= .ok (.map es c) w:=by simp[getObj,Sem.run,E]
 cases l:RJ kv k with
 | none =>
   have r:=UK (P:=P) (w:=w) q B l
   simp[execOp,n _ _ C,n _ _ D,Instr.lookup,run_underlying ht,hg,h,r,A]
 | some v =>
   obtain⟨j,r,-⟩:=UG (P:=P) (w:=w) q B l;simp[execOp,n _ _ C,n _ _ D,Instr.lookup,run_underlying ht,hg,h,r]
theorem ylk (ht:P.underlying t=some (.map kt el))(q:Ky P kt K)(G:TI P el z size bytes)(C:look e x=some (.map (some m)))(D:look e y=some (K k))(F:X9 K w m kv):
  Y P e ⟨d,.lookup t x y false,ty,pos,aft,g⟩ ((RJ kv k).getD z) w w:=fun ρ n=>by
 obtain⟨⟨es,c,E,B⟩,-⟩:=F
 have A:=G.zero (w:=w)
 have h:=λb=>q.same.choose_spec.2.2 w b 9999 k
 have hg:(getObj m).run P w= .ok (.map es c) w:=by simp[getObj,Sem.run,E]
 cases l:RJ kv k with
 | none =>
   have r:=UK (P:=P) (w:=w) q B l
   simp[execOp,n _ _ C,n _ _ D,Instr.lookup,run_underlying ht,hg,h,r,A]
 | some v =>
   obtain⟨j,r,-⟩:=UG (P:=P) (w:=w) q B l;simp[execOp,n _ _ C,n _ _ D,Instr.lookup,run_underlying ht,hg,h,r]
theorem zmu (ht:P.underlying t=some (.map kt el))(C:Ky P kt K)(N:look e x=some (.map (some m)))(O:look e y=some (K k))(M:look e u=some v)(L:X9 K w m kv):
  Zp P e ⟨d,.mapUpdate t x y u,ty,pos,aft,g⟩ w λw'=>X9 K w' m (putL kv k v)/\Kp (λi=>i=m) w w':=by
 have B:=L.lt
 obtain⟨⟨es,c,J,E⟩,I⟩:=L
 have r:=λb=>C.same.choose_spec.2.2 w b 9999 k
 have hg:(getObj m).run P w= .ok (.map es c) w:=by simp[getObj,Sem.run,J]
 have l:∀o,(setObj m o).run P w= .ok () (w.putObj m o):=λo=>by simp[setObj,Sem.run,J,World.putObj]
 cases h:RJ kv k with
 | none =>
   have G:=UK (P:=P) (w:=w) C E h;refine⟨w.putObj m (.map (es.push {key:=K k,val:=v,born:=c}) (c+1)),fun ρ q=>?_,⟨⟨_,_,y1V B,?_⟩,?_⟩,QW w m _⟩
   ·simp[execOp,q _ _ N,q _ _ O,q _ _ M,Instr.mapUpdate,run_underlying ht,hg,r,G,l]
   ·rw[Vq _ _ _ h]
    simpa[UL] using E
   ·rw[Vq _ _ _ h,y0f,y0L];refine⟨I,ξ,λa S b H D=>?_⟩;simp at H;subst H;subst D
    exact z1N h S
 | some V =>
   obtain⟨j,G,⟨U,F,A⟩,n⟩:=UG (P:=P) (w:=w) C E h;refine⟨w.putObj m (.map (es.modify j λe=>{e with key:=K k,val:=v}) c),fun ρ q=>?_,⟨⟨_,_,y1V B,n v⟩,?_⟩,QW w m _⟩
   ·simp[execOp,q _ _ N,q _ _ O,q _ _ M,Instr.mapUpdate,run_underlying ht,hg,r,G,l,F,A,Instr.keyThatStays,C.bits]
   ·rw[z30 _ _ _ (by rw[h];rfl)];exact I
end
def z4L (l:List UInt8)(rest:List Value)(n:Nat)(h:n=l.length):((l.map TX++rest).drop 0).take n=l.map TX:=by
 subst h;simp
theorem Sl.part {g n e size k:Nat}(h:Sl w (.slice (some ⟨g,0,none⟩) n cap) e size n cs)(r:(cs.drop i).take k=news):∀j u,news[j]? =some u->w.cell? ⟨g,0+i+j,none⟩=some u:=λj u l=>by
 have q:=y2l h (g:=g) O (i+j) u (by
  subst r;rw[y1I] at l;split at l
  ·rwa [y1O] at l
  ·cases l)
 rw[RU] at q
 rw[show 0+i+j=0+(i+j) by omega]
 exact q
section
variable {e:Env}{d:Option Nat}{pos:String}{x u:Operand}
theorem zfN {op:BinOp}{p:Option Addr}{v:Value}:eqGuard op t x y (.pointer p) v=pure ():=by cases op<;>rfl
theorem zhQ {op:BinOp}{p:Option Nat}{v:Value}:eqGuard op t x y (.map p) v=pure ():=by cases op<;>rfl
theorem z6h {p:Option Addr}{v:Value}:binOp .eql t (.pointer p) v=(do pure (.bool (<-Op.equal t (.pointer p) v))):=rfl
theorem z4S {p:Option Addr}{v:Value}:binOp .neq t (.pointer p) v=(do pure (.bool (!(<-Op.equal t (.pointer p) v)))):=rfl
theorem z4E {p:Option Nat}{v:Value}:binOp .eql t (.map p) v=(do pure (.bool (<-Op.equal t (.map p) v))):=rfl
theorem zhT {p:Option Addr}(ht:P.underlying t=some (.pointer el)):(Op.equal t (.pointer p) (.pointer none)).run P w= .ok p.isNone w:=
 run_equalIn_pointer_nil (P:=P) (w:=w) 9999 t p (by simp[Program.pointee,ht])
theorem zkT {p:Option Nat}(ht:P.underlying t=some (.map kt el)):(Op.equal t (.map p) (.map none)).run P w= .ok p.isNone w:=
 run_equalIn_map_nil (P:=P) (w:=w) 9999 t kt el p ht
theorem Qz {p:Option Addr}(ht:P.underlying t=some (.pointer el))(l:look e x=some (.pointer p))(n:look e y=some (.pointer none)):Y P e ⟨d,.binOp .eql t x y t',ty,pos,aft,g⟩ (.bool p.isNone) w w:=fun ρ h=>by
 simp only[execOp,h _ _ l,h _ _ n,zfN,z6h,pure_bind,y06,zhT ht,Result.andThen,y04]
theorem z4x {p:Option Addr}(ht:P.underlying t=some (.pointer el))(l:look e x=some (.pointer p))(n:look e y=some (.pointer none)):Y P e ⟨d,.binOp .neq t x y t',ty,pos,aft,g⟩ (.bool (!p.isNone)) w w:=fun ρ h=>by
 simp only[execOp,h _ _ l,h _ _ n,zfN,z4S,pure_bind,y06,zhT ht,Result.andThen,y04]
theorem zj9 {p:Option Nat}(ht:P.underlying t=some (.map kt el))(l:look e x=some (.map p))(n:look e y=some (.map none)):Y P e ⟨d,.binOp .eql t x y t',ty,pos,aft,g⟩ (.bool p.isNone) w w:=fun ρ h=>by
 simp only[execOp,h _ _ l,h _ _ n,zhQ,z4E,pure_bind,y06,zkT ht,Result.andThen,y04]
theorem zgW {size n:Nat}{k:IntKind}[hza:TG za i][hzb:TG zb j](ht:P.underlying t=some (.slice el))(C:TI P el z size bytes)(E:look e x=some (.slice (some ⟨b,m,none⟩) n cap))
  (F:look e y=some (.int k za)) (D:look e u=some (.int k' zb)) (h:i<=j/\j<=cap) (B:i<cap):
  Y P e ⟨d,.slice t x (some y) (some u) none,ty,pos,aft,g⟩ (.slice (some ⟨b,m+i*size,none⟩) (j-i) (cap-i)) w w:=fun ρ r=>by
 obtain⟨rfl⟩:=hza
 obtain⟨rfl⟩:=hzb
 have q:=C.size (w:=w)
 have v:∀w,(Instr.sliceBound (.int k' (j:Int)) cap .sliceAcap).run P w= .ok j w:=λw=>by rw[run_sliceBound _ _ _ _ _ ω ω];simp
 have A:∀w,(Instr.sliceBound (.int k (i:Int)) j .sliceB).run P w= .ok i w:=λw=>by rw[run_sliceBound _ _ _ _ _ ω ω];simp
 have l:¬cap=i:=ω
 simp[execOp,r _ _ E,r _ _ F,r _ _ D,Instr.sliceAt,run_underlying ht,Instr.slice,Instr.sliceBounds,v,A,q,l,RU]
theorem zcJ {size n:Nat}{k:IntKind}[hzb:TG zb j](ht:P.underlying t=some (.slice el))(v:TI P el z size bytes)(B:look e x=some (.slice (some ⟨b,m,none⟩) n cap))
  (A:look e u=some (.int k zb)) (h:j<=cap):
  Y P e ⟨d,.slice t x none (some u) none,ty,pos,aft,g⟩ (.slice (some ⟨b,m,none⟩) j cap) w w:=fun ρ q=>by
 obtain⟨rfl⟩:=hzb
 have l:=v.size (w:=w)
 have r:∀w,(Instr.sliceBound (.int k (j:Int)) cap .sliceAcap).run P w= .ok j w:=λw=>by rw[run_sliceBound _ _ _ _ _ ω ω];simp
 simp[execOp,q _ _ B,q _ _ A,Instr.sliceAt,run_underlying ht,Instr.slice,Instr.sliceBounds,r,l,RU]
theorem zl0 {n:Nat}{ts:TypeId}{l:List UInt8}(ht:P.underlying t=some (.slice el))(H:TI P el z 1 bytes)(J:look e x=some (.slice (some ⟨b,i,none⟩) n cap))(L:look e y=some (S l))
  (hB:Pm w b cs T) (hi:i+n<=cs.length):
  Yp P e ⟨d,.call ⟨.builtin .copy,#[x,y],#[t,ts]⟩,ty,pos,aft,g⟩ w λv w'=>v=I ((min l.length n:Nat):Int)/\Pm w' b (Rg cs i ((l.take n).map TX)) T/\Kp (λk=>k=b) w w':=by
 obtain⟨w',G,q,F⟩:=Tr (P:=P) i ((l.take n).map TX) 0 cs w hB (by simp;omega) (λu A=>by rw[y0h] at A;obtain⟨_,_,rfl⟩:=A;rfl)
 refine⟨_,w',fun ρ B=>?_,rfl,by simpa using q,F⟩
 have r:=H.size (w:=w)
 have C:((ByteArray.mk l.toArray).extract 0 (Nat.min (ByteArray.mk l.toArray).size n)).data.map (λb:UInt8=>Value.int .u8 (b.toNat:Int))=((l.take n).map TX).toArray:=by
  rw[Xz];simp only[To,y2z,y13]
  have D:l.take (Nat.min l.length n)=l.take n:=by
   rcases Nat.le_total l.length n with h| h
   ·rw[show Nat.min l.length n=l.length from y0B h,y0F,y0N h]
   ·rw[show Nat.min l.length n=n from Nat.min_eq_right h]
  rw[D];simp
  rfl
 have E:(Builtin.copy_ #[t,ts] ty #[.slice (some ⟨b,i,none⟩) n cap,S l]).run P w= .ok (I ((min l.length n:Nat):Int)) w':=by
  unfold Builtin.copy_;simp only[S,Builtin.lenOf,Builtin.firstCells,y2f,y1v,y1G,pure_bind,y06,run_underlying ht,Result.andThen,y04,r,C,G];rw[To]
  rfl
 simp[execOp,resolve,invoke,builtin,B _ _ J,B _ _ L,E]
theorem Sf {D:Option (Nat×Bool)}{v:Value}{size g n:Nat}(L:TI P t z 1 bytes)(N:look e x=some (ptr g j))(O:look e y=some v)(M:oneV v=true)(E:Sl w (.slice (some ⟨g,0,none⟩) n cap) el size n cs)(W:j<cs.length):
  Zp P e ⟨d,.store t x y,ty,pos,aft,D⟩ w λw'=>Sl w' (.slice (some ⟨g,0,none⟩) n cap) el size n (cs.set j v)/\Kp (λk=>k=g) w w':=by
 obtain⟨l,⟨S,-⟩|⟨V,C,h,B,F,hg,J,I,A,q⟩⟩:=E
 ·cases S
 cases B
 have r:j<h.size:=by
  have:cs.length<=h.toList.length:=by rw[<-q];simp;omega
  simp at this;omega
 have G:w.cell? ⟨g,j,none⟩=some h[j]:=by simp[World.cell?,hg,r]
 have H:w.frozen? ⟨g,j,none⟩=false:=by simp[World.frozen?,hg]
 refine⟨w.setCell ⟨g,j,none⟩ v,fun ρ U=>zkP L N O M G H ρ U,⟨by simpa using l,.inr ⟨g,cap,h.setIfInBounds j v,rfl,F,Joins.block_setCell hg v,J,I,by simpa using A,?_⟩⟩,U8 w g j v⟩
 rw[y3L,<-q,List.take_set]
end
def WE (P:Program)(ops:Array Oper)(Q:Exit->Act->World->Prop)(late:List Nat)(S:World->Prop):Nat->Array Bool->Act->World->Prop
 |0,listed,a,w=>Region.ready .any ops listed=[]/\Q .normal a w
 | n + 1, listed, a, w => (Region.ready .any ops listed = [] -> Q .normal a w) /\
     ∀ i ∈ Region.ready .any ops listed, (i ∈ late -> AtR P ops Q i (λh w' => UW P ops Q (λ_ => True) n (listed.setIfInBounds i true) h w') a w) /\
       (i∉late->AtR P ops Q i (λh w'=>S w'/\WE P ops Q late S n (listed.setIfInBounds i true) h w') a w)
def z1G {P:Program}{ops:Array Oper}{Q:Exit->Act->World->Prop}{late:List Nat}{S:World->Prop}:∀(n:Nat)(listed:Array Bool) (a:Act) (w:World),WE P ops Q late S n listed a w->UW P ops Q (λ_=>True) n listed a w
 |0,_,_,_,h=>h
 | n + 1, _, _, _, h => ⟨h.1, λi hi => by
     by_cases e:i∈late
     ·exact AtR.mono (λa w l=>⟨trivial,l⟩) ((h.2 i hi).1 e)
     ·exact AtR.mono (λa w l=>⟨trivial,z1G n _ _ _ l.2⟩) ((h.2 i hi).2 e)⟩
def z6y {ops:Array Oper}{late:List Nat}{S:World->Prop}{n:Nat}(q:∀i∈Region.ready .any ops listed,i∈late)(h:UW P ops Q (λ_=>True) n listed a w):WE P ops Q late S n listed a w:=by
 cases n with
 |zero=>exact h
 |succ n=>exact⟨h.1,λi hi=>⟨λ_=>AtR.mono (λa w l=>l.2) (h.2 i hi),λe=>absurd (q i hi) e⟩⟩
def waits (ops:List Oper)(listed:Array Bool)(late dn:List Nat)(i:Nat):Bool:= !dn.contains i&&late.all (λj=>dn.contains j)&&dn.all λj=>!listed.getD j true&&match ops[j]? with|some o=>o.after.any λx=>Region.binds .any x&&(x.on==i ||dn.contains x.on)|none=>false
section
variable {ops:Array Oper}{S:World->Prop}{late:List Nat}
theorem z66 {v:Value}(hi:ops[i]? =some oi)(E:∀(j:Nat)(o:Oper) cs b,ops[j]? =some o->o.op≠ .select cs b)(hQ:∀c a w,Q (.panic c) (a.put oi.dst v) w->Q (.panic c) a w)(V:i∉dn)
  (l:∀j∈late,j∈dn) (y:∀j∈dn,∃u,ops[j]? =some u/\∃e∈u.after,Region.binds .any e=true/\(e.on=i\/e.on∈dn)):∀(n:Nat)(listed:Array Bool) (a:Act) (w:World),(∀j∈dn,listed.getD j true=false)->
  (∀j u,ops[j]? =some u->j≠i->listed.getD j true=false->(∀e∈u.after,Region.binds .any e=true->e.on≠i)->oi.apart ops u=true)->i∈Region.ready .any ops listed->YieldsIf P ops S oi v a->S w->
  WE P ops Q late S n (listed.setIfInBounds i true) (a.put oi.dst v) w->WE P ops Q late S (n+1) listed a w:=by
 intro n
 induction n with
 | zero =>
   intro listed a w _ _ I s L H;constructor
   ·intro t;rw[t] at I;cases I
   ·intro j k;by_cases e:j=i
    ·subst e;exact⟨λh=>absurd (l _ h) V,λ_=>Ub hi s L ⟨L,H⟩⟩
    ·exact absurd (ready_mono k e) (by rw[H.1];exact y1U)
 | succ n ih =>
   intro listed a w U N I s L H;constructor
   ·intro t;rw[t] at I;cases I
   ·intro j k;by_cases e:j=i
    ·subst e;exact⟨λh=>absurd (l _ h) V,λ_=>Ub hi s L ⟨L,H⟩⟩
    ·obtain⟨Z,u,B,M⟩:=mem_ready.1 k;have Y:listed.getD i true=false:=(mem_ready.1 I).1
     have q:∀{m:Nat},listed.getD m true=false->∀x∈u.after,Region.binds .any x=true->x.on≠m:=fun {m} G x p g heq=>by
      have J:=M x p g;rw[heq] at J;by_cases z:m<listed.size
      ·simp[z] at G J;rw[G] at J;cases J
      ·simp[y1R (by omega:listed.size<=m)] at J
     have A:j∉dn:=λA=>by
      obtain⟨a0,C,x,p,g,r⟩:=y j A;rw[B] at C;cases C;rcases r with r|r
      ·exact q Y x p g r
      ·exact q (U _ r) x p g O
     refine⟨λF=>absurd (l _ F) A,λF=>?_⟩;have h2:=z1f B (N j u B e Z (q Y)) (λcs b=>E i oi cs b hi) (λcs b=>E j u cs b B) hQ s ((H.2 j (ready_mono k e)).2 F);refine AtR.mono (λT w' f=>⟨f.2.1,?_⟩) h2;refine ih (listed.setIfInBounds j true) T w' (λm G=>?_) (λm om G K X R=>?_) (ready_mono I (Ne.symm e)) f.1 f.2.1 ?_
     ·rw[getD_set_ne true (λe=>A (by rw[e];exact G))];exact U m G
     ·refine N m om G K ?_ R;by_cases W:j=m
      ·subst W;exact Z
      ·rw[getD_set_ne true W] at X;exact X
     ·rw[y2H _ _ e];exact f.2.2
theorem z4m {v:Value}(hi:ops[i]? =some oi)(l:∀(j:Nat)(o:Oper) cs b,ops[j]? =some o->o.op≠ .select cs b)(f:∀c a w,Q (.panic c) (a.put oi.dst v) w->Q (.panic c) a w)(L:i∉late):∀(n:Nat)(listed:Array Bool) (a:Act) (w:World),
  (∀j u,ops[j]? =some u->j≠i->listed.getD j true=false->(∀e∈u.after,Region.binds .any e=true->e.on≠i)->oi.apart ops u=true)->i∈Region.ready .any ops listed->YieldsIf P ops (λ_=>True) oi v a->S w->
  WE P ops Q late S n (listed.setIfInBounds i true) (a.put oi.dst v) w->WE P ops Q late S (n+1) listed a w:=by
 intro n
 induction n with
 | zero =>
   intro listed a w _ B V g H;constructor
   ·intro Y;rw[Y] at B;cases B
   ·intro j M;by_cases e:j=i
    ·subst e;exact⟨λh=>absurd h L,λ_=>Ub hi V trivial ⟨g,H⟩⟩
    ·exact absurd (ready_mono M e) (by rw[H.1];exact y1U)
 | succ n R =>
   intro listed a w E B V g H;constructor
   ·intro Y;rw[Y] at B;cases B
   ·intro j M;by_cases e:j=i
    ·subst e;exact⟨λh=>absurd h L,λ_=>Ub hi V trivial ⟨g,H⟩⟩
    ·obtain⟨G,u,q,J⟩:=mem_ready.1 M;have U:listed.getD i true=false:=(mem_ready.1 B).1
     have r:∀x∈u.after,Region.binds .any x=true->x.on≠i:=λx K y k=>by
      have I:=J x K y;rw[k] at I;by_cases p:i<listed.size
      ·simp[p] at U I;rw[U] at I;cases I
      ·simp[y1R (by omega:listed.size<=i)] at I
     have A:∀m W,ops[m]? =some W->m≠i->(listed.setIfInBounds j true).getD m true=false->(∀e∈W.after,Region.binds .any e=true->e.on≠i)->oi.apart ops W=true:=λm W z s O t=>by
      refine E m W z s ?_ t;by_cases N:j=m
      ·subst N;exact G
      ·rw[getD_set_ne true N] at O;exact O
     refine⟨λF=>?_,λF=>?_⟩
     ·have Z:=z1f q (E j u q e G r) (λcs b=>l i oi cs b hi) (λcs b=>l j u cs b q) f V ((H.2 j (ready_mono M e)).1 F);refine AtR.mono (λX w' C=>?_) Z;exact z0L hi l f n (listed.setIfInBounds j true) X w' A (ready_mono B (Ne.symm e)) C.1 trivial (by rw[y2H _ _ e];exact C.2)
     ·have Z:=z1f q (E j u q e G r) (λcs b=>l i oi cs b hi) (λcs b=>l j u cs b q) f V ((H.2 j (ready_mono M e)).2 F);refine AtR.mono (λX w' C=>⟨C.2.1,?_⟩) Z;refine R (listed.setIfInBounds j true) X w' A (ready_mono B (Ne.symm e)) C.1 C.2.1 ?_;rw[y2H _ _ e];exact C.2.2
def z2W (n:Region.ready .any ops listed=rs)(l:rs≠[])(u:∀i∈rs,i∉late)(h:∀i∈rs,AtR P ops Q i (λq w'=>S w'/\WE P ops Q late S fuel (listed.setIfInBounds i true) q w') a w):WE P ops Q late S (fuel+1) listed a w:=
 ⟨λr=>absurd (n▸r) l,by rw[n];exact λi hi=>⟨λe=>absurd e (u i hi),λ_=>h i hi⟩⟩
end
def RHL (D:RC)(late:List Nat)(S:World->Prop)(fuel:Nat)(listed:Array Bool)(e:Env)(w:World):Prop:=
 ∀a,XI D.C.n D.C.ms e a->WE D.C.P D.ops.toArray (QK D.C D.k) late S fuel listed a w
theorem PC {C:Cx}{e:Env}(late:List Nat)(S:World->Prop)(u:C.P.follows .mixedOrders=true)
  (l:Sg C.n ops=true) (h:RHL ⟨C,ops,k,l⟩ late S ops.length (Array.replicate ops.length false) e w.drew) (r:calm ops=true:=by rfl):PM C (.code (.region id ops.toArray true)::k) e w:=
 z4P (λ_=>True) u l (λa q=>z1G _ _ _ _ (h a q)) r
def zcp (rs late:List Nat):Bool:=rs.all λi=>!late.contains i
def zeY (rs late:List Nat):Bool:=rs.all λi=>late.contains i
section
variable {D:RC}{late:List Nat}{S:World->Prop}{e:Env}{d:Nat}{pos:String}
theorem zhe (rs:List Nat)(r:SB D.ops listed rs=true)(q:zeY rs late=true)(h:RH D (λ_=>True) fuel listed e w):RHL D late S fuel listed e w:=λa n=>
 z6y (λi hi=>by
  have l:Region.ready .any D.ops.toArray listed=rs:=by simpa[SB] using r
  rw[l] at hi
  simpa using y1H.1 q i hi) (h a n)
theorem z7X (h:waits ops listed late dn i=true):i∉dn/\(∀j∈late,j∈dn)/\(∀j∈dn,listed.getD j true=false)/\∀j∈dn,∃v,ops.toArray[j]? =some v/\∃e∈v.after,Region.binds .any e=true/\(e.on=i\/e.on∈dn):=by
 unfold waits at h
 rw[y0w,y0w] at h
 obtain⟨⟨A,B⟩,n⟩:=h
 have n:=λj l=>y1H.1 n j l
 refine⟨by simpa using A,λj l=>by simpa using y1H.1 B j l,λj l=>?_,λj l=>?_⟩
 ·have:=n j l;rw[y0w] at this;cases e:listed.getD j true
  ·rfl
  ·have u:=this.1;rw[e] at u;cases u
 ·have:=n j l;rw[y0w] at this;have:=this.2
  cases r:ops[j]? with
  |none=>rw[r] at this;cases this
  | some o =>
    rw[r] at this;obtain⟨x,C,q⟩:=Array.any_eq_true'.1 this;rw[y0w,Bool.or_eq_true] at q;exact⟨o,by simpa using r,x,C,q.1,q.2.imp (λh=>by simpa using h) (λh=>by simpa using h)⟩
theorem z6Y (dn:List Nat){v:Value}(hi:D.ops[i]? =some ⟨some d,op,ty,pos,aft,g⟩)(q:(SU D.ops listed i&&waits D.ops listed late dn i)=true)(F:SF D e g true=true)(E:Nat.blt d D.C.n=true)
  (I:∀w,S w->Y D.C.P e ⟨some d,op,ty,pos,aft,g⟩ v w w) (B:S w) (h:RHL D late S fuel (listed.setIfInBounds i true) ((d,v)::e) w):RHL D late S (fuel+1) listed e w:=λa l=>by
 rw[y0w] at q
 obtain⟨r,u,A⟩:=UI q.1
 obtain⟨J,L,M,N⟩:=z7X q.2
 exact z66 (v:=v) (by simpa using hi) (y3s r) (λ_ _ _ h=>h) J L N _ _ _ _ M (y3a (by simpa using hi) u) (by simpa using A) (.inl ⟨Se l F,λw G=>I w G a.eval (λx v H=>l.look H)⟩) B (h _ (l.put E v))
theorem QD {v:Value}(hi:D.ops[i]? =some ⟨some d,op,ty,pos,aft,g⟩)(q:(SU D.ops listed i&& !late.contains i)=true)(F:SF D e g true=true)(E:Nat.blt d D.C.n=true)
  (H:∀w,Y D.C.P e ⟨some d,op,ty,pos,aft,g⟩ v w w) (B:S w) (h:RHL D late S fuel (listed.setIfInBounds i true) ((d,v)::e) w):RHL D late S (fuel+1) listed e w:=λa l=>by
 rw[y0w] at q
 obtain⟨r,u,A⟩:=UI q.1
 exact z4m (v:=v) (by simpa using hi) (y3s r) (λ_ _ _ h=>h) (by simpa using q.2) _ _ _ _ (y3a (by simpa using hi) u) (by simpa using A) (.inl ⟨Se l F,λw _=>H w a.eval (λx v G=>l.look G)⟩) B (h _ (l.put E v))
def NxL (D:RC)(late:List Nat)(S:World->Prop)(fuel:Nat)(listed:Array Bool)(e:Env)(w:World)(i:Nat):Prop:=
 ∀a,XI D.C.n D.C.ms e a->AtR D.C.P D.ops.toArray (QK D.C D.k) i (λh w'=>S w'/\WE D.C.P D.ops.toArray (QK D.C D.k) late S fuel (listed.setIfInBounds i true) h w') a w
theorem Ry (n:(SB D.ops listed [i]&&zcp [i] late)=true)(h:NxL D late S fuel listed e w i):RHL D late S (fuel+1) listed e w:=λa q=>by
 rw[y0w] at n
 exact z2W (rs:=[i]) (by simpa[SB] using n.1) ξ (λj l=>by simpa using y1H.1 n.2 j l) λj l=>by simp at l;subst l;exact h a q
theorem Y3 (l:(SB D.ops listed [i,j]&&zcp [i,j] late)=true)(h:NxL D late S fuel listed e w i)(r:NxL D late S fuel listed e w j):RHL D late S (fuel+1) listed e w:=λa n=>by
 rw[y0w] at l
 exact z2W (rs:=[i,j]) (by simpa[SB] using l.1) ξ (λj u=>by simpa using y1H.1 l.2 j u) λm q=>by
  simp at q;rcases q with rfl|rfl
  ·exact h a n
  ·exact r a n
def NxL.z2f (hi:D.ops[i]? =some o)(r:SF D e o.guard true=true)
  (h:∀a,XI D.C.n D.C.ms e a->o.wp D.C.P a w (λq w'=>S w'/\WE D.C.P D.ops.toArray (QK D.C D.k) late S fuel (listed.setIfInBounds i true) q w') (QK D.C D.k)):NxL D late S fuel listed e w i:=λa l=>by
 have u:=Se l r
 refine .inl ?_
 unfold wpOp
 simp only[y2f,hi]
 rw[if_pos u]
 exact .inl (h a l)
theorem zfA {v:Value}(hi:D.ops[i]? =some ⟨some d,op,ty,pos,aft,g⟩)(u:SF D e g true=true)(r:Nat.blt d D.C.n=true)
  (B:Y D.C.P e ⟨some d,op,ty,pos,aft,g⟩ v w w') (q:S w') (h:RHL D late S fuel (listed.setIfInBounds i true) ((d,v)::e) w'):NxL D late S fuel listed e w i:=
 NxL.z2f hi u λa l=>by
  have:=B a.eval (λx v A=>l.look A);unfold Oper.wp;rw[this];exact⟨q,h _ (l.put r v)⟩
theorem Sm {T:Value->World->Prop}(hi:D.ops[i]? =some ⟨some d,op,ty,pos,aft,g⟩)(B:SF D e g true=true)(A:Nat.blt d D.C.n=true)
  (E:Yc D.C.P e ⟨some d,op,ty,pos,aft,g⟩ f args w) (u:PN D.C.P f args w T) (h:∀v w',T v w'->S w'/\RHL D late S fuel (listed.setIfInBounds i true) ((d,v)::e) w'):NxL D late S fuel listed e w i:=
 NxL.z2f hi B λa q=>by
  have:=E a.eval (λx v l=>q.look l);unfold Oper.wp;rw[this];exact y1C u λx w' ⟨v,l,r⟩=>by subst l;exact⟨(h v w' r).1,(h v w' r).2 _ (q.put A v)⟩
def QQ (hi:D.ops[i]? =some ⟨some d,op,ty,pos,aft,g⟩)(u:SF D e g true=true)(r:Nat.blt d D.C.n=true)
  (l:Yp D.C.P e ⟨some d,op,ty,pos,aft,g⟩ w Post) (h:∀v w',Post v w'->S w'/\RHL D late S fuel (listed.setIfInBounds i true) ((d,v)::e) w'):NxL D late S fuel listed e w i:=by
 obtain⟨v,w',l,q⟩:=l
 exact zfA hi u r l (h v w' q).1 (h v w' q).2
end
end Go.Proofs.YtbihggbffaigjaaGreatDoor
