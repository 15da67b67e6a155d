-- Written by wip/tools/mk.py (this session's program, which runs the kit's print): functions, and proofs that the machine's calls do what they say.
import Derived.Test.YtibkljplegpcdaaProg
import Derived.Below
import Derived.Deep.Draws
import Derived.Deep.AppendLies
import Derived.Maps.AppendAt
import Derived.OwnWalk
import Derived.Laws.BytesArg
import Derived.Laws.MakeOwn
import Derived.Laws.OwnMore
import Derived.Deep.OwnRows
import Derived.Tactics
import Derived.Lib.ConvBytes
import Derived.Laws.Slices
import Derived.WalkKit
import Derived.KernelRfl
import Derived.RowKit3
import Derived.Deep.LoopGhost
import Derived.Deep.QuietTactic
import Derived.BigQuiet
import Derived.WideLaws
import Derived.Deep.DeepCutAuto
import Derived.Deep.CutBlock
import Derived.Deep.RegionHeld3
import Derived.Laws.Rows
import Derived.Lib.AppendStr
import Derived.ArgAppend
import Derived.Laws.IdiomCopy
import Derived.OrdersHeld
import Derived.Laws.BitsLemmas
import Derived.RowKit
import Derived.Test.YtibkljplegpcdaaWWords
import Derived.Test.YtibkljplegpcdaaWLast
import Derived.Test.YtibkljplegpcdaaWTab
import Derived.Test.YtibkljplegpcdaaWFour
import Derived.Test.YtibkljplegpcdaaWQPut
import Derived.Test.YtibkljplegpcdaaWApart
import Derived.Test.YtibkljplegpcdaaWArr
import Derived.Test.YtibkljplegpcdaaWZeros
import Derived.Test.YtibkljplegpcdaaWFoot
import Derived.Test.YtibkljplegpcdaaWKept
import Derived.Test.YtibkljplegpcdaaWShare
import Derived.Test.YtibkljplegpcdaaWN
import Derived.Test.YtibkljplegpcdaaWFootNe
import Derived.Test.YtibkljplegpcdaaWAt
import Derived.Test.YtibkljplegpcdaaWEqStruct
import Derived.Test.YtibkljplegpcdaaWRepsOne
import Derived.Test.YtibkljplegpcdaaWInv
import Derived.Test.YtibkljplegpcdaaWInvWords
import Derived.Test.YtibkljplegpcdaaWGuard
import Derived.Test.YtibkljplegpcdaaWNEv
import Derived.Test.YtibkljplegpcdaaWMore
import Derived.Test.YtibkljplegpcdaaWOwn
namespace Go.Proofs.Ytibkljplegpcdaa.QFnListEither
open Go.RowKit Go.Proofs.YtibkljplegpcdaaW.PrintWords Go.Proofs.YtibkljplegpcdaaW.PrintLast Go.Proofs.YtibkljplegpcdaaW.PrintMore
attribute [local go_sem] IntKind.wrap_u8 max2_int min2_int max_two min_two max_three min_three max_four min_four   -- for this text's walks alone
set_option linter.unusedVariables false
set_option linter.unusedSimpArgs false



def errW : Option Int → Value
  | none => .nilIface
  | some c => .iface 0 (.int .i64 c)
theorem errW_none : errW none = .nilIface := rfl
theorem errW_some (c : Int) : errW (some c) = .iface 0 (.int .i64 c) := rfl

theorem info3 : (Try.prog.info? 3).map (fun i => (i.zero, i.size, i.bytes)) = some (some (.int .i64 0), 1, 8) := by kernel_rfl
theorem info5 : (Try.prog.info? 5).map (fun i => (i.zero, i.size, i.bytes)) = some (some (.int .u8 0), 1, 1) := by kernel_rfl
-- the values' own types
def rd_L1 (xs : List (List Int)) (i : Int) : (List Int) := xs.getD i.toNat ([] : List Int)
theorem at_L1 {w : World} {A : Option Addr} {n : Nat} {xs : List (List Int)} (h : Kd.C (Kd.slice 3 (Kd.int .i64)) w A n xs) (i : Int) (h0 : 0 ≤ i) (h1 : i < n) : ∃ ad A0 c0, A = some ad ∧ w.cell? (ad.add i.toNat) = some (.slice A0 (rd_L1 xs i).length c0) ∧ (rd_L1 xs i).length ≤ c0 ∧ (Kd.int .i64).C w A0 (rd_L1 xs i).length (rd_L1 xs i) := by
  obtain ⟨ad, c, e, _, hK, hc0⟩ := Kd.C_get h ([] : List Int) i h0 h1
  have hc : ∀ j u, c[j]? = some u → w.cell? (ad.add (i.toNat * 1 + j)) = some u := hc0
  obtain ⟨A0, c0, rfl, l0, g0⟩ := hK
  exact ⟨ad, A0, c0, e, by have hq := hc 0 _ rfl; rwa [Nat.mul_one, Nat.add_zero] at hq, l0, g0⟩

def mergeL (K : Bool → Bool → Bool) : List Int → List Int → List Int
  | [], [] => []
  | x :: la, [] => (if K true false = true then [x] else []) ++ mergeL K la []
  | [], y :: lb => (if K false true = true then [y] else []) ++ mergeL K [] lb
  | x :: la, y :: lb => if x < y then (if K true false = true then [x] else []) ++ mergeL K la (y :: lb) else if y < x then (if K false true = true then [y] else []) ++ mergeL K (x :: la) lb else (if K true true = true then [y] else []) ++ mergeL K la lb
termination_by a b => a.length + b.length
theorem rd_zero {x : Int} {l : List Int} : rd (x :: l) 0 = x := rfl
theorem mergeL_nil (K : Bool → Bool → Bool) {la lb : List Int} (ha : la.length = 0) (hb : lb.length = 0) : mergeL K la lb = [] := by
  match la, lb, ha, hb with | [], [], _, _ => unfold mergeL; rfl
theorem mergeL_a (K : Bool → Bool → Bool) {la lb : List Int} (ha : 0 < la.length) (hb : lb.length = 0) : mergeL K la lb = (if K true false = true then [rd la 0] else []) ++ mergeL K (la.drop 1) lb := by
  match la, lb, ha, hb with | x :: l, [], _, _ => rw [mergeL]; rfl
theorem mergeL_b (K : Bool → Bool → Bool) {la lb : List Int} (ha : la.length = 0) (hb : 0 < lb.length) : mergeL K la lb = (if K false true = true then [rd lb 0] else []) ++ mergeL K la (lb.drop 1) := by
  match la, lb, ha, hb with | [], y :: l, _, _ => rw [mergeL]; rfl
theorem mergeL_lt (K : Bool → Bool → Bool) {la lb : List Int} (ha : 0 < la.length) (hb : 0 < lb.length) (h : rd la 0 < rd lb 0) : mergeL K la lb = (if K true false = true then [rd la 0] else []) ++ mergeL K (la.drop 1) lb := by
  match la, lb, ha, hb, h with | x :: l, y :: m, _, _, h => rw [mergeL, if_pos (show x < y from h)]; rfl
theorem mergeL_gt (K : Bool → Bool → Bool) {la lb : List Int} (ha : 0 < la.length) (hb : 0 < lb.length) (h : rd lb 0 < rd la 0) : mergeL K la lb = (if K false true = true then [rd lb 0] else []) ++ mergeL K la (lb.drop 1) := by
  match la, lb, ha, hb, h with | x :: l, y :: m, _, _, h => rw [mergeL, if_neg (show ¬ x < y from by have h' : y < x := h; omega), if_pos (show y < x from h)]; rfl
theorem mergeL_eq (K : Bool → Bool → Bool) {la lb : List Int} (ha : 0 < la.length) (hb : 0 < lb.length) (h : rd la 0 = rd lb 0) : mergeL K la lb = (if K true true = true then [rd lb 0] else []) ++ mergeL K (la.drop 1) (lb.drop 1) := by
  match la, lb, ha, hb, h with | x :: l, y :: m, _, _, h => rw [mergeL, if_neg (show ¬ x < y from by have h' : x = y := h; omega), if_neg (show ¬ y < x from by have h' : x = y := h; omega)]; rfl
theorem goesV_ {P : Program} {ops : Array Oper} {Q : Exit → Act → World → Prop} {rest : List Oper} {oi : Oper} {a : Act} {w : World} (N : Option Tmp) (hd : oi.dst = N) (hg : oi.guard = none) {x : Operand} {f : FuncId} {cap : Array Value} {fn : Func} {xs : Array Operand} {ts : Array TypeId}
    (hop : oi.op = .call { callee := .value x, args := xs, argTypes := ts }) (hx : a.eval x = .func (.func f) #[] cap) (hf : P.funcs[f]? = some fn) (hname : (fn.name == "runtime.NumGoroutine") = false) (hb : fn.body.isSome = true) (args : Array Value) (hargs : xs.map a.eval ++ cap = args)
    (h : Calls P f args w fun e w' => ∃ v, e = .returned v ∧ wpList P ops Q rest (a.put N v) w') : wpList P ops Q (oi :: rest) a w := by
  refine wpList_plain hg fun K hK => ?_
  have he := enters_ hf hname hb args w
  have hrun : (execOp a.eval oi).run P w = .ok (.enter f args) w := by
    unfold execOp
    simp [hop, hx, resolve, Deferred.ofValue, invoke, hargs, he]
  unfold Oper.wp
  rw [hrun, Oper.upon_enter]
  refine h.mono fun e w'' hh => ?_
  obtain ⟨v, rfl, hk⟩ := hh
  subst hd
  exact hK _ _ hk

end Go.Proofs.Ytibkljplegpcdaa.QFnListEither
