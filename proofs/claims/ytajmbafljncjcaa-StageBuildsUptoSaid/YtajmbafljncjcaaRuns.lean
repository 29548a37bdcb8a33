/- runs: all stretches of a table, to whatever is handed in. -/
import Derived.Test.YtajmbafljncjcaaStretch
import Derived.Test.YtajmbafljncjcaaEven
import Derived.Test.YtajmbafljncjcaaWhole
namespace Go.Proofs.Ytajmbafljncjcaa.Stage
open Go.RowKit Go.Proofs.YtajmbafljncjcaaW.PrintWords Go.Proofs.YtajmbafljncjcaaW.PrintLast Go.Proofs.YtajmbafljncjcaaW.PrintMore Go.Proofs.Ytajmbafljncjcaa.Mp
set_option linter.unusedVariables false
set_option linter.unusedSimpArgs false

/-- What holds functions stays. -/
def FuncKept (W W' : World) : Prop := ∀ (k : Nat) (cs : List Value), Blk W k cs 98 → Blk W' k cs 98

/-- A function that is handed each stretch: St: how what it writes stands. -/
structure Does (say : Nat → Nat) (v : Option Addr) (St : List (Nat × Nat × Nat) → World → Prop) (Nd : FuncId) (fd cd : Array Value) : Prop where
  ent : ∀ (args : Array Value) (W : World), (callFunc Nd args).run Try.prog W = .ok (.enter Nd args) W
  han : ∀ (out : List (Nat × Nat × Nat)) (W : World), St out W → Han W v say
  drew : ∀ (out : List (Nat × Nat × Nat)) (W : World) (n : Nat), St out W → St out (W.drewN n)
  alloc : ∀ (out : List (Nat × Nat × Nat)) (W : World) (o : Obj), St out W → St out (W.alloc o)
  does : ∀ (out : List (Nat × Nat × Nat)) (W : World) (a b : Nat), St out W → a ≤ b → b ≤ 1114111 → Til say a 0 out → Calls Try.prog Nd (fd.push (.agg #[.int .i32 (a : Int), .int .i32 (b : Int), .int .i64 (say a : Nat)]) ++ cd) W fun e W' => (∃ v, e = .returned v) ∧ St (out ++ [(a, b, say a)]) W' ∧ FuncKept W W'

theorem ways_of {say : Nat → Nat} {v : Option Addr} {St : List (Nat × Nat × Nat) → World → Prop} {Nd : FuncId} {fd cd : Array Value} (D : Does say v St Nd fd cd) (B : Nat) :
    Ways say (evenB say) (fun out W => St out W ∧ Blk W B [.func (.func Nd) fd cd] 98) 17 #[.pointer v] #[] 70 #[.pointer v] #[] 90 #[] #[.pointer (some ⟨B, 0, none⟩)] where
  entS := call_enters Try.func17 (by kernel_rfl) (by kernel_rfl)
  entE := call_enters Try.func70 (by kernel_rfl) (by kernel_rfl)
  entD := call_enters Try.func90 (by kernel_rfl) (by kernel_rfl)
  even_ok := fun i hi h j hj => evenB_ok h j hj
  says := fun out W p h hp => by
    refine (look_calls W v say (D.han out W h.1) p).mono ?_
    rintro e w' ⟨rfl, n, rfl⟩
    refine ⟨?_, D.drew out W n h.1, h.2⟩
    unfold lookI
    rw [if_pos (by omega), Int.toNat_natCast]
  evens := fun out W i h hi => by
    refine (even_calls W v say (D.han out W h.1) i hi).mono ?_
    rintro e w' ⟨rfl, n, rfl⟩
    exact ⟨rfl, D.drew out W n h.1, h.2⟩
  does := fun out W a b h hab hb ht => by
    have ent := D.ent
    have hcell := h.2.cell 0
    have HD := Aside0.mk (D.does out W a b h.1 hab hb ht)
    have HB := Aside0.mk h.2
    clear h
    go_enter Try.func90, Try.ntmps90
    go_wp2_with fail
    refine HD.out.mono ?_
    rintro e w1 ⟨⟨x, rfl⟩, hS, hK⟩
    have HF := Aside0.mk (show (St (out ++ [(a, b, say a)]) w1 ∧ Blk w1 B [.func (.func Nd) fd cd] 98) from ⟨hS, hK _ _ HB.out⟩)
    clear hS hK HD
    go_wp2
    go_returns
    exact ⟨⟨_, rfl⟩, HF.out⟩

def RunsPost (say : Nat → Nat) (St : List (Nat × Nat × Nat) → World → Prop) (e : Ending) (W' : World) : Prop := (∃ v, e = .returned v) ∧ ∃ out, Til say 1114112 0 out ∧ St out W'

theorem runs_calls {say : Nat → Nat} {v : Option Addr} {St : List (Nat × Nat × Nat) → World → Prop} {Nd : FuncId} {fd cd : Array Value} (D : Does say v St Nd fd cd) (w : World) (h0 : St [] w) :
    Calls Try.prog 51 #[.pointer v, .func (.func Nd) fd cd] w (RunsPost say St) := by
  have HS := Aside0.mk (stretches_calls (ways_of D w.heap.size) (w.alloc (.cells #[.func (.func Nd) fd cd] 98)) ⟨D.alloc _ _ _ h0, blk_new w [.func (.func Nd) fd cd] 98⟩)
  have hmf : ∀ (fn : Fn) (first cap : Array Value) (w : World), (Instr.makeFunc fn first cap).run Try.prog w = .ok (.func fn first cap) w := fun _ _ _ _ => rfl
  clear D h0
  go_enter Try.func51, Try.ntmps51
  go_wp2_with fail
  refine HS.out.mono ?_
  rintro e w1 ⟨⟨x, rfl⟩, out, hT, hSt, _⟩
  have HF := Aside0.mk (show ∀ v, RunsPost say St (.returned v) w1 from fun v => ⟨⟨v, rfl⟩, out, hT, hSt⟩)
  clear hT hSt
  go_wp2
  go_returns
  exact HF.out _

end Go.Proofs.Ytajmbafljncjcaa.Stage
