/- Draws of terms. -/
import Derived.Test.YtjdfbnlaiiknpaaGreatDoorTm1
import Derived.Test.YtjdfbnlaiiknpaaGreatDoorOpen
import Derived.Test.YtjdfbnlaiiknpaaGreatDoorWords2
namespace Go.Proofs.YtjdfbnlaiiknpaaGreatDoor
open Go.RowKit
attribute [local go_sem ↓] Go.wp_at_zero Go.wp_at_succ

def trm (t : T2) : Value := .agg #[.int .i64 t.1, .int .i64 t.2]
def Drawn (t : T2) : Prop := -1 ≤ t.1 ∧ t.1 ≤ 9 ∧ -1 ≤ t.2 ∧ t.2 ≤ 9
def TermPost (T : TypeId) (w : World) (B R N : Nat) (e : Ending) (w' : World) : Prop :=
  ∃ t : T2, e = .returned (trm t) ∧ Drawn t ∧ Rd T w' B R N ∧ w.grownBy w' (some R)

theorem elTerm : ElemOk Tryz.prog 25 39 2 16 := elemOk Tryz.underlying25 (z := .agg #[.int .i64 0, .int .i64 0]) (by kernel_rfl) rfl (by omega)

def TermsPost (T : TypeId) (E : TypeId) (w : World) (B R N : Nat) (e : Ending) (w' : World) : Prop :=
  ∃ A c n ts, e = .returned (.slice A n c) ∧ n ≤ c ∧ ts.length = n ∧ n ≤ 5 ∧ (∀ t ∈ ts, Drawn t) ∧ w'.ownsRow w.heap.size E 2 (.slice A n c) n (tcells ts) ∧ Rd T w' B R N ∧ w.grownBy w' (some R)



def Lst (w : World) (A : Option Addr) (n c : Nat) (ts : List T2) : Prop := n ≤ c ∧ ts.length = n ∧ n ≤ 5 ∧ (∀ t ∈ ts, Drawn t) ∧ Reads w w.heap.size 2 A n (tcells ts)

def DrawTermsPost (w : World) (e : Ending) (w' : World) : Prop :=
  ∃ A c n ts, e = .returned (.slice A n c) ∧ Lst w' A n c ts ∧ Below w.heap.size w w'

end Go.Proofs.YtjdfbnlaiiknpaaGreatDoor
