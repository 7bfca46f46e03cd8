/- Printed by row.py: data handed in. -/
import Derived.Test.YtlhmchndcilifaaSyLaw
import Derived.Test.YtlhmchndcilifaaSyMap
import Derived.Test.YtlhmchndcilifaaVwKd
import Derived.Test.YtlhmchndcilifaaRows
set_option linter.unusedVariables false
set_option maxRecDepth 100000
namespace Go.Proofs.Ytlhmchndcilifaa.Mo
open Go Go.Proofs.Ytlhmchndcilifaa.Sy Go.ChangeShapes Go.WideShapes Go.RowKit
open Go.Proofs Go.Proofs.Ytlhmchndcilifaa

def Bk {H : Type} (d : DataW H) : Nat := Rows.uptoBulk d
def Bl {H : Type} (d : List (DataW H)) : Nat := Rows.uptoBulkAll d
theorem Bk_one {H : Type} (d : DataW H) : 1 ≤ Bk d := by
  cases d with
  | lit l => cases l <;> simp [Bk, Rows.uptoBulk]
  | nil => simp [Bk, Rows.uptoBulk]
  | ptr d => simp [Bk, Rows.uptoBulk]
  | slice elems spare => simp [Bk, Rows.uptoBulk]
  | agg parts => simp [Bk, Rows.uptoBulk]
  | iface t d => simp [Bk, Rows.uptoBulk]
  | map entries => simp [Bk, Rows.uptoBulk]
  | held h => simp [Bk, Rows.uptoBulk]
theorem hB : Bulk @Bk @Bl where
  one := Bk_one
  str l := by simp [Bk, Rows.uptoBulk]
  slice e s := by simp only [Bk, Bl, Rows.uptoBulk]; omega
  agg l := by simp only [Bk, Bl, Rows.uptoBulk]; omega
  ptr d := by simp only [Bk, Rows.uptoBulk]; omega
  nil := rfl
  cons d l := rfl
theorem in_3 : In Try.prog Bk 3 (Kd.int .i64) (fun s => (Lit.int .i64 s).wf = true) (fun _ => 1) (fun _ => True) := in_int hB Try.underlying3 (by kernel_rfl)
theorem in_9 : In Try.prog Bk 9 Kd.str (fun s => s.size ≤ maxLen) (fun s => s.size + 1) (fun s => s.size ≤ 140737488355327) := in_str hB Try.underlying9 (by kernel_rfl)
def Op.good (x : Op) : Prop := ((Lit.int .i64 x.Kind).wf = true) ∧ (x.Key.size ≤ maxLen) ∧ (x.Value.size ≤ maxLen)
def Op.szs (x : Op) : Prop := (True) ∧ (x.Key.size ≤ 140737488355327) ∧ (x.Value.size ≤ 140737488355327)
def Op.mz (x : Op) : Nat := (1 + ((x.Key.size + 1) + (x.Value.size + 1))) + 1
theorem in_29 : In Try.prog Bk 29 k_Op Op.good Op.mz Op.szs := by
  have h := in_struct hB Try.underlying29 (by kernel_rfl) (inF_cons hB in_3 rfl (inF_cons hB in_9 rfl (inF_one hB in_9)))
  exact h.map (fun x => ⟨x.1, x.2.1, x.2.2⟩) rfl (fun h => by obtain ⟨_, _, rfl, rfl, ⟨_, _, rfl, rfl, rfl⟩⟩ := h; rfl) (fun a h => h) (fun a => Nat.le_refl _) (fun a h => h)
theorem bytes_29 : Try.prog.bytesOf 29 = 40 := by kernel_rfl
theorem in_22 : In Try.prog Bk 22 (Kd.slice 29 k_Op) (fun l => (∀ y ∈ l, Op.good y) ∧ l.length ≤ maxLen) (fun l => (l.map fun y => Op.mz y).sum + 1) (fun l => l.length * 40 ≤ 140737488355327 ∧ ∀ y ∈ l, Op.szs y) := by
  have h := in_slice hB Try.underlying22 (by kernel_rfl) in_29 (by decide)
  rw [bytes_29] at h
  exact h
end Go.Proofs.Ytlhmchndcilifaa.Mo
