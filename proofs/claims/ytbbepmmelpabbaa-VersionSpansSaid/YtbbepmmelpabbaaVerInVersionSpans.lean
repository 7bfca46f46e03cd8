/- Printed by row.py: data handed in. -/
import Derived.Test.YtbbepmmelpabbaaSyLaw
import Derived.Test.YtbbepmmelpabbaaSyMap
import Derived.Test.YtbbepmmelpabbaaVerKd
import Derived.Test.YtbbepmmelpabbaaRows
set_option linter.unusedVariables false
set_option maxRecDepth 100000
namespace Go.Proofs.Ytbbepmmelpabbaa.Mo
open Go Go.Proofs.Ytbbepmmelpabbaa.Sy Go.ChangeShapes Go.WideShapes Go.RowKit
open Go.Proofs Go.Proofs.Ytbbepmmelpabbaa

def Bk {H : Type} (d : DataW H) : Nat := Rows.uptoBulk d
def Bl {H : Type} (d : List (DataW H)) : Nat := Rows.uptoBulkAll d
theorem Bk_one {H : Type} (d : DataW H) : 1 ≤ Bk d := by
  cases d with
  | lit l => cases l <;> simp [Bk, Rows.uptoBulk]
  | nil => simp [Bk, Rows.uptoBulk]
  | ptr d => simp [Bk, Rows.uptoBulk]
  | slice elems spare => simp [Bk, Rows.uptoBulk]
  | agg parts => simp [Bk, Rows.uptoBulk]
  | iface t d => simp [Bk, Rows.uptoBulk]
  | map entries => simp [Bk, Rows.uptoBulk]
  | held h => simp [Bk, Rows.uptoBulk]
theorem hB : Bulk @Bk @Bl where
  one := Bk_one
  str l := by simp [Bk, Rows.uptoBulk]
  slice e s := by simp only [Bk, Bl, Rows.uptoBulk]; omega
  agg l := by simp only [Bk, Bl, Rows.uptoBulk]; omega
  ptr d := by simp only [Bk, Rows.uptoBulk]; omega
  nil := rfl
  cons d l := rfl
theorem in_3 : In Try.prog Bk 3 (Kd.int .i64) (fun s => (Lit.int .i64 s).wf = true) (fun _ => 1) (fun _ => True) := in_int hB Try.underlying3 (by kernel_rfl)
theorem in_9 : In Try.prog Bk 9 Kd.str (fun s => s.size ≤ maxLen) (fun s => s.size + 1) (fun s => s.size ≤ 140737488355327) := in_str hB Try.underlying9 (by kernel_rfl)
theorem in_24 : In Try.prog Bk 24 (Kd.int .u64) (fun s => (Lit.int .u64 s).wf = true) (fun _ => 1) (fun _ => True) := in_int hB Try.underlying24 (by kernel_rfl)
def File.good (x : File) : Prop := ((Lit.int .i64 x.Number).wf = true) ∧ ((Lit.int .i64 x.Size).wf = true) ∧ (x.Least.size ≤ maxLen) ∧ (x.Limit.size ≤ maxLen) ∧ ((Lit.int .u64 x.Low).wf = true) ∧ ((Lit.int .u64 x.High).wf = true)
def File.szs (x : File) : Prop := (True) ∧ (True) ∧ (x.Least.size ≤ 140737488355327) ∧ (x.Limit.size ≤ 140737488355327) ∧ (True) ∧ (True)
def File.mz (x : File) : Nat := (1 + (1 + ((x.Least.size + 1) + ((x.Limit.size + 1) + (1 + 1))))) + 1
theorem in_43 : In Try.prog Bk 43 k_File File.good File.mz File.szs := by
  have h := in_struct hB Try.underlying43 (by kernel_rfl) (inF_cons hB in_3 rfl (inF_cons hB in_3 rfl (inF_cons hB in_9 rfl (inF_cons hB in_9 rfl (inF_cons hB in_24 rfl (inF_one hB in_24))))))
  exact h.map (fun x => ⟨x.1, x.2.1, x.2.2.1, x.2.2.2.1, x.2.2.2.2.1, x.2.2.2.2.2⟩) rfl (fun h => by obtain ⟨_, _, rfl, rfl, ⟨_, _, rfl, rfl, ⟨_, _, rfl, rfl, ⟨_, _, rfl, rfl, ⟨_, _, rfl, rfl, rfl⟩⟩⟩⟩⟩ := h; rfl) (fun a h => h) (fun a => Nat.le_refl _) (fun a h => h)
theorem bytes_43 : Try.prog.bytesOf 43 = 64 := by kernel_rfl
theorem in_39 : In Try.prog Bk 39 (Kd.slice 43 k_File) (fun l => (∀ y ∈ l, File.good y) ∧ l.length ≤ maxLen) (fun l => (l.map fun y => File.mz y).sum + 1) (fun l => l.length * 64 ≤ 140737488355327 ∧ ∀ y ∈ l, File.szs y) := by
  have h := in_slice hB Try.underlying39 (by kernel_rfl) in_43 (by decide)
  rw [bytes_43] at h
  exact h
theorem bytes_39 : Try.prog.bytesOf 39 = 24 := by kernel_rfl
theorem in_23 : In Try.prog Bk 23 (Kd.slice 39 (Kd.slice 43 k_File)) (fun l => (∀ y ∈ l, (∀ y1 ∈ y, File.good y1) ∧ y.length ≤ maxLen) ∧ l.length ≤ maxLen) (fun l => (l.map fun y => ((y.map fun y1 => File.mz y1).sum + 1)).sum + 1) (fun l => l.length * 24 ≤ 140737488355327 ∧ ∀ y ∈ l, (y.length * 64 ≤ 140737488355327 ∧ ∀ y1 ∈ y, File.szs y1)) := by
  have h := in_slice hB Try.underlying23 (by kernel_rfl) in_39 (by decide)
  rw [bytes_39] at h
  exact h
end Go.Proofs.Ytbbepmmelpabbaa.Mo
