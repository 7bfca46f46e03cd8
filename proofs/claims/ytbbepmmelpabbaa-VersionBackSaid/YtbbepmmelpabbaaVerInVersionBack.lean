/- Printed by row.py: data handed in. -/
import Derived.Test.YtbbepmmelpabbaaSyLaw
import Derived.Test.YtbbepmmelpabbaaSyMap
import Derived.Test.YtbbepmmelpabbaaVerKd
import Derived.Test.YtbbepmmelpabbaaRows
set_option linter.unusedVariables false
set_option maxRecDepth 100000
namespace Go.Proofs.Ytbbepmmelpabbaa.Mo
open Go Go.Proofs.Ytbbepmmelpabbaa.Sy Go.ChangeShapes Go.WideShapes Go.RowKit
open Go.Proofs Go.Proofs.Ytbbepmmelpabbaa

def Bk {H : Type} (d : DataW H) : Nat := Rows.uptoBulk d
def Bl {H : Type} (d : List (DataW H)) : Nat := Rows.uptoBulkAll d
theorem Bk_one {H : Type} (d : DataW H) : 1 ≤ Bk d := by
  cases d with
  | lit l => cases l <;> simp [Bk, Rows.uptoBulk]
  | nil => simp [Bk, Rows.uptoBulk]
  | ptr d => simp [Bk, Rows.uptoBulk]
  | slice elems spare => simp [Bk, Rows.uptoBulk]
  | agg parts => simp [Bk, Rows.uptoBulk]
  | iface t d => simp [Bk, Rows.uptoBulk]
  | map entries => simp [Bk, Rows.uptoBulk]
  | held h => simp [Bk, Rows.uptoBulk]
theorem hB : Bulk @Bk @Bl where
  one := Bk_one
  str l := by simp [Bk, Rows.uptoBulk]
  slice e s := by simp only [Bk, Bl, Rows.uptoBulk]; omega
  agg l := by simp only [Bk, Bl, Rows.uptoBulk]; omega
  ptr d := by simp only [Bk, Rows.uptoBulk]; omega
  nil := rfl
  cons d l := rfl
theorem in_3 : In Try.prog Bk 3 (Kd.int .i64) (fun s => (Lit.int .i64 s).wf = true) (fun _ => 1) (fun _ => True) := in_int hB Try.underlying3 (by kernel_rfl)
theorem in_9 : In Try.prog Bk 9 Kd.str (fun s => s.size ≤ maxLen) (fun s => s.size + 1) (fun s => s.size ≤ 140737488355327) := in_str hB Try.underlying9 (by kernel_rfl)
theorem in_24 : In Try.prog Bk 24 (Kd.int .u64) (fun s => (Lit.int .u64 s).wf = true) (fun _ => 1) (fun _ => True) := in_int hB Try.underlying24 (by kernel_rfl)
def File.good (x : File) : Prop := ((Lit.int .i64 x.Number).wf = true) ∧ ((Lit.int .i64 x.Size).wf = true) ∧ (x.Least.size ≤ maxLen) ∧ (x.Limit.size ≤ maxLen) ∧ ((Lit.int .u64 x.Low).wf = true) ∧ ((Lit.int .u64 x.High).wf = true)
def File.szs (x : File) : Prop := (True) ∧ (True) ∧ (x.Least.size ≤ 140737488355327) ∧ (x.Limit.size ≤ 140737488355327) ∧ (True) ∧ (True)
def File.mz (x : File) : Nat := (1 + (1 + ((x.Least.size + 1) + ((x.Limit.size + 1) + (1 + 1))))) + 1
theorem in_43 : In Try.prog Bk 43 k_File File.good File.mz File.szs := by
  have h := in_struct hB Try.underlying43 (by kernel_rfl) (inF_cons hB in_3 rfl (inF_cons hB in_3 rfl (inF_cons hB in_9 rfl (inF_cons hB in_9 rfl (inF_cons hB in_24 rfl (inF_one hB in_24))))))
  exact h.map (fun x => ⟨x.1, x.2.1, x.2.2.1, x.2.2.2.1, x.2.2.2.2.1, x.2.2.2.2.2⟩) rfl (fun h => by obtain ⟨_, _, rfl, rfl, ⟨_, _, rfl, rfl, ⟨_, _, rfl, rfl, ⟨_, _, rfl, rfl, ⟨_, _, rfl, rfl, rfl⟩⟩⟩⟩⟩ := h; rfl) (fun a h => h) (fun a => Nat.le_refl _) (fun a h => h)
theorem bytes_43 : Try.prog.bytesOf 43 = 64 := by kernel_rfl
theorem in_39 : In Try.prog Bk 39 (Kd.slice 43 k_File) (fun l => (∀ y ∈ l, File.good y) ∧ l.length ≤ maxLen) (fun l => (l.map fun y => File.mz y).sum + 1) (fun l => l.length * 64 ≤ 140737488355327 ∧ ∀ y ∈ l, File.szs y) := by
  have h := in_slice hB Try.underlying39 (by kernel_rfl) in_43 (by decide)
  rw [bytes_43] at h
  exact h
theorem bytes_39 : Try.prog.bytesOf 39 = 24 := by kernel_rfl
theorem in_23 : In Try.prog Bk 23 (Kd.slice 39 (Kd.slice 43 k_File)) (fun l => (∀ y ∈ l, (∀ y1 ∈ y, File.good y1) ∧ y.length ≤ maxLen) ∧ l.length ≤ maxLen) (fun l => (l.map fun y => ((y.map fun y1 => File.mz y1).sum + 1)).sum + 1) (fun l => l.length * 24 ≤ 140737488355327 ∧ ∀ y ∈ l, (y.length * 64 ≤ 140737488355327 ∧ ∀ y1 ∈ y, File.szs y1)) := by
  have h := in_slice hB Try.underlying23 (by kernel_rfl) in_39 (by decide)
  rw [bytes_39] at h
  exact h
def Place.good (x : Place) : Prop := ((Lit.int .i64 x.Level).wf = true) ∧ ((Lit.int .i64 x.Number).wf = true)
def Place.szs (x : Place) : Prop := (True) ∧ (True)
def Place.mz (x : Place) : Nat := (1 + 1) + 1
theorem in_41 : In Try.prog Bk 41 k_Place Place.good Place.mz Place.szs := by
  have h := in_struct hB Try.underlying41 (by kernel_rfl) (inF_cons hB in_3 rfl (inF_one hB in_3))
  exact h.map (fun x => ⟨x.1, x.2⟩) rfl (fun h => by obtain ⟨_, _, rfl, rfl, rfl⟩ := h; rfl) (fun a h => h) (fun a => Nat.le_refl _) (fun a h => h)
theorem bytes_41 : Try.prog.bytesOf 41 = 16 := by kernel_rfl
theorem in_25 : In Try.prog Bk 25 (Kd.slice 41 k_Place) (fun l => (∀ y ∈ l, Place.good y) ∧ l.length ≤ maxLen) (fun l => (l.map fun y => Place.mz y).sum + 1) (fun l => l.length * 16 ≤ 140737488355327 ∧ ∀ y ∈ l, Place.szs y) := by
  have h := in_slice hB Try.underlying25 (by kernel_rfl) in_41 (by decide)
  rw [bytes_41] at h
  exact h
def Added.good (x : Added) : Prop := ((Lit.int .i64 x.Level).wf = true) ∧ (File.good x.File)
def Added.szs (x : Added) : Prop := (True) ∧ (File.szs x.File)
def Added.mz (x : Added) : Nat := (1 + File.mz x.File) + 1
theorem in_45 : In Try.prog Bk 45 k_Added Added.good Added.mz Added.szs := by
  have h := in_struct hB Try.underlying45 (by kernel_rfl) (inF_cons hB in_3 rfl (inF_one hB in_43))
  exact h.map (fun x => ⟨x.1, x.2⟩) rfl (fun h => by obtain ⟨_, _, rfl, rfl, rfl⟩ := h; rfl) (fun a h => h) (fun a => Nat.le_refl _) (fun a h => h)
theorem bytes_45 : Try.prog.bytesOf 45 = 72 := by kernel_rfl
theorem in_26 : In Try.prog Bk 26 (Kd.slice 45 k_Added) (fun l => (∀ y ∈ l, Added.good y) ∧ l.length ≤ maxLen) (fun l => (l.map fun y => Added.mz y).sum + 1) (fun l => l.length * 72 ≤ 140737488355327 ∧ ∀ y ∈ l, Added.szs y) := by
  have h := in_slice hB Try.underlying26 (by kernel_rfl) in_45 (by decide)
  rw [bytes_45] at h
  exact h
def Edit.good (x : Edit) : Prop := ((Lit.int .i64 x.Log).wf = true) ∧ ((Lit.int .i64 x.Next).wf = true) ∧ ((Lit.int .u64 x.Seq).wf = true) ∧ ((∀ y ∈ x.Gone, Place.good y) ∧ x.Gone.length ≤ maxLen) ∧ ((∀ y ∈ x.Come, Added.good y) ∧ x.Come.length ≤ maxLen)
def Edit.szs (x : Edit) : Prop := (True) ∧ (True) ∧ (True) ∧ ((x.Gone.length * 16 ≤ 140737488355327 ∧ ∀ y ∈ x.Gone, Place.szs y)) ∧ ((x.Come.length * 72 ≤ 140737488355327 ∧ ∀ y ∈ x.Come, Added.szs y))
def Edit.mz (x : Edit) : Nat := (1 + (1 + (1 + (((x.Gone.map fun y => Place.mz y).sum + 1) + ((x.Come.map fun y => Added.mz y).sum + 1))))) + 1
theorem in_28 : In Try.prog Bk 28 k_Edit Edit.good Edit.mz Edit.szs := by
  have h := in_struct hB Try.underlying28 (by kernel_rfl) (inF_cons hB in_3 rfl (inF_cons hB in_3 rfl (inF_cons hB in_24 rfl (inF_cons hB in_25 rfl (inF_one hB in_26)))))
  exact h.map (fun x => ⟨x.1, x.2.1, x.2.2.1, x.2.2.2.1, x.2.2.2.2⟩) rfl (fun h => h) (fun a h => h) (fun a => Nat.le_refl _) (fun a h => h)
end Go.Proofs.Ytbbepmmelpabbaa.Mo
