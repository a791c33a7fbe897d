/- Layer 47 and those below it: what the third form makes of the functions. -/
import Derived.Test.YtmjolmggelkjlaaGreatRows
import Derived.Test.YtmjolmggelkjlaaGreatMaf
import Derived.WalkKit
import Derived.WalkSpells
import Derived.WalkLawsBesides
import Derived.Lib.Hide
import Derived.Test.YtmjolmggelkjlaaGreatMaa
import Derived.Laws.BytesArg
import Derived.Laws.BitsAllLaws
namespace Go.Proofs.YtmjolmggelkjlaaGreat
set_option linter.unusedVariables false
set_option linter.unusedSimpArgs false
open Go.RowKit Ev
def gtL : List Hint := [([], [], []), ([], [], []), ([], [], []), ([0, 1, 4, 5, 6, 7, 8, 9, 20, 30, 55, 56, 57, 58, 59, 69], [4], [(0, [])]), ([0, 2, 3, 4, 5, 7, 8, 9,
  10, 13, 20, 21, 22, 23, 51, 53], [2], [(0, [3, 4, 5])]), ([0, 2, 3, 4, 6, 9, 14, 15, 16, 17, 27, 31, 54, 76], [2], [(0, [0, 3, 4])]), ([0, 1, 2, 3, 6, 7, 8, 9, 10, 11,
  12, 14, 34, 54, 55, 56, 57, 69, 73, 78, 83, 85], [6], [(0, [1, 2, 3, 7, 8, 9, 10, 11])]), ([0, 1, 2, 3, 6, 7, 8, 9, 10, 11, 29], [6], []), ([0, 1, 2, 3, 6, 7, 8, 9,
  10, 11, 12, 14, 15, 16, 34, 57, 67, 68, 69, 70, 71, 72, 95, 144], [6], [(0, [1, 3, 7, 9, 11]), (2, [0, 1, 2, 3, 6, 7, 8, 9, 10, 11, 12, 34, 57, 67])]), ([0, 1, 2, 3,
  6, 7, 8, 9, 10, 11, 12, 13, 24, 29, 30, 31, 55, 56, 86, 109], [6], [(0, [0, 1, 2, 3, 6, 7, 8, 24, 29, 30, 31]), (2, [3, 7, 10, 11, 12, 13])]), ([0, 1, 2, 3, 6, 7, 8,
  9, 10, 11, 12, 13, 14, 30, 35, 36, 37], [6], [(0, [3, 7, 8])]), ([0, 1, 2, 3, 6, 7, 8, 9, 10, 11, 12, 14, 15, 16, 34, 55, 63, 64, 65, 66, 67, 68, 83, 139, 142], [6],
  [(0, [1, 3, 7, 9, 11]), (2, [0, 1, 2, 3, 6, 7, 8, 9, 10, 11, 12, 34, 55, 63])]), ([0, 1, 2, 3, 4, 5], [0], []), ([0, 1, 4, 5, 6, 7, 8, 9, 10, 17, 30], [4, 5], []),
  ([0, 2], [2], []), ([0, 1, 4, 5, 6, 7, 8, 9, 13, 14, 15, 20, 61], [4], [(0, [6])]), ([0, 1, 4], [4], []), ([0, 1, 2], [2], []), ([0, 2, 3, 4, 6, 7, 8, 9, 10, 11, 12,
  21], [2, 3], [(0, [4])]), ([0, 1, 2, 3, 17, 19, 20, 30, 48], [2, 3], []), ([0, 1, 2, 4, 17, 18, 19, 20, 24, 28, 39, 58], [2], [(0, [1])]), ([0, 2, 3, 5, 6, 7, 8, 9,
  13, 14, 32, 55], [2], [(0, [0, 2, 3])]), ([0, 2], [2], []), ([0, 2], [2], []), ([0, 1, 2, 6, 7, 8, 10, 18, 19, 20, 21], [6], [(0, [7, 8])]), ([0, 2, 3, 5, 6, 7, 8, 9],
  [2], [(0, [3])]), ([0, 1, 4, 5, 6, 7, 8, 9, 10, 15, 16, 17, 23, 45, 64], [4], [(0, [4])]), ([0, 1, 2], [2], []), ([0, 1, 2, 3, 4, 5, 6], [0], []), ([0, 1, 2, 6, 7, 8,
  9, 22], [6, 7], []), ([0, 1, 2, 4, 5, 6, 9], [4], [(0, [2, 4])]), ([0, 2], [2], []), ([0, 2, 4], [2], []), ([0, 1, 2, 6], [6], []), ([0, 1, 2, 3, 5, 6, 7, 8, 9, 10,
  11, 13, 50, 57], [6], []), ([0, 2, 3, 5, 27], [2], []), ([0, 2, 4], [2], []), ([0, 2, 3, 12], [2], []), ([0, 2, 4], [2], []), ([0, 1, 4, 5, 13, 18, 23, 27], [4], [(0,
  [0, 5])]), ([0, 1, 4, 5, 19, 42], [4], []), ([0, 1, 2, 3, 6, 7, 42, 55], [6], []), ([0, 1, 2], [2], []), ([0, 1, 2, 3, 4, 5, 6], [0], []), ([0, 1, 4, 5, 6, 7, 15], [4,
  5], []), ([0, 1, 4, 6], [4], []), ([0, 2, 4], [2], []), ([0, 1, 4, 5, 7, 15, 41], [4], [(0, [0, 5])]), ([0, 2], [2], []), ([0, 2, 4], [2], []), ([0, 2, 4], [2], []),
  ([0, 2, 4], [2], []), ([0, 2, 3, 5, 13], [2], [(0, [3])]), ([0, 1, 4], [4], []), ([0, 1, 2, 3, 5, 6, 7, 8, 9, 10, 11, 12, 13, 15, 52, 80, 93, 97], [6], []), ([0, 2,
  4], [2], []), ([0, 1, 2, 4, 5, 6, 9], [4], [(0, [2, 4])]), ([0, 2, 4], [2], []), ([0, 2, 3, 5, 12], [2, 3], []), ([0, 2], [2], []), ([0, 2, 3, 4, 5, 6, 19, 34, 37, 41,
  49], [2, 3], []), ([0, 2, 3, 4, 8], [2], [(0, [3])]), ([0, 2], [2], []), ([0, 2, 3, 4, 8], [2], [(0, [3])]), ([0, 1, 2, 6, 7, 8, 9, 10, 11, 12, 13, 15, 16, 17, 22, 49,
  61, 71, 80], [6], [(0, [7])]), ([], [], []), ([], [], []), ([0, 1, 4, 6, 7, 8, 9, 10], [4], [(0, [0])]), ([], [], []), ([0, 1, 4, 6, 7, 8, 9, 10], [4], [(0, [0])]),
  ([0, 2, 3, 4, 5], [2], [(0, [3])]), ([0, 1, 4], [4], []), ([0, 2], [2], []), ([0, 1, 4, 5, 6, 8, 9, 12, 13, 14, 15, 27, 39, 40, 41, 55], [4], [(0, [5, 6]), (2, [0, 1,
  4, 5, 6, 12, 13, 14])]), ([0, 1, 4, 5], [4], []), ([0, 1, 2], [2], []), ([0, 2], [2], []), ([0, 2], [2], []), ([0, 1, 4, 5, 9], [4], []), ([0, 2, 3, 4, 5, 7, 8, 15,
  35, 47], [2], [(0, [])]), ([0, 1, 4, 5, 6, 7, 8, 9, 10, 11, 15, 16, 17, 23, 36, 41, 51, 59, 68, 72, 83], [4], [(0, [4])]), ([0, 1, 2, 6], [6], []), ([0, 2, 10], [2],
  []), ([0, 1, 4, 5, 6, 12], [4], []), ([0, 1, 4], [4], []), ([0, 2, 4], [2], []), ([0, 2, 4], [2], []), ([0, 2, 4], [2], []), ([0, 2, 3, 21, 27], [], []), ([0, 2, 3, 4,
  23, 43, 56, 61, 67], [2], []), ([0, 1, 4, 6], [4], []), ([0, 1, 4], [4], []), ([0, 1, 4, 5, 6, 12], [4], []), ([0, 2], [2], []), ([0], [], []), ([0, 23], [], []), ([0,
  1, 4, 5, 19], [4, 5], []), ([0, 2], [2], []), ([0, 2, 4], [2], []), ([0, 1, 4, 5, 6, 7, 8, 15, 32], [4, 5], []), ([0, 2, 3, 4, 5, 17], [2], []), ([0], [], []), ([0, 2,
  3, 39], [], []), ([0, 1, 4, 5, 6, 7, 8], [4], [(0, [5])]), ([0, 1, 4, 5, 6, 7, 8, 9, 11, 13, 16, 20, 27, 52, 56, 82], [4], []), ([0, 1, 2, 3, 4, 5, 8, 19, 30, 35], [2,
  3], []), ([], [], []), ([0, 2, 4], [2], []), ([0, 2, 3, 4, 7], [2], [(0, [3])]), ([0, 1, 2, 3, 4, 6, 7, 8, 11, 21], [2], [(0, [1, 3])]), ([0, 2], [2], []), ([0, 1, 2,
  3, 4, 6], [2], []), ([0, 2, 3, 4, 8], [2], [(0, [3])]), ([0, 2, 3, 6], [2], [(0, [3])]), ([0, 2, 6], [2], [(0, [0])]), ([0, 2, 3, 6], [2], []), ([0, 2, 3, 4, 5, 6, 18,
  30], [2, 3], []), ([0, 1], [], []), ([0, 2], [2], []), ([0, 2, 3, 5], [2], []), ([0, 1, 2, 3], [2], []), ([0, 2, 4], [2], []), ([0, 2], [2], []), ([0, 1, 4, 5, 9, 10,
  15, 20], [4, 5], []), ([0, 1, 2, 3, 4, 5, 6, 16, 23, 26], [2, 3], []), ([0, 1, 2, 4], [], []), ([0, 2, 4], [2], []), ([0, 1, 4], [4], []), ([0, 2, 3, 4, 5, 6, 9, 11,
  12, 17, 22, 24, 25, 32, 47], [2], [(0, [2, 3, 4]), (2, [0, 2, 3, 4, 9, 11])]), ([0, 1, 2, 6, 7, 8, 9, 10, 11, 12, 17, 31, 46, 65, 70, 86], [6], []), ([0, 1, 2, 6, 7,
  9, 10, 14, 15, 16, 17, 25], [6], [(0, [])]), ([0, 1, 4, 5, 6, 7, 8, 9, 10, 15, 26, 38, 56, 72], [4], [(0, [8])]), ([0, 1, 2, 6, 7, 8, 9, 11, 12, 26, 30, 31, 32, 33,
  41, 44, 48, 49, 50, 57, 68], [6, 7], [(0, [8, 9]), (2, [0, 1, 2, 6, 7, 8, 9, 12, 26, 30, 31, 32])]), ([0, 1, 4, 5, 6, 7, 9, 12, 14, 15, 16, 17, 27], [4, 5], [(0,
  [6])]), ([0, 2, 3, 4, 7, 10, 19, 22, 26, 27, 28], [2, 3], [(0, [4]), (2, [0, 2, 3, 4])]), ([0, 1, 4, 5, 6, 7, 12, 13, 14], [4], [(0, [6])]), ([], [], []), ([0, 2, 3,
  19], [2], [(0, [3])]), ([0, 1, 4, 5, 6, 7, 8, 10, 11, 12, 13, 30], [4], [(0, [4, 5])]), ([0, 2, 3, 4, 5, 6, 8, 10, 11, 12, 14, 15, 16, 17, 27, 38], [2], [(0, [3]), (2,
  [0, 2, 4, 5, 6, 10, 11])]), ([0, 2, 3, 4, 5, 6, 10], [2], [(0, [3])]), ([0, 1, 4, 5, 6, 7, 8, 9, 12, 17, 26], [4, 5], [(0, [6])]), ([0, 1, 4, 5, 6, 7, 9, 15, 16, 17,
  18, 19, 28, 30], [4, 5], [(0, [1, 6, 7])]), ([0, 2, 3, 4, 5, 6, 7, 8, 9, 10, 12, 13, 20, 26], [2], [(0, [3, 4]), (2, [0, 2, 3, 4, 6, 7, 9])]), ([0, 1, 4, 5, 6, 7, 9,
  10, 11, 22, 23, 24, 25, 38, 39, 40, 41], [4], [(0, [0, 1, 4, 5, 6, 7, 22, 23, 24, 25]), (2, [6])]), ([0, 1, 4], [4], []), ([0, 2, 4], [2], []), ([0, 1, 4, 5, 7, 24],
  [4], [(0, [0, 5])]), ([0, 2, 3, 5], [2], []), ([0, 1, 4, 5, 6, 12, 15, 19, 35], [4, 5], []), ([0, 1, 4, 6, 7, 8], [], [(0, [])]), ([0, 2, 3, 10, 17], [2], []), ([0, 1,
  4, 5, 6, 9, 13], [4, 5], []), ([0], [0], []), ([0], [0], []), ([0, 1, 4, 5, 6, 12, 16, 29, 37], [4], []), ([0, 1, 4, 5, 7, 9, 10, 13, 29, 30, 53], [4], []), ([0, 1, 4,
  5, 6, 22], [4, 5], []), ([0, 1, 4, 5, 6, 7, 13, 17], [4, 5], []), ([0, 1, 4, 5, 6, 7, 15], [4, 5], []), ([0, 2, 3, 4, 5, 10], [2, 3], []), ([0, 2, 3], [2], []), ([0,
  2, 3, 4, 5, 6, 7, 8, 11, 30, 35, 42, 52], [2], [(0, [2, 3, 6, 7])]), ([0, 1, 2, 6, 7, 8, 10, 11, 12, 21, 36], [6], [(0, [6, 7])]), ([0, 1, 4, 5, 6, 7, 8, 9, 10, 16],
  [4], [(0, [])]), ([0, 1, 2, 4, 5, 6, 7, 9, 20, 25, 40, 58, 71], [4], []), ([0, 2], [2], []), ([0, 1, 4], [4], []), ([0, 2], [2], []), ([0, 2, 3, 4, 5, 6, 7, 10, 11,
  12, 19], [2], [(0, [3]), (2, [0, 2, 3, 6])]), ([0, 1, 4], [4], []), ([0, 1, 2, 6, 7, 8], [6], []), ([0, 1, 4, 5, 9, 17], [4], [(0, [])]), ([0, 1, 4, 5, 9, 16], [4],
  [(0, [])]), ([0, 2, 3, 5, 8], [2], []), ([0, 1, 4, 5, 6, 7, 9, 10, 11, 12, 13, 14, 24, 25, 26, 27, 28, 29, 42, 43, 44, 46, 47, 48, 49, 58], [4], [(0, [4, 5]), (2, [0,
  1, 4, 5, 6, 7, 24, 25, 26, 27, 28, 29]), (4, [0, 1, 4, 5, 6, 7, 10, 24]), (6, [0, 1, 4, 5, 6, 7, 10, 12, 24, 25, 26, 27, 28, 29, 42, 43])]), ([0, 1, 4, 5, 6, 8, 9, 18,
  19, 20, 21], [4], [(0, [5])]), ([0, 2, 3, 4, 6, 7, 16, 17, 18, 19, 22, 23, 29, 36], [2], [(0, [3]), (2, [0, 2, 3, 6, 16, 17, 18])]), ([0, 2, 3, 4, 5, 6, 7, 12, 15, 16,
  17, 18, 24, 26, 27, 28, 29], [2], [(0, [3]), (2, [0, 2, 3, 4, 5]), (4, [0, 2, 3, 4, 5, 6, 12, 15, 16, 17])]), ([0, 2, 3, 4, 6], [2], [(0, [0])]), ([0, 2, 4], [2], []),
  ([0, 2, 3, 4, 21, 53, 73, 76], [], []), ([0, 2], [2], []), ([], [], []), ([0, 1, 5], [], []), ([0, 2, 3, 6], [2], []), ([0, 2, 4], [2], []), ([0, 1, 2, 3, 4, 5, 6, 11,
  12], [0], [(0, [0, 1]), (2, [0, 1, 2, 3, 5])]), ([0, 1, 4, 5, 6, 7, 10, 17, 22, 23, 24], [4, 5], [(1, [6])]), ([0, 2, 3, 9], [2, 3], []), ([0, 1, 4, 5, 6, 19, 33],
  [4], []), ([0, 2], [2], []), ([0, 2, 5], [2], []), ([0, 11], [], [(0, [])]), ([0, 1, 4, 5, 6, 8, 9, 10, 12, 18, 29, 51], [4], [(0, [5])]), ([0, 1, 2, 5, 6, 7], [],
  [(0, [])]), ([0, 2, 3, 13], [2], [(0, [3])]), ([0, 1, 4, 5, 6, 7, 10, 21, 26, 30, 35, 46, 52, 62], [4], [(0, [4, 6, 7])]), ([0, 2], [2], []), ([0, 1, 4], [4], []),
  ([0, 1, 2], [2], []), ([0, 2, 3, 4, 6, 7, 8, 9, 10, 14], [2], [(0, [3])]), ([0, 1, 4, 5, 6, 7, 8, 9, 11, 14, 15, 16, 18, 19, 20, 21, 27, 36], [4], [(0, [6]), (2, [0,
  1, 4, 5, 6, 8, 14, 15])]), ([0, 1, 4, 5, 6, 7, 8, 9], [4], [(0, [5])]), ([0, 2, 3, 4, 5, 6, 7, 8, 9, 10, 27], [2], [(0, [3])]), ([0, 1, 4, 5, 6, 7, 8, 9, 10, 11, 24],
  [4], [(0, [5])]), ([0, 2, 3, 5, 6, 7, 8, 9, 10, 14, 20, 21, 25], [2], [(0, [0, 2, 3, 7, 8, 9, 10]), (2, [])]), ([0, 1, 4, 5, 6, 7, 8, 13, 22, 34], [4], [(0, [0, 1, 4,
  5, 6, 7, 13]), (2, [5])]), ([0, 2, 4], [2], []), ([0, 2, 3, 4, 8, 9, 10], [], [(0, [])]), ([], [], []), ([], [], []), ([], [], []), ([], [], []), ([0, 1, 2, 6], [6],
  []), ([0, 1, 4, 5], [4], []), ([0, 1, 4, 5, 9, 18, 27, 48], [4], []), ([0, 1, 2, 6, 8, 9, 10, 11, 12, 22], [6], [(0, [])]), ([0, 2, 3, 5, 6, 7, 8, 9, 10, 14, 15, 16],
  [2], [(0, [3]), (2, [0, 2, 3, 6, 7, 8, 9])]), ([0, 2, 4, 6, 8, 10], [2], []), ([0, 1, 4, 5, 7, 8, 9, 10, 11, 16], [4], [(0, [5])]), ([0, 1, 4, 5, 6, 7, 8, 9, 10, 11,
  17, 18, 19], [4], [(0, [5]), (2, [0, 1, 4, 5, 8, 9, 10])]), ([0, 2, 3, 4, 5, 6, 7, 8, 9, 10, 11, 12, 13, 15, 18, 19, 20, 21, 39, 66, 67, 68, 69], [2], [(0, [0, 2, 3,
  4, 18, 19, 20, 21]), (2, [7]), (4, [0, 2, 3, 4, 7, 8, 10, 12, 13, 18, 19, 20, 21])]), ([0, 2, 3, 5, 6, 7, 8, 9, 13], [2], [(0, [3])]), ([], [], []), ([], [], []), ([],
  [], []), ([], [], []), ([0, 1, 4, 5, 7, 9, 13, 42], [4], []), ([0, 1, 4, 5, 6, 13], [4], []), ([0, 2], [2], []), ([0, 2, 3, 4, 10], [2], []), ([0, 1, 4, 5, 6, 24],
  [4], []), ([0, 2, 3, 27], [2], []), ([0, 2, 4], [2], []), ([0, 2, 3, 4, 5, 6, 7, 8, 9, 18], [2], [(0, [3])]), ([0, 1, 4, 5, 6, 7, 8, 9, 10, 11, 17], [4], [(0, [5])]),
  ([], [], []), ([0, 2, 3, 4, 5, 6, 15], [2, 3], []), ([0, 1, 4, 5, 7, 9], [4], []), ([0, 1, 4, 5, 6, 9], [4, 5], []), ([0, 1, 4, 5, 6, 7, 8, 9, 22, 34, 43, 64, 68], [4,
  5], []), ([0, 1, 4, 5, 6, 7, 19], [4], []), ([0, 2], [2], []), ([0, 1, 2, 3, 4], [4], []), ([0, 2, 3, 4, 5, 6, 8, 9, 10, 12, 13, 20, 23, 24, 25, 26, 35, 38, 39, 40,
  41, 54], [2, 3], [(0, [6]), (2, [0, 2, 3, 4, 5, 6, 20, 23, 24, 25])]), ([0, 1, 4, 5, 8], [4], []), ([0, 2, 3, 4, 5, 12], [2, 3], []), ([0, 1, 4, 5, 16], [4, 5], []),
  ([0, 2, 3, 6], [2, 3], []), ([0, 1, 4, 5], [4], []), ([0, 1, 4, 5, 6, 7, 8, 20, 40], [4, 5], []), ([0, 2], [2], []), ([0, 1, 4, 5, 6, 17], [4, 5], []), ([0, 2, 4],
  [2], []), ([0, 1, 4, 5, 6, 7, 8, 9, 26, 38], [4, 5], []), ([0, 1, 4, 5, 6, 7, 8, 17, 29, 36, 46, 56], [4, 5, 6], []), ([0, 2, 3, 4, 5, 6, 13], [2], [(0, [3])]), ([0,
  1, 2, 3, 4, 5, 6, 7, 8, 11], [2], [(0, [3])]), ([0, 2, 3, 6], [2, 3], []), ([0], [0], []), ([0, 2], [2], []), ([0, 2, 3, 5, 6, 7, 20], [2], [(0, [0])]), ([0, 1, 4, 5,
  6, 7, 8, 14, 24], [4, 5], []), ([0, 1, 4, 5, 6, 7, 8, 19, 32, 39], [4], []), ([0, 1, 4, 5, 6, 7, 18, 29], [4], []), ([0, 2], [2], []), ([0, 2, 3, 4, 5, 6, 7, 8, 9, 18,
  30, 51, 52, 53, 54, 60], [2, 3], [(1, [4]), (3, [0, 2, 3, 4, 5, 6, 9, 18])]), ([0, 2, 4], [2], []), ([0, 1, 4, 5, 20], [4], []), ([0, 2, 4], [2], []), ([0, 2], [2],
  []), ([0, 1, 2, 3, 4], [0], [(0, [0, 1])]), ([0, 1, 4, 5, 6, 7, 8, 9, 10, 12, 21, 51], [4, 5], [(0, [])]), ([0, 1, 4, 5, 6, 7, 11, 12, 13, 21, 24], [4], [(0, [0])]),
  ([0, 1, 4, 5, 6, 7, 8, 15, 29], [4], []), ([0, 1, 4, 5, 6, 7, 8, 13, 20, 32, 35, 55], [4], []), ([0, 2, 3, 4], [2], []), ([0, 1, 4, 5, 6, 14], [4], [(0, [0, 5])]),
  ([0, 2], [2], []), ([0, 2], [2], []), ([0, 1, 4, 7], [4], []), ([0, 2, 3, 4, 6, 14, 15, 16, 17, 18], [2, 3], [(0, [4])]), ([0, 1, 4], [4], []), ([0, 2], [2], []), ([0,
  1, 2, 4, 5, 6], [6], []), ([0, 1, 4, 5, 7, 8, 9, 16], [4], [(0, [])]), ([0, 1, 4], [4], []), ([0, 1, 2, 4], [4], []), ([0, 1, 4, 5, 7, 8, 9, 16], [4], [(0, [])]), ([],
  [], []), ([], [], []), ([], [], []), ([], [], []), ([], [], []), ([], [], []), ([], [], []), ([], [], []), ([], [], []), ([], [], []), ([], [], []), ([], [], []), ([],
  [], []), ([], [], []), ([], [], []), ([], [], []), ([], [], []), ([], [], []), ([], [], []), ([], [], []), ([], [], []), ([], [], []), ([], [], [])]
def gt (f : Nat) : Hint := gtL.getD f ([], [], [])
theorem okd : okDsts Tryz.prog = true := by kernel_rfl
abbrev ii (x : Int) : Value := .int .i64 x
abbrev i1 (x : Int) : Value := .int .u8 x
abbrev i3 (x : Int) : Value := .int .u32 x
abbrev i6 (x : Int) : Value := .int .u64 x
abbrev bT : Value := .bool true
abbrev bF : Value := .bool false
abbrev nP : Value := .pointer none
abbrev nS : Value := .slice none 0 0
abbrev RT := FuncId → Array Value → M Value
abbrev V := Value
abbrev KT := Ex → Fr → M Value
def pb : Nat → Nat → List Bool
  | 0, _ => []
  | l + 1, n => (Nat.beq (n % 2) 1) :: pb l (n / 2)
def zp : List Nat → List Value → Fr
  | [], _ => []
  | _, [] => []
  | a :: l, v :: m => (a, v) :: zp l m
noncomputable def cQ (f : Nat) (p : List Bool) (lf : Nat) (r : RT) : Fr → KT → M Value := fun s k => codeK Tryz.prog r (gt f) lf (codeAt (bodyOf Tryz.prog f) p) s k
noncomputable def tK (f : Nat) (p : List Bool) (lf : Nat) (r : RT) : KT := contAt Tryz.prog r (gt f) lf (bodyOf Tryz.prog f) p (endK Tryz.prog (resOf Tryz.prog f))
noncomputable def iK (f : Nat) (p q : List Bool) (s : List Nat) (fu : Nat) (K : KT) (lf : Nat) (r : RT) : KT := contAt Tryz.prog r (gt f) lf (codeAt (bodyOf Tryz.prog f) p) q (againK (fun x => loopK (cQ f p lf r) s fu (x.keep s) K) K)
theorem shOf {lf d : Nat} {f : FuncId} {a : Array Value} {b : RT → M Value} (s : ∀ r, evStep Tryz.prog gt lf r f a = b r) (h : KN.contains f = false) : evCall2 Tryz.prog gt lf (d + 1) f a = b (evCall2 Tryz.prog gt lf d) := by
  show (match KN.contains f with
    | true => _
    | false => evStep Tryz.prog gt lf (evCall2 Tryz.prog gt lf d) f a : M Value) = _
  rw [h]
  exact s _
theorem run_same {β : Type} {W : Nat → Prop} {n0 : Nat} {h : H} {n : Nat} {Q : β → H → Nat → Prop} {lf d : Nat} {f : FuncId} {vs : List Value} {v : Value} {W' : Nat → Prop} (s : Run W' n (evCall2 Tryz.prog gt lf d f ⟨vs⟩) h n fun v' h' n' => v' = v ∧ h' = h ∧ n' = n) (hn : n0 ≤ n) (hW : ∀ b, b < n → W' b → n0 ≤ b ∨ W b) {k : Value → M β} (x : Run W n0 (k v) h n Q) : Run W n0 (kcl (evCall2 Tryz.prog gt lf d) f vs k) h n Q := by
  refine run_call okd s hn hW fun v' h' n' _ _ hq => ?_
  obtain ⟨rfl, rfl, rfl⟩ := hq
  exact x
noncomputable section
def z33 : List Value := [(ii 0), (ii 0), (ii 0), (ii 0), (i3 0), (ii 0), (ii 0), (ii 0)]
def z34 : List Value := [(ii 0), (ii 0), (ii 0), (ii 0), (i3 0), (ii 0), (ii 0), (ii 0)]
def z43 : List Value := [(ii 0), (ii 0), (ii 0), (ii 0), (ii 0)]
def z51 : List Value := [(Value.string { data := #[] }), (ii 0)]
def z60 : List Value := [nP, (ii 0), (Value.string { data := #[] }), bF]
def z67 : List Value := [(ii 0), (ii 0)]
def z73 : List Value := [nS]
def z85 : List Value := [nP, (ii 0), (Value.string { data := #[] }), bF]
def z87 : List Value := [(ii 0), (ii 0)]
def z98 : List Value := [(Value.string { data := #[] }), nP, nP, nS, (ii 0), (i3 0)]
def z107 : List Value := [nP, nS]
def z120 : List Value := [(Value.string { data := #[] }), (Value.string { data := #[] })]
def z126 : List Value := [(Value.string { data := #[] }), (ii 0), (ii 0)]
def z132 : List Value := [(ii 0), (ii 0), bF, nP, nP, nP, bF, nS, bF, (ii 0), (ii 0)]
def z134 : List Value := [(Value.string { data := #[] }), (ii 0), (i3 0)]
def z139 : List Value := [(Value.string { data := #[] }), (ii 0), (i3 0), nP, nP, nP]
def z142 : List Value := [nP, (ii 0)]
def z144 : List Value := [nP, (ii 0), (Value.string { data := #[] }), bF]
def z150 : List Value := [(ii 0), (ii 0), (ii 0), (ii 0), nP, (Value.string { data := #[] }), (ii 0), (i3 0), (i3 0), bF, (ii 0)]
def z152 : List Value := [(Value.string { data := #[] }), (ii 0), (ii 0)]
def z157 : List Value := [(Value.string { data := #[] }), (ii 0), (i3 0)]
def z159 : List Value := [(Value.string { data := #[] }), (ii 0), (i3 0), (ii 0), (ii 0), (ii 0)]
def z168 : List Value := [(i1 0), (ii 0)]
def z171 : List Value := [(Value.string { data := #[] }), (ii 0)]
def z185 : List Value := [(Value.string { data := #[] }), (ii 0), (ii 0)]
def z188 : List Value := [nS, (ii 0), (ii 0), (ii 0)]
def z207 : List Value := [nP, (ii 0), bF, (i3 0), (ii 0), nS, bF, (ii 0)]
def z212 : List Value := [nP, nP, nP, (ii 0), (ii 0)]
def z224 : List Value := [nS, (ii 0), (ii 0), (ii 0), (ii 0)]
def z228 : List Value := [nS, (ii 0), (ii 0)]
def z233 : List Value := [(ii 0), (ii 0), (ii 0), nS, bF]
def z235 : List Value := [(ii 0), (ii 0), (ii 0), nS, bF, (ii 0), (ii 0), (ii 0)]
def z243 : List Value := [nS, nS]
def z252 : List Value := [(ii 0), nP, nS, nP, nS, (ii 0), bF, (ii 0)]
def z255 : List Value := [(i1 0), (ii 0)]
def z269 : List Value := [nS, (ii 0), (ii 0)]
def z280 : List Value := [(ii 0), (ii 0), (ii 0), (ii 0), (ii 0), (ii 0)]
def z282 : List Value := [(ii 0), (ii 0), (ii 0), (ii 0), (ii 0), (ii 0), (ii 0), (ii 0), nS, bF]
def z299 : List Value := [(ii 0), (ii 0), nS]
def z317 : List Value := [nS]
def z328 : List Value := [(ii 0), (ii 0), (ii 0), (ii 0), (ii 0), bF]
def z333 : List Value := [(ii 0), (ii 0), nS, bF]
theorem zr33 : z33 = [(ii 0), (ii 0), (ii 0), (ii 0), (i3 0), (ii 0), (ii 0), (ii 0)] := rfl
theorem zr34 : z34 = [(ii 0), (ii 0), (ii 0), (ii 0), (i3 0), (ii 0), (ii 0), (ii 0)] := rfl
theorem zr43 : z43 = [(ii 0), (ii 0), (ii 0), (ii 0), (ii 0)] := rfl
theorem zr51 : z51 = [(Value.string { data := #[] }), (ii 0)] := rfl
theorem zr60 : z60 = [nP, (ii 0), (Value.string { data := #[] }), bF] := rfl
theorem zr67 : z67 = [(ii 0), (ii 0)] := rfl
theorem zr73 : z73 = [nS] := rfl
theorem zr85 : z85 = [nP, (ii 0), (Value.string { data := #[] }), bF] := rfl
theorem zr87 : z87 = [(ii 0), (ii 0)] := rfl
theorem zr98 : z98 = [(Value.string { data := #[] }), nP, nP, nS, (ii 0), (i3 0)] := rfl
theorem zr107 : z107 = [nP, nS] := rfl
theorem zr120 : z120 = [(Value.string { data := #[] }), (Value.string { data := #[] })] := rfl
theorem zr126 : z126 = [(Value.string { data := #[] }), (ii 0), (ii 0)] := rfl
theorem zr132 : z132 = [(ii 0), (ii 0), bF, nP, nP, nP, bF, nS, bF, (ii 0), (ii 0)] := rfl
theorem zr134 : z134 = [(Value.string { data := #[] }), (ii 0), (i3 0)] := rfl
theorem zr139 : z139 = [(Value.string { data := #[] }), (ii 0), (i3 0), nP, nP, nP] := rfl
theorem zr142 : z142 = [nP, (ii 0)] := rfl
theorem zr144 : z144 = [nP, (ii 0), (Value.string { data := #[] }), bF] := rfl
theorem zr150 : z150 = [(ii 0), (ii 0), (ii 0), (ii 0), nP, (Value.string { data := #[] }), (ii 0), (i3 0), (i3 0), bF, (ii 0)] := rfl
theorem zr152 : z152 = [(Value.string { data := #[] }), (ii 0), (ii 0)] := rfl
theorem zr157 : z157 = [(Value.string { data := #[] }), (ii 0), (i3 0)] := rfl
theorem zr159 : z159 = [(Value.string { data := #[] }), (ii 0), (i3 0), (ii 0), (ii 0), (ii 0)] := rfl
theorem zr168 : z168 = [(i1 0), (ii 0)] := rfl
theorem zr171 : z171 = [(Value.string { data := #[] }), (ii 0)] := rfl
theorem zr185 : z185 = [(Value.string { data := #[] }), (ii 0), (ii 0)] := rfl
theorem zr188 : z188 = [nS, (ii 0), (ii 0), (ii 0)] := rfl
theorem zr207 : z207 = [nP, (ii 0), bF, (i3 0), (ii 0), nS, bF, (ii 0)] := rfl
theorem zr212 : z212 = [nP, nP, nP, (ii 0), (ii 0)] := rfl
theorem zr224 : z224 = [nS, (ii 0), (ii 0), (ii 0), (ii 0)] := rfl
theorem zr228 : z228 = [nS, (ii 0), (ii 0)] := rfl
theorem zr233 : z233 = [(ii 0), (ii 0), (ii 0), nS, bF] := rfl
theorem zr235 : z235 = [(ii 0), (ii 0), (ii 0), nS, bF, (ii 0), (ii 0), (ii 0)] := rfl
theorem zr243 : z243 = [nS, nS] := rfl
theorem zr252 : z252 = [(ii 0), nP, nS, nP, nS, (ii 0), bF, (ii 0)] := rfl
theorem zr255 : z255 = [(i1 0), (ii 0)] := rfl
theorem zr269 : z269 = [nS, (ii 0), (ii 0)] := rfl
theorem zr280 : z280 = [(ii 0), (ii 0), (ii 0), (ii 0), (ii 0), (ii 0)] := rfl
theorem zr282 : z282 = [(ii 0), (ii 0), (ii 0), (ii 0), (ii 0), (ii 0), (ii 0), (ii 0), nS, bF] := rfl
theorem zr299 : z299 = [(ii 0), (ii 0), nS] := rfl
theorem zr317 : z317 = [nS] := rfl
theorem zr328 : z328 = [(ii 0), (ii 0), (ii 0), (ii 0), (ii 0), bF] := rfl
theorem zr333 : z333 = [(ii 0), (ii 0), nS, bF] := rfl

def lpA_balerlaw47_InspectTexts (lf : Nat) (r : RT) : Nat→((V→V→V→M V) × (V→M V))→V→V→V→V→V→V→V→V→V→M V
  | 0, _, _, _, _, _, _, _, _, _, _ => .fail
  | fu + 1, k, a, b, c, d, e, f, g, h, i => kls i h fun j => ifV j (kiy 8 g i fun l => klg 8 l fun m => kal 33 z33 fun n => ksg 8 n m fun _ => klg 8 n fun l => kcl r 19
   [l] fun m => kex m 0 fun o => kex m 1 fun p => klg 8 n fun l => kcl r 17 [l] fun m => kcl r 20 [m] fun q => kne o q fun l => ifV l (k.2 bF) (keq p (ii 0) fun m => kne
   q (Value.string { data := #[] }) fun s => kbn m s fun t => ifV t (k.2 bF) (kne p (ii 0) fun u => ifV u (kne p (ii 1) fun v => ifV v (k.2 bF) (keq q (Value.string {
   data := #[] }) fun l => ifV l (keq d (ii 1) fun m => ifV m (keq c (Value.string { data := #[] }) fun s => ifV s (kcl r 12 [] fun t => k.2 t) (k.2 bF)) (k.2 bF)) (kad
   e q fun m => kad m (Value.string { data := #[10] }) fun s => kad i (ii 1) fun e => lpA_balerlaw47_InspectTexts lf r fu k a b c d s f g h e))) (keq q (Value.string {
   data := #[] }) fun l => ifV l (keq d (ii 1) fun m => ifV m (keq c (Value.string { data := #[] }) fun s => ifV s (kcl r 12 [] fun t => k.2 t) (k.2 bF)) (k.2 bF)) (kad
   e q fun m => kad m (Value.string { data := #[10] }) fun s => kad i (ii 1) fun e => lpA_balerlaw47_InspectTexts lf r fu k a b c d s f g h e))))) (k.1 c d e)
def sA_balerlaw47_InspectTexts : List Nat := [0, 2, 3, 4, 5, 13, 20, 21, 22]
def kcA_balerlaw47_InspectTexts (lf : Nat) (r : RT) : (V→V→V→M V) × (V→M V) := (fun a b c => keq b (ii 0) fun d => ifV d (keq a c fun e => ifV e (kcl r 12 [] fun f =>
  outK [f]) (outK [bF])) (outK [bF]), fun a => outK [a])
def b_balerlaw47_InspectTexts (lf : Nat) (r : RT) (a : V) : M V := kln a fun b => kgr b (ii 60) fun c => ifV c (kcl r 12 [] fun b => outK [b]) (kcl r 18 [a] fun b => kex
  b 0 fun d => kex b 1 fun e => kln a fun b => lpA_balerlaw47_InspectTexts lf r lf (kcA_balerlaw47_InspectTexts lf r) a bF d e (Value.string { data := #[] }) c a b (ii 0))
theorem lqA_balerlaw47_InspectTexts {lf : Nat} {r : RT} (K : KT) : ∀ fu, lpA_balerlaw47_InspectTexts lf r fu ((fun a b c => K (.exit 0) (zp [3, 4, 5] [a, b, c]), fun a
  => K .ret (zp [2] [a]))) = fun a b c d e f g h i => loopK (cQ 4 (pb 8 47) lf r) sA_balerlaw47_InspectTexts fu (zp sA_balerlaw47_InspectTexts [a, b, c, d, e, f, g, h, i]) K
  | 0 => by funext a b c d e f g h i; kernel_rfl
  | fu + 1 => by
    have ih := lqA_balerlaw47_InspectTexts (lf := lf) (r := r) K fu
    funext a b c d e f g h i
    rw [lpA_balerlaw47_InspectTexts]
    simp only [ih]
    kernel_rfl
theorem kqA_balerlaw47_InspectTexts {lf : Nat} {r : RT} : kcA_balerlaw47_InspectTexts lf r = ((fun a b c => (tK 4 (pb 7 47) lf r) (.exit 0) (zp [3, 4, 5] [a, b, c]), fun
  a => (tK 4 (pb 7 47) lf r) .ret (zp [2] [a]))) := by kernel_rfl
theorem st_balerlaw47_InspectTexts {lf : Nat} {r : RT} {a : V} : evStep Tryz.prog gt lf r 4 #[a] = inside (b_balerlaw47_InspectTexts lf r a) := by 
  unfold b_balerlaw47_InspectTexts
  simp only [kqA_balerlaw47_InspectTexts, lqA_balerlaw47_InspectTexts]
  kernel_rfl

def b_balerlaw47_nothing (lf : Nat) (r : RT)  : M V := kcl r 24 [(ii 9), (ii 24), (Value.string { data := #[] })] fun a => kcl r 13 [(ii 24), a] fun b => kex b 0 fun c
  => kex b 1 fun d => kcl r 18 [c] fun a => kex a 0 fun b => kex a 1 fun e => kcl r 21 [c] fun a => kal 43 z43 fun f => ksg 5 f a fun _ => keq d (ii 0) fun a => ifV a
  (keq e (ii 0) fun g => ifV g (keq b (Value.string { data := #[98, 101, 103, 105, 110, 32, 57, 32, 48, 32, 51, 50, 10, 101, 110, 100, 32, 48, 48, 48, 48, 48, 48, 48,
  48, 32, 51, 50, 32, 49, 49, 50, 10] }) fun h => ifV h (klg 5 f fun i => kbd z43 [(0, 1, (ii 1)), (4, 1, (ii 112))] fun j => kge [0, 0, 0, 0, 0] i j fun l => kpk l bT
  bF fun m => outK [m]) (outK [bF])) (outK [bF])) (outK [bF])
theorem st_balerlaw47_nothing {lf : Nat} {r : RT}  : evStep Tryz.prog gt lf r 12 #[] = inside (b_balerlaw47_nothing lf r) := by kernel_rfl

def lpA_inspect_Parts (lf : Nat) (r : RT) : Nat→(V→V→M V)→V→V→V→V→V→V→V→V→M V
  | 0, _, _, _, _, _, _, _, _, _ => .fail
  | fu + 1, k, a, b, c, d, e, f, g, h => kcl r 60 [g] fun i => kex i 0 fun j => kex i 1 fun l => ifV j (knn g fun i => kfa 3 i fun m => kld m fun n => k n l) (lpA_inspect_Parts lf r fu k a b c d e f g h)
def sA_inspect_Parts : List Nat := [0, 1, 4, 5, 6, 7, 8, 17]
def kcA_inspect_Parts (lf : Nat) (r : RT) : (V→V→M V) := fun a b => outK [a, b]
def b_inspect_Parts (lf : Nat) (r : RT) (a b : V) : M V := kcl r 58 [a] fun c => kex c 0 fun d => kex c 1 fun e => kne e (ii 0) fun c => ifV c (outK [nS, e]) (kcl r 59
  [b] fun f => kbd z98 [(0, 1, b), (1, 1, f), (2, 1, d)] fun g => kbx 98 g fun h => lpA_inspect_Parts lf r lf (kcA_inspect_Parts lf r) a b nS (ii 0) d e h c)
theorem lqA_inspect_Parts {lf : Nat} {r : RT} (K : KT) : ∀ fu, lpA_inspect_Parts lf r fu (fun a b => K .ret (zp [4, 5] [a, b])) = fun a b c d e f g h => loopK (cQ 13 (pb
  6 15) lf r) sA_inspect_Parts fu (zp sA_inspect_Parts [a, b, c, d, e, f, g, h]) K
  | 0 => by funext a b c d e f g h; kernel_rfl
  | fu + 1 => by
    have ih := lqA_inspect_Parts (lf := lf) (r := r) K fu
    funext a b c d e f g h
    rw [lpA_inspect_Parts]
    simp only [ih]
    kernel_rfl
theorem kqA_inspect_Parts {lf : Nat} {r : RT} : kcA_inspect_Parts lf r = (fun a b => (tK 13 (pb 5 15) lf r) .ret (zp [4, 5] [a, b])) := by kernel_rfl
theorem st_inspect_Parts {lf : Nat} {r : RT} {a b : V} : evStep Tryz.prog gt lf r 13 #[a, b] = inside (b_inspect_Parts lf r a b) := by 
  unfold b_inspect_Parts
  simp only [kqA_inspect_Parts, lqA_inspect_Parts]
  kernel_rfl

def b_balerlaw47_ref (lf : Nat) (r : RT) (a : V) : M V := kbx 33 a fun b => kal 34 z34 fun c => kfa 0 b fun d => kld d fun e => kfa 1 b fun f => kld f fun g => kfa 2 b
  fun h => kld h fun i => kfa 3 b fun j => kld j fun l => kfa 4 b fun m => kld m fun n => kfa 5 b fun o => kld o fun p => kfa 6 b fun q => kld q fun s => kfa 7 b fun t
  => kld t fun u => kbd z34 [(0, 1, e), (1, 1, g), (2, 1, i), (3, 1, l), (4, 1, n), (5, 1, p), (6, 1, s), (7, 1, u)] fun v => ksg 8 c v fun _ => klg 8 c fun a => outK [a]
theorem st_balerlaw47_ref {lf : Nat} {r : RT} {a : V} : evStep Tryz.prog gt lf r 17 #[a] = inside (b_balerlaw47_ref lf r a) := by kernel_rfl

def b_inspect_Line (lf : Nat) (r : RT) (a : V) : M V := kbx 33 a fun b => kfa 1 b fun c => kld c fun d => kfa 2 b fun e => kld e fun f => kfa 3 b fun g => kld g fun h =>
  kfa 5 b fun i => kld i fun j => kfa 6 b fun l => kld l fun m => kfa 7 b fun n => kld n fun o => km6 d f h j m o fun p => kls p (ii 0) fun q => ifV q (outK
  [(Value.string { data := #[] }), (ii 1)]) (kfa 0 b fun c => kld c fun d => keq d (ii 1) fun c => ifV c (kfa 1 b fun e => kld e fun f => kfa 2 b fun g => kld g fun h =>
  kfa 3 b fun i => kld i fun j => kbs 3 (catV [(ii 0)] 3) 3 [(0, 1, f), (1, 1, h), (2, 1, j)] fun l => kcl r 67 [(Value.string { data := #[98, 101, 103, 105, 110] }), l]
  fun m => outK [m, (ii 0)]) (keq d (ii 2) fun e => ifV e (kfa 4 b fun f => (timed (kld f M.ret)).bind fun g => (timed (kcl r 68 [g.1] M.ret)).bind fun h => kad
  (Value.string { data := #[98, 108, 111, 99, 107, 32] }) h.1 fun i => kfa 5 b fun j => (timed (kld j M.ret)).bind fun l => kfa 6 b fun m => (timed (kld m M.ret)).bind
  fun n => kfa 7 b fun o => (timed (kld o M.ret)).bind fun p => kfa 2 b fun s => (timed (kld s M.ret)).bind fun t => kfa 3 b fun u => (timed (kld u M.ret)).bind fun v =>
  (timed (kbs 3 (catV [(ii 0)] 5) 5 [(0, 1, l.1), (1, 1, n.1), (2, 1, p.1), (3, 1, t.1), (4, 1, v.1)] M.ret)).bind fun w => (timed (kcl r 67 [i, w.1] M.ret)).bind fun x
  => chkT ((!(clash3 h.2 l.2) && (!(clash3 h.2 n.2) && (!(clash3 h.2 p.2) && (!(clash3 h.2 t.2) && (!(clash3 h.2 v.2) && (!(clash3 h.2 w.2) && true)))))) && true) (outK
  [x.1, (ii 0)])) (keq d (ii 3) fun f => ifV f (kfa 4 b fun g => (timed (kld g M.ret)).bind fun h => (timed (kcl r 68 [h.1] M.ret)).bind fun i => kad (Value.string {
  data := #[101, 110, 100, 32] }) i.1 fun j => kfa 2 b fun l => (timed (kld l M.ret)).bind fun m => kfa 3 b fun n => (timed (kld n M.ret)).bind fun o => (timed (kbs 3
  (catV [(ii 0)] 2) 2 [(0, 1, m.1), (1, 1, o.1)] M.ret)).bind fun p => (timed (kcl r 67 [j, p.1] M.ret)).bind fun s => chkT ((!(clash3 i.2 m.2) && (!(clash3 i.2 o.2) &&
  (!(clash3 i.2 p.2) && true))) && true) (outK [s.1, (ii 0)])) (outK [(Value.string { data := #[] }), (ii 1)]))))
theorem st_inspect_Line {lf : Nat} {r : RT} {a : V} : evStep Tryz.prog gt lf r 19 #[a] = inside (b_inspect_Line lf r a) := by kernel_rfl

def lpA_balerref47_Line (lf : Nat) (r : RT) : Nat→((V→M V) × (V→M V))→V→V→V→V→V→V→M V
  | 0, _, _, _, _, _, _, _ => .fail
  | fu + 1, k, a, b, c, d, e, f => kls f e fun g => ifV g (kix d f fun h => kld h fun i => kls i (ii 0) fun h => ifV h (k.2 (Value.string { data := #[] })) (kad f (ii 1)
   fun j => lpA_balerref47_Line lf r fu k a b c d e j)) (k.1 b)
def sA_balerref47_Line : List Nat := [0, 1, 2, 17, 18, 19]
def kcA_balerref47_Line (lf : Nat) (r : RT) : (V→M V) × (V→M V) := (fun a => kfa 0 a fun b => kld b fun c => keq c (ii 1) fun d => ifV d (kfa 1 a fun b => kld b fun c =>
  kfa 2 a fun e => kld e fun f => kfa 3 a fun g => kld g fun h => kbs 3 (catV [(ii 0)] 3) 3 [(0, 1, c), (1, 1, f), (2, 1, h)] fun i => kcl r 69 [(Value.string { data :=
  #[98, 101, 103, 105, 110] }), i] fun j => outK [j]) (kfa 0 a fun b => kld b fun c => keq c (ii 2) fun e => ifV e (kfa 4 a fun b => (timed (kld b M.ret)).bind fun c =>
  (timed (kcl r 70 [c.1] M.ret)).bind fun f => kad (Value.string { data := #[98, 108, 111, 99, 107, 32] }) f.1 fun g => kfa 5 a fun h => (timed (kld h M.ret)).bind fun i
  => kfa 6 a fun j => (timed (kld j M.ret)).bind fun l => kfa 7 a fun m => (timed (kld m M.ret)).bind fun n => kfa 2 a fun o => (timed (kld o M.ret)).bind fun p => kfa 3
  a fun q => (timed (kld q M.ret)).bind fun s => (timed (kbs 3 (catV [(ii 0)] 5) 5 [(0, 1, i.1), (1, 1, l.1), (2, 1, n.1), (3, 1, p.1), (4, 1, s.1)] M.ret)).bind fun t
  => (timed (kcl r 69 [g, t.1] M.ret)).bind fun u => chkT ((!(clash3 f.2 i.2) && (!(clash3 f.2 l.2) && (!(clash3 f.2 n.2) && (!(clash3 f.2 p.2) && (!(clash3 f.2 s.2) &&
  (!(clash3 f.2 t.2) && true)))))) && true) (outK [u.1])) (kfa 0 a fun b => kld b fun c => keq c (ii 3) fun f => ifV f (kfa 4 a fun b => (timed (kld b M.ret)).bind fun c
  => (timed (kcl r 70 [c.1] M.ret)).bind fun g => kad (Value.string { data := #[101, 110, 100, 32] }) g.1 fun h => kfa 2 a fun i => (timed (kld i M.ret)).bind fun j =>
  kfa 3 a fun l => (timed (kld l M.ret)).bind fun m => (timed (kbs 3 (catV [(ii 0)] 2) 2 [(0, 1, j.1), (1, 1, m.1)] M.ret)).bind fun n => (timed (kcl r 69 [h, n.1]
  M.ret)).bind fun o => chkT ((!(clash3 g.2 j.2) && (!(clash3 g.2 m.2) && (!(clash3 g.2 n.2) && true))) && true) (outK [o.1])) (outK [(Value.string { data := #[] })]))), fun a => outK [a])
def b_balerref47_Line (lf : Nat) (r : RT) (a : V) : M V := kbx 34 a fun b => kfa 1 b fun c => kld c fun d => kfa 2 b fun e => kld e fun f => kfa 3 b fun g => kld g fun h
  => kfa 5 b fun i => kld i fun j => kfa 6 b fun l => kld l fun m => kfa 7 b fun n => kld n fun o => kbs 3 (catV [(ii 0)] 6) 6 [(0, 1, d), (1, 1, f), (2, 1, h), (3, 1,
  j), (4, 1, m), (5, 1, o)] fun p => kln p fun q => lpA_balerref47_Line lf r lf (kcA_balerref47_Line lf r) a b (Value.string { data := #[] }) p q (ii 0)
theorem lqA_balerref47_Line {lf : Nat} {r : RT} (K : KT) : ∀ fu, lpA_balerref47_Line lf r fu ((fun a => K (.exit 0) (zp [1] [a]), fun a => K .ret (zp [2] [a]))) = fun a
  b c d e f => loopK (cQ 20 (pb 5 5) lf r) sA_balerref47_Line fu (zp sA_balerref47_Line [a, b, c, d, e, f]) K
  | 0 => by funext a b c d e f; kernel_rfl
  | fu + 1 => by
    have ih := lqA_balerref47_Line (lf := lf) (r := r) K fu
    funext a b c d e f
    rw [lpA_balerref47_Line]
    simp only [ih]
    kernel_rfl
theorem kqA_balerref47_Line {lf : Nat} {r : RT} : kcA_balerref47_Line lf r = ((fun a => (tK 20 (pb 4 5) lf r) (.exit 0) (zp [1] [a]), fun a => (tK 20 (pb 4 5) lf r) .ret (zp [2] [a]))) := by kernel_rfl
theorem st_balerref47_Line {lf : Nat} {r : RT} {a : V} : evStep Tryz.prog gt lf r 20 #[a] = inside (b_balerref47_Line lf r a) := by 
  unfold b_balerref47_Line
  simp only [kqA_balerref47_Line, lqA_balerref47_Line]
  kernel_rfl

def lpA_inspect_Count (lf : Nat) (r : RT) : Nat→(V→V→V→M V)→V→V→V→V→V→V→M V
  | 0, _, _, _, _, _, _, _ => .fail
  | fu + 1, k, a, b, c, d, e, f => kls f e fun g => ifV g (kiy 8 d f fun h => klg 8 h fun i => kal 33 z33 fun j => ksg 8 j i fun _ => kfa 0 j fun h => kld h fun i => keq
   i (ii 2) fun h => (fun l => ifV h (kfa 1 c fun m => kld m fun n => kad n (ii 1) fun o => kfa 1 c fun p => kst p o fun _ => kfa 2 c fun m => kld m fun n => kfa 6 j fun
   o => kld o fun p => kcl r 71 [n, p] fun q => kfa 2 c fun s => kst s q fun _ => kfa 3 c fun m => kld m fun n => kfa 7 j fun o => kld o fun p => kcl r 71 [n, p] fun q
   => kfa 3 c fun s => kst s q fun _ => l) (keq i (ii 3) fun m => ifV m (kfa 0 c fun n => kld n fun o => kad o (ii 1) fun p => kfa 0 c fun q => kst q p fun _ => l) (l)))
   (kad f (ii 1) fun l => lpA_inspect_Count lf r fu k a b c d e l)) (k a b c)
def sA_inspect_Count : List Nat := [0, 2, 3, 6, 7, 8]
def kcA_inspect_Count (lf : Nat) (r : RT) : (V→V→V→M V) := fun a b c => kln a fun d => kgr d (ii 0) fun e => ifV e (kln a fun f => ksb f (ii 1) fun g => kiy 8 a g fun h
  => kfa 3 h fun i => kld i fun j => kiy 8 a (ii 0) fun l => kfa 2 l fun m => kld m fun n => kgr j n fun o => ifV o (kln a fun d => ksb d (ii 1) fun e => kiy 8 a e fun f
  => kfa 3 f fun g => kld g fun h => kiy 8 a (ii 0) fun i => kfa 2 i fun j => kld j fun l => ksb h l fun m => kfa 4 c fun n => kst n m fun _ => klg 5 c fun d => ksg 5 b
  d fun _ => klg 5 b fun a => outK [a]) (klg 5 c fun d => ksg 5 b d fun _ => klg 5 b fun a => outK [a])) (klg 5 c fun d => ksg 5 b d fun _ => klg 5 b fun a => outK [a])
def b_inspect_Count (lf : Nat) (r : RT) (a : V) : M V := kal 43 z43 fun b => kal 43 z43 fun c => kln a fun d => lpA_inspect_Count lf r lf (kcA_inspect_Count lf r) a b c a d (ii 0)
theorem lqA_inspect_Count {lf : Nat} {r : RT} (K : KT) : ∀ fu, lpA_inspect_Count lf r fu (fun a b c => K (.exit 0) (zp [0, 2, 3] [a, b, c])) = fun a b c d e f => loopK
  (cQ 21 (pb 6 11) lf r) sA_inspect_Count fu (zp sA_inspect_Count [a, b, c, d, e, f]) K
  | 0 => by funext a b c d e f; kernel_rfl
  | fu + 1 => by
    have ih := lqA_inspect_Count (lf := lf) (r := r) K fu
    funext a b c d e f
    rw [lpA_inspect_Count]
    simp only [ih]
    kernel_rfl
theorem kqA_inspect_Count {lf : Nat} {r : RT} : kcA_inspect_Count lf r = (fun a b c => (tK 21 (pb 5 11) lf r) (.exit 0) (zp [0, 2, 3] [a, b, c])) := by kernel_rfl
theorem st_inspect_Count {lf : Nat} {r : RT} {a : V} : evStep Tryz.prog gt lf r 21 #[a] = inside (b_inspect_Count lf r a) := by 
  unfold b_inspect_Count
  simp only [kqA_inspect_Count, lqA_inspect_Count]
  kernel_rfl

def lpA_balerref21_With (lf : Nat) (r : RT) : Nat→(V→V→M V)→V→V→V→V→V→V→V→V→V→M V
  | 0, _, _, _, _, _, _, _, _, _, _ => .fail
  | fu + 1, k, a, b, c, d, e, f, g, h, i => kls i h fun j => ifV j (kiy 2 g i fun l => klg 2 l fun m => kal 120 z120 fun n => ksg 2 n m fun _ => kad e (Value.string {
   data := #[48, 48, 49, 49, 48, 48, 48, 49, 48, 49, 48, 48, 48, 48, 48, 49, 48, 49, 48, 49, 49, 48, 48, 49, 48, 48, 49, 48, 48, 49, 49, 48, 48, 49, 48, 49, 48, 48, 49,
   49, 48, 49, 48, 49, 49, 48, 48, 49] }) fun l => kfa 0 n fun m => (timed (kld m M.ret)).bind fun o => (timed (klg 2 n M.ret)).bind fun p => (timed (kcl r 75 [p.1]
   M.ret)).bind fun q => (timed (kcl r 74 [o.1, q.1] M.ret)).bind fun s => kad l s.1 fun t => chkT ((!(clash3 o.2 q.2) && true) && true) (klg 2 n fun e => kcl r 75 [e]
   fun l => kb1 31 1 l fun m => kap 31 1 f m fun o => kad i (ii 1) fun e => lpA_balerref21_With lf r fu k a b c d t o g h e)) (k e f)
def sA_balerref21_With : List Nat := [0, 1, 2, 6, 7, 8, 18, 19, 20]
def kcA_balerref21_With (lf : Nat) (r : RT) : (V→V→M V) := fun a b => kcl r 77 [b] fun c => kad a c fun d => kcl r 76 [d] fun e => outK [e]
def b_balerref21_With (lf : Nat) (r : RT) (a b c : V) : M V := kcl r 72 [a] fun d => kml a b fun e => ksb e (ii 19) fun f => kcl r 73 [c, f] fun g => kln g fun h =>
  lpA_balerref21_With lf r lf (kcA_balerref21_With lf r) a b c (Value.string { data := #[] }) d nS g h (ii 0)
theorem lqA_balerref21_With {lf : Nat} {r : RT} (K : KT) : ∀ fu, lpA_balerref21_With lf r fu (fun a b => K (.exit 0) (zp [7, 8] [a, b])) = fun a b c d e f g h i => loopK
  (cQ 24 (pb 7 23) lf r) sA_balerref21_With fu (zp sA_balerref21_With [a, b, c, d, e, f, g, h, i]) K
  | 0 => by funext a b c d e f g h i; kernel_rfl
  | fu + 1 => by
    have ih := lqA_balerref21_With (lf := lf) (r := r) K fu
    funext a b c d e f g h i
    rw [lpA_balerref21_With]
    simp only [ih]
    kernel_rfl
theorem kqA_balerref21_With {lf : Nat} {r : RT} : kcA_balerref21_With lf r = (fun a b => (tK 24 (pb 6 23) lf r) (.exit 0) (zp [7, 8] [a, b])) := by kernel_rfl
theorem st_balerref21_With {lf : Nat} {r : RT} {a b c : V} : evStep Tryz.prog gt lf r 24 #[a, b, c] = inside (b_balerref21_With lf r a b c) := by 
  unfold b_balerref21_With
  simp only [kqA_balerref21_With, lqA_balerref21_With]
  kernel_rfl

def lpA_balerref02_Stream (lf : Nat) (r : RT) : Nat→(V→M V)→V→V→V→V→V→V→M V
  | 0, _, _, _, _, _, _, _ => .fail
  | fu + 1, k, a, b, c, d, e, f => kls f e fun g => ifV g (kix d f fun h => kld h fun i => kcl r 78 [c, i] fun h => kad f (ii 1) fun c => lpA_balerref02_Stream lf r fu k a b h d e c) (k c)
def sA_balerref02_Stream : List Nat := [0, 2, 3, 6, 7, 8]
def kcA_balerref02_Stream (lf : Nat) (r : RT) : (V→M V) := fun a => outK [a]
def b_balerref02_Stream (lf : Nat) (r : RT) (a : V) : M V := kln a fun b => lpA_balerref02_Stream lf r lf (kcA_balerref02_Stream lf r) a (i3 0) (i3 0) a b (ii 0)
theorem lqA_balerref02_Stream {lf : Nat} {r : RT} (K : KT) : ∀ fu, lpA_balerref02_Stream lf r fu (fun a => K (.exit 0) (zp [3] [a])) = fun a b c d e f => loopK (cQ 25
  (pb 6 11) lf r) sA_balerref02_Stream fu (zp sA_balerref02_Stream [a, b, c, d, e, f]) K
  | 0 => by funext a b c d e f; kernel_rfl
  | fu + 1 => by
    have ih := lqA_balerref02_Stream (lf := lf) (r := r) K fu
    funext a b c d e f
    rw [lpA_balerref02_Stream]
    simp only [ih]
    kernel_rfl
theorem kqA_balerref02_Stream {lf : Nat} {r : RT} : kcA_balerref02_Stream lf r = (fun a => (tK 25 (pb 5 11) lf r) (.exit 0) (zp [3] [a])) := by kernel_rfl
theorem st_balerref02_Stream {lf : Nat} {r : RT} {a : V} : evStep Tryz.prog gt lf r 25 #[a] = inside (b_balerref02_Stream lf r a) := by 
  unfold b_balerref02_Stream
  simp only [kqA_balerref02_Stream, lqA_balerref02_Stream]
  kernel_rfl

def lpA_balerref25_Digits (lf : Nat) (r : RT) : Nat→(V→M V)→V→V→V→V→M V
  | 0, _, _, _, _, _ => .fail
  | fu + 1, k, a, b, c, d => kgq a (ii 10) fun e => ifV e (kqu a (ii 10) fun f => krm f (ii 10) fun a => krm f (ii 10) fun g => kad g (ii 1) fun h => ksx (Value.string {
   data := #[48, 49, 50, 51, 52, 53, 54, 55, 56, 57] }) (some a) (some h) fun i => kad i c fun j => lpA_balerref25_Digits lf r fu k f b j d) (k c)
def sA_balerref25_Digits : List Nat := [0, 2, 3, 5]
def kcA_balerref25_Digits (lf : Nat) (r : RT) : (V→M V) := fun a => outK [a]
def b_balerref25_Digits (lf : Nat) (r : RT) (a : V) : M V := kls a (ii 0) fun b => (fun c => ifV b (c (ii 0)) (c a)) fun a => krm a (ii 10) fun c => krm a (ii 10) fun d
  => kad d (ii 1) fun e => ksx (Value.string { data := #[48, 49, 50, 51, 52, 53, 54, 55, 56, 57] }) (some c) (some e) fun f => lpA_balerref25_Digits lf r lf
  (kcA_balerref25_Digits lf r) a (Value.string { data := #[] }) f b
theorem lqA_balerref25_Digits {lf : Nat} {r : RT} (K : KT) : ∀ fu, lpA_balerref25_Digits lf r fu (fun a => K (.exit 0) (zp [3] [a])) = fun a b c d => loopK (cQ 52 (pb 6
  7) lf r) sA_balerref25_Digits fu (zp sA_balerref25_Digits [a, b, c, d]) K
  | 0 => by funext a b c d; kernel_rfl
  | fu + 1 => by
    have ih := lqA_balerref25_Digits (lf := lf) (r := r) K fu
    funext a b c d
    rw [lpA_balerref25_Digits]
    simp only [ih]
    kernel_rfl
theorem kqA_balerref25_Digits {lf : Nat} {r : RT} : kcA_balerref25_Digits lf r = (fun a => (tK 52 (pb 5 7) lf r) (.exit 0) (zp [3] [a])) := by kernel_rfl
theorem st_balerref25_Digits {lf : Nat} {r : RT} {a : V} : evStep Tryz.prog gt lf r 52 #[a] = inside (b_balerref25_Digits lf r a) := by 
  unfold b_balerref25_Digits
  simp only [kqA_balerref25_Digits, lqA_balerref25_Digits]
  kernel_rfl

def b_unstream_New (lf : Nat) (r : RT) (a : V) : M V := kcl r 96 [(ii 1), a] fun b => kex b 0 fun c => kex b 1 fun d => kne d (ii 0) fun b => ifV b (outK [nP, d]) (kbd
  z150 [(0, 1, a)] fun c => kbx 150 c fun e => outK [e, (ii 0)])
theorem st_unstream_New {lf : Nat} {r : RT} {a : V} : evStep Tryz.prog gt lf r 58 #[a] = inside (b_unstream_New lf r a) := by kernel_rfl

def b_bits_NewReader (lf : Nat) (r : RT) (a : V) : M V := kbd z152 [(0, 1, a)] fun b => kbx 152 b fun c => outK [c]
theorem st_bits_NewReader {lf : Nat} {r : RT} {a : V} : evStep Tryz.prog gt lf r 59 #[a] = inside (b_bits_NewReader lf r a) := by kernel_rfl

def b_inspect_reader_step (lf : Nat) (r : RT) (a : V) : M V := knn a fun b => kfa 2 b fun c => kld c fun d => kcl r 97 [d] fun e => ifV e (knn a fun f => kfa 1 f fun g
  => kld g fun h => kcl r 98 [h] fun i => keq i (ii 0) fun j => ifV j (outK [bT, (ii 0)]) (knn a fun b => kfa 2 b fun c => kld c fun d => knn a fun e => kfa 1 e fun f =>
  kld f fun g => kcl r 99 [d, g] fun h => kex h 0 fun i => kex h 1 fun l => keq l (ii 3) fun b => ifV b (outK [bT, (ii 24)]) (kne l (ii 0) fun c => ifV c (outK [bT, l])
  (keq i (ii 1) fun d => ifV d (kcl r 100 [a] fun e => kne e (ii 0) fun f => outK [f, e]) (keq i (ii 2) fun e => ifV e (kcl r 101 [a] fun f => outK [bF, (ii 0)]) (kcl r
  102 [a] fun f => outK [bF, (ii 0)])))))) (knn a fun b => kfa 2 b fun c => kld c fun d => knn a fun e => kfa 1 e fun f => kld f fun g => kcl r 99 [d, g] fun h => kex h
  0 fun i => kex h 1 fun j => keq j (ii 3) fun b => ifV b (outK [bT, (ii 24)]) (kne j (ii 0) fun c => ifV c (outK [bT, j]) (keq i (ii 1) fun d => ifV d (kcl r 100 [a]
  fun e => kne e (ii 0) fun f => outK [f, e]) (keq i (ii 2) fun e => ifV e (kcl r 101 [a] fun f => outK [bF, (ii 0)]) (kcl r 102 [a] fun f => outK [bF, (ii 0)])))))
theorem st_inspect_reader_step {lf : Nat} {r : RT} {a : V} : evStep Tryz.prog gt lf r 60 #[a] = inside (b_inspect_reader_step lf r a) := by kernel_rfl

def lpA_balerref01_Bits (lf : Nat) (r : RT) : Nat→(V→M V)→V→V→V→V→M V
  | 0, _, _, _, _, _ => .fail
  | fu + 1, k, a, b, c, d => klx a fun e => kls d e fun f => ifV f (kit a d fun e => kcv .u32 e fun g => kcl r 103 [g, (ii 8)] fun h => kad c h fun i => kad d (ii 1) fun
   c => lpA_balerref01_Bits lf r fu k a b i c) (k c)
def sA_balerref01_Bits : List Nat := [0, 2, 3, 4]
def kcA_balerref01_Bits (lf : Nat) (r : RT) : (V→M V) := fun a => outK [a]
def b_balerref01_Bits (lf : Nat) (r : RT) (a : V) : M V := lpA_balerref01_Bits lf r lf (kcA_balerref01_Bits lf r) a (Value.string { data := #[] }) (Value.string { data := #[] }) (ii 0)
theorem lqA_balerref01_Bits {lf : Nat} {r : RT} (K : KT) : ∀ fu, lpA_balerref01_Bits lf r fu (fun a => K (.exit 0) (zp [3] [a])) = fun a b c d => loopK (cQ 61 (pb 6 11)
  lf r) sA_balerref01_Bits fu (zp sA_balerref01_Bits [a, b, c, d]) K
  | 0 => by funext a b c d; kernel_rfl
  | fu + 1 => by
    have ih := lqA_balerref01_Bits (lf := lf) (r := r) K fu
    funext a b c d
    rw [lpA_balerref01_Bits]
    simp only [ih]
    kernel_rfl
theorem kqA_balerref01_Bits {lf : Nat} {r : RT} : kcA_balerref01_Bits lf r = (fun a => (tK 61 (pb 5 11) lf r) (.exit 0) (zp [3] [a])) := by kernel_rfl
theorem st_balerref01_Bits {lf : Nat} {r : RT} {a : V} : evStep Tryz.prog gt lf r 61 #[a] = inside (b_balerref01_Bits lf r a) := by 
  unfold b_balerref01_Bits
  simp only [kqA_balerref01_Bits, lqA_balerref01_Bits]
  kernel_rfl

def lpA_balerref01_Number (lf : Nat) (r : RT) : Nat→(V→M V)→V→V→V→V→M V
  | 0, _, _, _, _, _ => .fail
  | fu + 1, k, a, b, c, d => klx a fun e => kls d e fun f => ifV f (kml (i3 2) c fun e => kit a d fun g => ksb g (i1 48) fun h => kcv .u32 h fun i => kad e i fun j =>
   kad d (ii 1) fun c => lpA_balerref01_Number lf r fu k a b j c) (k c)
def sA_balerref01_Number : List Nat := [0, 2, 3, 4]
def kcA_balerref01_Number (lf : Nat) (r : RT) : (V→M V) := fun a => outK [a]
def b_balerref01_Number (lf : Nat) (r : RT) (a : V) : M V := lpA_balerref01_Number lf r lf (kcA_balerref01_Number lf r) a (i3 0) (i3 0) (ii 0)
theorem lqA_balerref01_Number {lf : Nat} {r : RT} (K : KT) : ∀ fu, lpA_balerref01_Number lf r fu (fun a => K (.exit 0) (zp [3] [a])) = fun a b c d => loopK (cQ 63 (pb 6
  11) lf r) sA_balerref01_Number fu (zp sA_balerref01_Number [a, b, c, d]) K
  | 0 => by funext a b c d; kernel_rfl
  | fu + 1 => by
    have ih := lqA_balerref01_Number (lf := lf) (r := r) K fu
    funext a b c d
    rw [lpA_balerref01_Number]
    simp only [ih]
    kernel_rfl
theorem kqA_balerref01_Number {lf : Nat} {r : RT} : kcA_balerref01_Number lf r = (fun a => (tK 63 (pb 5 11) lf r) (.exit 0) (zp [3] [a])) := by kernel_rfl
theorem st_balerref01_Number {lf : Nat} {r : RT} {a : V} : evStep Tryz.prog gt lf r 63 #[a] = inside (b_balerref01_Number lf r a) := by 
  unfold b_balerref01_Number
  simp only [kqA_balerref01_Number, lqA_balerref01_Number]
  kernel_rfl

def lpA_inspect_words (lf : Nat) (r : RT) : Nat→(V→M V)→V→V→V→V→V→V→M V
  | 0, _, _, _, _, _, _, _ => .fail
  | fu + 1, k, a, b, c, d, e, f => kls f e fun g => ifV g (kix d f fun h => kld h fun i => kcl r 107 [i] fun h => kad (Value.string { data := #[32] }) h fun j => kad a j
   fun l => kad f (ii 1) fun a => lpA_inspect_words lf r fu k l b c d e a) (k a)
def sA_inspect_words : List Nat := [0, 1, 4, 7, 8, 9]
def kcA_inspect_words (lf : Nat) (r : RT) : (V→M V) := fun a => outK [a]
def b_inspect_words (lf : Nat) (r : RT) (a b : V) : M V := kln b fun c => lpA_inspect_words lf r lf (kcA_inspect_words lf r) a b (Value.string { data := #[] }) b c (ii 0)
theorem lqA_inspect_words {lf : Nat} {r : RT} (K : KT) : ∀ fu, lpA_inspect_words lf r fu (fun a => K (.exit 0) (zp [0] [a])) = fun a b c d e f => loopK (cQ 67 (pb 5 5)
  lf r) sA_inspect_words fu (zp sA_inspect_words [a, b, c, d, e, f]) K
  | 0 => by funext a b c d e f; kernel_rfl
  | fu + 1 => by
    have ih := lqA_inspect_words (lf := lf) (r := r) K fu
    funext a b c d e f
    rw [lpA_inspect_words]
    simp only [ih]
    kernel_rfl
theorem kqA_inspect_words {lf : Nat} {r : RT} : kcA_inspect_words lf r = (fun a => (tK 67 (pb 4 5) lf r) (.exit 0) (zp [0] [a])) := by kernel_rfl
theorem st_inspect_words {lf : Nat} {r : RT} {a b : V} : evStep Tryz.prog gt lf r 67 #[a, b] = inside (b_inspect_words lf r a b) := by 
  unfold b_inspect_words
  simp only [kqA_inspect_words, lqA_inspect_words]
  kernel_rfl

def lpA_balerref47_words (lf : Nat) (r : RT) : Nat→(V→M V)→V→V→V→V→V→V→M V
  | 0, _, _, _, _, _, _, _ => .fail
  | fu + 1, k, a, b, c, d, e, f => kls f e fun g => ifV g (kix d f fun h => kld h fun i => kad a (Value.string { data := #[32] }) fun h => kcl r 52 [i] fun j => kad h j
   fun l => kad f (ii 1) fun a => lpA_balerref47_words lf r fu k l b c d e a) (k a)
def sA_balerref47_words : List Nat := [0, 1, 4, 7, 8, 9]
def kcA_balerref47_words (lf : Nat) (r : RT) : (V→M V) := fun a => outK [a]
def b_balerref47_words (lf : Nat) (r : RT) (a b : V) : M V := kln b fun c => lpA_balerref47_words lf r lf (kcA_balerref47_words lf r) a b (Value.string { data := #[] }) b c (ii 0)
theorem lqA_balerref47_words {lf : Nat} {r : RT} (K : KT) : ∀ fu, lpA_balerref47_words lf r fu (fun a => K (.exit 0) (zp [0] [a])) = fun a b c d e f => loopK (cQ 69 (pb
  5 5) lf r) sA_balerref47_words fu (zp sA_balerref47_words [a, b, c, d, e, f]) K
  | 0 => by funext a b c d e f; kernel_rfl
  | fu + 1 => by
    have ih := lqA_balerref47_words (lf := lf) (r := r) K fu
    funext a b c d e f
    rw [lpA_balerref47_words]
    simp only [ih]
    kernel_rfl
theorem kqA_balerref47_words {lf : Nat} {r : RT} : kcA_balerref47_words lf r = (fun a => (tK 69 (pb 4 5) lf r) (.exit 0) (zp [0] [a])) := by kernel_rfl
theorem st_balerref47_words {lf : Nat} {r : RT} {a b : V} : evStep Tryz.prog gt lf r 69 #[a, b] = inside (b_balerref47_words lf r a b) := by 
  unfold b_balerref47_words
  simp only [kqA_balerref47_words, lqA_balerref47_words]
  kernel_rfl

def lpA_balerref47_hex (lf : Nat) (r : RT) : Nat→(V→M V)→V→V→V→V→M V
  | 0, _, _, _, _, _ => .fail
  | fu + 1, k, a, b, c, d => kls d (ii 8) fun e => ifV e (krm a (i3 16) fun f => krm a (i3 16) fun g => kad g (i3 1) fun h => ksx (Value.string { data := #[48, 49, 50,
   51, 52, 53, 54, 55, 56, 57, 97, 98, 99, 100, 101, 102] }) (some f) (some h) fun i => kad i c fun j => kqu a (i3 16) fun c => kad d (ii 1) fun a => lpA_balerref47_hex lf r fu k c b j a) (k c)
def sA_balerref47_hex : List Nat := [0, 2, 3, 4]
def kcA_balerref47_hex (lf : Nat) (r : RT) : (V→M V) := fun a => outK [a]
def b_balerref47_hex (lf : Nat) (r : RT) (a : V) : M V := lpA_balerref47_hex lf r lf (kcA_balerref47_hex lf r) a (Value.string { data := #[] }) (Value.string { data := #[] }) (ii 0)
theorem lqA_balerref47_hex {lf : Nat} {r : RT} (K : KT) : ∀ fu, lpA_balerref47_hex lf r fu (fun a => K (.exit 0) (zp [3] [a])) = fun a b c d => loopK (cQ 70 (pb 6 11) lf
  r) sA_balerref47_hex fu (zp sA_balerref47_hex [a, b, c, d]) K
  | 0 => by funext a b c d; kernel_rfl
  | fu + 1 => by
    have ih := lqA_balerref47_hex (lf := lf) (r := r) K fu
    funext a b c d
    rw [lpA_balerref47_hex]
    simp only [ih]
    kernel_rfl
theorem kqA_balerref47_hex {lf : Nat} {r : RT} : kcA_balerref47_hex lf r = (fun a => (tK 70 (pb 5 11) lf r) (.exit 0) (zp [3] [a])) := by kernel_rfl
theorem st_balerref47_hex {lf : Nat} {r : RT} {a : V} : evStep Tryz.prog gt lf r 70 #[a] = inside (b_balerref47_hex lf r a) := by 
  unfold b_balerref47_hex
  simp only [kqA_balerref47_hex, lqA_balerref47_hex]
  kernel_rfl

def b_inspect_together (lf : Nat) (r : RT) (a b : V) : M V := kma b (ii 0) fun c => kmi c (ii 1099511627776) fun d => kad a d fun e => kmi e (ii 1099511627776) fun f => outK [f]
theorem st_inspect_together {lf : Nat} {r : RT} {a b : V} : evStep Tryz.prog gt lf r 71 #[a, b] = inside (b_inspect_together lf r a b) := by kernel_rfl

def b_balerref21_Head (lf : Nat) (r : RT) (a : V) : M V := kad a (ii 1) fun b => ksx (Value.string { data := #[48, 49, 50, 51, 52, 53, 54, 55, 56, 57] }) (some a) (some
  b) fun c => kad (Value.string { data := #[66, 90, 104] }) c fun d => kcl r 61 [d] fun e => outK [e]
theorem st_balerref21_Head {lf : Nat} {r : RT} {a : V} : evStep Tryz.prog gt lf r 72 #[a] = inside (b_balerref21_Head lf r a) := by kernel_rfl

def lpB_balerref19_Of (lf : Nat) (r : RT) : Nat→(V→V→V→V→V→V→V→V→M V)→V→V→V→V→V→V→V→V→V→V→V→V→V→V→M V
  | 0, _, _, _, _, _, _, _, _, _, _, _, _, _, _, _ => .fail
  | fu + 1, k, a, b, c, d, e, f, g, h, i, j, l, m, n, o => kls o n fun p => ifV p (kfa 1 e fun q => kld q fun s => kfa 0 f fun t => kld t fun u => kb1 5 1 u fun v => kts
   v fun w => kad s w fun x => kfa 1 e fun y => kst y x fun _ => kad o (ii 1) fun q => lpB_balerref19_Of lf r fu k a b c d e f g h i j l m n q) (k a b c d e h i j)
def sB_balerref19_Of : List Nat := [0, 1, 4, 5, 6, 8, 9, 12, 13, 14, 15, 27, 39, 40]
def KBB_balerref19_Of (lf : Nat) (r : RT) (k : (V→V→M V)) (again : V→V→V→V→V→V→V→V→M V) : (V→V→V→V→V→V→V→V→M V) := fun a b c d e f g h => kad h (ii 1) fun i => again a b c d e f g i
def lpA_balerref19_Of (lf : Nat) (r : RT) : Nat→(V→V→M V)→V→V→V→V→V→V→V→V→M V
  | 0, _, _, _, _, _, _, _, _, _ => .fail
  | fu + 1, k, a, b, c, d, e, f, g, h => kls h g fun i => ifV i (kiy 2 f h fun j => klg 2 j fun l => kal 168 z168 fun m => ksg 2 m l fun _ => klg 2 m fun j => kcl r 109
   [j] fun l => kfa 0 e fun j => kld j fun n => klx n fun o => klx l fun p => kad o p fun q => kgr q b fun s => (fun n => ifV s (klg 2 e fun j => kb1 120 2 j fun o =>
   kap 120 2 d o fun p => kbd z120 [] fun j => ksg 2 e j fun _ => n p) (n d)) fun d => kfa 0 e fun j => kld j fun n => kad n l fun o => kfa 0 e fun p => kst p o fun _ =>
   kfa 1 m fun j => kld j fun n => lpB_balerref19_Of lf r lf (KBB_balerref19_Of lf r k (lpA_balerref19_Of lf r fu k)) a b c d e m l f g h i s n (ii 0)) (k d e)
def sA_balerref19_Of : List Nat := [0, 1, 4, 5, 6, 12, 13, 14]
def kcA_balerref19_Of (lf : Nat) (r : RT) : (V→V→M V) := fun a b => kfa 0 b fun c => kld c fun d => klx d fun e => kgr e (ii 0) fun f => ifV f (klg 2 b fun c => kb1 120
  2 c fun d => kap 120 2 a d fun e => outK [e]) (outK [a])
def b_balerref19_Of (lf : Nat) (r : RT) (a b : V) : M V := kbd z120 [] fun c => kal 120 z120 fun d => ksg 2 d c fun _ => kcl r 108 [a] fun c => kln c fun e =>
  lpA_balerref19_Of lf r lf (kcA_balerref19_Of lf r) a b nS nS d c e (ii 0)
theorem lqB_balerref19_Of {lf : Nat} {r : RT} (K : KT) : ∀ fu, lpB_balerref19_Of lf r fu (fun a b c d e f g h => K (.exit 2) (zp [0, 1, 4, 5, 6, 12, 13, 14] [a, b, c, d,
  e, f, g, h])) = fun a b c d e f g h i j l m n o => loopK (cQ 73 (pb 18 63895) lf r) sB_balerref19_Of fu (zp sB_balerref19_Of [a, b, c, d, e, f, g, h, i, j, l, m, n, o]) K
  | 0 => by funext a b c d e f g h i j l m n o; kernel_rfl
  | fu + 1 => by
    have ih := lqB_balerref19_Of (lf := lf) (r := r) K fu
    funext a b c d e f g h i j l m n o
    rw [lpB_balerref19_Of]
    simp only [ih]
    kernel_rfl
theorem kqB_balerref19_Of {lf : Nat} {r : RT} (K : KT) (fu : Nat) : KBB_balerref19_Of lf r (fun a b => K (.exit 0) (zp [5, 6] [a, b])) (fun a b c d e f g h => loopK (cQ
  73 (pb 7 23) lf r) sA_balerref19_Of fu (zp sA_balerref19_Of [a, b, c, d, e, f, g, h]) K) = (fun a b c d e f g h => (iK 73 (pb 7 23) (pb 10 499) sA_balerref19_Of fu K
  lf r) (.exit 2) (zp [0, 1, 4, 5, 6, 12, 13, 14] [a, b, c, d, e, f, g, h])) := by kernel_rfl
theorem lqA_balerref19_Of {lf : Nat} {r : RT} (K : KT) : ∀ fu, lpA_balerref19_Of lf r fu (fun a b => K (.exit 0) (zp [5, 6] [a, b])) = fun a b c d e f g h => loopK (cQ
  73 (pb 7 23) lf r) sA_balerref19_Of fu (zp sA_balerref19_Of [a, b, c, d, e, f, g, h]) K
  | 0 => by funext a b c d e f g h; kernel_rfl
  | fu + 1 => by
    have ih := lqA_balerref19_Of (lf := lf) (r := r) K fu
    funext a b c d e f g h
    rw [lpA_balerref19_Of]
    simp only [ih, kqB_balerref19_Of, lqB_balerref19_Of]
    kernel_rfl
theorem kqA_balerref19_Of {lf : Nat} {r : RT} : kcA_balerref19_Of lf r = (fun a b => (tK 73 (pb 6 23) lf r) (.exit 0) (zp [5, 6] [a, b])) := by kernel_rfl
theorem st_balerref19_Of {lf : Nat} {r : RT} {a b : V} : evStep Tryz.prog gt lf r 73 #[a, b] = inside (b_balerref19_Of lf r a b) := by 
  unfold b_balerref19_Of
  simp only [kqA_balerref19_Of, lqA_balerref19_Of]
  kernel_rfl

def b_balerref01_Pack (lf : Nat) (r : RT) (a : V) : M V := kcl r 114 [a] fun b => kcl r 113 [b] fun c => outK [c]
theorem st_balerref01_Pack {lf : Nat} {r : RT} {a : V} : evStep Tryz.prog gt lf r 76 #[a] = inside (b_balerref01_Pack lf r a) := by kernel_rfl

def b_balerref21_Tail (lf : Nat) (r : RT) (a : V) : M V := kcl r 25 [a] fun b => kcl r 103 [b, (ii 32)] fun c => kad (Value.string { data := #[48, 48, 48, 49, 48, 49,
  49, 49, 48, 49, 49, 49, 48, 48, 49, 48, 48, 49, 48, 48, 48, 49, 48, 49, 48, 48, 49, 49, 49, 48, 48, 48, 48, 49, 48, 49, 48, 48, 48, 48, 49, 48, 48, 49, 48, 48, 48, 48] }) c fun d => outK [d]
theorem st_balerref21_Tail {lf : Nat} {r : RT} {a : V} : evStep Tryz.prog gt lf r 77 #[a] = inside (b_balerref21_Tail lf r a) := by kernel_rfl

def b_balerref02_Combine (lf : Nat) (r : RT) (a b : V) : M V := kml a (i3 2) fun c => kgq a (i3 2147483648) fun d => ifV d (kad c (i3 1) fun e => kxo e b fun c => outK [c]) (kxo c b fun e => outK [e])
theorem st_balerref02_Combine {lf : Nat} {r : RT} {a b : V} : evStep Tryz.prog gt lf r 78 #[a, b] = inside (b_balerref02_Combine lf r a b) := by kernel_rfl

def b_split_Room (lf : Nat) (r : RT) (a b : V) : M V := kls a (ii 1) fun c => ifV c (outK [(ii 0), (ii 1)]) (kgr a (ii 9) fun d => ifV d (outK [(ii 0), (ii 1)]) (kls b
  (ii 24) fun e => ifV e (outK [(ii 0), (ii 1)]) (kgr b (ii 100000) fun f => ifV f (outK [(ii 0), (ii 1)]) (kml a b fun c => ksb c (ii 19) fun d => outK [d, (ii 0)]))))
theorem st_split_Room {lf : Nat} {r : RT} {a b : V} : evStep Tryz.prog gt lf r 96 #[a, b] = inside (b_split_Room lf r a b) := by kernel_rfl

def b_unstream_Reader_MayEnd (lf : Nat) (r : RT) (a : V) : M V := kpn a nP fun b => ifV b (knn a fun c => kfa 9 c fun d => kld d fun e => ifV e (knn a fun f => kfa 1 f
  fun g => kld g fun h => keq h (ii 0) fun i => ifV i (knn a fun j => kfa 2 j fun l => kld l fun m => keq m (ii 0) fun n => ifV n (knn a fun o => kfa 10 o fun p => kld p
  fun q => keq q (ii 0) fun s => outK [s]) (outK [bF])) (outK [bF])) (outK [bF])) (outK [bF])
theorem st_unstream_Reader_MayEnd {lf : Nat} {r : RT} {a : V} : evStep Tryz.prog gt lf r 97 #[a] = inside (b_unstream_Reader_MayEnd lf r a) := by kernel_rfl

def b_bits_Reader_Left (lf : Nat) (r : RT) (a : V) : M V := kpe a nP fun b => ifV b (outK [(ii 0)]) ((timed (kcl r 122 [a] M.ret)).bind fun c => knn a fun d => kfa 2 d
  fun e => (timed (kld e M.ret)).bind fun f => ksb c.1 f.1 fun g => chkT ((!(clash3 c.2 f.2) && true) && true) (outK [g]))
theorem st_bits_Reader_Left {lf : Nat} {r : RT} {a : V} : evStep Tryz.prog gt lf r 98 #[a] = inside (b_bits_Reader_Left lf r a) := by kernel_rfl

def b_unstream_Reader_Step (lf : Nat) (r : RT) (a b : V) : M V := kpe a nP fun c => ifV c (outK [(ii 0), (ii 7)]) (kpe b nP fun d => ifV d (outK [(ii 0), (ii 7)]) (knn a
  fun c => kfa 10 c fun e => kld e fun f => kne f (ii 0) fun g => ifV g (knn a fun c => kfa 10 c fun e => kld e fun f => outK [(ii 0), f]) (kcl r 123 [a, b] fun c => kex
  c 0 fun e => kex c 1 fun f => kne f (ii 3) fun c => ifV c (knn a fun h => kfa 10 h fun i => kst i f fun _ => outK [e, f]) (outK [e, f]))))
theorem st_unstream_Reader_Step {lf : Nat} {r : RT} {a b : V} : evStep Tryz.prog gt lf r 99 #[a, b] = inside (b_unstream_Reader_Step lf r a b) := by kernel_rfl

def b_inspect_reader_end (lf : Nat) (r : RT) (a : V) : M V := knn a fun b => kfa 5 b fun c => kld c fun d => kbd z33 [(0, 1, (ii 3)), (4, 1, d)] fun e => knn a fun f =>
  kfa 4 f fun g => kld g fun h => kad h (ii 48) fun i => kad i (ii 32) fun j => kcl r 125 [a, e, j] fun l => knn a fun b => kfa 1 b fun c => kld c fun d => kcl r 126 [d]
  fun e => knn a fun f => kfa 4 f fun g => kst g e fun _ => outK []
theorem st_inspect_reader_end {lf : Nat} {r : RT} {a : V} : evStep Tryz.prog gt lf r 101 #[a] = inside (b_inspect_reader_end lf r a) := by kernel_rfl

def b_inspect_reader_begin (lf : Nat) (r : RT) (a : V) : M V := knn a fun b => kfa 3 b fun c => kld c fun d => kln d fun e => keq e (ii 0) fun f => ifV f (knn a fun b =>
  kfa 1 b fun c => (timed (kld c M.ret)).bind fun d => (timed (kcl r 126 [d.1] M.ret)).bind fun e => knn a fun f => kfa 4 f fun g => (timed (kld g M.ret)).bind fun h =>
  kad h.1 (ii 32) fun i => keq e.1 i fun j => chkT ((!(clash3 e.2 h.2) && true) && true) (ifV j (knn a fun b => kfa 0 b fun c => kld c fun d => knn a fun e => kfa 4 e
  fun f => kld f fun g => kqu g (ii 8) fun h => kad h (ii 3) fun i => kit d i fun l => ksb l (i1 48) fun m => kcv .i64 m fun n => kbd z33 [(0, 1, (ii 1)), (1, 1, n)] fun
  b => knn a fun c => kfa 1 c fun d => kld d fun e => kcl r 126 [e] fun f => kcl r 125 [a, b, f] fun g => knn a fun b => kfa 5 b fun c => kst c (i3 0) fun _ => outK [])
  (outK []))) (knn a fun g => kfa 3 g fun h => kld h fun i => knn a fun j => kfa 3 j fun l => kld l fun m => kln m fun n => ksb n (ii 1) fun o => kiy 8 i o fun p => kfa
  0 p fun q => kld q fun s => keq s (ii 3) fun t => ifV t (knn a fun b => kfa 1 b fun c => (timed (kld c M.ret)).bind fun d => (timed (kcl r 126 [d.1] M.ret)).bind fun e
  => knn a fun f => kfa 4 f fun g => (timed (kld g M.ret)).bind fun h => kad h.1 (ii 32) fun i => keq e.1 i fun j => chkT ((!(clash3 e.2 h.2) && true) && true) (ifV j
  (knn a fun b => kfa 0 b fun c => kld c fun d => knn a fun e => kfa 4 e fun f => kld f fun g => kqu g (ii 8) fun h => kad h (ii 3) fun i => kit d i fun l => ksb l (i1
  48) fun m => kcv .i64 m fun n => kbd z33 [(0, 1, (ii 1)), (1, 1, n)] fun b => knn a fun c => kfa 1 c fun d => kld d fun e => kcl r 126 [e] fun f => kcl r 125 [a, b, f]
  fun g => knn a fun b => kfa 5 b fun c => kst c (i3 0) fun _ => outK []) (outK []))) ((timed (M.ret undef)).bind fun b => (timed (M.ret undef)).bind fun c => (timed
  (M.ret undef)).bind fun d => chkT ((!(clash3 c.2 d.2) && true) && true) (outK [])))
theorem st_inspect_reader_begin {lf : Nat} {r : RT} {a : V} : evStep Tryz.prog gt lf r 102 #[a] = inside (b_inspect_reader_begin lf r a) := by kernel_rfl

def lpA_balerref01_Field (lf : Nat) (r : RT) : Nat→(V→M V)→V→V→V→V→V→V→M V
  | 0, _, _, _, _, _, _, _ => .fail
  | fu + 1, k, a, b, c, d, e, f => kls f e fun g => ifV g (krm a (i3 2) fun h => krm a (i3 2) fun i => kad i (i3 1) fun j => ksx (Value.string { data := #[48, 49] })
   (some h) (some j) fun l => kad l d fun m => kqu a (i3 2) fun d => kad f (ii 1) fun a => lpA_balerref01_Field lf r fu k d b c m e a) (k d)
def sA_balerref01_Field : List Nat := [0, 1, 4, 5, 6, 7]
def kcA_balerref01_Field (lf : Nat) (r : RT) : (V→M V) := fun a => outK [a]
def b_balerref01_Field (lf : Nat) (r : RT) (a b : V) : M V := lpA_balerref01_Field lf r lf (kcA_balerref01_Field lf r) a b (Value.string { data := #[] }) (Value.string { data := #[] }) b (ii 0)
theorem lqA_balerref01_Field {lf : Nat} {r : RT} (K : KT) : ∀ fu, lpA_balerref01_Field lf r fu (fun a => K (.exit 0) (zp [5] [a])) = fun a b c d e f => loopK (cQ 103 (pb
  6 11) lf r) sA_balerref01_Field fu (zp sA_balerref01_Field [a, b, c, d, e, f]) K
  | 0 => by funext a b c d e f; kernel_rfl
  | fu + 1 => by
    have ih := lqA_balerref01_Field (lf := lf) (r := r) K fu
    funext a b c d e f
    rw [lpA_balerref01_Field]
    simp only [ih]
    kernel_rfl
theorem kqA_balerref01_Field {lf : Nat} {r : RT} : kcA_balerref01_Field lf r = (fun a => (tK 103 (pb 5 11) lf r) (.exit 0) (zp [5] [a])) := by kernel_rfl
theorem st_balerref01_Field {lf : Nat} {r : RT} {a b : V} : evStep Tryz.prog gt lf r 103 #[a, b] = inside (b_balerref01_Field lf r a b) := by 
  unfold b_balerref01_Field
  simp only [kqA_balerref01_Field, lqA_balerref01_Field]
  kernel_rfl

def b_tester_Digits (lf : Nat) (r : RT) (a : V) : M V := kls a (ii 10) fun b => ifV b (kma a (ii 0) fun c => kad (ii 48) c fun d => kcv .u8 d fun e => kb1 5 1 e fun f =>
  kts f fun g => outK [g]) (kqu a (ii 10) fun c => (timed (kcl r 107 [c] M.ret)).bind fun d => krm a (ii 10) fun e => kad (ii 48) e fun f => (timed (kcv .u8 f
  M.ret)).bind fun g => (timed (kb1 5 1 g.1 M.ret)).bind fun h => (timed (kts h.1 M.ret)).bind fun i => kad d.1 i.1 fun j => chkT ((!(clash3 d.2 g.2) && (!(clash3 d.2
  h.2) && (!(clash3 d.2 i.2) && true))) && true) (outK [j]))
theorem st_tester_Digits {lf : Nat} {r : RT} {a : V} : evStep Tryz.prog gt lf r 107 #[a] = inside (b_tester_Digits lf r a) := by kernel_rfl

def lpA_balerref02_Of (lf : Nat) (r : RT) : Nat→(V→M V)→V→V→V→V→M V
  | 0, _, _, _, _, _ => .fail
  | fu + 1, k, a, b, c, d => klx a fun e => kls d e fun f => ifV f (kit a d fun e => kcl r 145 [c, e] fun g => kad d (ii 1) fun c => lpA_balerref02_Of lf r fu k a b g c) (k c)
def sA_balerref02_Of : List Nat := [0, 2, 3, 4]
def kcA_balerref02_Of (lf : Nat) (r : RT) : (V→M V) := fun a => ksb (i3 4294967295) a fun b => outK [b]
def b_balerref02_Of (lf : Nat) (r : RT) (a : V) : M V := lpA_balerref02_Of lf r lf (kcA_balerref02_Of lf r) a (i3 0) (i3 4294967295) (ii 0)
theorem lqA_balerref02_Of {lf : Nat} {r : RT} (K : KT) : ∀ fu, lpA_balerref02_Of lf r fu (fun a => K (.exit 0) (zp [3] [a])) = fun a b c d => loopK (cQ 112 (pb 6 11) lf
  r) sA_balerref02_Of fu (zp sA_balerref02_Of [a, b, c, d]) K
  | 0 => by funext a b c d; kernel_rfl
  | fu + 1 => by
    have ih := lqA_balerref02_Of (lf := lf) (r := r) K fu
    funext a b c d
    rw [lpA_balerref02_Of]
    simp only [ih]
    kernel_rfl
theorem kqA_balerref02_Of {lf : Nat} {r : RT} : kcA_balerref02_Of lf r = (fun a => (tK 112 (pb 5 11) lf r) (.exit 0) (zp [3] [a])) := by kernel_rfl
theorem st_balerref02_Of {lf : Nat} {r : RT} {a : V} : evStep Tryz.prog gt lf r 112 #[a] = inside (b_balerref02_Of lf r a) := by 
  unfold b_balerref02_Of
  simp only [kqA_balerref02_Of, lqA_balerref02_Of]
  kernel_rfl

def lpA_balerref01_Bytes (lf : Nat) (r : RT) : Nat→(V→M V)→V→V→V→M V
  | 0, _, _, _, _ => .fail
  | fu + 1, k, a, b, c => klx a fun d => kgq d (ii 8) fun e => ifV e (ksx a none (some (ii 8)) fun d => kcl r 63 [d] fun f => kcv .u8 f fun g => kb1 5 1 g fun h => kts h
   fun i => kad c i fun j => ksx a (some (ii 8)) none fun c => lpA_balerref01_Bytes lf r fu k c b j) (k c)
def sA_balerref01_Bytes : List Nat := [0, 2, 3]
def kcA_balerref01_Bytes (lf : Nat) (r : RT) : (V→M V) := fun a => outK [a]
def b_balerref01_Bytes (lf : Nat) (r : RT) (a : V) : M V := lpA_balerref01_Bytes lf r lf (kcA_balerref01_Bytes lf r) a (Value.string { data := #[] }) (Value.string { data := #[] })
theorem lqA_balerref01_Bytes {lf : Nat} {r : RT} (K : KT) : ∀ fu, lpA_balerref01_Bytes lf r fu (fun a => K (.exit 0) (zp [3] [a])) = fun a b c => loopK (cQ 113 (pb 5 3)
  lf r) sA_balerref01_Bytes fu (zp sA_balerref01_Bytes [a, b, c]) K
  | 0 => by funext a b c; kernel_rfl
  | fu + 1 => by
    have ih := lqA_balerref01_Bytes (lf := lf) (r := r) K fu
    funext a b c
    rw [lpA_balerref01_Bytes]
    simp only [ih]
    kernel_rfl
theorem kqA_balerref01_Bytes {lf : Nat} {r : RT} : kcA_balerref01_Bytes lf r = (fun a => (tK 113 (pb 4 3) lf r) (.exit 0) (zp [3] [a])) := by kernel_rfl
theorem st_balerref01_Bytes {lf : Nat} {r : RT} {a : V} : evStep Tryz.prog gt lf r 113 #[a] = inside (b_balerref01_Bytes lf r a) := by 
  unfold b_balerref01_Bytes
  simp only [kqA_balerref01_Bytes, lqA_balerref01_Bytes]
  kernel_rfl

def lpA_balerref01_Padded (lf : Nat) (r : RT) : Nat→(V→M V)→V→V→M V
  | 0, _, _, _ => .fail
  | fu + 1, k, a, b => klx a fun c => krm c (ii 8) fun d => kne d (ii 0) fun e => ifV e (kad a (Value.string { data := #[48] }) fun c => lpA_balerref01_Padded lf r fu k c b) (k a)
def sA_balerref01_Padded : List Nat := [0, 2]
def kcA_balerref01_Padded (lf : Nat) (r : RT) : (V→M V) := fun a => outK [a]
def b_balerref01_Padded (lf : Nat) (r : RT) (a : V) : M V := lpA_balerref01_Padded lf r lf (kcA_balerref01_Padded lf r) a (Value.string { data := #[] })
theorem lqA_balerref01_Padded {lf : Nat} {r : RT} (K : KT) : ∀ fu, lpA_balerref01_Padded lf r fu (fun a => K (.exit 0) (zp [0] [a])) = fun a b => loopK (cQ 114 (pb 4 1)
  lf r) sA_balerref01_Padded fu (zp sA_balerref01_Padded [a, b]) K
  | 0 => by funext a b; kernel_rfl
  | fu + 1 => by
    have ih := lqA_balerref01_Padded (lf := lf) (r := r) K fu
    funext a b
    rw [lpA_balerref01_Padded]
    simp only [ih]
    kernel_rfl
theorem kqA_balerref01_Padded {lf : Nat} {r : RT} : kcA_balerref01_Padded lf r = (fun a => (tK 114 (pb 3 1) lf r) (.exit 0) (zp [0] [a])) := by kernel_rfl
theorem st_balerref01_Padded {lf : Nat} {r : RT} {a : V} : evStep Tryz.prog gt lf r 114 #[a] = inside (b_balerref01_Padded lf r a) := by 
  unfold b_balerref01_Padded
  simp only [kqA_balerref01_Padded, lqA_balerref01_Padded]
  kernel_rfl

def b_bits_Reader_end (lf : Nat) (r : RT) (a : V) : M V := knn a fun b => kfa 1 b fun c => kld c fun d => knn a fun e => kfa 0 e fun f => kld f fun g => klx g fun h =>
  kad d h fun i => kml (ii 8) i fun j => outK [j]
theorem st_bits_Reader_end {lf : Nat} {r : RT} {a : V} : evStep Tryz.prog gt lf r 122 #[a] = inside (b_bits_Reader_end lf r a) := by kernel_rfl

def b_unstream_Reader_step (lf : Nat) (r : RT) (a b : V) : M V := knn a fun c => kfa 1 c fun d => kld d fun e => keq e (ii 0) fun c => ifV c (kcl r 155 [a, b] fun d =>
  outK [(ii 0), d]) (keq e (ii 1) fun d => ifV d (kcl r 156 [a, b] fun f => outK [(ii 0), f]) (keq e (ii 2) fun f => ifV f (kcl r 157 [a, b] fun g => kex g 0 fun h =>
  kex g 1 fun i => outK [h, i]) (kcl r 158 [a, b] fun g => kex g 0 fun h => kex g 1 fun i => outK [h, i])))
theorem st_unstream_Reader_step {lf : Nat} {r : RT} {a b : V} : evStep Tryz.prog gt lf r 123 #[a, b] = inside (b_unstream_Reader_step lf r a b) := by kernel_rfl

def b_inspect_reader_add (lf : Nat) (r : RT) (a b c : V) : M V := kbx 33 b fun d => knn a fun e => kfa 4 e fun f => kld f fun g => kfa 2 d fun h => kst h g fun _ => kfa
  3 d fun e => kst e c fun _ => knn a fun e => kfa 3 e fun f => kld f fun g => klg 8 d fun h => kb1 33 8 h fun i => kap 33 8 g i fun j => knn a fun l => kfa 3 l fun m =>
  kst m j fun _ => knn a fun e => kfa 4 e fun f => kst f c fun _ => outK []
theorem st_inspect_reader_add {lf : Nat} {r : RT} {a b c : V} : evStep Tryz.prog gt lf r 125 #[a, b, c] = inside (b_inspect_reader_add lf r a b c) := by kernel_rfl

def b_bits_Reader_At (lf : Nat) (r : RT) (a : V) : M V := kpe a nP fun b => ifV b (outK [(ii 0)]) (knn a fun c => kfa 2 c fun d => kld d fun e => outK [e])
theorem st_bits_Reader_At {lf : Nat} {r : RT} {a : V} : evStep Tryz.prog gt lf r 126 #[a] = inside (b_bits_Reader_At lf r a) := by kernel_rfl

def b_balerref02_Step (lf : Nat) (r : RT) (a b : V) : M V := kcv .u32 b fun c => kml c (i3 16777216) fun d => kxo a d fun e => kcl r 179 [e] fun f => outK [f]
theorem st_balerref02_Step {lf : Nat} {r : RT} {a b : V} : evStep Tryz.prog gt lf r 145 #[a, b] = inside (b_balerref02_Step lf r a b) := by kernel_rfl

def b_unstream_Reader_letter (lf : Nat) (r : RT) (a b : V) : M V := kcl r 188 [b, (ii 8)] fun c => kex c 0 fun d => kex c 1 fun e => kne e (ii 0) fun c => ifV c (outK
  [e]) (knn a fun f => kfa 2 f fun g => kld g fun h => kls h (ii 3) fun i => ifV i (knn a fun f => kfa 2 f fun g => kld g fun h => kit (Value.string { data := #[66, 90,
  104] }) h fun j => kcv .u32 j fun l => kne d l fun m => ifV m (outK [(ii 20)]) (knn a fun f => kfa 2 f fun g => kld g fun h => kad h (ii 1) fun j => knn a fun l => kfa
  2 l fun n => kst n j fun _ => outK [(ii 0)])) (kls d (i3 49) fun f => ifV f (outK [(ii 20)]) (kgr d (i3 57) fun g => ifV g (outK [(ii 20)]) (ksb d (i3 48) fun f => kcv
  .i64 f fun h => knn a fun j => kfa 3 j fun l => kst l h fun _ => knn a fun f => kfa 2 f fun h => kst h (ii 0) fun _ => knn a fun f => kfa 8 f fun h => kst h (i3 0) fun
  _ => knn a fun f => kfa 1 f fun h => kst h (ii 1) fun _ => outK [(ii 0)]))))
theorem st_unstream_Reader_letter {lf : Nat} {r : RT} {a b : V} : evStep Tryz.prog gt lf r 155 #[a, b] = inside (b_unstream_Reader_letter lf r a b) := by kernel_rfl

def b_unstream_Reader_magic (lf : Nat) (r : RT) (a b : V) : M V := kcl r 98 [b] fun c => kls c (ii 48) fun d => ifV d (outK [(ii 3)]) (kcl r 188 [b, (ii 24)] fun c => kex c 0 fun e => kex c 1 fun f => kcl r 188 [b, (ii 24)] fun c => kex c 0 fun f => kex c 1 fun g => kcv .u64 e fun c => ksl c (i6 24) fun g => kcv .u64 f fun h => kor g h fun i => keq i (i6 54156738319193) fun c => ifV c (knn a fun g => kfa 3 g fun h => kld h fun j => knn a fun l => kfa 0 l fun m => kld m fun n => kml j n fun o => kcl r 189 [o] fun p => kex p 0 fun q => kex p 1 fun s => knn a fun g => kfa 4 g fun h => kst h q fun _ => knn a fun g => kfa 1 g fun h => kst h (ii 2) fun _ => outK [s]) (keq i (i6 25779555029136) fun g => ifV g (knn a fun h => kfa 1 h fun j => kst j (ii 3) fun _ => outK [(ii 0)]) (outK [(ii 20)])))
section
variable (lf : Nat) (r : RT) (a b c d e f i : V) (k : Ex → Fr → M V)
theorem m_seq (x y : Code) (s : Fr) (G : Hint) : codeK Tryz.prog r G lf (.seq x y) s k = codeK Tryz.prog r G lf x s (seqK (fun s1 k1 => codeK Tryz.prog r G lf y s1 k1) k) := rfl
theorem m_sn (kb : Fr → (Ex → Fr → M V) → M V) (s : Fr) : seqK kb k .normal s = kb s k := rfl
theorem m_sr (kb : Fr → (Ex → Fr → M V) → M V) (s : Fr) : seqK kb k .ret s = k .ret s := rfl
theorem m_end (v : V) : endK Tryz.prog (resOf Tryz.prog 156) .ret [(4, v)] = outK [v] := by kernel_rfl
theorem m_S0 : codeAt (bodyOf Tryz.prog 156) [] = .seq (codeAt (bodyOf Tryz.prog 156) [false]) (codeAt (bodyOf Tryz.prog 156) [true]) := by kernel_rfl
theorem m_S1 : codeAt (bodyOf Tryz.prog 156) [true] = .seq (codeAt (bodyOf Tryz.prog 156) [true, false]) (codeAt (bodyOf Tryz.prog 156) [true, true]) := by kernel_rfl
theorem m_S2 : codeAt (bodyOf Tryz.prog 156) [true, true] = .seq (codeAt (bodyOf Tryz.prog 156) [true, true, false]) (codeAt (bodyOf Tryz.prog 156) [true, true, true]) := by kernel_rfl
theorem m_S3 : codeAt (bodyOf Tryz.prog 156) [true, true, true] = .seq (codeAt (bodyOf Tryz.prog 156) [true, true, true, false]) (codeAt (bodyOf Tryz.prog 156) [true, true, true, true]) := by kernel_rfl
theorem m_S4 : codeAt (bodyOf Tryz.prog 156) [true, true, true, true] = .seq (codeAt (bodyOf Tryz.prog 156) [true, true, true, true, false]) (codeAt (bodyOf Tryz.prog 156) [true, true, true, true, true]) := by kernel_rfl
theorem m_S5 : codeAt (bodyOf Tryz.prog 156) [true, true, true, true, false] = .seq (codeAt (bodyOf Tryz.prog 156) [true, true, true, true, false, false]) (codeAt (bodyOf Tryz.prog 156) [true, true, true, true, false, true]) := by kernel_rfl
theorem m_L0 : codeK Tryz.prog r (gt 156) lf (codeAt (bodyOf Tryz.prog 156) [false]) [(0, a), (1, b)] k = k .normal [(0, a), (1, b), (4, ii 0)] := by kernel_rfl
theorem m_L1 : codeK Tryz.prog r (gt 156) lf (codeAt (bodyOf Tryz.prog 156) [true, false]) [(0, a), (1, b), (4, ii 0)] k = kcl r 98 [b] fun c => kls c (ii 48) fun d => ifV d (k .ret [(4, ii 3)]) (k .normal [(0, a), (1, b), (4, ii 0), (13, d)]) := by kernel_rfl
theorem m_L2 : codeK Tryz.prog r (gt 156) lf (codeAt (bodyOf Tryz.prog 156) [true, true, false]) [(0, a), (1, b), (4, ii 0), (13, d)] k = kcl r 188 [b, (ii 24)] fun c => kex c 0 fun e => kex c 1 fun f => k .normal [(0, a), (1, b), (4, ii 0), (5, e), (13, d)] := by kernel_rfl
theorem m_L3 : codeK Tryz.prog r (gt 156) lf (codeAt (bodyOf Tryz.prog 156) [true, true, true, false]) [(0, a), (1, b), (4, ii 0), (5, e), (13, d)] k = kcl r 188 [b, (ii 24)] fun c => kex c 0 fun f => kex c 1 fun g => k .normal [(0, a), (1, b), (4, ii 0), (5, e), (7, f), (13, d)] := by kernel_rfl
theorem m_L4 : codeK Tryz.prog r (gt 156) lf (codeAt (bodyOf Tryz.prog 156) [true, true, true, true, false, false]) [(0, a), (1, b), (4, ii 0), (5, e), (7, f), (13, d)] k = kcv .u64 e fun c => ksl c (i6 24) fun g => kcv .u64 f fun h => kor g h fun i => k .normal [(0, a), (1, b), (4, ii 0), (5, e), (7, f), (13, d), (29, i)] := by kernel_rfl
theorem m_L5 : codeK Tryz.prog r (gt 156) lf (codeAt (bodyOf Tryz.prog 156) [true, true, true, true, false, true]) [(0, a), (1, b), (4, ii 0), (5, e), (7, f), (13, d), (29, i)] k = keq i (i6 54156738319193) fun c => ifV c (knn a fun g => kfa 3 g fun h => kld h fun j => knn a fun l => kfa 0 l fun m => kld m fun n => kml j n fun o => kcl r 189 [o] fun p => kex p 0 fun q => kex p 1 fun s => knn a fun g => kfa 4 g fun h => kst h q fun _ => knn a fun g => kfa 1 g fun h => kst h (ii 2) fun _ => k .ret [(4, s)]) (keq i (i6 25779555029136) fun g => ifV g (knn a fun h => kfa 1 h fun j => kst j (ii 3) fun _ => k .ret [(4, (ii 0))]) (k .normal [(0, a), (1, b), (4, ii 0), (5, e), (7, f), (13, d), (29, i), (30, c), (53, g)])) := by kernel_rfl
theorem m_L6 (c g : V) : codeK Tryz.prog r (gt 156) lf (codeAt (bodyOf Tryz.prog 156) [true, true, true, true, true]) [(0, a), (1, b), (4, ii 0), (5, e), (7, f), (13, d), (29, i), (30, c), (53, g)] k = k .ret [(4, ii 20)] := by kernel_rfl
theorem m_st : evStep Tryz.prog gt lf r 156 #[a, b] = inside (codeK Tryz.prog r (gt 156) lf (codeAt (bodyOf Tryz.prog 156) []) [(0, a), (1, b)] (endK Tryz.prog (resOf Tryz.prog 156))) := by kernel_rfl
end
theorem st_unstream_Reader_magic {lf : Nat} {r : RT} {a b : V} : evStep Tryz.prog gt lf r 156 #[a, b] = inside (b_unstream_Reader_magic lf r a b) := by
  rw [m_st]
  unfold b_unstream_Reader_magic
  simp -implicitDefEqProofs only [m_S0, m_S1, m_S2, m_S3, m_S4, m_S5, m_seq, m_L0, m_L1, m_L2, m_L3, m_L4, m_L5, m_L6, m_sn, m_sr, m_end]

def b_unstream_Reader_sum (lf : Nat) (r : RT) (a b : V) : M V := kcl r 188 [b, (ii 32)] fun c => kex c 0 fun d => kex c 1 fun e => kne e (ii 0) fun c => ifV c (outK [(ii
  0), e]) (knn a fun f => kfa 8 f fun g => kld g fun h => kne d h fun i => ifV i (outK [(ii 0), (ii 21)]) (kcl r 193 [b] fun f => knn a fun f => kfa 1 f fun g => kst g
  (ii 0) fun _ => knn a fun f => kfa 9 f fun g => kst g bT fun _ => outK [(ii 2), (ii 0)]))
theorem st_unstream_Reader_sum {lf : Nat} {r : RT} {a b : V} : evStep Tryz.prog gt lf r 158 #[a, b] = inside (b_unstream_Reader_sum lf r a b) := by kernel_rfl

def lpA_balerref02_Bits (lf : Nat) (r : RT) : Nat→(V→M V)→V→V→V→M V
  | 0, _, _, _, _ => .fail
  | fu + 1, k, a, b, c => kls c (ii 8) fun d => ifV d (kgq a (i3 2147483648) fun e => ifV e (ksb a (i3 2147483648) fun f => kml f (i3 2) fun g => kxo g (i3 79764919) fun
   h => kad c (ii 1) fun a => lpA_balerref02_Bits lf r fu k h b a) (kml a (i3 2) fun f => kad c (ii 1) fun a => lpA_balerref02_Bits lf r fu k f b a)) (k a)
def sA_balerref02_Bits : List Nat := [0, 2, 3]
def kcA_balerref02_Bits (lf : Nat) (r : RT) : (V→M V) := fun a => outK [a]
def b_balerref02_Bits (lf : Nat) (r : RT) (a : V) : M V := lpA_balerref02_Bits lf r lf (kcA_balerref02_Bits lf r) a (i3 0) (ii 0)
theorem lqA_balerref02_Bits {lf : Nat} {r : RT} (K : KT) : ∀ fu, lpA_balerref02_Bits lf r fu (fun a => K (.exit 0) (zp [0] [a])) = fun a b c => loopK (cQ 179 (pb 5 5) lf
  r) sA_balerref02_Bits fu (zp sA_balerref02_Bits [a, b, c]) K
  | 0 => by funext a b c; kernel_rfl
  | fu + 1 => by
    have ih := lqA_balerref02_Bits (lf := lf) (r := r) K fu
    funext a b c
    rw [lpA_balerref02_Bits]
    simp only [ih]
    kernel_rfl
theorem kqA_balerref02_Bits {lf : Nat} {r : RT} : kcA_balerref02_Bits lf r = (fun a => (tK 179 (pb 4 5) lf r) (.exit 0) (zp [0] [a])) := by kernel_rfl
theorem st_balerref02_Bits {lf : Nat} {r : RT} {a : V} : evStep Tryz.prog gt lf r 179 #[a] = inside (b_balerref02_Bits lf r a) := by 
  unfold b_balerref02_Bits
  simp only [kqA_balerref02_Bits, lqA_balerref02_Bits]
  kernel_rfl

def lpA_bits_Reader_Get (lf : Nat) (r : RT) : Nat→(V→M V)→V→V→V→V→V→V→V→V→V→V→M V
  | 0, _, _, _, _, _, _, _, _, _, _, _ => .fail
  | fu + 1, k, a, b, c, d, e, f, g, h, i, j => kls j i fun l => ifV l (ksl e (i6 1) fun m => knn a fun n => kfa 2 n fun o => kld o fun p => kcl r 215 [a, p] fun q => kor
   m q fun s => knn a fun e => kfa 2 e fun m => kld m fun n => kad n (ii 1) fun o => knn a fun p => kfa 2 p fun q => kst q o fun _ => kad j (ii 1) fun e =>
   lpA_bits_Reader_Get lf r fu k a b c d s f g h i e) (k e)
def sA_bits_Reader_Get : List Nat := [0, 1, 4, 5, 6, 7, 10, 17, 22, 23]
def kcA_bits_Reader_Get (lf : Nat) (r : RT) : (V→M V) := fun a => outK [a, (ii 0)]
def b_bits_Reader_Get (lf : Nat) (r : RT) (a b : V) : M V := kpe a nP fun c => ifV c (outK [(i3 0), (ii 7)]) (kls b (ii 0) fun d => ifV d (outK [(i3 0), (ii 1)]) (kgr b
  (ii 32) fun e => ifV e (outK [(i3 0), (ii 1)]) (kcl r 98 [a] fun d => kls d b fun f => ifV f (outK [(i3 0), (ii 3)]) (lpA_bits_Reader_Get lf r lf (kcA_bits_Reader_Get
  lf r) a b (i3 0) (ii 0) (i3 0) c e f b (ii 0)))))
theorem lqA_bits_Reader_Get {lf : Nat} {r : RT} (K : KT) : ∀ fu, lpA_bits_Reader_Get lf r fu (fun a => K (.exit 1) (zp [6] [a])) = fun a b c d e f g h i j => loopK (cQ
  188 (pb 7 23) lf r) sA_bits_Reader_Get fu (zp sA_bits_Reader_Get [a, b, c, d, e, f, g, h, i, j]) K
  | 0 => by funext a b c d e f g h i j; kernel_rfl
  | fu + 1 => by
    have ih := lqA_bits_Reader_Get (lf := lf) (r := r) K fu
    funext a b c d e f g h i j
    rw [lpA_bits_Reader_Get]
    simp only [ih]
    kernel_rfl
theorem kqA_bits_Reader_Get {lf : Nat} {r : RT} : kcA_bits_Reader_Get lf r = (fun a => (tK 188 (pb 6 23) lf r) (.exit 1) (zp [6] [a])) := by kernel_rfl
theorem st_bits_Reader_Get {lf : Nat} {r : RT} {a b : V} : evStep Tryz.prog gt lf r 188 #[a, b] = inside (b_bits_Reader_Get lf r a b) := by 
  unfold b_bits_Reader_Get
  simp only [kqA_bits_Reader_Get, lqA_bits_Reader_Get]
  kernel_rfl

def lpA_bits_Reader_Align (lf : Nat) (r : RT) : Nat→(M V)→V→M V
  | 0, _, _ => .fail
  | fu + 1, k, a => kpn a nP fun b => ifV b (knn a fun c => kfa 2 c fun d => kld d fun e => krm e (ii 8) fun f => kne f (ii 0) fun g => ifV g (knn a fun b => kfa 2 b fun
   c => kld c fun d => kad d (ii 1) fun e => knn a fun f => kfa 2 f fun h => kst h e fun _ => lpA_bits_Reader_Align lf r fu k a) (k)) (k)
def sA_bits_Reader_Align : List Nat := [0]
def kcA_bits_Reader_Align (lf : Nat) (r : RT) : (M V) := outK []
def b_bits_Reader_Align (lf : Nat) (r : RT) (a : V) : M V := lpA_bits_Reader_Align lf r lf (kcA_bits_Reader_Align lf r) a
theorem lqA_bits_Reader_Align {lf : Nat} {r : RT} (K : KT) : ∀ fu, lpA_bits_Reader_Align lf r fu (K (.exit 0) []) = fun a => loopK (cQ 193 (pb 2 0) lf r) sA_bits_Reader_Align fu (zp sA_bits_Reader_Align [a]) K
  | 0 => by funext a; kernel_rfl
  | fu + 1 => by
    have ih := lqA_bits_Reader_Align (lf := lf) (r := r) K fu
    funext a
    rw [lpA_bits_Reader_Align]
    simp only [ih]
    kernel_rfl
theorem kqA_bits_Reader_Align {lf : Nat} {r : RT} : kcA_bits_Reader_Align lf r = ((tK 193 (pb 1 0) lf r) (.exit 0) []) := by kernel_rfl
theorem st_bits_Reader_Align {lf : Nat} {r : RT} {a : V} : evStep Tryz.prog gt lf r 193 #[a] = inside (b_bits_Reader_Align lf r a) := by 
  unfold b_bits_Reader_Align
  simp only [kqA_bits_Reader_Align, lqA_bits_Reader_Align]
  kernel_rfl

def b_bits_Reader_bit (lf : Nat) (r : RT) (a b : V) : M V := knn a fun c => kfa 0 c fun d => kld d fun e => kqu b (ii 8) fun f => knn a fun g => kfa 1 g fun h => kld h
  fun i => ksb f i fun j => kit e j fun l => krm b (ii 8) fun c => ksb (ii 7) c fun d => ksr l d fun e => kan e (i1 1) fun f => kcv .u32 f fun g => outK [g]
theorem st_bits_Reader_bit {lf : Nat} {r : RT} {a b : V} : evStep Tryz.prog gt lf r 215 #[a, b] = inside (b_bits_Reader_bit lf r a b) := by kernel_rfl

def b_bits_Reader_Seek (lf : Nat) (r : RT) (a b : V) : M V := kpe a nP fun c => ifV c (outK [(ii 7)]) (knn a fun d => kfa 1 d fun e => kld e fun f => kml (ii 8) f fun g
  => kls b g fun h => ifV h (outK [(ii 1)]) (kcl r 122 [a] fun i => kgr b i fun j => ifV j (outK [(ii 1)]) (knn a fun d => kfa 2 d fun e => kst e b fun _ => outK [(ii 0)])))
theorem st_bits_Reader_Seek {lf : Nat} {r : RT} {a b : V} : evStep Tryz.prog gt lf r 246 #[a, b] = inside (b_bits_Reader_Seek lf r a b) := by kernel_rfl

end
end Go.Proofs.YtmjolmggelkjlaaGreat
/- What the third form makes of the functions: all of them stand in one text. -/
namespace Go.Proofs.YtmjolmggelkjlaaGreat
set_option linter.unusedVariables false
set_option linter.unusedSimpArgs false

end Go.Proofs.YtmjolmggelkjlaaGreat
/- From the quick run of a closed test to its call in every world. -/
namespace Go.Proofs.YtmjolmggelkjlaaGreat.Ev
set_option linter.unusedVariables false
set_option linter.unusedSimpArgs false
open Go Go.RowKit
theorem closedN {P : Program} {kn : List FuncId} (hnm : okNames P = true) (hok : okProg P kn = true) (hmix : P.follows .mixedOrders = true) (hkn : Known P kn) (hd : okDsts P = true) {gt : Nat → Hint} {lf d : Nat} {f : FuncId} {w : World} {m : Mp} {h : H} (x : Laid P w m h P.globals.size) (hr : yieldsTrue (evCallN kn P gt lf d f #[] h P.globals.size) = true) :
    Calls P f #[] w fun e w' => e = .returned (.bool true) ∧ Below w.heap.size w w' := by
  cases ho : evCallN kn P gt lf d f #[] h P.globals.size with
  | none => rw [ho] at hr; cases hr
  | some o =>
    obtain ⟨v, h1, n1, L⟩ := o
    rw [ho] at hr
    obtain ⟨f0, hf0⟩ := callN_ok hd d f #[] h _ v h1 n1 L ho
    refine closed_laid hnm hok hmix hkn x (fuel := f0) ?_
    have e : evCall P kn f0 f #[] h P.globals.size = some ⟨v, h1, n1, L⟩ := hf0 f0 (Nat.le_refl _)
    rw [e]
    exact hr

end Go.Proofs.YtmjolmggelkjlaaGreat.Ev
/- A table of functions that have been printed: the evaluator by the table is the evaluator. No program in sight. -/
namespace Go.Proofs.YtmjolmggelkjlaaGreat.Ev
set_option linter.unusedVariables false
set_option linter.unusedSimpArgs false
open Go Go.RowKit
noncomputable def ArT : Nat → Type
  | 0 => M Value
  | n + 1 => Value → ArT n
noncomputable def runAr : (n : Nat) → ArT n → (List Value → M Value) → List Value → M Value
  | 0, F, _, [] => F
  | n + 1, F, K, v :: s => runAr n (F v) (fun s => K (v :: s)) s
  | 0, _, K, x :: s => K (x :: s)
  | _ + 1, _, K, [] => K []
noncomputable def EqAr : (n : Nat) → ArT n → (List Value → M Value) → Prop
  | 0, F, K => F = K []
  | n + 1, F, K => ∀ v, EqAr n (F v) (fun s => K (v :: s))
theorem runAr_eq : ∀ (n : Nat) (F : ArT n) (K : List Value → M Value), EqAr n F K → runAr n F K = K := by
  intro n
  induction n with
  | zero =>
    intro F K h
    funext s
    cases s with
    | nil => exact h
    | cons x s => rfl
  | succ n ih =>
    intro F K h
    funext s
    cases s with
    | nil => rfl
    | cons v s =>
      show runAr n (F v) (fun s => K (v :: s)) s = _
      rw [ih (F v) (fun s => K (v :: s)) (h v)]
noncomputable def findT {α : Type} (f : Nat) : List (Nat × α) → Option α
  | [] => none
  | p :: r => match Nat.beq p.1 f with
    | true => some p.2
    | false => findT f r
abbrev Tab := List (Nat × (Nat → (FuncId → Array Value → M Value) → List Value → M Value))
noncomputable def OkTab (C : Nat → FuncId → Array Value → M Value) : Tab → Prop
  | [] => True
  | p :: r => (∀ d, p.2 d (C d) = fun l => C (d + 1) p.1 l.toArray) ∧ OkTab C r
theorem findT_ok {C : Nat → FuncId → Array Value → M Value} {f : Nat} {E : Nat → (FuncId → Array Value → M Value) → List Value → M Value} : ∀ {T : Tab}, OkTab C T → findT f T = some E → ∀ d, E d (C d) = fun l => C (d + 1) f l.toArray
  | [], _, h => by cases h
  | p :: r, ok, h => by
    unfold findT at h
    cases hq : Nat.beq p.1 f with
    | true =>
      rw [hq] at h
      cases h
      rw [← Nat.eq_of_beq_eq_true hq]
      exact ok.1
    | false =>
      rw [hq] at h
      exact findT_ok ok.2 h
noncomputable def fastT (C : Nat → FuncId → Array Value → M Value) (T : Tab) : Nat → FuncId → Array Value → M Value
  | 0, f, a => C 0 f a
  | d + 1, f, a => match findT f T with
    | some E => E d (fastT C T d) a.toList
    | none => C (d + 1) f a
theorem fastT_eq {C : Nat → FuncId → Array Value → M Value} {T : Tab} (ok : OkTab C T) : ∀ d, fastT C T d = C d
  | 0 => rfl
  | d + 1 => by
    have ih := fastT_eq ok d
    funext f a
    unfold fastT
    rw [ih]
    split
    · rename_i E hE
      rw [findT_ok ok hE d]
    · rfl

end Go.Proofs.YtmjolmggelkjlaaGreat.Ev
/- The functions that the closed test reaches, in a table. -/
namespace Go.Proofs.YtmjolmggelkjlaaGreat
set_option linter.unusedVariables false
set_option linter.unusedSimpArgs false
open Go Ev
def kn0 : List FuncId := [65, 68, 18]
noncomputable section
def eC (lf : Nat) : Nat → FuncId → Array Value → M Value := evCallN kn0 Tryz.prog gt lf
theorem shN {lf d : Nat} {f : FuncId} {a : Array Value} {X : M Value} (s : evStep Tryz.prog gt lf (eC lf d) f a = X) (h : kn0.contains f = false := by rfl) : X = eC lf (d + 1) f a := by
  show X = (match kn0.contains f with
    | true => _
    | false => evStep Tryz.prog gt lf (eC lf d) f a : M Value)
  rw [h]
  exact s.symm
def fTab (lf : Nat) : Tab := [(12, fun d r => runAr 0 (inside (b_balerlaw47_nothing lf r)) fun l => eC lf (d + 1) 12 l.toArray),
  (24, fun d r => runAr 3 (fun a b c => inside (b_balerref21_With lf r a b c)) fun l => eC lf (d + 1) 24 l.toArray),
  (13, fun d r => runAr 2 (fun a b => inside (b_inspect_Parts lf r a b)) fun l => eC lf (d + 1) 13 l.toArray),
  (21, fun d r => runAr 1 (fun a => inside (b_inspect_Count lf r a)) fun l => eC lf (d + 1) 21 l.toArray),
  (72, fun d r => runAr 1 (fun a => inside (b_balerref21_Head lf r a)) fun l => eC lf (d + 1) 72 l.toArray),
  (73, fun d r => runAr 2 (fun a b => inside (b_balerref19_Of lf r a b)) fun l => eC lf (d + 1) 73 l.toArray),
  (77, fun d r => runAr 1 (fun a => inside (b_balerref21_Tail lf r a)) fun l => eC lf (d + 1) 77 l.toArray),
  (76, fun d r => runAr 1 (fun a => inside (b_balerref01_Pack lf r a)) fun l => eC lf (d + 1) 76 l.toArray),
  (58, fun d r => runAr 1 (fun a => inside (b_unstream_New lf r a)) fun l => eC lf (d + 1) 58 l.toArray),
  (59, fun d r => runAr 1 (fun a => inside (b_bits_NewReader lf r a)) fun l => eC lf (d + 1) 59 l.toArray),
  (60, fun d r => runAr 1 (fun a => inside (b_inspect_reader_step lf r a)) fun l => eC lf (d + 1) 60 l.toArray),
  (71, fun d r => runAr 2 (fun a b => inside (b_inspect_together lf r a b)) fun l => eC lf (d + 1) 71 l.toArray),
  (61, fun d r => runAr 1 (fun a => inside (b_balerref01_Bits lf r a)) fun l => eC lf (d + 1) 61 l.toArray),
  (112, fun d r => runAr 1 (fun a => inside (b_balerref02_Of lf r a)) fun l => eC lf (d + 1) 112 l.toArray),
  (25, fun d r => runAr 1 (fun a => inside (b_balerref02_Stream lf r a)) fun l => eC lf (d + 1) 25 l.toArray),
  (103, fun d r => runAr 2 (fun a b => inside (b_balerref01_Field lf r a b)) fun l => eC lf (d + 1) 103 l.toArray),
  (114, fun d r => runAr 1 (fun a => inside (b_balerref01_Padded lf r a)) fun l => eC lf (d + 1) 114 l.toArray),
  (113, fun d r => runAr 1 (fun a => inside (b_balerref01_Bytes lf r a)) fun l => eC lf (d + 1) 113 l.toArray),
  (96, fun d r => runAr 2 (fun a b => inside (b_split_Room lf r a b)) fun l => eC lf (d + 1) 96 l.toArray),
  (97, fun d r => runAr 1 (fun a => inside (b_unstream_Reader_MayEnd lf r a)) fun l => eC lf (d + 1) 97 l.toArray),
  (98, fun d r => runAr 1 (fun a => inside (b_bits_Reader_Left lf r a)) fun l => eC lf (d + 1) 98 l.toArray),
  (99, fun d r => runAr 2 (fun a b => inside (b_unstream_Reader_Step lf r a b)) fun l => eC lf (d + 1) 99 l.toArray),
  (101, fun d r => runAr 1 (fun a => inside (b_inspect_reader_end lf r a)) fun l => eC lf (d + 1) 101 l.toArray),
  (102, fun d r => runAr 1 (fun a => inside (b_inspect_reader_begin lf r a)) fun l => eC lf (d + 1) 102 l.toArray),
  (145, fun d r => runAr 2 (fun a b => inside (b_balerref02_Step lf r a b)) fun l => eC lf (d + 1) 145 l.toArray),
  (78, fun d r => runAr 2 (fun a b => inside (b_balerref02_Combine lf r a b)) fun l => eC lf (d + 1) 78 l.toArray),
  (63, fun d r => runAr 1 (fun a => inside (b_balerref01_Number lf r a)) fun l => eC lf (d + 1) 63 l.toArray),
  (122, fun d r => runAr 1 (fun a => inside (b_bits_Reader_end lf r a)) fun l => eC lf (d + 1) 122 l.toArray),
  (123, fun d r => runAr 2 (fun a b => inside (b_unstream_Reader_step lf r a b)) fun l => eC lf (d + 1) 123 l.toArray),
  (126, fun d r => runAr 1 (fun a => inside (b_bits_Reader_At lf r a)) fun l => eC lf (d + 1) 126 l.toArray),
  (125, fun d r => runAr 3 (fun a b c => inside (b_inspect_reader_add lf r a b c)) fun l => eC lf (d + 1) 125 l.toArray),
  (179, fun d r => runAr 1 (fun a => inside (b_balerref02_Bits lf r a)) fun l => eC lf (d + 1) 179 l.toArray),
  (155, fun d r => runAr 2 (fun a b => inside (b_unstream_Reader_letter lf r a b)) fun l => eC lf (d + 1) 155 l.toArray),
  (156, fun d r => runAr 2 (fun a b => inside (b_unstream_Reader_magic lf r a b)) fun l => eC lf (d + 1) 156 l.toArray),
  (158, fun d r => runAr 2 (fun a b => inside (b_unstream_Reader_sum lf r a b)) fun l => eC lf (d + 1) 158 l.toArray),
  (188, fun d r => runAr 2 (fun a b => inside (b_bits_Reader_Get lf r a b)) fun l => eC lf (d + 1) 188 l.toArray),
  (193, fun d r => runAr 1 (fun a => inside (b_bits_Reader_Align lf r a)) fun l => eC lf (d + 1) 193 l.toArray),
  (215, fun d r => runAr 2 (fun a b => inside (b_bits_Reader_bit lf r a b)) fun l => eC lf (d + 1) 215 l.toArray),
  (246, fun d r => runAr 2 (fun a b => inside (b_bits_Reader_Seek lf r a b)) fun l => eC lf (d + 1) 246 l.toArray)]
theorem fTab_ok (lf : Nat) : OkTab (eC lf) (fTab lf) := ⟨fun d => runAr_eq _ _ _ (shN st_balerlaw47_nothing),
  ⟨fun d => runAr_eq _ _ _ (fun a b c => shN st_balerref21_With),
  ⟨fun d => runAr_eq _ _ _ (fun a b => shN st_inspect_Parts),
  ⟨fun d => runAr_eq _ _ _ (fun a => shN st_inspect_Count),
  ⟨fun d => runAr_eq _ _ _ (fun a => shN st_balerref21_Head),
  ⟨fun d => runAr_eq _ _ _ (fun a b => shN st_balerref19_Of),
  ⟨fun d => runAr_eq _ _ _ (fun a => shN st_balerref21_Tail),
  ⟨fun d => runAr_eq _ _ _ (fun a => shN st_balerref01_Pack),
  ⟨fun d => runAr_eq _ _ _ (fun a => shN st_unstream_New),
  ⟨fun d => runAr_eq _ _ _ (fun a => shN st_bits_NewReader),
  ⟨fun d => runAr_eq _ _ _ (fun a => shN st_inspect_reader_step),
  ⟨fun d => runAr_eq _ _ _ (fun a b => shN st_inspect_together),
  ⟨fun d => runAr_eq _ _ _ (fun a => shN st_balerref01_Bits),
  ⟨fun d => runAr_eq _ _ _ (fun a => shN st_balerref02_Of),
  ⟨fun d => runAr_eq _ _ _ (fun a => shN st_balerref02_Stream),
  ⟨fun d => runAr_eq _ _ _ (fun a b => shN st_balerref01_Field),
  ⟨fun d => runAr_eq _ _ _ (fun a => shN st_balerref01_Padded),
  ⟨fun d => runAr_eq _ _ _ (fun a => shN st_balerref01_Bytes),
  ⟨fun d => runAr_eq _ _ _ (fun a b => shN st_split_Room),
  ⟨fun d => runAr_eq _ _ _ (fun a => shN st_unstream_Reader_MayEnd),
  ⟨fun d => runAr_eq _ _ _ (fun a => shN st_bits_Reader_Left),
  ⟨fun d => runAr_eq _ _ _ (fun a b => shN st_unstream_Reader_Step),
  ⟨fun d => runAr_eq _ _ _ (fun a => shN st_inspect_reader_end),
  ⟨fun d => runAr_eq _ _ _ (fun a => shN st_inspect_reader_begin),
  ⟨fun d => runAr_eq _ _ _ (fun a b => shN st_balerref02_Step),
  ⟨fun d => runAr_eq _ _ _ (fun a b => shN st_balerref02_Combine),
  ⟨fun d => runAr_eq _ _ _ (fun a => shN st_balerref01_Number),
  ⟨fun d => runAr_eq _ _ _ (fun a => shN st_bits_Reader_end),
  ⟨fun d => runAr_eq _ _ _ (fun a b => shN st_unstream_Reader_step),
  ⟨fun d => runAr_eq _ _ _ (fun a => shN st_bits_Reader_At),
  ⟨fun d => runAr_eq _ _ _ (fun a b c => shN st_inspect_reader_add),
  ⟨fun d => runAr_eq _ _ _ (fun a => shN st_balerref02_Bits),
  ⟨fun d => runAr_eq _ _ _ (fun a b => shN st_unstream_Reader_letter),
  ⟨fun d => runAr_eq _ _ _ (fun a b => shN st_unstream_Reader_magic),
  ⟨fun d => runAr_eq _ _ _ (fun a b => shN st_unstream_Reader_sum),
  ⟨fun d => runAr_eq _ _ _ (fun a b => shN st_bits_Reader_Get),
  ⟨fun d => runAr_eq _ _ _ (fun a => shN st_bits_Reader_Align),
  ⟨fun d => runAr_eq _ _ _ (fun a b => shN st_bits_Reader_bit),
  ⟨fun d => runAr_eq _ _ _ (fun a b => shN st_bits_Reader_Seek), trivial⟩⟩⟩⟩⟩⟩⟩⟩⟩⟩⟩⟩⟩⟩⟩⟩⟩⟩⟩⟩⟩⟩⟩⟩⟩⟩⟩⟩⟩⟩⟩⟩⟩⟩⟩⟩⟩⟩⟩
def fast (lf : Nat) : Nat → FuncId → Array Value → M Value := fastT (eC lf) (fTab lf)
theorem fast_eq (lf d : Nat) : fast lf d = eC lf d := fastT_eq (fTab_ok lf) d
end
end Go.Proofs.YtmjolmggelkjlaaGreat
/- Readings of slices of numbers in a world, and how they last; no program in sight. -/
namespace Go.Proofs.YtmjolmggelkjlaaGreat
set_option linter.unusedVariables false
set_option linter.unusedSimpArgs false
open Go.RowKit

/-- the numbers of a slice that begins at a -/
def NumsAt (k : IntKind) (w : World) (a : Option Addr) (xs : List Int) : Prop :=
  ∀ j, j < xs.length → ∃ b off, a = some ⟨b, off, none⟩ ∧ w.cell? ⟨b, off + j, none⟩ = some (.int k (xs.getD j 0))

theorem NumsAt.nil (k : IntKind) (w : World) (a : Option Addr) : NumsAt k w a [] := fun j h => absurd h (Nat.not_lt_zero _)

theorem cell_below {w w' : World} {p : Addr} {v : Value} (h : w.cell? p = some v) (hb : Below w.heap.size w w') : w'.cell? p = some v :=
  (hb.cell (World.block_lt_of_cell? w p h)).trans h

theorem NumsAt.below {k : IntKind} {w w' : World} {a : Option Addr} {xs : List Int} (h : NumsAt k w a xs) (hb : Below w.heap.size w w') : NumsAt k w' a xs :=
  fun j hj => let ⟨b, off, ha, hc⟩ := h j hj; ⟨b, off, ha, cell_below hc hb⟩

/-- of a slice that is not empty: where it lies -/
theorem NumsAt.some {k : IntKind} {w : World} {a : Option Addr} {xs : List Int} (h : NumsAt k w a xs) (h0 : 0 < xs.length) :
    ∃ b off, a = .some ⟨b, off, none⟩ ∧ ∀ j, j < xs.length → w.cell? ⟨b, off + j, none⟩ = .some (.int k (xs.getD j 0)) := by
  obtain ⟨b, off, ha, hc⟩ := h 0 h0
  refine ⟨b, off, ha, fun j hj => ?_⟩
  obtain ⟨b', off', ha', hc'⟩ := h j hj
  rw [ha] at ha'
  cases ha'
  exact hc'

/-- what the call owns it reads -/
theorem NumsAt.of_owns {k : IntKind} {w : World} {base : Nat} {e : TypeId} {v : Value} {n : Nat} {xs : List Int}
    (h : w.ownsRow base e 1 v n (xs.map (Value.int k))) : n = xs.length ∧ ∃ a cap, v = .slice a xs.length cap ∧ NumsAt k w a xs := by
  have hn : n = xs.length := by have := h.1; simpa using this.symm
  subst hn
  refine ⟨rfl, ?_⟩
  rcases h.2 with ⟨rfl, hx⟩ | ⟨g, cap, cur, rfl, hb, hg, hnc, hcm, hcs, htake⟩
  · have : xs = [] := by simpa using hx
    subst this
    exact ⟨.none, 0, rfl, NumsAt.nil _ _ _⟩
  · refine ⟨_, cap, rfl, fun j hj => ⟨g, 0, rfl, ?_⟩⟩
    have hc := World.ownsRow.cells h (g := g) rfl j (.int k (xs.getD j 0)) (by rw [List.getElem?_map, List.getElem?_eq_getElem hj]; simp [List.getD_eq_getElem?_getD, hj])
    have hadd : (⟨g, 0, none⟩ : Addr).add j = ⟨g, 0 + j, none⟩ := by unfold Addr.add; split <;> simp_all
    rw [hadd] at hc
    exact hc

/-- a block that has just been laid -/
theorem NumsAt.new (k : IntKind) (w : World) (cs : Array Value) (e : TypeId) (xs : List Int) (h : cs = (xs.map (Value.int k)).toArray) : NumsAt k (w.alloc (.cells cs e)) (.some ⟨w.heap.size, 0, none⟩) xs := by
  subst h
  refine fun j hj => ⟨w.heap.size, 0, rfl, ?_⟩
  rw [cell_of_row _ w.heap.size (0 + j) _ e (0, 0) (heap_alloc_new w _)]
  simp [hj]

theorem ka {a b : World} (h : Below a.heap.size a b) (o : Obj) : Below a.heap.size a (b.alloc o) := h.alloc h.size o
theorem kd {a b : World} (h : Below a.heap.size a b) (n : Nat) : Below a.heap.size a (b.drewN n) := below_drewN h n
theorem kr (a : World) : Below a.heap.size a a := Below.refl _ _

def OwnsNums (k : IntKind) (e : TypeId) (base : Nat) (w : World) (v : Value) (xs : List Int) : Prop := w.ownsRow base e 1 v xs.length (xs.map (Value.int k))
theorem OwnsNums.nil (k : IntKind) (e : TypeId) (base : Nat) (w : World) : OwnsNums k e base w (.slice none 0 0) [] := World.ownsRow_nil _ _ _ _
theorem OwnsNums.reads {k : IntKind} {e : TypeId} {base : Nat} {w : World} {v : Value} {xs : List Int} (h : OwnsNums k e base w v xs) : ∃ a cap, v = .slice a xs.length cap ∧ NumsAt k w a xs :=
  (NumsAt.of_owns h).2
theorem owns_below {w w' : World} {base B : Nat} {e : TypeId} {size : Nat} {v : Value} {n : Nat} {xs : List Value} (h : w.ownsRow base e size v n xs) (hb : Below B w w') (hB : w.heap.size ≤ B) : w'.ownsRow base e size v n xs := by
  refine ⟨h.1, ?_⟩
  rcases h.2 with hn | ⟨g, cap, cur, rfl, hbg, hgg, rest⟩
  · exact .inl hn
  · refine .inr ⟨g, cap, cur, rfl, hbg, ?_, rest⟩
    rw [hb.block g (Nat.lt_of_lt_of_le (Array.getElem?_eq_some_iff.1 hgg).1 hB)]
    exact hgg
theorem OwnsNums.below {k : IntKind} {e : TypeId} {base : Nat} {w w' : World} {v : Value} {xs : List Int} (h : OwnsNums k e base w v xs) (hb : Below w.heap.size w w') : OwnsNums k e base w' v xs :=
  owns_below h hb (Nat.le_refl _)
end Go.Proofs.YtmjolmggelkjlaaGreat
/- Appending a slice of numbers to one that the call has made; a block that is known whole; what is left when one block may have been written. No program in sight. -/
namespace Go.Proofs.YtmjolmggelkjlaaGreat
set_option linter.unusedVariables false
set_option linter.unusedSimpArgs false
open Go.RowKit

def Blk (w : World) (g : Nat) (t : TypeId) (cs : Array Value) : Prop := w.heap[g]? = some (.cells cs t (0, 0))
section
variable {w w' : World} {g : Nat} {t : TypeId} {cs : Array Value}
theorem Blk.lt (h : Blk w g t cs) : g < w.heap.size := (Array.getElem?_eq_some_iff.1 h).1
theorem Blk.cell (h : Blk w g t cs) (i : Nat) : w.cell? ⟨g, i, none⟩ = cs[i]? := cell_of_row w g i cs t (0, 0) h
theorem Blk.free (h : Blk w g t cs) (i : Nat) : w.frozen? ⟨g, i, none⟩ = false := by
  unfold Blk at h
  simp [World.frozen?, h]
theorem Blk.new (w : World) (t : TypeId) (cs : Array Value) : Blk (w.alloc (.cells cs t)) w.heap.size t cs := heap_alloc_new w _
theorem Blk.drewN (h : Blk w g t cs) (n : Nat) : Blk (w.drewN n) g t cs := h
theorem Blk.alloc (h : Blk w g t cs) (o : Obj) : Blk (w.alloc o) g t cs := (Below.heap_alloc w o g h.lt).trans h
theorem Blk.put (h : Blk w g t cs) (i : Nat) (u : Value) : Blk (w.setCell ⟨g, i, none⟩ u) g t (cs.setIfInBounds i u) := by
  unfold Blk at h ⊢
  simp [World.setCell, Array.getElem?_modify, h]
theorem Blk.far (h : Blk w g t cs) {p : Addr} (hp : g ≠ p.block) (u : Value) : Blk (w.setCell p u) g t cs := (Below.heap_setCell w p u g hp).trans h
theorem Blk.below {B : Nat} (h : Blk w g t cs) (hb : Below B w w') (hg : g < B) : Blk w' g t cs := (hb.block g hg).trans h
theorem Blk.kept (h : Blk w g t cs) (hb : Below w.heap.size w w') : Blk w' g t cs := h.below hb h.lt
end

def Only (g : Nat) (a w : World) : Prop := a.grownBy w (some g)
section
variable {a b c : World} {g : Nat}
theorem Only.refl (g : Nat) (a : World) : Only g a a := ⟨rfl, rfl, rfl, Nat.le_refl _, fun _ _ _ => rfl⟩
theorem Only.of_below (h : Below a.heap.size a b) : Only g a b := ⟨h.os, h.tape, h.output, h.size, fun i hi _ => h.block i hi⟩
theorem Only.size (h : Only g a b) : a.heap.size ≤ b.heap.size := World.grownBy.size h
theorem Only.trans (h : Only g a b) (k : Only g b c) : Only g a c :=
  ⟨k.os.trans h.os, k.tape.trans h.tape, k.output.trans h.output, Nat.le_trans (World.grownBy.size h) (World.grownBy.size k), fun i hi hn => (k.block i (Nat.lt_of_lt_of_le hi (World.grownBy.size h)) hn).trans (h.block i hi hn)⟩
theorem Only.below (h : Only g a b) (k : Below b.heap.size b c) : Only g a c := h.trans (.of_below k)
theorem Only.drewN (h : Only g a b) (n : Nat) : Only g a (b.drewN n) := ⟨h.os, h.tape, h.output, h.size, h.block⟩
theorem Only.alloc (h : Only g a b) (o : Obj) : Only g a (b.alloc o) := h.below ((Below.refl _ _).alloc (Nat.le_refl _) o)
theorem Only.set (h : Only g a b) (i : Nat) (u : Value) : Only g a (b.setCell ⟨g, i, none⟩ u) :=
  ⟨h.os, h.tape, h.output, by simpa [World.setCell] using h.size, fun i hi hne => (Below.heap_setCell b _ u i (by rintro rfl; exact hne rfl)).trans (h.block i hi hne)⟩
theorem Only.blk {g' : Nat} {t : TypeId} {cs : Array Value} (h : Only g a b) (hb : Blk a g' t cs) (hne : g' ≠ g) : Blk b g' t cs := (h.block g' hb.lt (by intro e; cases e; exact hne rfl)).trans hb
end

end Go.Proofs.YtmjolmggelkjlaaGreat
/- Closed facts on the program's types. -/
namespace Go.Proofs.YtmjolmggelkjlaaGreat
set_option linter.unusedVariables false
set_option linter.unusedSimpArgs false
open Go.RowKit
end Go.Proofs.YtmjolmggelkjlaaGreat
/- Layer 47: the digits of a sum. -/
namespace Go.Proofs.YtmjolmggelkjlaaGreat
set_option linter.unusedVariables false
set_option linter.unusedSimpArgs false
open Go.RowKit Ip

def bRow (xs : List Int) : Array Value := (xs.map (Value.int .u8)).toArray
theorem bRow_set (xs : List Int) (i : Nat) (v : Int) : (bRow xs).setIfInBounds i (.int .u8 v) = bRow (xs.set i v) := by
  unfold bRow
  simp [List.map_set]
theorem bRow_at {w : World} {g : Nat} {t : TypeId} {xs : List Int} (h : Blk w g t (bRow xs)) {i : Nat} (hi : i < xs.length) : w.cell? ⟨g, i, none⟩ = some (.int .u8 (xs.getD i 0)) := by
  rw [h.cell i]
  simp [bRow, hi]
theorem bRow_str {w : World} {g : Nat} {t : TypeId} {xs : List Int} (h : Blk w g t (bRow xs)) : Sem.run Tryz.prog (convert 73 9 (.slice (some ⟨g, 0, none⟩) xs.length xs.length)) w = .ok (.string (strOfNums xs)) w :=
  run_convert_bytes_arg w 73 5 Tryz.underlying73 Tryz.underlying5 g 0 xs.length xs.length xs rfl (fun i hi => by rw [Nat.zero_add]; exact bRow_at h hi) 9 Tryz.underlying9
/-- the digits up to the k-th, and zeros -/
def hexTo (n k : Nat) : List Int := (List.range 8).map fun i => if i < k then ((hexD (n / 16 ^ (7 - i) % 16) : Nat) : Int) else 0
theorem hexTo_len (n k : Nat) : (hexTo n k).length = 8 := by simp [hexTo]
theorem hexTo_next {n k : Nat} (hk : k < 8) : hexTo n (k + 1) = (hexTo n k).set k ((hexD (n / 16 ^ (7 - k) % 16) : Nat) : Int) := by
  apply List.ext_getElem (by simp [hexTo])
  intro i h1 h2
  rw [List.getElem_set]
  simp only [hexTo, List.getElem_map, List.getElem_range]
  by_cases e : k = i
  · subst e; rw [if_pos rfl, if_pos (by omega)]
  · rw [if_neg e]
    by_cases h : i < k
    · rw [if_pos h, if_pos (by omega)]
    · rw [if_neg h, if_neg (by omega)]
theorem hex_at : ∀ (q : Nat) (h : q < 16), ((⟨#[48, 49, 50, 51, 52, 53, 54, 55, 56, 57, 97, 98, 99, 100, 101, 102]⟩ : ByteArray)[q]'h).toNat = hexD q := by decide
theorem h_hexed (n : Nat) (w : World) (hn : n < 4294967296) : Calls Tryz.prog 68 #[.int .u32 (n : Int)] w fun e w' => e = .returned (.string (strOfNums (hexTo n 8))) ∧ Below w.heap.size w w' := by
  obtain ⟨S, hS⟩ : ∃ S, strOfNums (hexTo n 8) = S := ⟨_, rfl⟩
  have HS := Lib.hid hS
  rw [hS]
  clear hS
  go_enter Tryz.func68, Tryz.ntmps68
  go_wp2_with fail
  go_loopw [5] (fun i wr => ∃ k : Nat, k ≤ 8 ∧ i = .int .i64 (k : Nat) ∧ Hid (Blk wr w.heap.size 164 (bRow (hexTo n k)) ∧ Below w.heap.size w wr)) (fun i wr => 8 - (intOf i).toNat)
  case atStart => exact ⟨0, Nat.zero_le _, rfl, ⟨Blk.new w _ _, ka (kr _) _⟩⟩
  case round =>
    obtain ⟨wo, rfl⟩ : ∃ wo : World, wo = wr := ⟨_, rfl⟩
    obtain ⟨k, hk, rfl, hp⟩ := hrel
    by_cases hlt : k < 8
    · obtain ⟨hb, hB⟩ := hp.out
      have i1 := bRow_at hb (i := k) (by simp [hexTo]; omega)
      have k1 := hb.free k
      generalize (hexTo n k).getD k 0 = u at *
      have HB := Lib.hid hB
      have HBK := Lib.hid hb
      obtain ⟨q, hq⟩ : ∃ q : Nat, n / 16 ^ (7 - k) % 16 = q := ⟨_, rfl⟩
      have hx : bits BinOp.and IntKind.u32 ((n : Int) / 2 ^ (4 * (7 - k))) 15 = (q : Int) := by
        have e : (n : Int) / 2 ^ (4 * (7 - k)) = ((n / 16 ^ (7 - k) : Nat) : Int) := by
          have e2 : (2 : Int) ^ (4 * (7 - k)) = ((16 ^ (7 - k) : Nat) : Int) := by
            rw [Int.pow_mul]
            push_cast
            rfl
          rw [e2, Int.natCast_ediv]
        rw [e, ← hq]
        have := u32_and_nat (n / 16 ^ (7 - k)) 15 (Nat.lt_of_le_of_lt (Nat.div_le_self _ _) hn) (by decide)
        rw [nat_mask4] at this
        exact this
      have hq16 : q < 16 := by omega
      have HQ := Lib.hid hq
      clear hp hb hB hq
      have hn1 : Hid (Blk (wo.setCell ⟨w.heap.size, k, none⟩ (.int .u8 ((hexD q : Nat) : Int))) w.heap.size 164 (bRow (hexTo n (k + 1))) ∧ Below w.heap.size w (wo.setCell ⟨w.heap.size, k, none⟩ (.int .u8 ((hexD q : Nat) : Int)))) := by
        refine ⟨?_, HB.out.setCell (p := ⟨w.heap.size, k, none⟩) (Nat.le_refl _) _⟩
        rw [hexTo_next hlt, HQ.out, ← bRow_set]
        exact HBK.out.put k _
      go_wp2_with fail
      rw [hex_at q hq16]
      exact ⟨⟨k + 1, by omega, by go_num, hn1⟩, by simp [intOf]; omega⟩
    · obtain rfl : k = 8 := by omega
      obtain ⟨hb, hB⟩ := hp.out
      have hcv : Sem.run Tryz.prog (convert 73 9 (.slice (some ⟨w.heap.size, 0, none⟩) 8 8)) wo = .ok (.string S) wo := by
        have := bRow_str hb
        rwa [hexTo_len, HS.out] at this
      have HB := Lib.hid hB
      clear hp hb hB
      go_wp2_with fail
      go_ret
      exact ⟨rfl, HB.out⟩
end Go.Proofs.YtmjolmggelkjlaaGreat
