/- The engine, whole. -/
import Derived.Test.YthomemhollhljaaEngR
