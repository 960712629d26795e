/- The engine, whole. -/
import Derived.Test.YtfkhdfnjlegnhaaEngR
